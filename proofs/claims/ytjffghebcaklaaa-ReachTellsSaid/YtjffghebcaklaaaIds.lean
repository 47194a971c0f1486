/- Slices of ids that own their rows: append, and the shorter slice. -/
import Derived.Test.YtjffghebcaklaaaIdP
import Derived.Maps.AppendAt
import Derived.OwnWalkIn
namespace Go.Proofs.Ytjffghebcaklaaa
open Go Go.RowKit Go.Lib Go.Sort Go.Proofs.YtjffghebcaklaaaW.PrintWords Go.Proofs.YtjffghebcaklaaaW.PrintLast Go.Proofs.YtjffghebcaklaaaW.PrintMore
set_option linter.unusedVariables false
set_option linter.unusedSimpArgs false
/-- The slice at A, of capacity c, holds xs in a row of its own, in a block from B on. -/
def OwnIds (w : World) (B : Nat) (A : Option Addr) (c : Nat) (xs : List Id) : Prop := w.ownsRow B 37 2 (.slice A xs.length c) xs.length (xs.flatMap encId)
def rowOf (A : Option Addr) : Option Nat := A.map (·.block)
theorem ownBlock_slice (A : Option Addr) (n c : Nat) : (Value.slice A n c).ownBlock = rowOf A := by cases A <;> rfl
theorem ownIds_nil (w : World) (B : Nat) : OwnIds w B none 0 [] := World.ownsRow_nil _ _ _ _
theorem OwnIds.form {w : World} {B : Nat} {A : Option Addr} {c : Nat} {xs : List Id} (h : OwnIds w B A c xs) : (A = none ∧ c = 0 ∧ xs = []) ∨ ∃ g cur, A = some ⟨g, 0, none⟩ ∧ B ≤ g ∧ w.heap[g]? = some (.cells cur 37 (0, 0)) ∧ xs.length ≤ c ∧ c ≤ maxLen ∧ cur.size = c * 2 ∧ cur.toList.take (xs.length * 2) = xs.flatMap encId := by
  rcases h.2 with ⟨h1, h2⟩ | ⟨g, cap, cur, h1, h2, h3, h4, h5, h6, h7⟩
  · left
    injection h1 with e1 e2 e3
    exact ⟨e1, e3, List.eq_nil_of_length_eq_zero h2⟩
  · right
    injection h1 with e1 e2 e3
    subst e3
    exact ⟨g, cur, e1, h2, h3, h4, h5, h6, h7⟩
theorem OwnIds.le {w : World} {B : Nat} {A : Option Addr} {c : Nat} {xs : List Id} (h : OwnIds w B A c xs) : xs.length ≤ c := by
  rcases h.form with ⟨_, _, rfl⟩ | ⟨g, cur, _, _, _, h, _⟩
  · simp
  · exact h
theorem OwnIds.lt {w : World} {B : Nat} {A : Option Addr} {c : Nat} {xs : List Id} (h : OwnIds w B A c xs) : ∀ g, rowOf A = some g → B ≤ g ∧ g < w.heap.size := by
  intro g hg
  rw [← ownBlock_slice A xs.length c] at hg
  exact World.ownsRow.lt h g hg
theorem OwnIds.same {w w' : World} {B : Nat} {A : Option Addr} {c : Nat} {xs : List Id} (h : OwnIds w B A c xs) (hb : ∀ g, rowOf A = some g → w'.heap[g]? = w.heap[g]?) : OwnIds w' B A c xs := by
  refine ⟨h.1, ?_⟩
  rcases h.2 with hn | ⟨g, cap, cur, hv, h2, h3, rest⟩
  · exact .inl hn
  · refine .inr ⟨g, cap, cur, hv, h2, (hb g ?_).trans h3, rest⟩
    rw [← ownBlock_slice A xs.length c, hv]
    rfl
theorem OwnIds.kept {w w' : World} {row : Option Nat} {B : Nat} {A : Option Addr} {c : Nat} {xs : List Id} (h : OwnIds w B A c xs) (hg : w.grownBy w' row) (hne : rowOf A = none ∨ rowOf A ≠ row) : OwnIds w' B A c xs :=
  World.ownsRow.kept h hg (by rw [ownBlock_slice]; exact hne)
theorem OwnIds.below {w w' : World} {n B : Nat} {A : Option Addr} {c : Nat} {xs : List Id} (h : OwnIds w B A c xs) (hb : Below n w w') (hn : w.heap.size ≤ n) : OwnIds w' B A c xs :=
  h.same fun g hg => hb.block g (Nat.lt_of_lt_of_le (h.lt g hg).2 hn)
theorem OwnIds.base {w : World} {B B' : Nat} {A : Option Addr} {c : Nat} {xs : List Id} (h : OwnIds w B A c xs) (hb : ∀ g, rowOf A = some g → B' ≤ g) : OwnIds w B' A c xs := by
  refine ⟨h.1, ?_⟩
  rcases h.2 with hn | ⟨g, cap, cur, hv, h2, rest⟩
  · exact .inl hn
  · exact .inr ⟨g, cap, cur, hv, hb g (by rw [← ownBlock_slice A xs.length c, hv]; rfl), rest⟩
theorem OwnIds.take {w : World} {B : Nat} {A : Option Addr} {c : Nat} {xs : List Id} (h : OwnIds w B A c xs) (k : Nat) (hk : k ≤ xs.length) (h0 : 0 < xs.length) : OwnIds w B A c (xs.take k) := by
  have hl : (xs.take k).length = k := by simp; omega
  rcases h.form with ⟨_, _, rfl⟩ | ⟨g, cur, rfl, h2, h3, h4, h5, h6, h7⟩
  · simp at h0
  · refine ⟨flat_length encId 2 (fun _ => rfl) _, .inr ⟨g, c, cur, rfl, h2, h3, by omega, h5, h6, ?_⟩⟩
    have e : (cur.toList.take (xs.length * 2)).take (k * 2) = (xs.flatMap encId).take (k * 2) := by rw [h7]
    rw [List.take_take, Nat.min_eq_left (by omega)] at e
    rw [hl, e]
    have hs : xs = xs.take k ++ xs.drop k := (List.take_append_drop k xs).symm
    conv => lhs; rw [hs]
    rw [List.flatMap_append, List.take_left' (by rw [flat_length encId 2 (fun _ => rfl), hl])]
theorem OwnIds.C {w : World} {B : Nat} {A : Option Addr} {c : Nat} {xs : List Id} (h : OwnIds w B A c xs) (hl : xs.length ≤ 9223372036854775807) : Kd.C kId w A xs.length xs := by
  refine ⟨rfl, hl, fun hn => ?_⟩
  rcases h.form with ⟨_, _, rfl⟩ | ⟨g, cur, rfl, h2, h3, h4, h5, h6, h7⟩
  · simp at hn
  · refine ⟨_, rfl, fun j x hj => ⟨encId x, rfl, flat_id.mk_ w x, fun i u hu => ?_⟩⟩
    have hr : IdRow w g 37 xs (cur.toList.drop (xs.length * 2)) := by
      unfold IdRow
      rw [h3, ← h7, List.take_append_drop]
    have hjl : j < xs.length := (List.getElem?_eq_some_iff.1 hj).1
    obtain ⟨y, q0, q1, hy⟩ := hr.cells (k := j) hjl
    have hy := hy.out
    rw [hj] at hy
    obtain rfl := Option.some.inj hy
    have hi : i < 2 := (List.getElem?_eq_some_iff.1 hu).1
    rw [add_zero_at]
    have hm : i = 0 ∨ i = 1 := by omega
    rcases hm with rfl | rfl
    · have e : u = .int .i64 x.f0 := by simpa [encId] using hu.symm
      rw [e]; exact q0
    · have e : u = .int .i64 x.f1 := by simpa [encId] using hu.symm
      rw [e]; exact q1
/-- ident.Sorted, and where its slice lies. -/
theorem sorted_own (A : Option Addr) (c : Nat) (xs : List Id) (w : World) (hC : Kd.C kId w A xs.length xs) (hl : xs.length ≤ 1048576) :
    Calls Try.prog 48 #[.slice A xs.length c] w fun e w' => ∃ B d, e = .returned (.slice B (sortIds xs).length d) ∧ OwnIds w' w.heap.size B d (sortIds xs) ∧ Below w.heap.size w w' := by
  refine (sorted_calls A c xs w hC hl).mono ?_
  rintro e w' ⟨B, d, rfl, hC', hb, g, rest, R, rfl, hg, hr, hlen, hmx⟩
  have h2 := flat_length encId 2 (fun _ => rfl) (sortIds xs)
  have h3 := flat_length encId 2 (fun _ => rfl) (sortIds xs ++ rest)
  rw [List.length_append] at h3
  refine ⟨_, d, rfl, ⟨h2, .inr ⟨g, d, _, rfl, hg, hr, by omega, hmx, ?_, ?_⟩⟩, hb⟩
  · simp only [List.size_toArray, List.length_append, h3]
    omega
  · rw [List.flatMap_append, List.append_assoc]
    exact List.take_left' h2
/-- One id in a new block. -/
theorem one_C (w : World) (x : Id) : Kd.C kId (w.alloc (.cells #[.int .i64 x.f0, .int .i64 x.f1] 37)) (some ⟨w.heap.size, 0, none⟩) 1 [x] := by
  have hr : IdRow (w.alloc (.cells #[.int .i64 x.f0, .int .i64 x.f1] 37)) w.heap.size 37 ([x] ++ []) [] := heap_alloc_new w _
  exact hr.C (by simp)
theorem run_append_ids (w : World) (B : Nat) (A : Option Addr) (c : Nat) (xs : List Id) (h : OwnIds w B A c xs) (A2 : Option Addr) (c2 : Nat) (ys : List Id) (hC : Kd.C kId w A2 ys.length ys) (hl : xs.length + ys.length ≤ 8388608) (hB : B ≤ w.heap.size) (ty : TypeId) :
    ∃ A' c' w', (Builtin.append_ #[23, 23] ty #[.slice A xs.length c, .slice A2 ys.length c2]).run Try.prog w = .ok (.slice A' (xs ++ ys).length c') w' ∧ OwnIds w' B A' c' (xs ++ ys) ∧ w.grownBy w' (rowOf A) ∧ (rowOf A' = rowOf A ∨ rowOf A' = some w.heap.size) := by
  have hl2 := flat_length encId 2 (fun _ => rfl) ys
  obtain ⟨inf, hi, hz⟩ := Option.map_eq_some_iff.1 (PRef.info37)
  simp only [Prod.mk.injEq] at hz
  obtain ⟨hz0, hz1, hz2⟩ := hz
  rcases Nat.eq_zero_or_pos ys.length with h0 | h0
  · obtain rfl : ys = [] := List.eq_nil_of_length_eq_zero h0
    refine ⟨A, c, w, ?_, by rw [List.append_nil]; exact h, ⟨rfl, rfl, rfl, Nat.le_refl _, fun _ _ _ => rfl⟩, .inl rfl⟩
    have hle := h.le
    rw [List.append_nil]
    cases A2 <;> cases A <;> simp [Builtin.append_, run_underlying Try.underlying23, sizeOf, typeInfo, hi, hz1, Builtin.lenOf, Builtin.firstCells, storeCells, loadCells, loadCellsFrom, hle]
    all_goals
      rcases h.form with ⟨_, rfl, rfl⟩ | ⟨g, cur, e, _⟩
      · rfl
      · cases e
  · obtain ⟨ad, rfl, hc⟩ := flat_id.cells hC h0
    obtain ⟨v', w', hrun, ho, hg, _, hat⟩ := run_append_own_at w B 23 ty 37 inf (.agg #[.int .i64 0, .int .i64 0]) 2 16 Try.underlying23 hi hz0 hz1 hz2 rfl (by omega) _ xs.length (xs.flatMap encId) h ad ys.length c2 (ys.flatMap encId) hl2 hc (fun v hv => by obtain ⟨x, _, hx⟩ := List.mem_flatMap.1 hv; exact flat_id.one x v hx) (by unfold maxLen; omega) (by omega) hB
    rw [ownBlock_slice] at hg hat
    rcases ho.2 with ⟨rfl, h1⟩ | ⟨g, cap, cur, rfl, hge, hheap, hn, hmx, hcur, htake⟩
    · omega
    · refine ⟨some ⟨g, 0, none⟩, cap, w', ?_, ?_, hg, ?_⟩
      · rw [hrun, List.length_append]
      · refine ⟨flat_length encId 2 (fun _ => rfl) _, .inr ⟨g, cap, cur, by rfl, hge, hheap, by rw [List.length_append]; exact hn, hmx, hcur, ?_⟩⟩
        rw [List.length_append, List.flatMap_append]
        exact htake
      · exact hat
section
variable {ops : Array Oper} {rest : List Oper} {o : Oper} {a : Act} {Q : Exit → Act → World → Prop}
theorem wpList_append_ids {w : World} {B : Nat} {A : Option Addr} {c : Nat} {xs : List Id} (h : OwnIds w B A c xs) {A2 : Option Addr} {c2 : Nat} {ys : List Id} (hC : Kd.C kId w A2 ys.length ys) (hl : xs.length + ys.length ≤ 8388608) (hB : B ≤ w.heap.size)
    (hgd : o.guard = none) (s x : Operand) (ho : o.op = .call { callee := .builtin .append, args := #[s, x], argTypes := #[23, 23] }) (hs : a.eval s = .slice A xs.length c) (hx : a.eval x = .slice A2 ys.length c2)
    (hK : ∀ A' c' w', OwnIds w' B A' c' (xs ++ ys) → w.grownBy w' (rowOf A) → (rowOf A' = rowOf A ∨ rowOf A' = some w.heap.size) → wpList Try.prog ops Q rest (a.put o.dst (.slice A' (xs ++ ys).length c')) w') : wpList Try.prog ops Q (o :: rest) a w := by
  refine wpList_plain hgd fun K hK' => ?_
  obtain ⟨A', c', w', hrun, h2, h3, h4⟩ := run_append_ids w B A c xs h A2 c2 ys hC hl hB o.type
  unfold Oper.wp
  simp [execOp, ho, resolve, invoke, builtin, hs, hx, hrun, Result.andThen, -List.length_append]
  exact hK' _ _ (hK A' c' w' h2 h3 h4)
theorem wpListIn_append_ids {F : Fence} {n : Nat} {w : World} {B : Nat} {A : Option Addr} {c : Nat} {xs : List Id} (h : OwnIds w B A c xs) {A2 : Option Addr} {c2 : Nat} {ys : List Id} (hC : Kd.C kId w A2 ys.length ys) (hl : xs.length + ys.length ≤ 8388608) (hB : B ≤ w.heap.size)
    (hgd : o.guard = none) (s x : Operand) (ho : o.op = .call { callee := .builtin .append, args := #[s, x], argTypes := #[23, 23] }) (hs : a.eval s = .slice A xs.length c) (hx : a.eval x = .slice A2 ys.length c2)
    (hK : ∀ A' c' w', OwnIds w' B A' c' (xs ++ ys) → w.grownBy w' (rowOf A) → (rowOf A' = rowOf A ∨ rowOf A' = some w.heap.size) → wpListIn F n Try.prog ops Q rest (a.put o.dst (.slice A' (xs ++ ys).length c')) w') : wpListIn F n Try.prog ops Q (o :: rest) a w := by
  refine wpListIn_plain hgd fun K hK' => ?_
  obtain ⟨A', c', w', hrun, h2, h3, h4⟩ := run_append_ids w B A c xs h A2 c2 ys hC hl hB o.type
  unfold Oper.wpIn
  refine ⟨?_, ?_⟩
  · simp [Oper.about, ho, resolve, Target.leads, Sem.run_pure]
  · rw [Oper.semAt_plain F _ _ (by rw [ho]; intro c hc'; cases hc')]
    simp [execOp, ho, resolve, invoke, builtin, hs, hx, hrun, Result.andThen, -List.length_append]
    exact hK' _ _ (hK A' c' w' h2 h3 h4)
end
end Go.Proofs.Ytjffghebcaklaaa
