/- ident.Sorted. -/
import Derived.Test.YtjffghebcaklaaaCompact
namespace Go.Proofs.Ytjffghebcaklaaa
open Go Go.RowKit Go.Lib Go.Sort Go.Proofs.YtjffghebcaklaaaW.PrintWords Go.Proofs.YtjffghebcaklaaaW.PrintLast Go.Proofs.YtjffghebcaklaaaW.PrintMore
set_option linter.unusedVariables false
set_option linter.unusedSimpArgs false
theorem dedup_length : ∀ l : List Id, (dedup l).length ≤ l.length
  | [] => Nat.le_refl _
  | [x] => Nat.le_refl _
  | x :: y :: r => by
    have := dedup_length (y :: r)
    simp only [dedup]
    split <;> simp only [List.length_cons] at this ⊢ <;> omega
/-- The ids in order, each once. -/
def sortIds (xs : List Id) : List Id := dedup (xs.mergeSort fun x y => !(ltOf idCmp) y x)
/-- append([]api.Id{}, l...): the new row. -/
theorem append_row (A : Option Addr) (c : Nat) (xs : List Id) (w : World) (hC : Kd.C kId w A xs.length xs) (hl : xs.length ≤ 1048576) (ty : TypeId) :
    ∃ g d R w', (Builtin.append_ #[23, 23] ty #[.slice (some ⟨w.heap.size, 0, none⟩) 0 0, .slice A xs.length c]).run Try.prog (w.alloc (.cells #[] 37)) = .ok (.slice (some ⟨g, 0, none⟩) xs.length d) w' ∧ w.heap.size ≤ g ∧ IdRow w' g 37 xs R ∧ xs.length ≤ d ∧ Below w.heap.size w w' ∧ xs.length * 2 + R.length = d * 2 ∧ d ≤ maxLen := by
  have hl2 := flat_length encId 2 (fun _ => rfl) xs
  have hW := Below.alloc (Below.refl w.heap.size w) (Nat.le_refl _) (.cells #[] 37)
  obtain ⟨inf, hi, hz⟩ := Option.map_eq_some_iff.1 (PRef.info37)
  simp only [Prod.mk.injEq] at hz
  obtain ⟨hz0, hz1, hz2⟩ := hz
  have hown : (w.alloc (.cells #[] 37)).ownsRow w.heap.size 37 2 (.slice (some ⟨w.heap.size, 0, none⟩) 0 0) 0 [] :=
    ⟨rfl, Or.inr ⟨w.heap.size, 0, #[], rfl, Nat.le_refl _, heap_alloc_new w _, Nat.le_refl _, by decide, rfl, rfl⟩⟩
  rcases Nat.eq_zero_or_pos xs.length with h0 | h0
  · obtain rfl : xs = [] := List.eq_nil_of_length_eq_zero h0
    refine ⟨w.heap.size, 0, [], _, ?_, Nat.le_refl _, ?_, Nat.le_refl _, hW, rfl, by unfold maxLen; omega⟩
    rotate_left
    · exact heap_alloc_new w _
    · cases A <;> simp [Builtin.append_, run_underlying Try.underlying23, sizeOf, typeInfo, hi, hz1, Builtin.lenOf, Builtin.firstCells, storeCells, loadCells, loadCellsFrom]
  · obtain ⟨ad, rfl, hc⟩ := flat_id.cells (cel_id.C (CKeep.below hW) hC) h0
    obtain ⟨v', w', hrun, ho, hg, _⟩ := run_append_own (w.alloc (.cells #[] 37)) w.heap.size 23 ty 37 inf (.agg #[.int .i64 0, .int .i64 0]) 2 16 Try.underlying23 hi hz0 hz1 hz2 rfl (by omega) _ 0 [] hown ad xs.length c (xs.flatMap encId) hl2 hc (fun v hv => by obtain ⟨x, _, hx⟩ := List.mem_flatMap.1 hv; exact flat_id.one x v hx) (by unfold maxLen; omega) (by omega) (by simp)
    rcases ho.2 with ⟨_, h1⟩ | ⟨g, cap, cur, rfl, hge, hheap, hn, hmx, hcur, htake⟩
    · omega
    · rw [Nat.zero_add] at hrun hn htake
      rw [List.nil_append] at htake
      refine ⟨g, cap, cur.toList.drop (xs.length * 2), w', hrun, hge, ?_, hn, hW.grown hg (by simp) (fun k hk => ?_), by simp [hcur]; omega, hmx⟩
      · unfold IdRow
        rw [hheap, ← htake, List.take_append_drop]
      · simp only [Value.ownBlock, Option.some.injEq] at hk
        omega
theorem IdRow.C {w : World} {g : Nat} {t : TypeId} {ys rest : List Id} {R : List Value} (h : IdRow w g t (ys ++ rest) R) (hl : ys.length ≤ 9223372036854775807) : Kd.C kId w (some ⟨g, 0, none⟩) ys.length ys := by
  refine ⟨rfl, hl, fun hn => ⟨_, rfl, fun j x hj => ⟨encId x, rfl, flat_id.mk_ w x, fun i u hu => ?_⟩⟩⟩
  have hjl : j < ys.length := (List.getElem?_eq_some_iff.1 hj).1
  obtain ⟨y, h0, h1, hy⟩ := h.cells (k := j) (by rw [List.length_append]; omega)
  have hy := hy.out
  rw [List.getElem?_append_left hjl, hj] at hy
  obtain rfl := Option.some.inj hy
  have hi : i < 2 := (List.getElem?_eq_some_iff.1 hu).1
  rw [add_zero_at]
  have hm : i = 0 ∨ i = 1 := by omega
  rcases hm with rfl | rfl
  · have e : u = .int .i64 x.f0 := by simpa [encId] using hu.symm
    rw [e]; exact h0
  · have e : u = .int .i64 x.f1 := by simpa [encId] using hu.symm
    rw [e]; exact h1
theorem below_sorted {B : Nat} (w : World) (g n : Nat) (d : Array Id) (os : Array Obj) (hg : B ≤ g) (hB : B ≤ w.heap.size) : Below B w (sortWorldK encId 2 w g 0 n d os) := by
  refine ⟨rfl, rfl, rfl, by simp [sortWorldK, grow, putRowK, putRow, mapBlock, Sort.ahead], fun i hi => ?_⟩
  simp only [sortWorldK, grow, putRowK, putRow, mapBlock, Sort.ahead]
  rw [Array.getElem?_append_left (by simp; omega), Array.getElem?_modify, if_neg (by omega)]
theorem append_exec {P : Program} {o : Oper} {a : Act} {W w' : World} {s x : Operand} {t : TypeId} {v vx v' : Value} (ho : o.op = .call { callee := .builtin .append, args := #[s, x], argTypes := #[t, t] }) (hs : a.eval s = v) (hx : a.eval x = vx)
    (hr : (Builtin.append_ #[t, t] o.type #[v, vx]).run P W = .ok v' w') : (execOp a.eval o).run P W = .ok (.value v') w' := by
  unfold execOp
  simp only [ho, resolve, invoke, builtin, Sem.run_bind, Sem.run_pure, Result.andThen_ok, List.map_toArray, List.map_cons, List.map_nil, hs, hx, hr]
set_option maxRecDepth 100000 in
set_option maxHeartbeats 1600000 in
theorem sorted_calls (A : Option Addr) (c : Nat) (xs : List Id) (w : World) (hC : Kd.C kId w A xs.length xs) (hl : xs.length ≤ 1048576) :
    Calls Try.prog 48 #[.slice A xs.length c] w fun e w' => ∃ B d, e = .returned (.slice B (sortIds xs).length d) ∧ Kd.C kId w' B (sortIds xs).length (sortIds xs) ∧ Below w.heap.size w w' ∧ ∃ g rest R, B = some ⟨g, 0, none⟩ ∧ w.heap.size ≤ g ∧ IdRow w' g 37 (sortIds xs ++ rest) R ∧ ((sortIds xs).length + rest.length) * 2 + R.length = d * 2 ∧ d ≤ maxLen := by
  obtain ⟨g, d, R, w1, hrun, hg, hrow, hd, hb, hRl, hmx⟩ := append_row A c xs w hC hl 23
  have hlt : g < w1.heap.size := (Array.getElem?_eq_some_iff.1 hrow).1
  have HR := Aside0.mk hrow
  have HB := Aside0.mk hb
  have HRL := Aside0.mk hRl
  clear hC hrow hb hRl
  go_enter Try.func48, Try.ntmps48
  rcases Nat.eq_zero_or_pos xs.length with h0 | h0
  · obtain rfl : xs = [] := List.eq_nil_of_length_eq_zero h0
    have hsort : ∀ W, Calls Try.prog 70 #[.slice (some ⟨g, 0, none⟩) 0 d, .func (.func 71) #[] #[]] W fun e w' => e = .returned (.tuple #[]) ∧ w' = W :=
      fun W => AnyF.slices_SortFunc_none (P := Try.prog) (ρ := Try.sortId_ren) Try.sortId (some ⟨g, 0, none⟩) d _ W
    have hcomp := fun W => compact_small (some ⟨g, 0, none⟩) 0 d W (by omega)
    simp only [List.length_nil] at hrun
    go_wp2_with (first
      | (at_builtin; refine Kd.event_run (v := .slice (some ⟨g, 0, none⟩) 0 d) (w1 := w1) rfl ?hr ?_; (case hr => exact append_exec rfl rfl rfl hrun))
      | (go_at_call 70; refine (hsort _).mono ?_; rintro e w' ⟨rfl, rfl⟩)
      | (go_at_call 72; refine (hcomp _).mono ?_; rintro e w' ⟨rfl, rfl⟩))
    go_ret
    have e : sortIds [] = [] := by simp [sortIds, dedup]
    rw [e]
    exact ⟨_, _, rfl, ⟨rfl, by simp, fun h => absurd h (by simp)⟩, HB.out, g, [], R, rfl, hg, HR.out, by simpa using HRL.out, hmx⟩
  · have hsort := sort_row g 0 d xs.toArray w1 HR.out.holds hlt (by simp; omega)
    simp only [List.size_toArray] at hsort
    obtain ⟨ys, hys⟩ : ∃ ys, ys = xs.mergeSort fun x y => !(ltOf idCmp) y x := ⟨_, rfl⟩
    rw [← hys] at hsort
    have hyl : ys.length = xs.length := by rw [hys]; simp
    have HY := Aside0.mk (show sortIds xs = dedup ys by rw [hys]; rfl)
    clear hys
    have hcomp : ∀ n os, Calls Try.prog 72 #[.slice (some ⟨g, 0, none⟩) xs.length d] (sortWorldK encId 2 w1 g 0 n ys.toArray os) fun e w' => ∃ rest, e = .returned (.slice (some ⟨g, 0, none⟩) (dedup ys).length d) ∧ (dedup ys).length + rest.length = xs.length ∧ IdRow w' g 37 (dedup ys ++ rest) R ∧ (sortWorldK encId 2 w1 g 0 n ys.toArray os).grownBy w' (some g) := by
      intro n os
      have hr := HR.out.sorted hyl n os
      by_cases h2 : 2 ≤ xs.length
      · have := compact_calls g d 37 ys R _ hr (by omega) (by omega) (by omega)
        rw [hyl] at this
        exact this
      · have e : dedup ys = ys := by
          match ys, hyl with
          | [], _ => rfl
          | [x], _ => rfl
          | _ :: _ :: _, h => simp at h; omega
        refine (compact_small (some ⟨g, 0, none⟩) xs.length d _ (by omega)).mono ?_
        rintro e' w' ⟨rfl, rfl⟩
        exact ⟨[], by rw [e, hyl], by rw [e, hyl]; rfl, by rw [e, List.append_nil]; exact hr, ⟨rfl, rfl, rfl, Nat.le_refl _, fun _ _ _ => rfl⟩⟩
    go_wp2_with (first
      | (at_builtin; refine Kd.event_run (v := .slice (some ⟨g, 0, none⟩) xs.length d) (w1 := w1) rfl ?hr ?_; (case hr => exact append_exec rfl rfl rfl hrun))
      | (go_at_call 70; refine hsort.mono ?_; rintro e w' ⟨rfl, n, os, rfl⟩)
      | (go_at_call 72; refine (hcomp _ _).mono ?_; rintro e w3 ⟨rest, rfl, hrl3, hr3, hg3⟩))
    go_ret
    have hle : (dedup ys).length ≤ 9223372036854775807 := by
      have := (dedup_length ys); omega
    rw [HY.out]
    refine ⟨_, _, rfl, hr3.C hle, ?_, g, rest, R, rfl, hg, hr3, by rw [hrl3]; exact HRL.out, hmx⟩
    exact (HB.out.trans ((below_sorted w1 g n ys.toArray os hg (HB.out.size)).grown hg3 (by have := HB.out.size; simp [sortWorldK, grow, putRowK, putRow, mapBlock, Sort.ahead]; omega) (fun k hk => by injection hk with hk; omega)))
end Go.Proofs.Ytjffghebcaklaaa
