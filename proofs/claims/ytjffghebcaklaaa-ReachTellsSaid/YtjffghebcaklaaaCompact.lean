/- slices.Compact at ids. -/
import Derived.Test.YtjffghebcaklaaaSort
import Derived.Laws.Runes
namespace Go.Proofs.Ytjffghebcaklaaa
open Go Go.RowKit Go.Lib Go.Sort Go.Proofs.YtjffghebcaklaaaW.PrintWords Go.Proofs.YtjffghebcaklaaaW.PrintLast Go.Proofs.YtjffghebcaklaaaW.PrintMore
set_option linter.unusedVariables false
set_option linter.unusedSimpArgs false
/-- The block holds these ids, and the cells R behind them. -/
def IdRow (w : World) (blk : Nat) (t : TypeId) (xs : List Id) (R : List Value) : Prop := w.heap[blk]? = some (.cells (xs.flatMap encId ++ R).toArray t (0, 0))
theorem flatK_list (xs : List Id) : flatK encId 2 xs.toArray = (xs.flatMap encId).toArray := by
  have hl := flat_length encId 2 (fun _ => rfl) xs
  apply Array.ext
  · simp [hl]
  · intro i h1 h2
    have hi : i < xs.length * 2 := by simpa using h1
    have e := flat_get encId 2 (by omega) (fun _ => rfl) xs i
    have hx : i / 2 < xs.length := by omega
    rw [List.getElem?_eq_getElem hx, Option.bind_some] at e
    have h3 : i < (xs.flatMap encId).length := by rw [hl]; exact hi
    rw [List.getElem?_eq_getElem h3] at e
    have g := get_flatK encId 2 xs.toArray i (by simpa using hi)
    rw [getElem!_pos _ i h1] at g
    rw [g]
    simp only [List.getElem_toArray]
    have hm : i % 2 < (encId xs[i / 2]).length := Nat.mod_lt _ (by omega)
    rw [List.getElem?_eq_getElem hm] at e
    rw [Option.some.inj e, getElem!_pos xs.toArray (i / 2) (by simpa using hx)]
    simp only [List.getElem_toArray]
    exact getElem!_pos (encId xs[i / 2]) (i % 2) hm
theorem IdRow.holds {w : World} {blk : Nat} {t : TypeId} {xs : List Id} {R : List Value} (h : IdRow w blk t xs R) : HoldsK encId 2 w blk 0 xs.toArray := by
  intro j hj
  rw [flatK_list] at hj ⊢
  have hj' : j < (xs.flatMap encId).length := by simpa using hj
  have h' : w.heap[blk]? = some (.cells (xs.flatMap encId ++ R).toArray t (0, 0)) := h
  rw [Nat.zero_add]
  refine ⟨?_, by simp [World.frozen?, h']⟩
  rw [cell_of_row w blk j _ _ _ h', getElem!_pos _ j hj]
  simp only [List.getElem?_toArray, id, List.getElem_toArray]
  rw [List.getElem?_append_left hj', List.getElem?_eq_getElem hj']
theorem IdRow.sorted {w : World} {blk : Nat} {t : TypeId} {xs ys : List Id} {R : List Value} (h : IdRow w blk t xs R) (hl : ys.length = xs.length) (n : Nat) (os : Array Obj) : IdRow (sortWorldK encId 2 w blk 0 n ys.toArray os) blk t ys R := by
  have hlt : blk < w.heap.size := (Array.getElem?_eq_some_iff.1 h).1
  have e1 := flat_length encId 2 (fun _ => rfl) xs
  have e2 := flat_length encId 2 (fun _ => rfl) ys
  unfold IdRow sortWorldK putRowK putRow
  rw [flatK_list]
  have hh : w.heap[blk]? = some (.cells (xs.flatMap encId ++ R).toArray t (0, 0)) := h
  simp only [grow, mapBlock, Sort.ahead]
  rw [Array.getElem?_append_left (by simpa using hlt), Array.getElem?_modify, if_pos rfl, hh]
  simp only [Option.map_some, onCells, Option.some.injEq]
  congr 1
  apply Array.ext_getElem?
  intro i
  simp only [putCells, Array.getElem?_mapIdx, List.getElem?_toArray, Nat.zero_le, true_and, Nat.zero_add, Nat.sub_zero, List.size_toArray]
  by_cases hi : i < (ys.flatMap encId).length
  · rw [List.getElem?_append_left (by omega), List.getElem?_append_left hi, List.getElem?_eq_getElem (by omega), List.getElem?_eq_getElem hi, Option.map_some, if_pos hi, getElem!_pos _ i (by simpa using hi)]
    rfl
  · rw [List.getElem?_append_right (by omega), List.getElem?_append_right (by omega), e1, e2, hl]
    cases R[i - xs.length * 2]? with
    | none => rfl
    | some z => rw [Option.map_some, if_neg (by rw [← hl, ← e2]; exact hi)]
end Go.Proofs.Ytjffghebcaklaaa

namespace Go.Proofs.Ytjffghebcaklaaa
open Go Go.RowKit Go.Lib Go.Sort Go.Proofs.YtjffghebcaklaaaW.PrintWords Go.Proofs.YtjffghebcaklaaaW.PrintLast Go.Proofs.YtjffghebcaklaaaW.PrintMore
set_option linter.unusedVariables false
set_option linter.unusedSimpArgs false
attribute [local go_sem high] PRef.eqA37
/-- A list's elements that part from the one ahead of them. -/
def dedup : List Id → List Id
  | [] => []
  | [x] => [x]
  | x :: y :: r => if x = y then dedup (y :: r) else x :: dedup (y :: r)
theorem IdRow.cells {w : World} {blk : Nat} {t : TypeId} {xs : List Id} {R : List Value} (h : IdRow w blk t xs R) {k : Nat} (hk : k < xs.length) :
    ∃ x, w.cell? ⟨blk, k * 2, none⟩ = some (.int .i64 x.f0) ∧ w.cell? ⟨blk, k * 2 + 1, none⟩ = some (.int .i64 x.f1) ∧ Aside0 (xs[k]? = some x) := by
  have g0 := flat_get encId 2 (by omega) (fun _ => rfl) xs (k * 2)
  have g1 := flat_get encId 2 (by omega) (fun _ => rfl) xs (k * 2 + 1)
  have hx : xs[k]? = some xs[k] := List.getElem?_eq_getElem hk
  rw [show k * 2 / 2 = k by omega, hx, show k * 2 % 2 = 0 by omega] at g0
  rw [show (k * 2 + 1) / 2 = k by omega, hx, show (k * 2 + 1) % 2 = 1 by omega] at g1
  have hl := flat_length encId 2 (fun _ => rfl) xs
  refine ⟨xs[k], ?_, ?_, ⟨hx⟩⟩
  · rw [cell_of_row w blk (k * 2) _ _ _ h, List.getElem?_toArray, List.getElem?_append_left (by omega)]; simpa [encId] using g0
  · rw [cell_of_row w blk (k * 2 + 1) _ _ _ h, List.getElem?_toArray, List.getElem?_append_left (by omega)]; simpa [encId] using g1
theorem dedup_snoc : ∀ (l : List Id) (a b : Id), dedup (l ++ [a, b]) = if a = b then dedup (l ++ [a]) else dedup (l ++ [a]) ++ [b]
  | [], a, b => by by_cases h : a = b <;> simp [dedup, h]
  | [x], a, b => by
    by_cases h : x = a
    · subst h; by_cases h2 : x = b <;> simp [dedup, h2]
    · by_cases h2 : a = b
      · subst h2; simp [dedup, h]
      · simp [dedup, h, h2]
  | x :: y :: r, a, b => by
    have := dedup_snoc (y :: r) a b
    simp only [List.cons_append] at this ⊢
    simp only [dedup]
    by_cases h : x = y
    · simp only [h, if_true]; exact this
    · simp only [h, if_false]; rw [this]; split <;> simp
theorem take_two (xs : List Id) (m : Nat) (a b : Id) (h1 : 1 ≤ m) (ha : xs[m - 1]? = some a) (hb : xs[m]? = some b) : xs.take (m + 1) = xs.take (m - 1) ++ [a, b] ∧ xs.take m = xs.take (m - 1) ++ [a] := by
  obtain ⟨q, rfl⟩ : ∃ q, m = q + 1 := ⟨m - 1, by omega⟩
  simp only [Nat.add_sub_cancel] at ha ⊢
  have e1 : xs.take (q + 1) = xs.take q ++ [a] := by rw [List.take_add_one, ha]; rfl
  have e2 : xs.take (q + 1 + 1) = xs.take (q + 1) ++ [b] := by rw [List.take_add_one, hb]; rfl
  exact ⟨by rw [e2, e1]; simp, e1⟩
theorem dedup_step (xs : List Id) (m : Nat) (a b : Id) (h1 : 1 ≤ m) (ha : xs[m - 1]? = some a) (hb : xs[m]? = some b) : dedup (xs.take (m + 1)) = if a = b then dedup (xs.take m) else dedup (xs.take m) ++ [b] := by
  obtain ⟨e1, e2⟩ := take_two xs m a b h1 ha hb
  rw [e1, e2, dedup_snoc]
theorem dedup_none (xs : List Id) : ∀ k, k ≤ xs.length → (∀ j, j + 1 < k → xs[j]? ≠ xs[j + 1]?) → dedup (xs.take k) = xs.take k
  | 0, _, _ => by simp [dedup]
  | 1, h, _ => by
    cases xs with
    | nil => rfl
    | cons x r => simp [dedup]
  | k + 2, h, hd => by
    have ih := dedup_none xs (k + 1) (by omega) (fun j hj => hd j (by omega))
    have ha : xs[k]? = some xs[k] := List.getElem?_eq_getElem (by omega)
    have hb : xs[k + 1]? = some xs[k + 1] := List.getElem?_eq_getElem (by omega)
    have hne := hd k (by omega)
    rw [ha, hb] at hne
    rw [dedup_step xs (k + 1) xs[k] xs[k + 1] (by omega) (by simp) hb, if_neg (fun e => hne (by rw [e])), ih, List.take_add_one (i := k + 1), hb]
    rfl
theorem IdRow.set {w : World} {blk : Nat} {t : TypeId} {xs : List Id} {R : List Value} (h : IdRow w blk t xs R) (j : Nat) (hj : j < xs.length) (v : Id) :
    IdRow ((w.setCell ⟨blk, j * 2, none⟩ (.int .i64 v.f0)).setCell ⟨blk, j * 2 + 1, none⟩ (.int .i64 v.f1)) blk t (xs.set j v) R := by
  have st : ∀ (W : World) (i : Nat) (u : Value) (cs : Array Value), W.heap[blk]? = some (.cells cs t (0, 0)) → (W.setCell ⟨blk, i, none⟩ u).heap[blk]? = some (.cells (cs.setIfInBounds i u) t (0, 0)) := fun W i u cs hc => by
    simp [World.setCell, Array.getElem?_modify, hc]
  have h1 := st _ (j * 2 + 1) (.int .i64 v.f1) _ (st _ (j * 2) (.int .i64 v.f0) _ h)
  unfold IdRow
  rw [h1]
  congr 2
  apply Array.ext_getElem?
  intro i
  have hl := flat_length encId 2 (fun _ => rfl) xs
  have hl2 := flat_length encId 2 (fun _ => rfl) (xs.set j v)
  rw [List.length_set] at hl2
  simp only [List.getElem?_toArray, Array.getElem?_setIfInBounds, List.size_toArray, Array.size_setIfInBounds, List.length_append, hl]
  by_cases hi : i < xs.length * 2
  · have g := flat_get encId 2 (by omega) (fun _ => rfl) (xs.set j v) i
    have g' := flat_get encId 2 (by omega) (fun _ => rfl) xs i
    rw [List.getElem?_append_left (by omega), List.getElem?_append_left (by omega), g, List.getElem?_set, g']
    by_cases e : j = i / 2
    · rw [if_pos e, if_pos hj, Option.bind_some]
      have hm : i % 2 = 0 ∨ i % 2 = 1 := by omega
      rcases hm with hm | hm
      · rw [if_neg (show ¬ j * 2 + 1 = i by omega), if_pos (show j * 2 = i by omega), if_pos (by omega), hm]; rfl
      · rw [if_pos (show j * 2 + 1 = i by omega), if_pos (by omega), hm]; rfl
    · rw [if_neg e, if_neg (show ¬ j * 2 + 1 = i by omega), if_neg (show ¬ j * 2 = i by omega)]
  · rw [if_neg (show ¬ j * 2 + 1 = i by omega), if_neg (show ¬ j * 2 = i by omega), List.getElem?_append_right (by omega), List.getElem?_append_right (by omega), hl, hl2]
theorem grown_drewN {w W : World} {r : Option Nat} (h : w.grownBy W r) (n : Nat) : w.grownBy (W.drewN n) r := by
  obtain ⟨h1, h2, h3, h4, h5⟩ := h
  exact ⟨h1, h2, h3, h4, h5⟩
theorem grown_set {w W : World} {b j : Nat} {v : Value} (h : w.grownBy W (some b)) : w.grownBy (W.setCell ⟨b, j, none⟩ v) (some b) := by
  obtain ⟨h1, h2, h3, h4, h5⟩ := h
  refine ⟨h1, h2, h3, by simpa [World.setCell] using h4, fun i hi hne => ?_⟩
  rw [Below.heap_setCell W ⟨b, j, none⟩ v i (fun e => hne (by rw [e]))]
  exact h5 i hi hne
theorem set_row (xs C : List Id) (p : Nat) (u : Id) (hp : p = C.length) (hl : p < xs.length) : (C ++ xs.drop p).set p u = (C ++ [u]) ++ xs.drop (p + 1) := by
  subst hp
  rw [List.drop_eq_getElem_cons hl, List.set_append_right _ _ (Nat.le_refl _), Nat.sub_self, List.set_cons_zero, List.append_assoc]
  simp
theorem row_at (xs C : List Id) (p j : Nat) (hp : p = C.length) (hj : p ≤ j) : (C ++ xs.drop p)[j]? = xs[j]? := by
  rw [List.getElem?_append_right (by omega), List.getElem?_drop]
  congr 1; omega
/-- clear(s[p:]) of a row of ids. -/
theorem clear_row (w : World) (blk : Nat) (t : TypeId) (p n c : Nat) (C E : List Id) (R : List Value) (hpn : p < n) (h : IdRow w blk t (C ++ E) R) (hl : (C ++ E).length = n) (hp : p = C.length) :
    ∃ w2, (Builtin.clear_ #[23] 0 #[.slice (some ⟨blk, p * 2, none⟩) (n - p) (c - p)]).run Try.prog w = .ok (.tuple #[]) w2 ∧ IdRow w2 blk t (C ++ List.replicate (n - p) ⟨0, 0⟩) R ∧ w.grownBy w2 (some blk) := by
  have hz : (zeroValue 37).run Try.prog w = .ok (.agg #[.int .i64 0, .int .i64 0]) w := by kernel_rfl
  have e1 := flat_length encId 2 (fun _ => rfl) (C ++ E)
  have e2 := flat_length encId 2 (fun _ => rfl) C
  have e3 := flat_length encId 2 (fun _ => rfl) (List.replicate (n - p) (⟨0, 0⟩ : Id))
  have hzc : (Builtin.zeroCells (Value.agg #[.int .i64 0, .int .i64 0]).cells (n - p)).toList = (List.replicate (n - p) (⟨0, 0⟩ : Id)).flatMap encId := by
    apply List.ext_getElem?
    intro i
    rw [flat_get encId 2 (by omega) (fun _ => rfl)]
    simp only [Builtin.zeroCells, Value.cells, Array.getElem?_toList, Array.getElem?_map, List.size_toArray, List.length_cons, List.length_nil, Nat.zero_add, Nat.reduceAdd, List.getElem?_replicate, Array.getElem?_range]
    by_cases hi : i < (n - p) * 2
    · rw [if_pos hi, if_pos (show i / 2 < n - p by omega)]
      have hm : i % 2 = 0 ∨ i % 2 = 1 := by omega
      rcases hm with hm | hm <;> simp [hm, encId]
    · rw [if_neg hi, if_neg (show ¬ i / 2 < n - p by omega)]
      rfl
  have hst := run_storeCells_at (P := Try.prog) blk (p * 2) t ((List.replicate (n - p) (⟨0, 0⟩ : Id)).flatMap encId) 0 _ w h (by rw [List.size_toArray, List.length_append , e1, e3, List.length_replicate]; omega) (fun v hv => by obtain ⟨x, _, hx⟩ := List.mem_flatMap.1 hv; exact flat_id.one x v hx)
  refine ⟨w.setRow blk (((C ++ E).flatMap encId ++ R).toArray.toList.take (p * 2 + 0) ++ (List.replicate (n - p) (⟨0, 0⟩ : Id)).flatMap encId ++ ((C ++ E).flatMap encId ++ R).toArray.toList.drop (p * 2 + 0 + ((List.replicate (n - p) (⟨0, 0⟩ : Id)).flatMap encId).length)).toArray, ?_, ?_, ?_⟩
  rotate_left
  · have := setRow_heap w blk _ (((C ++ E).flatMap encId ++ R).toArray.toList.take (p * 2 + 0) ++ (List.replicate (n - p) (⟨0, 0⟩ : Id)).flatMap encId ++ ((C ++ E).flatMap encId ++ R).toArray.toList.drop (p * 2 + 0 + ((List.replicate (n - p) (⟨0, 0⟩ : Id)).flatMap encId).length)).toArray t _ h
    unfold IdRow
    rw [this]
    refine congrArg (fun z : List Value => some (Obj.cells z.toArray t (0, 0))) ?_
    have a1 : ((C ++ E).flatMap encId ++ R).take (p * 2 + 0) = C.flatMap encId := by
      rw [List.flatMap_append, List.append_assoc, List.take_append_of_le_length (by rw [e2]; omega), List.take_of_length_le (by rw [e2]; omega)]
    have a2 : ((C ++ E).flatMap encId ++ R).drop (p * 2 + 0 + ((List.replicate (n - p) (⟨0, 0⟩ : Id)).flatMap encId).length) = R := by
      rw [List.drop_append, List.drop_of_length_le (by rw [e1, e3, List.length_replicate]; omega), e1, e3, List.length_replicate, List.nil_append, hl]
      rw [show p * 2 + 0 + (n - p) * 2 - n * 2 = 0 by omega, List.drop_zero]
    show ((C ++ E).flatMap encId ++ R).take (p * 2 + 0) ++ (List.replicate (n - p) (⟨0, 0⟩ : Id)).flatMap encId ++ ((C ++ E).flatMap encId ++ R).drop (p * 2 + 0 + ((List.replicate (n - p) (⟨0, 0⟩ : Id)).flatMap encId).length) = _
    rw [a1, a2, List.flatMap_append]
  · exact ⟨rfl, rfl, rfl, by simp [World.setRow], fun j hj hne => setRow_other w blk j _ (fun e => hne (by rw [e]))⟩
  · have hnz : n - p ≠ 0 := by omega
    obtain ⟨m, hm⟩ : ∃ m, n - p = m + 1 := ⟨n - p - 1, by omega⟩
    rw [hm] at hzc hst ⊢
    simp only [Builtin.clear_]
    simp [run_underlying Try.underlying23, hz, hzc, hst, Result.andThen]
set_option maxRecDepth 100000 in
set_option maxHeartbeats 1600000 in
theorem compact_calls (blk c : Nat) (t : TypeId) (xs : List Id) (R : List Value) (w : World) (h : IdRow w blk t xs R) (hl : xs.length ≤ 1048576) (hc : xs.length ≤ c) (h2 : 2 ≤ xs.length) :
    Calls Try.prog 72 #[.slice (some ⟨blk, 0, none⟩) xs.length c] w fun e w' => ∃ rest, e = .returned (.slice (some ⟨blk, 0, none⟩) (dedup xs).length c) ∧ (dedup xs).length + rest.length = xs.length ∧ IdRow w' blk t (dedup xs ++ rest) R ∧ w.grownBy w' (some blk) := by
  have t1 : decide ((xs.length : Int) < 2) = false := decide_eq_false (by omega)
  have H := Aside0.mk h
  go_enter Try.func72, Try.ntmps72
  go_wp2
  go_loopw [3] (fun i wr => ∃ k : Nat, 1 ≤ k ∧ k ≤ xs.length ∧ i = .int .i64 k ∧ Aside0 (∃ n, wr = w.drewN n) ∧ Aside0 (∀ j, j + 1 < k → xs[j]? ≠ xs[j + 1]?)) (fun i _ => xs.length - (intOf i).toNat)
  case atStart => exact ⟨1, Nat.le_refl _, by omega, rfl, ⟨0, rfl⟩, ⟨fun j hj => by omega⟩⟩
  case round =>
    obtain ⟨k, hk1, hk, rfl, hn, hd⟩ := hrel
    obtain ⟨n, rfl⟩ := hn.out
    by_cases hlt : k < xs.length
    · have hw1 : IntKind.i64.wrap ((k : Int) - 1) = ((k - 1 : Nat) : Int) := by rw [wrap_small _ (by omega) (by omega)]; omega
      have hwk : wrap64 ((k : Int) - 1) = ((k - 1 : Nat) : Int) := by unfold wrap64; omega
      have hlt1 : k - 1 < xs.length := by omega
      obtain ⟨x, hx, hx1, X⟩ : ∃ x, w.cell? ⟨blk, k * 2, none⟩ = some (.int .i64 x.f0) ∧ w.cell? ⟨blk, k * 2 + 1, none⟩ = some (.int .i64 x.f1) ∧ Aside0 (xs[k]? = some x) := h.cells hlt
      obtain ⟨y, hy, hy1, Y⟩ : ∃ y, w.cell? ⟨blk, (k - 1) * 2, none⟩ = some (.int .i64 y.f0) ∧ w.cell? ⟨blk, (k - 1) * 2 + 1, none⟩ = some (.int .i64 y.f1) ∧ Aside0 (xs[k - 1]? = some y) := h.cells hlt1
      by_cases hxy : x = y
      · have hb : ((x.f0 == y.f0) && (x.f1 == y.f1)) = true := by rw [id_beq]; exact decide_eq_true hxy
        have hK0 : dedup (xs.take k) = xs.take k := dedup_none xs k hk hd.out
        have hK1 := Aside0.mk (show dedup (xs.take (k + 1)) = xs.take k by rw [dedup_step xs k y x hk1 Y.out X.out, if_pos hxy.symm, hK0])
        clear hd hK0
        go_wp2
        go_quiet (fail)
        go_wp2
        have hrow0 := h
        go_loopw [3, 5] (fun i j wr => ∃ p q : Nat, 1 ≤ q ∧ k + q ≤ xs.length ∧ i = .int .i64 p ∧ j = .int .i64 q ∧ p < k + q ∧ Aside0 (p = (dedup (xs.take (k + q))).length) ∧ Aside0 (IdRow wr blk t (dedup (xs.take (k + q)) ++ xs.drop p) R) ∧ Aside0 (w.grownBy wr (some blk))) (fun _ j _ => xs.length - (intOf j).toNat)
        case atStart => exact ⟨k, 1, Nat.le_refl _, by omega, rfl, rfl, by omega, ⟨by rw [hK1.out, List.length_take]; omega⟩, ⟨by rw [hK1.out, List.take_append_drop]; exact h⟩, ⟨⟨rfl, rfl, rfl, Nat.le_refl _, fun _ _ _ => rfl⟩⟩⟩
        case round =>
          obtain ⟨p, q, hq1, hq, rfl, rfl, hpq, hp, hrow, hT⟩ := hrel
          by_cases hlq : k + q < xs.length
          · have hwq : wrap64 ((q : Int) - 1) = ((q - 1 : Nat) : Int) := by unfold wrap64; omega
            have hwq' : IntKind.i64.wrap ((q : Int) - 1) = ((q - 1 : Nat) : Int) := by rw [wrap_small _ (by omega) (by omega)]; omega
            have hlen : (dedup (xs.take (k + q)) ++ xs.drop p).length = xs.length := by rw [List.length_append, List.length_drop, ← hp.out]; omega
            obtain ⟨u, hu0, hu1, U0⟩ := hrow.out.cells (k := k + q) (by omega)
            obtain ⟨v, hv0, hv1, V0⟩ := hrow.out.cells (k := k + (q - 1)) (by omega)
            have U := Aside0.mk ((row_at xs _ p (k + q) hp.out (by omega)).symm.trans U0.out)
            have V := Aside0.mk ((row_at xs _ p (k + (q - 1)) hp.out (by omega)).symm.trans V0.out)
            clear U0 V0
            rw [Nat.add_mul] at hu0 hu1 hv0 hv1
            have hq2 : q < xs.length - k := by omega
            have hq3 : q - 1 < xs.length - k := by omega
            go_wp2
            have hst := dedup_step xs (k + q) v u (by omega) (by have := V.out; rwa [show k + (q - 1) = k + q - 1 by omega] at this) U.out
            have HST := Aside0.mk hst
            clear hst
            by_cases huv : u = v
            · have hb2 : ((u.f0 == v.f0) && (u.f1 == v.f1)) = true := by rw [id_beq]; exact decide_eq_true huv
              go_quiet (fail)
              go_wp2
              go_roundw
              case rel =>
                have e := HST.out
                rw [if_pos huv.symm] at e
                exact ⟨p, q + 1, by omega, by omega, rfl, by go_num, by omega, ⟨by rw [← Nat.add_assoc, e]; exact hp.out⟩, ⟨by rw [← Nat.add_assoc, e]; exact hrow.out⟩, ⟨grown_drewN hT.out _⟩⟩
              case measure => simp [intOf]; omega
            · have hb2 : ((u.f0 == v.f0) && (u.f1 == v.f1)) = false := by rw [id_beq]; exact decide_eq_false huv
              have hpl : p < xs.length := by omega
              obtain ⟨z, hz0, hz1, Z⟩ := hrow.out.cells (k := p) (by omega)
              have fz : ∀ j, wr.frozen? ⟨blk, j, none⟩ = false := fun j => by have h' : wr.heap[blk]? = _ := hrow.out; simp [World.frozen?, h']
              have f0 := fz (p * 2)
              have f1 := fz (p * 2 + 1)
              clear fz
              go_quiet (fail)
              go_wp2
              go_roundw
              case rel =>
                have e := HST.out
                rw [if_neg (fun e => huv e.symm)] at e
                refine ⟨p + 1, q + 1, by omega, by omega, by go_num, by go_num, by omega, ⟨by rw [← Nat.add_assoc, e, List.length_append, ← hp.out]; rfl⟩, ⟨?_⟩, ⟨?_⟩⟩
                · rw [← Nat.add_assoc, e, ← set_row xs _ p u hp.out hpl]
                  exact hrow.out.set p (by omega) u
                · repeat (first | exact hT.out | apply grown_drewN | apply grown_set)
              case measure => simp [intOf]; omega
          · have hq2 : decide ((q : Int) < ((xs.length - k : Nat) : Int)) = false := decide_eq_false (by omega)
            have hpl : p < xs.length := by omega
            have hC : dedup (xs.take (k + q)) = dedup xs := by rw [List.take_of_length_le (by omega)]
            rw [hC] at hp hrow
            obtain ⟨w2, hclr, hr2, hg2⟩ := clear_row wr blk t p xs.length c _ _ R (by omega) hrow.out (by rw [List.length_append, List.length_drop, ← hp.out]; omega) hp.out
            have R2 := Aside0.mk hr2
            have G2 := Aside0.mk hg2
            clear hr2 hg2
            go_wp2
            go_ret
            exact ⟨_, by rw [← hp.out]; rfl, by rw [List.length_replicate, ← hp.out]; omega, R2.out, hT.out.trans G2.out⟩
      · have hb : ((x.f0 == y.f0) && (x.f1 == y.f1)) = false := by rw [id_beq]; exact decide_eq_false hxy
        go_wp2
        go_quiet (fail)
        go_wp2
        go_roundw
        case rel => exact ⟨k + 1, by omega, by omega, by go_num, ⟨n + nq, by simp⟩, ⟨fun j hj => by
          by_cases hjk : j + 1 = k
          · rw [show j + 1 = k from hjk, X.out, show j = k - 1 by omega, Y.out]
            intro e
            exact hxy (Option.some.inj e).symm
          · exact hd.out j (by omega)⟩⟩
        case measure => simp [intOf]; omega
    · have hlt' : decide ((k : Int) < (xs.length : Int)) = false := decide_eq_false (by omega)
      have e : dedup xs = xs := by
        have := dedup_none xs k hk hd.out
        rwa [show k = xs.length by omega, List.take_length] at this
      go_wp2
      go_ret
      exact ⟨[], by rw [e]; rfl, by rw [e]; rfl, by rw [e]; simpa [IdRow, World.drewN] using h, ⟨rfl, rfl, rfl, Nat.le_refl _, fun _ _ _ => rfl⟩⟩
set_option maxRecDepth 100000 in
set_option maxHeartbeats 400000 in
theorem compact_small (A : Option Addr) (n c : Nat) (w : World) (h : n < 2) :
    Calls Try.prog 72 #[.slice A n c] w fun e w' => e = .returned (.slice A n c) ∧ w' = w := by
  have t1 : decide ((n : Int) < 2) = true := decide_eq_true (by omega)
  go_enter Try.func72, Try.ntmps72
  go_wp2
  go_ret
  exact ⟨rfl, rfl⟩
end Go.Proofs.Ytjffghebcaklaaa
