/- A range over a map whose keys are ids: what is still to come. And delete. -/
import Derived.Test.YtjffghebcaklaaaIds
import Derived.Maps.RangeRun
namespace Go.Proofs.Ytjffghebcaklaaa
open Go Go.RowKit Go.Lib Go.Sort Go.Proofs.YtjffghebcaklaaaW.PrintWords Go.Proofs.YtjffghebcaklaaaW.PrintLast Go.Proofs.YtjffghebcaklaaaW.PrintMore
set_option linter.unusedVariables false
set_option linter.unusedSimpArgs false
def Ent.pair (e : Ent) : Id × Value := (e.id, e.val)
/-- Block r walks over the map in block b; todo is still to come. -/
def RangeAt (w : World) (r b : Nat) (todo : List (Id × Value)) : Prop :=
  ∃ (es : List Ent) (clock : Nat) (seen : Array Nat), w.heap[b]? = some (.map (es.map Ent.me).toArray clock) ∧ (es.map Ent.born).Nodup ∧ (∀ e ∈ es, e.born < clock) ∧
    w.heap[r]? = some (.mapIter (some b) clock seen clock) ∧ (es.filter fun e => !seen.contains e.born).map Ent.pair = todo
theorem RangeAt.same {w w' : World} {r b : Nat} {todo : List (Id × Value)} (h : RangeAt w r b todo) (hr : w'.heap[r]? = w.heap[r]?) (hb : w'.heap[b]? = w.heap[b]?) : RangeAt w' r b todo := by
  obtain ⟨es, clock, seen, h1, h2, h3, h4, h5⟩ := h
  exact ⟨es, clock, seen, hb.trans h1, h2, h3, hr.trans h4, h5⟩
theorem RangeAt.lt {w : World} {r b : Nat} {todo : List (Id × Value)} (h : RangeAt w r b todo) : r < w.heap.size ∧ b < w.heap.size := by
  obtain ⟨es, clock, seen, h1, h2, h3, h4, h5⟩ := h
  exact ⟨(Array.getElem?_eq_some_iff.1 h4).1, (Array.getElem?_eq_some_iff.1 h1).1⟩
theorem RangeAt.noCells {w : World} {r b : Nat} {todo : List (Id × Value)} (h : RangeAt w r b todo) (o : Nat) : w.cell? ⟨r, o, none⟩ = none := by
  obtain ⟨es, clock, seen, h1, h2, h3, h4, h5⟩ := h
  simp [World.cell?, h4]
theorem MapAt.range {w : World} {b : Nat} {m : List (Id × Value)} (h : MapAt w b m) {t e : TypeId} (ht : Try.prog.underlying t = some (.map 37 e)) :
    ∃ o : Obj, (Instr.range t (.map (some b))).run Try.prog w = .ok (.pointer (some ⟨w.heap.size, 0, none⟩)) (w.alloc o) ∧ RangeAt (w.alloc o) w.heap.size b m := by
  obtain ⟨es, clock, hb, hm, hn, hbn, hbl⟩ := h
  refine ⟨.mapIter (some b) clock #[] clock, run_range_map w t _ _ b _ clock ht hb, es, clock, #[], ?_, hbn, hbl, heap_alloc_new w _, ?_⟩
  · exact (Below.heap_alloc w _ b (Array.getElem?_eq_some_iff.1 hb).1).trans hb
  · rw [List.filter_eq_self.2 (fun e _ => by simp)]
    exact hm
theorem perm_out : ∀ {l : List Ent} {e : Ent}, e ∈ l → (l.map Ent.born).Nodup → (l.map Ent.pair).Perm (e.pair :: (l.filter fun x => !(x.born == e.born)).map Ent.pair)
  | [], _, h, _ => by cases h
  | x :: l, e, h, hn => by
    rw [List.map_cons, List.nodup_cons] at hn
    rcases List.mem_cons.1 h with rfl | h
    · have : (l.filter fun x => !(x.born == e.born)) = l := List.filter_eq_self.2 fun y hy => by
        have hne : y.born ≠ e.born := fun he => hn.1 (he ▸ List.mem_map_of_mem hy)
        simpa using hne
      simp [this]
    · have hne : (!(x.born == e.born)) = true := by
        have : x.born ≠ e.born := fun he => hn.1 (he ▸ List.mem_map_of_mem h)
        simpa using this
      rw [List.filter_cons, if_pos hne, List.map_cons, List.map_cons]
      exact ((perm_out h hn.2).cons _).trans (.swap _ _ _)
/-- The step: either nothing is left, or one entry that is left comes out. -/
theorem RangeAt.next {w : World} {r b : Nat} {todo : List (Id × Value)} (h : RangeAt w r b todo) :
    (todo = [] ∧ ∀ ty, (Instr.next (.pointer (some ⟨r, 0, none⟩)) false ty).run Try.prog w = .ok (.tuple #[.bool false]) w) ∨
    ∃ (x : Id) (v : Value) (rest : List (Id × Value)) (w' : World), todo.Perm ((x, v) :: rest) ∧ (∀ ty, (Instr.next (.pointer (some ⟨r, 0, none⟩)) false ty).run Try.prog w = .ok (.tuple #[.bool true, .agg #[.int .i64 x.f0, .int .i64 x.f1], v]) w') ∧
      RangeAt w' r b rest ∧ (Instr.entry (.pointer (some ⟨r, 0, none⟩))).run Try.prog w' = .ok (.tuple #[.agg #[.int .i64 x.f0, .int .i64 x.f1], v]) w' ∧ w'.heap.size = w.heap.size ∧ w.grownBy w' (some r) := by
  obtain ⟨es, clock, seen, h1, h2, h3, h4, h5⟩ := h
  have hne : r ≠ b := by
    intro e
    rw [e, h1] at h4
    cases h4
  have hleft : (leftOf (es.map Ent.me).toArray seen).toList = (es.filter fun e => !seen.contains e.born).map Ent.me := by
    unfold leftOf
    simp only [List.filter_toArray, List.filter_map]
    rfl
  have hold : ∀ x ∈ (es.map Ent.me).toArray.toList, x.born < clock := by
    intro x hx
    obtain ⟨e, he, rfl⟩ := List.mem_map.1 (by simpa using hx)
    exact h3 e he
  have hlen : (leftOf (es.map Ent.me).toArray seen).size = todo.length := by
    rw [← Array.length_toList, hleft, ← h5]
    simp
  rcases run_next_at (P := Try.prog) w 0 r b clock clock seen _ clock h4 h1 hold (Nat.le_refl _) with ⟨h0, hrun⟩ | ⟨me, hme, w1, hal, hrun⟩
  · left
    exact ⟨List.eq_nil_of_length_eq_zero (by omega), fun _ => hrun⟩
  · right
    rw [hleft] at hme
    obtain ⟨e, he, rfl⟩ := List.mem_map.1 hme
    have hes := (List.mem_filter.1 he).1
    have hw1 : w1.heap = w.heap ∧ w1.os = w.os ∧ w1.tape = w.tape ∧ w1.output = w.output := by rcases hal with rfl | rfl <;> exact ⟨rfl, rfl, rfl, rfl⟩
    have hrlt := (Array.getElem?_eq_some_iff.1 h4).1
    have hr2 : (ChangeMaps.setBlock w1 r (.mapIter (some b) clock (seen.push e.born) clock)).heap[r]? = some (.mapIter (some b) clock (seen.push e.born) clock) := by
      simp [ChangeMaps.setBlock, hw1.1, hrlt]
    have hb2 : (ChangeMaps.setBlock w1 r (.mapIter (some b) clock (seen.push e.born) clock)).heap[b]? = some (.map (es.map Ent.me).toArray clock) := by
      simp only [ChangeMaps.setBlock, hw1.1]
      rw [Array.getElem?_setIfInBounds_ne hne]
      exact h1
    have hnb : ((es.map Ent.me).map (fun x => x.born)).Nodup := by
      rw [List.map_map]
      exact h2
    refine ⟨e.id, e.val, (es.filter fun x => !(seen.push e.born).contains x.born).map Ent.pair, _, ?_, fun _ => hrun, ⟨es, clock, seen.push e.born, hb2, h2, h3, hr2, rfl⟩, ?_, ?_, ?_⟩
    · rw [← h5]
      have hp := perm_out he ((List.filter_sublist (l := es) (p := fun e => !seen.contains e.born)).map Ent.born |>.nodup h2)
      refine hp.trans ?_
      rw [List.filter_filter]
      refine List.Perm.cons _ ?_
      rw [show (es.filter fun x => !(x.born == e.born) && !seen.contains x.born) = es.filter fun x => !(seen.push e.born).contains x.born from List.filter_congr fun x _ => by
        simp [Array.contains_push, Bool.and_comm, Bool.beq_eq_decide_eq]]
    · exact run_entry_at (P := Try.prog) _ r b clock seen (es.map Ent.me).toArray clock e.me hr2 hb2 (by simpa using ⟨e, hes, rfl⟩) (by simpa using hnb)
    · simp [ChangeMaps.setBlock, hw1.1]
    · refine ⟨hw1.2.1, hw1.2.2.1, hw1.2.2.2, by simp [ChangeMaps.setBlock, hw1.1], fun i hi hne2 => ?_⟩
      simp only [ChangeMaps.setBlock, hw1.1]
      rw [Array.getElem?_setIfInBounds_ne (fun e => hne2 (by rw [e]))]
/-- How many are still to come, read off the world: for a loop's measure. -/
def leftW (w : World) (r b : Nat) : Nat := match w.heap[r]?, w.heap[b]? with
  | some (.mapIter _ _ seen _), some (.map es _) => (leftOf es seen).size
  | _, _ => 0
theorem RangeAt.left {w : World} {r b : Nat} {todo : List (Id × Value)} (h : RangeAt w r b todo) : leftW w r b = todo.length := by
  obtain ⟨es, clock, seen, h1, h2, h3, h4, h5⟩ := h
  unfold leftW
  rw [h1, h4, ← h5]
  have hl : (leftOf (es.map Ent.me).toArray seen).toList = (es.filter fun e => !seen.contains e.born).map Ent.me := by
    unfold leftOf
    simp only [List.filter_toArray, List.filter_map]
    rfl
  show (leftOf (es.map Ent.me).toArray seen).size = _
  rw [← Array.length_toList, hl, List.length_map, List.length_map]
end Go.Proofs.Ytjffghebcaklaaa
