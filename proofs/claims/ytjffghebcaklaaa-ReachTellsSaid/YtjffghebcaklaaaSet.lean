/- The program's package idset: what each function does to a set of ids. -/
import Derived.Test.YtjffghebcaklaaaMap
import Derived.Maps.OwnSet
import Derived.Deep.RegionHeld3
import Derived.Deep.QuietTactic
import Derived.BigQuiet
import Derived.KernelRfl
namespace Go.Proofs.Ytjffghebcaklaaa
open Go Go.RowKit Go.Proofs.YtjffghebcaklaaaW.PrintWords Go.Proofs.YtjffghebcaklaaaW.PrintLast Go.Proofs.YtjffghebcaklaaaW.PrintMore
set_option linter.unusedVariables false
set_option linter.unusedSimpArgs false
def setM (s : List Id) : List (Id × Value) := s.map fun x => (x, .bool true)
/-- A pointer to block sb is a set whose map's block is mb, and has just the ids s. -/
structure SetAt (w : World) (sb mb : Nat) (s : List Id) : Prop where
  cell : w.heap[sb]? = some (.cells #[.map (some mb)] 105 (0, 0))
  map : MapAt w mb (setM s)
theorem mget_setM (s : List Id) (x : Id) : mget (setM s) x = if x ∈ s then some (.bool true) else none := by
  unfold mget setM
  induction s with
  | nil => simp
  | cons y s ih =>
    by_cases h : x = y
    · simp [h]
    · simp only [List.map_cons, List.find?_cons, h, decide_false]
      rw [ih]
      simp [h]
theorem zeroBool : ∀ W : World, (zeroValue 4).run Try.prog W = .ok (.bool false) W := fun W => by kernel_rfl
theorem SetAt.look {w : World} {sb mb : Nat} {s : List Id} (h : SetAt w sb mb s) (x : Id) : (Instr.lookup 103 (.map (some mb)) (.agg #[.int .i64 x.f0, .int .i64 x.f1]) false).run Try.prog w = .ok (.bool (decide (x ∈ s))) w := by
  have := h.map.lookup (Try.underlying103) x zeroBool false
  rw [mget_setM] at this
  refine this.trans ?_
  by_cases hx : x ∈ s <;> simp [hx]
theorem SetAt.cell_ {w : World} {sb mb : Nat} {s : List Id} (h : SetAt w sb mb s) : w.cell? ⟨sb, 0, none⟩ = some (.map (some mb)) := by
  simp [World.cell?, h.cell]
theorem SetAt.below {w w' : World} {sb mb : Nat} {s : List Id} (h : SetAt w sb mb s) {B : Nat} (hb : Below B w w') (h1 : sb < B) (h2 : mb < B) : SetAt w' sb mb s :=
  ⟨(hb.block sb h1).trans h.cell, h.map.same (hb.block mb h2)⟩
set_option maxRecDepth 100000 in
set_option maxHeartbeats 400000 in
theorem set_has {w : World} {sb mb : Nat} {s : List Id} (h : SetAt w sb mb s) (x : Id) :
    Calls Try.prog 44 #[.pointer (some ⟨sb, 0, none⟩), .agg #[.int .i64 x.f0, .int .i64 x.f1]] w fun e w' => e = .returned (.bool (decide (x ∈ s))) ∧ Below w.heap.size w w' := by
  have h1 : sb < w.heap.size := (Array.getElem?_eq_some_iff.1 h.cell).1
  have h2 := h.map.lt
  have hs := fun n => (h.below (pw_below_drewN ((Below.refl w.heap.size w).alloc (Nat.le_refl _) (.cells #[.int .i64 x.f0, .int .i64 x.f1] 37)) n) h1 h2)
  have hc := fun n => (hs n).cell_
  have hl := fun n => (hs n).look x
  go_enter Try.func44, Try.ntmps44
  go_wp2
  go_quiet (fail)
  go_wp2
  go_ret
  exact ⟨rfl, by repeat (first | exact Below.refl _ _ | apply pw_below_drewN | exact (Below.refl _ _).alloc (Nat.le_refl _) _)⟩
theorem grown_turned {w w1 w2 : World} {b : Nat} (h : Below w.heap.size w w1) (ht : Turned w1 w2 b) : w.grownBy w2 (some b) := by
  obtain ⟨h1, h2, h3⟩ := ht
  refine ⟨?_, ?_, ?_, ?_, ?_⟩
  · rw [h1]; exact h.os
  · rw [h1]; exact h.tape
  · rw [h1]; exact h.output
  · rw [h2]; exact h.size
  · intro i hi hne
    rw [h3 i (fun e => hne (by rw [e]))]
    exact h.block i hi
/-- What is turned by a store into the map of a set. -/
theorem setM_put (s : List Id) (x : Id) (h : x ∉ s) : mput (setM s) x (.bool true) = setM (s ++ [x]) := by
  unfold mput
  rw [mget_setM, if_neg h]
  simp [setM]
theorem setM_put_in (s : List Id) (x : Id) (h : x ∈ s) : mput (setM s) x (.bool true) = setM s := by
  unfold mput
  rw [mget_setM, if_pos h]
  simp only [Option.isSome_some, if_true, setM, List.map_map]
  refine List.map_congr_left fun y _ => ?_
  by_cases hy : x = y <;> simp [hy]
theorem SetAt.store {w : World} {sb mb : Nat} {s : List Id} (h : SetAt w sb mb s) (x : Id) :
    ∃ w', (Instr.mapUpdate 103 (.map (some mb)) (.agg #[.int .i64 x.f0, .int .i64 x.f1]) (.bool true)).run Try.prog w = .ok () w' ∧ SetAt w' sb mb (if x ∈ s then s else s ++ [x]) ∧ Turned w w' mb := by
  obtain ⟨w', h1, h2, h3⟩ := h.map.update (Try.underlying103) x (.bool true)
  have hne : sb ≠ mb := by
    intro e
    have h4 := h.map.noCells 0
    have h5 := h.cell_
    rw [e, h4] at h5
    cases h5
  refine ⟨w', h1, ⟨(h3.2.2 sb hne).trans h.cell, ?_⟩, h3⟩
  by_cases hx : x ∈ s
  · rw [if_pos hx, ← setM_put_in s x hx]; exact h2
  · rw [if_neg hx, ← setM_put s x hx]; exact h2
/-- The stores behind a new block and some draws, at once. -/
theorem SetAt.stores {w : World} {sb mb : Nat} {s : List Id} (h : SetAt w sb mb s) (o : Obj) (x : Id) : ∃ f : Nat → World,
    (∀ n, (Instr.mapUpdate 103 (.map (some mb)) (.agg #[.int .i64 x.f0, .int .i64 x.f1]) (.bool true)).run Try.prog ((w.alloc o).drewN n) = .ok () (f n)) ∧
    ∀ n, Aside0 (SetAt (f n) sb mb (if x ∈ s then s else s ++ [x]) ∧ w.grownBy (f n) (some mb)) := by
  have h1 : sb < w.heap.size := (Array.getElem?_eq_some_iff.1 h.cell).1
  have h2 := h.map.lt
  have hs := fun n => (h.below (pw_below_drewN ((Below.refl w.heap.size w).alloc (Nat.le_refl _) o) n) h1 h2)
  exact ⟨fun n => Classical.choose ((hs n).store x), fun n => (Classical.choose_spec ((hs n).store x)).1,
    fun n => ⟨(Classical.choose_spec ((hs n).store x)).2.1, grown_turned (pw_below_drewN ((Below.refl _ _).alloc (Nat.le_refl _) _) _) (Classical.choose_spec ((hs n).store x)).2.2⟩⟩
set_option maxRecDepth 100000 in
set_option maxHeartbeats 400000 in
theorem set_add_new {w : World} {sb mb : Nat} {s : List Id} (h : SetAt w sb mb s) (x : Id) (hx : x ∉ s) :
    Calls Try.prog 63 #[.pointer (some ⟨sb, 0, none⟩), .agg #[.int .i64 x.f0, .int .i64 x.f1]] w fun e w' => e = .returned (.bool true) ∧ SetAt w' sb mb (s ++ [x]) ∧ w.grownBy w' (some mb) := by
  have h1 : sb < w.heap.size := (Array.getElem?_eq_some_iff.1 h.cell).1
  have h2 := h.map.lt
  have hs := fun n => (h.below (pw_below_drewN ((Below.refl w.heap.size w).alloc (Nat.le_refl _) (.cells #[.int .i64 x.f0, .int .i64 x.f1] 37)) n) h1 h2)
  have hc := fun n => (hs n).cell_
  have hl := fun n => (hs n).look x
  have hx' : decide (x ∈ s) = false := by simpa using hx
  rw [hx'] at hl
  obtain ⟨f, hf⟩ : ∃ f : Nat → World, ∀ n, (Instr.mapUpdate 103 (.map (some mb)) (.agg #[.int .i64 x.f0, .int .i64 x.f1]) (.bool true)).run Try.prog ((w.alloc (.cells #[.int .i64 x.f0, .int .i64 x.f1] 37)).drewN n) = .ok () (f n) ∧ SetAt (f n) sb mb (if x ∈ s then s else s ++ [x]) ∧ Turned ((w.alloc (.cells #[.int .i64 x.f0, .int .i64 x.f1] 37)).drewN n) (f n) mb :=
    ⟨fun n => Classical.choose ((hs n).store x), fun n => Classical.choose_spec ((hs n).store x)⟩
  have hrun := fun n => (hf n).1
  have HF : ∀ n, Aside0 (SetAt (f n) sb mb (s ++ [x]) ∧ w.grownBy (f n) (some mb)) := fun n => ⟨by have := (hf n).2.1; rwa [if_neg hx] at this, grown_turned (pw_below_drewN ((Below.refl _ _).alloc (Nat.le_refl _) _) _) (hf n).2.2⟩
  clear hf
  go_enter Try.func63, Try.ntmps63
  go_wp2
  go_quiet (fail)
  go_wp2
  go_region
  all_goals go_wp2
  go_ret
  exact ⟨rfl, (HF _).out⟩
set_option maxRecDepth 100000 in
set_option maxHeartbeats 400000 in
theorem set_add_old {w : World} {sb mb : Nat} {s : List Id} (h : SetAt w sb mb s) (x : Id) (hx : x ∈ s) :
    Calls Try.prog 63 #[.pointer (some ⟨sb, 0, none⟩), .agg #[.int .i64 x.f0, .int .i64 x.f1]] w fun e w' => e = .returned (.bool false) ∧ Below w.heap.size w w' := by
  have h1 : sb < w.heap.size := (Array.getElem?_eq_some_iff.1 h.cell).1
  have h2 := h.map.lt
  have hs := fun n => (h.below (pw_below_drewN ((Below.refl w.heap.size w).alloc (Nat.le_refl _) (.cells #[.int .i64 x.f0, .int .i64 x.f1] 37)) n) h1 h2)
  have hc := fun n => (hs n).cell_
  have hl := fun n => (hs n).look x
  have hx' : decide (x ∈ s) = true := by simpa using hx
  rw [hx'] at hl
  go_enter Try.func63, Try.ntmps63
  go_wp2
  go_quiet (fail)
  go_wp2
  go_ret
  exact ⟨rfl, pw_below_drewN ((Below.refl _ _).alloc (Nat.le_refl _) _) _⟩
/-- Every cell that is there stays as it is. -/
def CKeep (w w1 : World) : Prop := ∀ a v, w.cell? a = some v → w1.cell? a = some v
theorem World.drewN_one (w : World) : w.drewN 1 = w.drew := rfl
theorem CKeep.below {w w1 : World} (h : Below w.heap.size w w1) : CKeep w w1 := fun _ _ hc => pw_cell_below h hc
theorem CKeep.trans {w w1 w2 : World} (h : CKeep w w1) (k : CKeep w1 w2) : CKeep w w2 := fun a v hc => k a v (h a v hc)
theorem CKeep.refl (w : World) : CKeep w w := fun _ _ h => h
theorem CKeep.map {w w1 : World} {b : Nat} {m : List (Id × Value)} (h : MapAt w b m) (hg : w.grownBy w1 (some b)) : CKeep w w1 := by
  intro a v hc
  have hlt := World.block_lt_of_cell? w a hc
  by_cases he : a.block = b
  · obtain ⟨es, clock, hb, _⟩ := h
    subst he
    simp [World.cell?, hb] at hc
  · exact (World.cell?_of_block (hg.block a.block hlt (fun e => he (by injection e)))).trans hc
/-- A kind that looks at cells alone. -/
structure Cel {α : Type} (d : Kd α) : Prop where
  K : ∀ {w w1 : World} {x : α} {cs : List Value}, CKeep w w1 → d.K w x cs → d.K w1 x cs
theorem Cel.C {α : Type} {d : Kd α} (hd : Cel d) {w w1 : World} {A : Option Addr} {n : Nat} {xs : List α} (hb : CKeep w w1) (h : d.C w A n xs) : d.C w1 A n xs :=
  ⟨h.1, h.2.1, fun hn => by
    obtain ⟨ad, e, hc⟩ := h.2.2 hn
    refine ⟨ad, e, fun j p hj => ?_⟩
    obtain ⟨c, hs, hr, hcell⟩ := hc j p hj
    exact ⟨c, hs, hd.K hb hr, fun i u hu => hb _ _ (hcell i u hu)⟩⟩
theorem cel_scalar {α : Type} {enc : α → Value} {h1 : ∀ x, (enc x).oneCell' = true} : Cel (Kd.scalar enc h1) := ⟨fun _ h => h⟩
theorem cel_slice {α : Type} {d : Kd α} (e : Nat) (hd : Cel d) : Cel (Kd.slice e d) := ⟨by
  rintro w w1 x cs hb ⟨A, c, rfl, hl, hr⟩
  exact ⟨A, c, rfl, hl, hd.C hb hr⟩⟩
theorem cel_pair {α β : Type} {a : Kd α} {b : Kd β} (ha : Cel a) (hb' : Cel b) : Cel (Kd.pair a b) := ⟨by
  rintro w w1 x cs hb ⟨c0, c1, rfl, h0, h1⟩
  exact ⟨c0, c1, rfl, ha.K hb h0, hb'.K hb h1⟩⟩
theorem cel_iso {α β : Type} {d : Kd α} (f : β → α) (hd : Cel d) : Cel (Kd.iso d f) := ⟨fun hb h => hd.K hb h⟩
theorem cel_id : Cel kId := cel_iso _ (cel_pair cel_scalar cel_scalar)
theorem cel_cmd : Cel kCmd := cel_iso _ (cel_pair cel_scalar (cel_pair cel_scalar cel_scalar))
theorem cel_rec : Cel kRec := cel_iso _ (cel_pair cel_id (cel_pair cel_scalar (cel_pair (cel_slice _ cel_id) (cel_slice _ cel_cmd))))

def addAll (s : List Id) (l : List Id) : List Id := l.foldl (fun s x => if x ∈ s then s else s ++ [x]) s
theorem addAll_snoc (s l : List Id) (x : Id) : addAll s (l ++ [x]) = if x ∈ addAll s l then addAll s l else addAll s l ++ [x] := by unfold addAll; rw [List.foldl_append]; rfl
theorem take_succ_rd (l : List Id) (k : Nat) (h : k < l.length) : l.take (k + 1) = l.take k ++ [PRef.rd_T37 l k] := by
  rw [List.take_succ_eq_append_getElem h]
  simp [PRef.rd_T37, List.getD_eq_getElem?_getD, List.getElem?_eq_getElem h]
theorem run_clear_map {w : World} {mb : Nat} {m : List (Id × Value)} (h : MapAt w mb m) (t ty : TypeId) {d : TypeDesc} (ht : Try.prog.underlying t = some d) :
    ∃ w', (Builtin.clear_ #[t] ty #[.map (some mb)]).run Try.prog w = .ok (.tuple #[]) w' ∧ MapAt w' mb [] ∧ Turned w w' mb := by
  obtain ⟨es, clock, hb, _⟩ := h
  have hlt := (Array.getElem?_eq_some_iff.1 hb).1
  refine ⟨{ w with heap := w.heap.setIfInBounds mb (.map #[] clock) }, ?_, ⟨[], clock, by simp [hlt], rfl, by simp, by simp, by simp⟩, rfl, by simp, fun i hi => by simp [Ne.symm hi]⟩
  simp [Builtin.clear_, Sem.run_bind, run_underlying ht, getObj, setObj, Sem.run, hb, Sem.run_pure]
set_option maxRecDepth 100000 in
set_option maxHeartbeats 800000 in
theorem set_fill {w : World} {sb mb : Nat} {s : List Id} (h : SetAt w sb mb s) (A : Option Addr) (c : Nat) (l : List Id) (hC : Kd.C kId w A l.length l) (hlen : l.length ≤ 9223372036854775807) :
    Calls Try.prog 67 #[.pointer (some ⟨sb, 0, none⟩), .slice A l.length c] w fun e w' => e = .returned (.tuple #[]) ∧ SetAt w' sb mb (addAll [] l) ∧ w.grownBy w' (some mb) := by
  have hc := h.cell_
  obtain ⟨w1, hclr, hm1, ht1⟩ := run_clear_map h.map 103 0 (Try.underlying103)
  go_enter Try.func67, Try.ntmps67
  go_wp2
  have hgw1 := Aside0.mk (grown_turned (Below.refl _ _) ht1)
  have hsb1 : SetAt w1 sb mb [] := ⟨(ht1.2.2 sb (fun e => by have h4 := h.map.noCells 0; rw [← e] at h4; rw [h4] at hc; cases hc)).trans h.cell, hm1⟩
  have HSB1 := Aside0.mk hsb1
  have HM := Aside0.mk h.map
  have HC := Aside0.mk hC
  clear ht1 hm1 hclr hsb1 hC h hc
  go_loopw [12] (fun i wr => ∃ k : Nat, k ≤ l.length ∧ i = .int .i64 k ∧ Aside0 (SetAt wr sb mb (addAll [] (l.take k))) ∧ Aside0 (w.grownBy wr (some mb))) (fun i _ => l.length - (intOf i).toNat)
  case atStart => exact ⟨0, Nat.zero_le _, rfl, by simpa [addAll] using HSB1, hgw1⟩
  case round =>
    obtain ⟨k, hk, rfl, hS, hG⟩ := hrel
    by_cases hlt : k < l.length
    · have hCr := cel_id.C (CKeep.map HM.out hG.out) HC.out
      obtain ⟨ad, rfl, hx0, hx1⟩ := PRef.at_T37 hCr (k : Int) (by omega) (by omega)
      have HTk := Aside0.mk (take_succ_rd l k hlt)
      generalize PRef.rd_T37 l (k : Int) = x at hx0 hx1 HTk
      simp only [Int.toNat_natCast] at hx0 hx1
      obtain ⟨f, hrun, HF⟩ := hS.out.stores (.cells #[.int .i64 x.f0, .int .i64 x.f1] 37) x
      have hsb := (Array.getElem?_eq_some_iff.1 hS.out.cell).1
      have hc := hS.out.cell_
      have hrun1 := hrun 1
      rw [World.drewN_one] at hrun1
      go_wp2
      go_region
      all_goals go_wp2
      go_roundw
      case rel => exact ⟨k + 1, by omega, by go_num, ⟨by rw [HTk.out, addAll_snoc]; exact (HF _).out.1⟩, ⟨hG.out.trans (HF _).out.2⟩⟩
      case measure => simp [intOf]; omega
    · go_wp2
      go_end0
      obtain rfl : k = l.length := by omega
      exact ⟨rfl, by have := hS.out; rwa [List.take_length] at this, hG.out⟩
set_option maxRecDepth 100000 in
set_option maxHeartbeats 400000 in
theorem set_new (w : World) (A : Option Addr) (c : Nat) (l : List Id) (hC : Kd.C kId w A l.length l) (hlen : l.length ≤ 9223372036854775807) :
    Calls Try.prog 45 #[.slice A l.length c] w fun e w' => ∃ sb mb, e = .returned (.pointer (some ⟨sb, 0, none⟩)) ∧ SetAt w' sb mb (addAll [] l) ∧ w.heap.size ≤ sb ∧ w.heap.size ≤ mb ∧ Below w.heap.size w w' := by
  have hmm := @run_makeMap Try.prog
  have hB : Below w.heap.size w ((w.alloc (.map #[] 0)).alloc (.cells #[.map (some w.heap.size)] 105)) := ((Below.refl _ _).alloc (Nat.le_refl _) _).alloc (by simp) _
  have hS0 : SetAt ((w.alloc (.map #[] 0)).alloc (.cells #[.map (some w.heap.size)] 105)) (w.heap.size + 1) w.heap.size [] :=
    ⟨by have := heap_alloc_new (w.alloc (.map #[] 0)) (.cells #[.map (some w.heap.size)] 105); simpa using this, (mapAt_made w).same (Below.heap_alloc _ _ _ (by simp))⟩
  have hcon := set_fill hS0 A c l (cel_id.C (CKeep.below hB) hC) hlen
  have HB := Aside0.mk hB
  clear hB hS0 hC
  go_enter Try.func45, Try.ntmps45
  go_wp2_with (go_at_call 67; refine hcon.mono ?_; rintro e w' ⟨rfl, hS, hG⟩)
  go_ret
  exact ⟨_, _, rfl, hS, by omega, Nat.le_refl _, HB.out.grown hG (by simp; omega) (by rintro k hk; injection hk with hk; omega)⟩
end Go.Proofs.Ytjffghebcaklaaa
