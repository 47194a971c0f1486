/- The reference's Sorted, Find and From. -/
import Derived.Test.YtjffghebcaklaaaPut
namespace Go.Proofs.Ytjffghebcaklaaa
open Go Go.RowKit Go.Shelf Go.Lib Go.Sort Go.Proofs.YtjffghebcaklaaaW.PrintWords Go.Proofs.YtjffghebcaklaaaW.PrintLast Go.Proofs.YtjffghebcaklaaaW.PrintMore
set_option linter.unusedVariables false
set_option linter.unusedSimpArgs false
attribute [local go_sem] run_store_float
set_option maxRecDepth 100000 in
set_option maxHeartbeats 800000 in
theorem refSorted_calls (l : List Id) (A : Option Addr) (c : Nat) (w : World) (hC : Kd.C kId w A l.length l) (hl : l.length ≤ 1048576) :
    Calls Try.prog 49 #[.slice A l.length c] w fun e w' => ∃ B d, e = .returned (.slice B (sortIds l).length d) ∧ Kd.C kId w' B (sortIds l).length (sortIds l) ∧ (sortIds l).length ≤ d ∧ Below w.heap.size w w' := by
  have HC := Aside0.mk hC
  have hO := ownIds_empty w w.heap.size (Nat.le_refl _)
  have hB : Below w.heap.size w (w.alloc (.cells #[] 37)) := (Below.refl _ _).alloc (Nat.le_refl _) _
  clear hC
  go_enter Try.func49, Try.ntmps49
  go_wp2
  generalize w.alloc (.cells #[] 37) = W0 at hO hB ⊢
  have HO := Aside0.mk hO
  have HB := Aside0.mk hB
  clear hO hB
  go_loopw [3, 4] (fun v i wr => ∃ (k : Nat) (A' : Option Addr) (c' : Nat) (acc : List Id), k ≤ l.length ∧ i = .int .i64 k ∧ v = .slice A' acc.length c' ∧ acc.length ≤ c' ∧ acc.length ≤ k ∧ Aside0 (acc = (l.take k).foldl putId []) ∧ Aside0 (Kd.C kId wr A' acc.length acc) ∧ Aside0 (Below w.heap.size w wr)) (fun _ i _ => l.length - (intOf i).toNat)
  case atStart => exact ⟨0, _, 0, [], Nat.zero_le _, rfl, rfl, Nat.le_refl _, Nat.le_refl _, ⟨by simp⟩, ⟨HO.out.C (by simp)⟩, HB⟩
  case round =>
    obtain ⟨k, A', c', acc, hk, rfl, rfl, hle, hlk, hacc, hCa, hBr⟩ := hrel
    by_cases hlt : k < l.length
    · obtain ⟨ad, rfl, x0, x1⟩ := PRef.at_T37 (cel_id.C (CKeep.below hBr.out) HC.out) (k : Int) (by omega) (by omega)
      have HT := Aside0.mk (take_succ_rd l k hlt)
      generalize PRef.rd_T37 l (k : Int) = y at x0 x1 HT
      simp only [Int.toNat_natCast] at x0 x1
      have hcall := put_calls acc y A' c' wr hCa.out hle (by omega)
      have hpl := (putId_length acc y).2
      go_wp2_with (go_at_call 31; refine hcall.mono ?_; rintro e w1 ⟨B, d, rfl, hC1, hd, hb1⟩)
      go_roundw
      case rel => exact ⟨k + 1, B, d, putId acc y, by omega, by go_num, rfl, hd, by omega, ⟨by rw [HT.out, List.foldl_append, ← hacc.out]; rfl⟩, ⟨hC1⟩, ⟨hBr.out.trans (hb1.mono hBr.out.size)⟩⟩
      case measure => simp [intOf]; omega
    · go_wp2
      go_ret
      obtain rfl : k = l.length := by omega
      have e : acc = sortIds l := by
        rw [hacc.out, List.take_length, foldPut_sort l [] List.Pairwise.nil, List.nil_append]
      rw [← e]
      exact ⟨_, _, rfl, hCa.out, hle, hBr.out⟩
def findAt (rs : List Rec) (x : Id) : Int := match rs.findIdx? (fun r => decide (r.f0 = x)) with | some i => (i : Int) | none => -1
theorem drop_rdR (l : List Rec) (i : Nat) (h : i < l.length) : l.drop i = rdRec l i :: l.drop (i + 1) := by
  rw [List.drop_eq_getElem_cons h]
  congr 1
  simp [rdRec, PRef.rd_T49, List.getD_eq_getElem?_getD, List.getElem?_eq_getElem h]
theorem ev_find0 (l : List Rec) (x : Id) (hl : l.length ≤ 9223372036854775807) : ∀ (d i : Nat), i + d = l.length → Ev (fun k => PRef.cortegeref08_Find.l0 k l (i : Int) x.f0 x.f1) (match (l.drop i).findIdx? (fun r => decide (r.f0 = x)) with | some j => ((i + j : Nat) : Int) | none => -1)
  | 0, i, hi => by
    rw [List.drop_of_length_le (by omega)]
    refine Ev.step (fun k => ?_) (Ev.now _)
    simp only [PRef.cortegeref08_Find.l0]
    rw [if_neg (by omega)]
    rfl
  | d + 1, i, hi => by
    have hlt : i < l.length := by omega
    have hw := wrap_succ i (by omega)
    have hd := drop_rdR l i hlt
    by_cases hx : (rdRec l i).f0 = x
    · have hb : ((rdRec l i).f0.f0 == x.f0 && ((rdRec l i).f0.f1 == x.f1)) = true := by rw [id_beq]; simp [hx]
      refine Ev.step (f := fun _ => some (i : Int)) (fun k => ?_) ?_
      · simp only [PRef.cortegeref08_Find.l0]
        rw [if_pos (by omega), if_pos (by omega), if_pos hb]
      · rw [hd, List.findIdx?_cons]
        simp only [hx, decide_true, if_true]
        exact Ev.now _
    · have hb : ((rdRec l i).f0.f0 == x.f0 && ((rdRec l i).f0.f1 == x.f1)) = false := by rw [id_beq]; simp [hx]
      refine Ev.step (f := fun k => PRef.cortegeref08_Find.l0 k l ((i + 1 : Nat) : Int) x.f0 x.f1) (fun k => ?_) ?_
      · simp only [PRef.cortegeref08_Find.l0]
        rw [if_pos (by omega), if_pos (by omega), if_neg (by rw [show ((PRef.rd_T49 l (i : Int)).f0.f0 == x.f0 && ((PRef.rd_T49 l (i : Int)).f0.f1 == x.f1)) = false from hb]; simp), hw]
      · have := ev_find0 l x hl d (i + 1) (by omega)
        rw [hd, List.findIdx?_cons]
        simp only [hx, decide_false, Bool.false_eq_true, if_false]
        cases hf : (l.drop (i + 1)).findIdx? (fun r => decide (r.f0 = x)) with
        | none => rw [hf] at this; exact this
        | some j =>
          rw [hf] at this
          simp only [Option.map_some]
          rw [show i + (j + 1) = i + 1 + j from by omega]
          exact this
theorem ev_find (l : List Rec) (x : Id) (hl : l.length ≤ 9223372036854775807) : Ev (fun k => PRef.cortegeref08_Find.f k l x.f0 x.f1) (findAt l x) := by
  have := ev_find0 l x hl l.length 0 (by omega)
  simp only [List.drop_zero, Nat.zero_add] at this
  exact this
theorem refFind_calls (rs : List Rec) (x : Id) (A : Option Addr) (c : Nat) (w : World) (hC : Kd.C kRec w A rs.length rs) (hc : rs.length ≤ c) :
    Calls Try.prog 33 #[.slice A rs.length c, .agg #[.int .i64 x.f0, .int .i64 x.f1]] w fun e w' => e = .returned (.int .i64 (findAt rs x)) ∧ Below w.heap.size w w' := by
  obtain ⟨k, hk⟩ := (ev_find rs x hC.2.1).rounds
  exact PRef.cortegeref08_Find.calls k A c rs x.f0 x.f1 _ w hC hc hk
theorem findAt_spec (rs : List Rec) (x : Id) : (findAt rs x = -1 ∧ hasRec rs x = false ∧ depsOf rs x = []) ∨ ∃ i : Nat, findAt rs x = (i : Int) ∧ i < rs.length ∧ hasRec rs x = true ∧ depsOf rs x = (rdRec rs i).f2 ∧ (rdRec rs i).f0 = x := by
  unfold findAt
  cases hf : rs.findIdx? (fun r => decide (r.f0 = x)) with
  | none =>
    left
    have h : hasRec rs x = false := by
      rw [Bool.eq_false_iff]
      intro h
      obtain ⟨r, hr, e⟩ := (hasRec_iff rs x).1 h
      have := List.findIdx?_eq_none_iff.1 hf r hr
      simp [e] at this
    exact ⟨rfl, h, depsOf_none h⟩
  | some i =>
    right
    obtain ⟨hi, hp, hmin⟩ := List.findIdx?_eq_some_iff_getElem.1 hf
    have e : rdRec rs i = rs[i] := by simp [rdRec, PRef.rd_T49, List.getD_eq_getElem?_getD, List.getElem?_eq_getElem hi]
    have hx : rs[i].f0 = x := by simpa using hp
    refine ⟨i, rfl, hi, (hasRec_iff rs x).2 ⟨rs[i], List.getElem_mem hi, hx⟩, ?_, by rw [e]; exact hx⟩
    have hfind : rs.find? (fun r => decide (r.f0 = x)) = some rs[i] := by
      rw [List.find?_eq_some_iff_getElem]
      exact ⟨by simpa using hp, i, hi, rfl, fun j hj => by have := hmin j hj; simpa using this⟩
    unfold depsOf
    rw [hfind, e]
    rfl
end Go.Proofs.Ytjffghebcaklaaa
