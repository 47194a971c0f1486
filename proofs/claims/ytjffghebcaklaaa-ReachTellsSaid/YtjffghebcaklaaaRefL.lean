/- Plain: what the reference's checks of records tell; Few, Same. No program. -/
import Derived.Test.YtjffghebcaklaaaRefC
namespace Go.Proofs.Ytjffghebcaklaaa
open Go Go.RowKit Go.Shelf Go.Lib Go.Sort Go.Proofs.YtjffghebcaklaaaW.PrintWords Go.Proofs.YtjffghebcaklaaaW.PrintLast Go.Proofs.YtjffghebcaklaaaW.PrintMore
set_option linter.unusedVariables false
set_option linter.unusedSimpArgs false
theorem fKind_four {a : Nat} (h : a < 18446744073709551616) (hk : fKind a = 4) : a = 0 := by
  have h1 : fOrd a 0 = some .eq ∧ fNeg a = false := by
    unfold fKind at hk
    cases h1 : fNan a <;> simp only [h1, if_true, if_false, Bool.false_eq_true] at hk
    · by_cases h2 : (fOrd a 0 == some Ordering.eq) = true
      · simp only [h2, if_true] at hk
        cases h3 : fNeg a with
        | true => simp only [h3, if_true] at hk; omega
        | false => exact ⟨by simpa using h2, rfl⟩
      · rw [if_neg h2] at hk
        by_cases h4 : (fOrd a 0 == some Ordering.lt) = true
        · rw [if_pos h4] at hk
          by_cases h5 : (fOrd a 18442240474082181119 == some Ordering.lt) = true
          · rw [if_pos h5] at hk; omega
          · rw [if_neg h5] at hk; omega
        · rw [if_neg h4] at hk
          by_cases h5 : (fOrd a 9218868437227405311 == some Ordering.gt) = true
          · rw [if_pos h5] at hk; omega
          · rw [if_neg h5] at hk; omega
    · omega
  obtain ⟨h0, hn⟩ := h1
  obtain ⟨s, e, hr⟩ := fZero_read h0
  have hs : s = false := by unfold fNeg at hn; rw [hr] at hn; exact hn
  subst hs
  have hw : FloatKind.f64.format.signWeight = 9223372036854775808 := by decide +kernel
  have hb : FloatKind.f64.format.binade = 4503599627370496 := by decide +kernel
  unfold Ieee.Format.read at hr
  simp only [hw, hb] at hr
  split at hr
  · injection hr with e1 e2 e3
    have : a / 9223372036854775808 % 2 ≠ 1 := by simpa using e1
    omega
  · split at hr
    · injection hr with e1 e2 e3
      omega
    · split at hr <;> cases hr
theorem plus_zero : fSameP 0 0 = true := by decide +kernel
def cmdOk (c : Cmd) : Bool := keyB c.f1 && (decide (c.f0 = 2) || decide (c.f0 = 4) || ((decide (c.f0 = 1) || decide (c.f0 = 3)) && (fKind c.f2 == 4)))
theorem bt_nat (s : ByteArray) (i : Nat) (h : i < s.data.toList.length) : bt s (i : Int) = ((s.data.toList[i].toNat : Nat) : Int) := by
  have h' : ((i : Int)).toNat < s.size := by simpa using h
  unfold bt
  rw [dif_pos h']
  rfl
theorem ev_key0 (s : ByteArray) (hl : s.size ≤ 9223372036854775807) : ∀ (d i : Nat), i + d = s.data.toList.length → Ev (fun k => PRef.cortegeref06_Key.l0 k s (i : Int)) ((s.data.toList.drop i).all okByte && decide (1 ≤ s.size) && decide (s.size ≤ 12))
  | 0, i, hi => by
    have hz : s.data.toList.length = s.size := by rw [Array.length_toList]; rfl
    rw [List.drop_of_length_le (by omega)]
    refine Ev.step (fun k => ?_) (Ev.now _)
    simp only [PRef.cortegeref06_Key.l0]
    rw [if_neg (by omega)]
    by_cases h1 : 1 ≤ s.size
    · rw [if_pos (by omega)]; simp [h1]; omega
    · rw [if_neg (by omega)]; simp [h1]
  | d + 1, i, hi => by
    have hz : s.data.toList.length = s.size := by rw [Array.length_toList]; rfl
    have hlt : i < s.data.toList.length := by omega
    have hw := wrap_succ i (by omega)
    have hd := List.drop_eq_getElem_cons hlt
    have hb := bt_nat s i hlt
    rw [hd, List.all_cons]
    have ih := ev_key0 s hl d (i + 1) (by omega)
    generalize s.data.toList[i] = b at hb ⊢
    by_cases hk : okByte b = true
    · rw [hk, Bool.true_and]
      refine Ev.step (fun k => ?_) ih
      simp only [PRef.cortegeref06_Key.l0, hw, hb]
      rw [if_pos (by omega), if_pos (by omega)]
      simp only [okByte, Bool.or_eq_true, Bool.and_eq_true, decide_eq_true_eq] at hk
      by_cases h1 : ((b.toNat : Nat) : Int) ≥ 97
      · by_cases h2 : ((b.toNat : Nat) : Int) ≤ 122
        · simp only [h1, h2, if_true]
        · exfalso; omega
      · have h3 : ((b.toNat : Nat) : Int) ≥ 48 := by omega
        have h4 : ((b.toNat : Nat) : Int) ≤ 57 := by omega
        simp only [h1, h3, h4, if_true, if_false]
    · have hk' : okByte b = false := by simpa using hk
      rw [hk', Bool.false_and, Bool.false_and, Bool.false_and]
      refine Ev.step (fun k => ?_) (Ev.now _)
      simp only [PRef.cortegeref06_Key.l0, hw, hb]
      rw [if_pos (by omega), if_pos (by omega)]
      simp only [okByte, Bool.or_eq_true, Bool.and_eq_true, decide_eq_true_eq] at hk
      by_cases h1 : ((b.toNat : Nat) : Int) ≥ 97
      · have h2 : ¬ ((b.toNat : Nat) : Int) ≤ 122 := by omega
        have h3 : ((b.toNat : Nat) : Int) ≥ 48 := by omega
        have h4 : ¬ ((b.toNat : Nat) : Int) ≤ 57 := by omega
        simp only [h1, h2, h3, h4, if_true, if_false]
      · by_cases h3 : ((b.toNat : Nat) : Int) ≥ 48
        · have h4 : ¬ ((b.toNat : Nat) : Int) ≤ 57 := by omega
          simp only [h1, h3, h4, if_true, if_false]
        · simp only [h1, h3, if_false]
theorem ev_key (s : ByteArray) (hl : s.size ≤ 9223372036854775807) : Ev (fun k => PRef.cortegeref06_Key.f k s) (keyB s) := by
  have := ev_key0 s hl s.data.toList.length 0 (by omega)
  simpa [PRef.cortegeref06_Key.f, keyB] using this
theorem ev_right (c : Cmd) (hl : c.f1.size ≤ 9223372036854775807) : Ev (fun k => PRef.cortegeref06_Right.f k c.f0 c.f1 c.f2) (cmdOk c) := by
  unfold PRef.cortegeref06_Right.f
  refine Ev.bind (ev_key c.f1 hl) ?_
  unfold cmdOk
  cases keyB c.f1 with
  | false => simp; exact Ev.now _
  | true =>
    by_cases h2 : c.f0 = 2
    · simp [h2]; exact Ev.now _
    · by_cases h4 : c.f0 = 4
      · simp [h4]; exact Ev.now _
      · by_cases h1 : c.f0 = 1
        · simp [h1, PRef.cortegeref01_Kind.f]; exact Ev.now _
        · by_cases h3 : c.f0 = 3
          · simp [h3, PRef.cortegeref01_Kind.f]; exact Ev.now _
          · simp [h1, h2, h3, h4]; exact Ev.now _
theorem drop_rdC (l : List Cmd) (i : Nat) (h : i < l.length) : l.drop i = rdCmd l i :: l.drop (i + 1) := by
  rw [List.drop_eq_getElem_cons h]
  congr 1
  simp [rdCmd, PRef.rd_T115, List.getD_eq_getElem?_getD, List.getElem?_eq_getElem h]
/-- What a command's strings and floats always are. -/
def CmdW (c : Cmd) : Prop := c.f1.size ≤ 9223372036854775807 ∧ c.f2 < 18446744073709551616
theorem ev_batch0 (l : List Cmd) (hl : l.length ≤ 9223372036854775807) (hw : ∀ c ∈ l, CmdW c) : ∀ (d i : Nat), i + d = l.length → ∃ r, Ev (fun k => PRef.cortegeref07_Check.l0 k l (i : Int)) r ∧ (r = 0 → ∀ c ∈ l.drop i, cmdOk c = true)
  | 0, i, hi => by
    refine ⟨0, Ev.step (fun k => ?_) (Ev.now _), fun _ c hc => ?_⟩
    · simp only [PRef.cortegeref07_Check.l0]
      rw [if_neg (by omega)]
    · rw [List.drop_of_length_le (by omega)] at hc; cases hc
  | d + 1, i, hi => by
    have hlt : i < l.length := by omega
    have hw1 := wrap_succ i (by omega)
    have hd := drop_rdC l i hlt
    have hm : rdCmd l i ∈ l := List.mem_of_mem_drop (i := i) (by rw [hd]; exact List.mem_cons_self)
    have hr := ev_right (rdCmd l i) (hw _ hm).1
    obtain ⟨r, ih, hr0⟩ := ev_batch0 l hl hw d (i + 1) (by omega)
    cases hok : cmdOk (rdCmd l i) with
    | true =>
      rw [hok] at hr
      refine ⟨r, Ev.step (f := fun k => (PRef.cortegeref06_Right.f k (rdCmd l i).f0 (rdCmd l i).f1 (rdCmd l i).f2).bind fun t115 => (if t115 = true then (PRef.cortegeref07_Check.l0 k l (((i + 1 : Nat)) : Int)) else (some 12))) (fun k => ?_) (Ev.bind hr (by simpa using ih)), fun h0 c hc => ?_⟩
      · simp only [PRef.cortegeref07_Check.l0, hw1]
        rw [if_pos (by omega), if_pos (by omega)]
      · rw [hd] at hc
        rcases List.mem_cons.1 hc with rfl | hc
        · exact hok
        · exact hr0 h0 c hc
    | false =>
      rw [hok] at hr
      refine ⟨12, Ev.step (f := fun k => (PRef.cortegeref06_Right.f k (rdCmd l i).f0 (rdCmd l i).f1 (rdCmd l i).f2).bind fun t115 => (if t115 = true then (PRef.cortegeref07_Check.l0 k l (((i + 1 : Nat)) : Int)) else (some 12))) (fun k => ?_) (Ev.bind hr (by simpa using Ev.now _)), fun h0 => absurd h0 (by omega)⟩
      simp only [PRef.cortegeref07_Check.l0, hw1]
      rw [if_pos (by omega), if_pos (by omega)]
theorem ev_batch (l : List Cmd) (hl : l.length ≤ 9223372036854775807) (hw : ∀ c ∈ l, CmdW c) : ∃ r, Ev (fun k => PRef.cortegeref07_Check.f k l) r ∧ (r = 0 → l.length ≤ 8 ∧ ∀ c ∈ l, cmdOk c = true) := by
  unfold PRef.cortegeref07_Check.f
  by_cases h : (l.length : Int) > 8
  · exact ⟨5, by simpa [h] using Ev.now _, fun h0 => absurd h0 (by omega)⟩
  · obtain ⟨r, h1, h2⟩ := ev_batch0 l hl hw l.length 0 (by omega)
    refine ⟨r, by simpa [h] using h1, fun h0 => ⟨by omega, h2 h0⟩⟩
theorem ev_cmdCheck (c : Cmd) (hw : CmdW c) (hok : cmdOk c = true) : Ev (fun k => PRef.cmd_Check.f k c.f0 c.f1 c.f2) 0 := by
  simp only [cmdOk, Bool.and_eq_true, Bool.or_eq_true, decide_eq_true_eq, beq_iff_eq] at hok
  obtain ⟨hk, hf⟩ := hok
  refine Ev.step (f := fun _ => some 0) (fun k => ?_) (Ev.now _)
  have hw1 : ¬ ((wordOf c.f0).toList = ([] : List UInt8)) := by
    rcases hf with (h | h) | ⟨h | h, _⟩ <;> rw [h] <;> decide +kernel
  simp only [PRef.cmd_Check.f, PRef.cmd_word.f, Option.bind_some, if_neg hw1, PRef.cmd_key.f, if_pos hw.1, hk, Bool.not_true, PRef.cmd_Check.j0, PRef.cmd_plus.f, Bool.false_eq_true, if_false]
  rcases hf with (h | h) | ⟨h | h, h4⟩
  · simp [h]
  · simp [h]
  · have := fKind_four hw.2 h4
    simp [h, this, plus_zero]
  · have := fKind_four hw.2 h4
    simp [h, this, plus_zero]
theorem ev_batchCheck0 (l : List Cmd) (hl : l.length ≤ 9223372036854775807) (hw : ∀ c ∈ l, CmdW c) (hok : ∀ c ∈ l, cmdOk c = true) : ∀ (d i : Nat), i + d = l.length → Ev (fun k => PRef.batch_Check.l0 k l (l.length : Int) (i : Int)) 0
  | 0, i, hi => by
    refine Ev.step (fun k => ?_) (Ev.now _)
    simp only [PRef.batch_Check.l0]
    rw [if_neg (by omega)]
  | d + 1, i, hi => by
    have hlt : i < l.length := by omega
    have hw1 := wrap_succ i (by omega)
    have hd := drop_rdC l i hlt
    have hm : rdCmd l i ∈ l := List.mem_of_mem_drop (i := i) (by rw [hd]; exact List.mem_cons_self)
    have hr := ev_cmdCheck (rdCmd l i) (hw _ hm) (hok _ hm)
    have ih := ev_batchCheck0 l hl hw hok d (i + 1) (by omega)
    refine Ev.step (f := fun k => (PRef.cmd_Check.f k (rdCmd l i).f0 (rdCmd l i).f1 (rdCmd l i).f2).bind fun t221 => (if t221 = 0 then (PRef.batch_Check.l0 k l (l.length : Int) (((i + 1 : Nat)) : Int)) else (some t221))) (fun k => ?_) (Ev.bind hr (by simpa using ih))
    simp only [PRef.batch_Check.l0, hw1]
    rw [if_pos (by omega), if_pos (by omega), if_pos (by omega)]
theorem ev_does (r : Rec) (hl : r.f3.length ≤ 9223372036854775807) (hw : ∀ c ∈ r.f3, CmdW c) (h8 : r.f3.length ≤ 8) (hok : ∀ c ∈ r.f3, cmdOk c = true) : Ev (fun k => PRef.record_look_does.f k r.f0.f0 r.f0.f1 r.f1 r.f2 r.f3) 0 := by
  unfold PRef.record_look_does.f
  refine Ev.bind (a := 0) ?_ (Ev.now _)
  unfold PRef.batch_Check.f
  have := ev_batchCheck0 r.f3 hl hw hok r.f3.length 0 (by omega)
  have h : ¬ (r.f3.length : Int) > 8 := by omega
  simpa [h] using this
end Go.Proofs.Ytjffghebcaklaaa

namespace Go.Proofs.Ytjffghebcaklaaa
open Go Go.RowKit Go.Shelf Go.Lib Go.Sort Go.Proofs.YtjffghebcaklaaaW.PrintWords Go.Proofs.YtjffghebcaklaaaW.PrintLast Go.Proofs.YtjffghebcaklaaaW.PrintMore
set_option linter.unusedVariables false
set_option linter.unusedSimpArgs false
def DepOk (own : Id) (l : List Id) (i : Nat) : Prop := idErr (rdId l i) = 0 ∧ rdId l i ≠ own ∧ (0 < i → idLt (rdId l ((i - 1 : Nat) : Int)) (rdId l i))
/-- What a record's parts always are. -/
structure RecW (r : Rec) : Prop where
  deps : r.f2.length ≤ 9223372036854775807
  batch : r.f3.length ≤ 9223372036854775807
  cmds : ∀ c ∈ r.f3, CmdW c
theorem wrap_pred (i : Nat) (h : i < 9223372036854775807) (h0 : 0 < i) : wrap64 ((i : Int) - 1) = ((i - 1 : Nat) : Int) := by unfold wrap64; omega
theorem ev_ref08l (r : Rec) (hw : RecW r) : ∀ (d i : Nat), i + d = r.f2.length → ∃ e, Ev (fun k => PRef.cortegeref08_Check.l0 k (i : Int) r.f0.f0 r.f0.f1 r.f1 r.f2 r.f3) e ∧ (e = 0 → (∀ j, i ≤ j → j < r.f2.length → DepOk r.f0 r.f2 j) ∧ r.f3.length ≤ 8 ∧ ∀ c ∈ r.f3, cmdOk c = true)
  | 0, i, hi => by
    obtain ⟨e, h1, h2⟩ := ev_batch r.f3 hw.batch hw.cmds
    refine ⟨e, Ev.step (f := fun k => (PRef.cortegeref07_Check.f k r.f3).bind fun t119 => (some t119)) (fun k => ?_) (Ev.bind h1 (Ev.now _)), fun h0 => ⟨fun j h3 h4 => by omega, h2 h0⟩⟩
    simp only [PRef.cortegeref08_Check.l0]
    rw [if_neg (by omega)]
  | d + 1, i, hi => by
    have hdl := hw.deps
    have hlt : i < r.f2.length := by omega
    have hw1 := wrap_succ i (by omega)
    have hid := ev_refId (rdId r.f2 i)
    obtain ⟨e, ih, he⟩ := ev_ref08l r hw d (i + 1) (by omega)
    by_cases h0 : idErr (rdId r.f2 i) = 0
    · by_cases h1 : rdId r.f2 i = r.f0
      · have hb : ((rdId r.f2 i).f0 == r.f0.f0 && ((rdId r.f2 i).f1 == r.f0.f1)) = true := by rw [id_beq]; simp [h1]
        refine ⟨6, Ev.step (fun k => ?_) (Ev.bind (f := fun k t121 => if t121 = 0 then some 6 else (PRef.cortegeref08_id.f k (rdId r.f2 i).f0 (rdId r.f2 i).f1).bind fun t123 => some t123) hid (by rw [h0]; exact Ev.now _)), fun h => absurd h (by omega)⟩
        simp only [PRef.cortegeref08_Check.l0]
        rw [if_pos (by omega), if_pos (by omega)]
        simp only [show ((PRef.rd_T37 r.f2 (i : Int)).f0 == r.f0.f0 && ((PRef.rd_T37 r.f2 (i : Int)).f1 == r.f0.f1)) = true from hb, if_true]
      · have hb : ((rdId r.f2 i).f0 == r.f0.f0 && ((rdId r.f2 i).f1 == r.f0.f1)) = false := by rw [id_beq]; simp [h1]
        by_cases hi0 : 0 < i
        · have hp := wrap_pred i (by omega) hi0
          have hless := ev_less (rdId r.f2 ((i - 1 : Nat) : Int)) (rdId r.f2 i)
          by_cases hl : idLt (rdId r.f2 ((i - 1 : Nat) : Int)) (rdId r.f2 i)
          · refine ⟨e, Ev.step (fun k => ?_) (Ev.bind (f := fun k t121 => if t121 = 0 then PRef.cortegeref08_Check.l0 k ((i + 1 : Nat) : Int) r.f0.f0 r.f0.f1 r.f1 r.f2 r.f3 else (PRef.cortegeref08_id.f k (rdId r.f2 i).f0 (rdId r.f2 i).f1).bind fun t123 => some t123) hid (by rw [h0]; simpa using ih)), fun h => ⟨fun j h3 h4 => ?_, (he h).2⟩⟩
            · simp only [PRef.cortegeref08_Check.l0]
              rw [if_pos (by omega), if_pos (by omega)]
              simp only [show ((PRef.rd_T37 r.f2 (i : Int)).f0 == r.f0.f0 && ((PRef.rd_T37 r.f2 (i : Int)).f1 == r.f0.f1)) = false from hb, Bool.false_eq_true, if_false, hp, hw1]
              simp only [show ((i : Int)) > 0 from by omega, show (0 : Int) ≤ ((i - 1 : Nat) : Int) from by omega, show (((i - 1 : Nat) : Int)) < (r.f2.length : Int) from by omega, if_true]
              rw [show PRef.cortegeref03_Less.f (PRef.rd_T37 r.f2 ((i - 1 : Nat) : Int)).f0 (PRef.rd_T37 r.f2 ((i - 1 : Nat) : Int)).f1 (PRef.rd_T37 r.f2 (i : Int)).f0 (PRef.rd_T37 r.f2 (i : Int)).f1 = some (decide (idLt (rdId r.f2 ((i - 1 : Nat) : Int)) (rdId r.f2 i))) from hless]
              simp only [Option.bind_some, hl, decide_true, if_true]
            · by_cases hj : j = i
              · subst hj; exact ⟨h0, h1, fun _ => hl⟩
              · exact (he h).1 j (by omega) h4
          · refine ⟨11, Ev.step (fun k => ?_) (Ev.bind (f := fun k t121 => if t121 = 0 then some 11 else (PRef.cortegeref08_id.f k (rdId r.f2 i).f0 (rdId r.f2 i).f1).bind fun t123 => some t123) hid (by rw [h0]; exact Ev.now _)), fun h => absurd h (by omega)⟩
            simp only [PRef.cortegeref08_Check.l0]
            rw [if_pos (by omega), if_pos (by omega)]
            simp only [show ((PRef.rd_T37 r.f2 (i : Int)).f0 == r.f0.f0 && ((PRef.rd_T37 r.f2 (i : Int)).f1 == r.f0.f1)) = false from hb, Bool.false_eq_true, if_false, hp, hw1]
            simp only [show ((i : Int)) > 0 from by omega, show (0 : Int) ≤ ((i - 1 : Nat) : Int) from by omega, show (((i - 1 : Nat) : Int)) < (r.f2.length : Int) from by omega, if_true]
            rw [show PRef.cortegeref03_Less.f (PRef.rd_T37 r.f2 ((i - 1 : Nat) : Int)).f0 (PRef.rd_T37 r.f2 ((i - 1 : Nat) : Int)).f1 (PRef.rd_T37 r.f2 (i : Int)).f0 (PRef.rd_T37 r.f2 (i : Int)).f1 = some (decide (idLt (rdId r.f2 ((i - 1 : Nat) : Int)) (rdId r.f2 i))) from hless]
            simp only [Option.bind_some, hl, decide_false, Bool.false_eq_true, if_false]
        · refine ⟨e, Ev.step (fun k => ?_) (Ev.bind (f := fun k t121 => if t121 = 0 then PRef.cortegeref08_Check.l0 k ((i + 1 : Nat) : Int) r.f0.f0 r.f0.f1 r.f1 r.f2 r.f3 else (PRef.cortegeref08_id.f k (rdId r.f2 i).f0 (rdId r.f2 i).f1).bind fun t123 => some t123) hid (by rw [h0]; simpa using ih)), fun h => ⟨fun j h3 h4 => ?_, (he h).2⟩⟩
          · simp only [PRef.cortegeref08_Check.l0]
            rw [if_pos (by omega), if_pos (by omega)]
            simp only [show ((PRef.rd_T37 r.f2 (i : Int)).f0 == r.f0.f0 && ((PRef.rd_T37 r.f2 (i : Int)).f1 == r.f0.f1)) = false from hb, Bool.false_eq_true, if_false, hw1]
            simp only [show ¬ ((i : Int)) > 0 from by omega, if_false]
          · by_cases hj : j = i
            · subst hj; exact ⟨h0, h1, fun h => absurd h hi0⟩
            · exact (he h).1 j (by omega) h4
    · refine ⟨idErr (rdId r.f2 i), ?_, fun h => absurd h h0⟩
      obtain ⟨K, hK⟩ := hid
      refine ⟨K + 1, fun n hn => ?_⟩
      obtain ⟨m, rfl⟩ : ∃ m, n = m + 1 := ⟨n - 1, by omega⟩
      simp only [PRef.cortegeref08_Check.l0]
      rw [if_pos (by omega), if_pos (by omega), show PRef.cortegeref08_id.f m (PRef.rd_T37 r.f2 (i : Int)).f0 (PRef.rd_T37 r.f2 (i : Int)).f1 = _ from hK m (by omega)]
      simp only [Option.bind_some, if_neg h0]
theorem ev_deps0 (r : Rec) (hl : r.f2.length ≤ 9223372036854775807) (hok : ∀ j, j < r.f2.length → DepOk r.f0 r.f2 j) : ∀ (d i : Nat), i + d = r.f2.length → Ev (fun k => PRef.record_look_deps.l0 k r.f2 (r.f2.length : Int) (i : Int) r.f0.f0 r.f0.f1 r.f1 r.f2 r.f3) 0
  | 0, i, hi => by
    refine Ev.step (fun k => ?_) (Ev.now _)
    simp only [PRef.record_look_deps.l0]
    rw [if_neg (by omega)]
  | d + 1, i, hi => by
    have hlt : i < r.f2.length := by omega
    have hw1 := wrap_succ i (by omega)
    obtain ⟨h0, h1, h2⟩ := hok i hlt
    obtain ⟨K, hK⟩ := ev_identCheck (rdId r.f2 i)
    obtain ⟨K', hK'⟩ := ev_deps0 r hl hok d (i + 1) (by omega)
    obtain ⟨K2, hK2⟩ := ev_compare (rdId r.f2 ((i - 1 : Nat) : Int)) (rdId r.f2 i)
    have hb : ((rdId r.f2 i).f0 == r.f0.f0 && ((rdId r.f2 i).f1 == r.f0.f1)) = false := by rw [id_beq]; simp [h1]
    refine ⟨max K (max K' K2) + 1, fun n hn => ?_⟩
    obtain ⟨m, rfl⟩ : ∃ m, n = m + 1 := ⟨n - 1, by omega⟩
    simp only [PRef.record_look_deps.l0]
    rw [if_pos (by omega), if_pos (by omega), if_pos (by omega), show PRef.ident_Check.f m (PRef.rd_T37 r.f2 (i : Int)).f0 (PRef.rd_T37 r.f2 (i : Int)).f1 = _ from hK m (by omega), h0]
    simp only [Option.bind_some, if_true, show ((PRef.rd_T37 r.f2 (i : Int)).f0 == r.f0.f0 && ((PRef.rd_T37 r.f2 (i : Int)).f1 == r.f0.f1)) = false from hb, Bool.false_eq_true, if_false, hw1]
    by_cases hi0 : 0 < i
    · have hp := wrap_pred i (by omega) hi0
      have hc : idCmp (rdId r.f2 ((i - 1 : Nat) : Int)) (rdId r.f2 i) = -1 := by unfold idCmp; rw [if_pos (h2 hi0)]
      simp only [hp, show ((i : Int)) > 0 from by omega, show (0 : Int) ≤ ((i - 1 : Nat) : Int) from by omega, show (((i - 1 : Nat) : Int)) < (r.f2.length : Int) from by omega, if_true]
      rw [show PRef.ident_Compare.f m (PRef.rd_T37 r.f2 ((i - 1 : Nat) : Int)).f0 (PRef.rd_T37 r.f2 ((i - 1 : Nat) : Int)).f1 (PRef.rd_T37 r.f2 (i : Int)).f0 (PRef.rd_T37 r.f2 (i : Int)).f1 = _ from hK2 m (by omega), hc]
      simp only [Option.bind_some, show ¬ ((-1 : Int) ≥ 0) from by omega, if_false]
      exact hK' m (by omega)
    · simp only [show ¬ ((i : Int)) > 0 from by omega, if_false]
      exact hK' m (by omega)
theorem ev_deps (r : Rec) (hl : r.f2.length ≤ 16) (hok : ∀ j, j < r.f2.length → DepOk r.f0 r.f2 j) : Ev (fun k => PRef.record_look_deps.f k r.f0.f0 r.f0.f1 r.f1 r.f2 r.f3) 0 := by
  have := ev_deps0 r (by omega) hok r.f2.length 0 (by omega)
  unfold PRef.record_look_deps.f
  have h : ¬ (r.f2.length : Int) > 16 := by omega
  simpa [h] using this
theorem ev_own (r : Rec) (h0 : idErr r.f0 = 0) (h1 : 1 ≤ r.f1) (h2 : r.f1 ≤ 1073741824) : Ev (fun k => PRef.record_look_own.f k r.f0.f0 r.f0.f1 r.f1 r.f2 r.f3) 0 := by
  have h := ev_identCheck r.f0
  rw [h0] at h
  unfold PRef.record_look_own.f
  refine Ev.bind h ?_
  simp only [show ¬ r.f1 < 1 from by omega, show ¬ r.f1 > 1073741824 from by omega, if_true, if_false]
  exact Ev.now _
/-- What the reference takes as a record is one. -/
theorem ev_ref08 (r : Rec) (hw : RecW r) : ∃ e, Ev (fun k => PRef.cortegeref08_Check.f k r.f0.f0 r.f0.f1 r.f1 r.f2 r.f3) e ∧ (e = 0 → RecOk r ∧ r.f2.length ≤ 16 ∧ r.f3.length ≤ 8) := by
  have hid := ev_refId r.f0
  by_cases h0 : idErr r.f0 = 0
  · obtain ⟨K, hK⟩ := hid
    replace hK : ∀ k, K ≤ k → PRef.cortegeref08_id.f k r.f0.f0 r.f0.f1 = some (idErr r.f0) := hK
    by_cases h1 : r.f1 < 1
    · refine ⟨9, ⟨K + 1, fun n hn => ?_⟩, fun h => absurd h (by omega)⟩
      obtain ⟨m, rfl⟩ : ∃ m, n = m + 1 := ⟨n - 1, by omega⟩
      simp only [PRef.cortegeref08_Check.f]
      rw [hK (m + 1) (by omega), h0]
      simp [h1, PRef.cortegeref08_Check.j0]
    · by_cases h2 : r.f1 > 1073741824
      · refine ⟨9, ⟨K + 1, fun n hn => ?_⟩, fun h => absurd h (by omega)⟩
        obtain ⟨m, rfl⟩ : ∃ m, n = m + 1 := ⟨n - 1, by omega⟩
        simp only [PRef.cortegeref08_Check.f]
        rw [hK (m + 1) (by omega), h0]
        simp only [Option.bind_some, if_true, if_neg h1, decide_eq_true h2, PRef.cortegeref08_Check.j0]
      · by_cases h3 : (r.f2.length : Int) > 16
        · refine ⟨10, ⟨K + 1, fun n hn => ?_⟩, fun h => absurd h (by omega)⟩
          obtain ⟨m, rfl⟩ : ∃ m, n = m + 1 := ⟨n - 1, by omega⟩
          simp only [PRef.cortegeref08_Check.f]
          rw [hK (m + 1) (by omega), h0]
          simp only [Option.bind_some, if_true, if_neg h1, decide_eq_false h2, PRef.cortegeref08_Check.j0, Bool.false_eq_true, if_false, if_pos h3]
        · obtain ⟨e, ⟨K', hK'⟩, he⟩ := ev_ref08l r hw r.f2.length 0 (by omega)
          refine ⟨e, ⟨max K K' + 1, fun n hn => ?_⟩, fun h => ?_⟩
          · obtain ⟨m, rfl⟩ : ∃ m, n = m + 1 := ⟨n - 1, by omega⟩
            simp only [PRef.cortegeref08_Check.f]
            rw [hK (m + 1) (by omega), h0]
            simp only [Option.bind_some, if_true, if_neg h1, decide_eq_false h2, PRef.cortegeref08_Check.j0, Bool.false_eq_true, if_false, if_neg h3]
            exact hK' m (by omega)
          · obtain ⟨g1, g2, g3⟩ := he h
            have hl : r.f2.length ≤ 16 := by omega
            exact ⟨⟨ev_own r h0 (by omega) (by omega), ev_deps r hl (fun j hj => g1 j (by omega) hj), ev_does r hw.batch hw.cmds g2 g3, by omega, by omega⟩, hl, g2⟩
  · refine ⟨idErr r.f0, ?_, fun h => absurd h h0⟩
    obtain ⟨K, hK⟩ := hid
    replace hK : ∀ k, K ≤ k → PRef.cortegeref08_id.f k r.f0.f0 r.f0.f1 = some (idErr r.f0) := hK
    refine ⟨K, fun n hn => ?_⟩
    simp only [PRef.cortegeref08_Check.f]
    rw [hK n hn]
    simp only [Option.bind_some, if_neg h0]
theorem ev_ref15l (rs : List Rec) (hl : rs.length ≤ 9223372036854775807) (hw : ∀ r ∈ rs, RecW r) : ∀ (d i : Nat), i + d = rs.length → ∃ e, Ev (fun k => PRef.cortegeref15_Check.l0 k rs (i : Int)) e ∧ (e = 0 → ∀ j, i ≤ j → j < rs.length → (RecOk (rdRec rs j) ∧ (rdRec rs j).f2.length ≤ 16 ∧ (rdRec rs j).f3.length ≤ 8) ∧ hasRec (rs.take j) (rdRec rs j).f0 = false)
  | 0, i, hi => by
    refine ⟨0, Ev.step (fun k => ?_) (Ev.now _), fun _ j h1 h2 => by omega⟩
    simp only [PRef.cortegeref15_Check.l0]
    rw [if_neg (by omega)]
  | d + 1, i, hi => by
    have hlt : i < rs.length := by omega
    have hw1 := wrap_succ i (by omega)
    obtain ⟨e, ⟨K, hK⟩, he⟩ := ev_ref08 (rdRec rs i) (hw _ (rd_rec_mem rs i hlt))
    by_cases h0 : e = 0
    · subst h0
      obtain ⟨K1, hK1⟩ := ev_find (rs.take i) (rdRec rs i).f0 (by rw [List.length_take]; omega)
      rcases findAt_spec (rs.take i) (rdRec rs i).f0 with ⟨hf, hh, _⟩ | ⟨j, hf, _⟩
      · obtain ⟨e, ⟨K2, hK2⟩, he2⟩ := ev_ref15l rs hl hw d (i + 1) (by omega)
        refine ⟨e, ⟨max K (max K1 K2) + 1, fun n hn => ?_⟩, fun h j h1 h2 => ?_⟩
        · obtain ⟨m, rfl⟩ : ∃ m, n = m + 1 := ⟨n - 1, by omega⟩
          simp only [PRef.cortegeref15_Check.l0]
          rw [if_pos (by omega), if_pos (by omega), show PRef.cortegeref08_Check.f m (PRef.rd_T49 rs (i : Int)).f0.f0 (PRef.rd_T49 rs (i : Int)).f0.f1 (PRef.rd_T49 rs (i : Int)).f1 (PRef.rd_T49 rs (i : Int)).f2 (PRef.rd_T49 rs (i : Int)).f3 = _ from hK m (by omega)]
          simp only [Option.bind_some, if_true, Int.toNat_natCast, hw1]
          rw [if_pos (by omega), show PRef.cortegeref08_Find.f m (rs.take i) (PRef.rd_T49 rs (i : Int)).f0.f0 (PRef.rd_T49 rs (i : Int)).f0.f1 = _ from hK1 m (by omega), hf]
          simp only [Option.bind_some, show ¬ ((-1 : Int) ≥ 0) from by omega, if_false]
          exact hK2 m (by omega)
        · by_cases hj : j = i
          · subst hj; exact ⟨he rfl, hh⟩
          · exact he2 h j (by omega) h2
      · refine ⟨16, ⟨max K K1 + 1, fun n hn => ?_⟩, fun h => absurd h (by omega)⟩
        obtain ⟨m, rfl⟩ : ∃ m, n = m + 1 := ⟨n - 1, by omega⟩
        simp only [PRef.cortegeref15_Check.l0]
        rw [if_pos (by omega), if_pos (by omega), show PRef.cortegeref08_Check.f m (PRef.rd_T49 rs (i : Int)).f0.f0 (PRef.rd_T49 rs (i : Int)).f0.f1 (PRef.rd_T49 rs (i : Int)).f1 (PRef.rd_T49 rs (i : Int)).f2 (PRef.rd_T49 rs (i : Int)).f3 = _ from hK m (by omega)]
        simp only [Option.bind_some, if_true, Int.toNat_natCast, hw1]
        rw [if_pos (by omega), show PRef.cortegeref08_Find.f m (rs.take i) (PRef.rd_T49 rs (i : Int)).f0.f0 (PRef.rd_T49 rs (i : Int)).f0.f1 = _ from hK1 m (by omega), hf]
        simp only [Option.bind_some, show ((j : Int)) ≥ 0 from by omega, if_true]
    · refine ⟨e, ⟨K + 1, fun n hn => ?_⟩, fun h => absurd h h0⟩
      obtain ⟨m, rfl⟩ : ∃ m, n = m + 1 := ⟨n - 1, by omega⟩
      simp only [PRef.cortegeref15_Check.l0]
      rw [if_pos (by omega), if_pos (by omega), show PRef.cortegeref08_Check.f m (PRef.rd_T49 rs (i : Int)).f0.f0 (PRef.rd_T49 rs (i : Int)).f0.f1 (PRef.rd_T49 rs (i : Int)).f1 (PRef.rd_T49 rs (i : Int)).f2 (PRef.rd_T49 rs (i : Int)).f3 = _ from hK m (by omega)]
      simp only [Option.bind_some, if_neg h0]
/-- What the reference takes as records of a graph. -/
structure RecsOk (rs : List Rec) : Prop where
  each : ∀ r ∈ rs, RecOk r ∧ r.f2.length ≤ 16 ∧ r.f3.length ≤ 8
  once : OnceIds rs
theorem once_of {rs : List Rec} (h : ∀ j, j < rs.length → hasRec (rs.take j) (rdRec rs j).f0 = false) : OnceIds rs := by
  unfold OnceIds
  rw [List.nodup_iff_pairwise_ne, List.pairwise_iff_getElem]
  intro i j hi hj hij
  simp only [List.length_map] at hi hj
  have h1 := h j hj
  intro e
  simp only [List.getElem_map] at e
  have e2 : rdRec rs j = rs[j] := by simp [rdRec, PRef.rd_T49, List.getD_eq_getElem?_getD, List.getElem?_eq_getElem hj]
  rw [e2, Bool.eq_false_iff] at h1
  refine h1 ((hasRec_iff _ _).2 ⟨rs[i], ?_, e⟩)
  rw [List.mem_take_iff_getElem]
  exact ⟨i, by omega, rfl⟩
theorem ev_ref15 (rs : List Rec) (hl : rs.length ≤ 9223372036854775807) (hw : ∀ r ∈ rs, RecW r) : ∃ e, Ev (fun k => PRef.cortegeref15_Check.f k rs) e ∧ (e = 0 → RecsOk rs) := by
  obtain ⟨e, h1, h2⟩ := ev_ref15l rs hl hw rs.length 0 (by omega)
  refine ⟨e, h1, fun h => ⟨fun r hr => ?_, once_of fun j hj => (h2 h j (by omega) hj).2⟩⟩
  obtain ⟨j, hj, rfl⟩ := List.getElem_of_mem hr
  have e2 : rdRec rs j = rs[j] := by simp [rdRec, PRef.rd_T49, List.getD_eq_getElem?_getD, List.getElem?_eq_getElem hj]
  have := (h2 h j (by omega) hj).1
  rwa [e2] at this
def fewB (rs : List Rec) (n : Int) : Bool := rs.all (fun r => decide (r.f2.length ≤ 20) && decide (r.f3.length ≤ 20)) && decide ((rs.length : Int) ≤ n)
theorem ev_few0 (rs : List Rec) (n : Int) (hl : rs.length ≤ 9223372036854775807) : ∀ (d i : Nat), i + d = rs.length → Ev (fun k => PRef.cortegelaw15_Few.l0 k rs n (i : Int)) ((rs.drop i).all (fun r => decide (r.f2.length ≤ 20) && decide (r.f3.length ≤ 20)) && decide ((rs.length : Int) ≤ n))
  | 0, i, hi => by
    rw [List.drop_of_length_le (by omega)]
    refine Ev.step (fun k => ?_) (Ev.now _)
    simp only [PRef.cortegelaw15_Few.l0]
    rw [if_neg (by omega)]
    simp
  | d + 1, i, hi => by
    have hlt : i < rs.length := by omega
    have hw1 := wrap_succ i (by omega)
    rw [drop_rdR rs i hlt, List.all_cons]
    by_cases h2 : (rdRec rs i).f2.length ≤ 20
    · by_cases h3 : (rdRec rs i).f3.length ≤ 20
      · refine Ev.step (fun k => ?_) (by simpa [h2, h3] using ev_few0 rs n hl d (i + 1) (by omega))
        simp only [PRef.cortegelaw15_Few.l0, hw1]
        rw [if_pos (by omega), if_pos (by omega), if_neg (show ¬ ((PRef.rd_T49 rs (i : Int)).f2.length : Int) > 20 from by show ¬ ((rdRec rs (i : Int)).f2.length : Int) > 20; omega), if_neg (show ¬ ((PRef.rd_T49 rs (i : Int)).f3.length : Int) > 20 from by show ¬ ((rdRec rs (i : Int)).f3.length : Int) > 20; omega)]
        rfl
      · rw [show decide ((rdRec rs i).f3.length ≤ 20) = false from by simp; omega]
        refine Ev.step (f := fun _ => some false) (fun k => ?_) (by simpa using Ev.now _)
        simp only [PRef.cortegelaw15_Few.l0, hw1]
        rw [if_pos (by omega), if_pos (by omega), if_neg (show ¬ ((PRef.rd_T49 rs (i : Int)).f2.length : Int) > 20 from by show ¬ ((rdRec rs (i : Int)).f2.length : Int) > 20; omega), if_pos (show ((PRef.rd_T49 rs (i : Int)).f3.length : Int) > 20 from by show ((rdRec rs (i : Int)).f3.length : Int) > 20; omega)]
    · rw [show decide ((rdRec rs i).f2.length ≤ 20) = false from by simp; omega]
      refine Ev.step (f := fun _ => some false) (fun k => ?_) (by simpa using Ev.now _)
      simp only [PRef.cortegelaw15_Few.l0, hw1]
      rw [if_pos (by omega), if_pos (by omega), if_pos (show ((PRef.rd_T49 rs (i : Int)).f2.length : Int) > 20 from by show ((rdRec rs (i : Int)).f2.length : Int) > 20; omega)]
theorem ev_few (rs : List Rec) (n : Int) (hl : rs.length ≤ 9223372036854775807) : Ev (fun k => PRef.cortegelaw15_Few.f k rs n) (fewB rs n) := by
  have := ev_few0 rs n hl rs.length 0 (by omega)
  simpa [PRef.cortegelaw15_Few.f, fewB] using this
theorem ev_same0 (a b : List Id) (hl : a.length ≤ 9223372036854775807) (he : a.length = b.length) : ∀ (d i : Nat), i + d = a.length → Ev (fun k => PRef.cortegeref03_Same.l0 k a b (i : Int)) (decide (a.drop i = b.drop i))
  | 0, i, hi => by
    rw [List.drop_of_length_le (by omega), List.drop_of_length_le (by omega)]
    refine Ev.step (fun k => ?_) (Ev.now _)
    simp only [PRef.cortegeref03_Same.l0]
    rw [if_neg (by omega)]
    rfl
  | d + 1, i, hi => by
    have hlt : i < a.length := by omega
    have hw1 := wrap_succ i (by omega)
    rw [drop_rd a i hlt, drop_rd b i (by omega)]
    by_cases hx : rdId a i = rdId b i
    · have hb : (!((rdId a i).f0 == (rdId b i).f0) || (!((rdId a i).f1 == (rdId b i).f1))) = false := by rw [hx]; simp
      refine Ev.step (fun k => ?_) (by simpa [hx] using ev_same0 a b hl he d (i + 1) (by omega))
      simp only [PRef.cortegeref03_Same.l0, hw1]
      rw [if_pos (by omega), if_pos (by omega), if_pos (by omega), if_neg (by rw [show (!((PRef.rd_T37 a (i : Int)).f0 == (PRef.rd_T37 b (i : Int)).f0) || (!((PRef.rd_T37 a (i : Int)).f1 == (PRef.rd_T37 b (i : Int)).f1))) = false from hb]; simp)]
      rfl
    · have hb : (!((rdId a i).f0 == (rdId b i).f0) || (!((rdId a i).f1 == (rdId b i).f1))) = true := by
        have := id_beq (rdId a i) (rdId b i)
        rw [decide_eq_false hx] at this
        rw [← Bool.not_and, this]; rfl
      refine Ev.step (f := fun _ => some false) (fun k => ?_) (by simpa [hx] using Ev.now _)
      simp only [PRef.cortegeref03_Same.l0, hw1]
      rw [if_pos (by omega), if_pos (by omega), if_pos (by omega), if_pos (by rw [show (!((PRef.rd_T37 a (i : Int)).f0 == (PRef.rd_T37 b (i : Int)).f0) || (!((PRef.rd_T37 a (i : Int)).f1 == (PRef.rd_T37 b (i : Int)).f1))) = true from hb])]
theorem ev_same (a b : List Id) (hl : a.length ≤ 9223372036854775807) : Ev (fun k => PRef.cortegeref03_Same.f k a b) (decide (a = b)) := by
  unfold PRef.cortegeref03_Same.f
  by_cases h : a.length = b.length
  · have := ev_same0 a b hl h a.length 0 (by omega)
    simpa [h] using this
  · have h1 : ¬ ((a.length : Int) = (b.length : Int)) := by omega
    have h2 : a ≠ b := fun e => h (by rw [e])
    simp only [if_neg h1, decide_eq_false h2]
    exact Ev.now _
end Go.Proofs.Ytjffghebcaklaaa
