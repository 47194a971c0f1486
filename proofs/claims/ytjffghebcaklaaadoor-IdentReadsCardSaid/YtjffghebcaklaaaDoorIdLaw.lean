/- ident.Compare, works, and the two laws. -/
import Derived.Test.YtjffghebcaklaaaDoorIdRef
namespace Go.Proofs.YtjffghebcaklaaaDoor
open Go Go.RowKit Go.Proofs.YtjffghebcaklaaaDoorW.PrintWords Go.Proofs.YtjffghebcaklaaaDoorW.PrintLast Go.Proofs.YtjffghebcaklaaaDoorW.PrintMore
set_option linter.unusedVariables false
set_option linter.unusedSimpArgs false
def ltN (a0 a1 b0 b1 : Int) : Prop := a0 < b0 ∨ (a0 = b0 ∧ a1 < b1)
instance (a0 a1 b0 b1 : Int) : Decidable (ltN a0 a1 b0 b1) := by unfold ltN; infer_instance
def cmpN (a0 a1 b0 b1 : Int) : Int := if ltN a0 a1 b0 b1 then -1 else if ltN b0 b1 a0 a1 then 1 else 0
def cmpI (x y : Int) : Int := if x < y then -1 else if y < x then 1 else 0
theorem cmp_is (x y : Int) : PId.cmp_Compare_int.f x y = some (cmpI x y) := by
  unfold PId.cmp_Compare_int.f cmpI
  simp only [PId.cmp_isNaN_int.f]
  by_cases h1 : x < y
  · simp [h1]
  · by_cases h2 : y < x <;> simp [h1, h2]
theorem compare_f (a0 a1 b0 b1 : Int) : PId.ident_Compare.f 3 a0 a1 b0 b1 = some (cmpN a0 a1 b0 b1) := by
  unfold PId.ident_Compare.f cmpN ltN
  simp only [cmp_is, Option.bind_some, PId.cmp_Or_int.f, PId.cmp_Or_int.l0]
  unfold cmpI
  by_cases h1 : a0 = b0
  · by_cases h2 : a1 = b1
    · simp [h1, h2]
    · by_cases h3 : a1 < b1
      · simp [h1, h2, h3, rd, wrap64]
      · have h4 : b1 < a1 := by omega
        simp [h1, h2, h3, h4, rd, wrap64]
  · by_cases h3 : a0 < b0
    · simp [h1, h3, rd, wrap64]
    · have h4 : b0 < a0 := by omega
      have h5 : ¬ b0 = a0 := fun e => h1 e.symm
      simp [h1, h3, h4, h5, rd, wrap64]
theorem compare_calls (a0 a1 b0 b1 : Int) (w : World) :
    Calls Tryd.prog 11 #[.agg #[.int .i64 a0, .int .i64 a1], .agg #[.int .i64 b0, .int .i64 b1]] w fun e w' => e = .returned (.int .i64 (cmpN a0 a1 b0 b1)) ∧ Below w.heap.size w w' :=
  PId.ident_Compare.calls 3 a0 a1 b0 b1 _ w (compare_f a0 a1 b0 b1)
theorem less_calls (a0 a1 b0 b1 : Int) (w : World) :
    Calls Tryd.prog 10 #[.agg #[.int .i64 a0, .int .i64 a1], .agg #[.int .i64 b0, .int .i64 b1]] w fun e w' => e = .returned (.bool (decide (ltN a0 a1 b0 b1))) ∧ Below w.heap.size w w' := by
  refine PId.cortegeref03_Less.calls a0 a1 b0 b1 _ w ?_
  unfold PId.cortegeref03_Less.f ltN
  by_cases h : a0 = b0
  · simp [h]
  · simp [h]
theorem works_text : IsId ⟨#[50, 46, 49, 55]⟩ 2 17 := by
  have h : idErrN 2 17 = 0 := by decide
  refine ⟨h, ?_⟩
  rw [textS, if_pos h, textL_dec h]
  rw [show (2 : Int).toNat = 2 from rfl, show (17 : Int).toNat = 17 from rfl, Lib.decDigits_one (by omega), Lib.decDigits_two (by omega) (by omega)]
  rfl
set_option maxRecDepth 100000 in
set_option maxHeartbeats 1600000 in
theorem works_calls (w : World) (S : St w) :
    Calls Tryd.prog 13 #[] w fun e w' => e = .returned (.bool true) ∧ Below w.heap.size w w' := by
  have S' := Aside0.mk (fun (W : World) (hW : Below w.heap.size w W) => S.below hW (Nat.le_refl _))
  have hR := Aside0.mk (fun (W : World) (SW : St W) => read_is works_text W SW)
  have hT := Aside0.mk (fun (W : World) (SW : St W) => by have := text_calls 2 17 W SW; rw [works_text.2] at this; exact this)
  have hC := Aside0.mk (fun (W : World) => by have := compare_calls 2 17 3 1 W; rw [show cmpN 2 17 3 1 = -1 from by decide] at this; exact this)
  clear S
  go_enter Tryd.func13, Tryd.ntmps13
  go_wp2_with (first
    | (go_at_call 14; refine (hR.out _ (S'.out _ (Below.refl _ _))).mono ?_; rintro e w1 ⟨rfl, hb1⟩; have hq1 := Aside0.mk hb1; clear hb1)
    | (go_at_call 12; refine (hT.out _ (S'.out _ (below_alloc hq1.out _))).mono ?_; rintro e w2 ⟨rfl, hb2⟩
       have hq2 := Aside0.mk (below_step (below_alloc hq1.out _) hb2)
       have hy2 := (hb2.block w1.heap.size (by simp)).trans (heap_alloc_new w1 _)
       have hlt5 : w1.heap.size < w2.heap.size := (Array.getElem?_eq_some_iff.1 hy2).1
       have d20 := cell_of_row w2 w1.heap.size 0 _ _ _ hy2
       have d21 := cell_of_row w2 w1.heap.size 1 _ _ _ hy2
       clear hb2 hy2)
    | (go_at_call 11; refine (hC.out _).mono ?_; rintro e w3 ⟨rfl, hb3⟩; have hq3 := Aside0.mk (below_step hq2.out hb3); clear hb3))
  go_ret
  exact ⟨rfl, hq3.out⟩
set_option maxRecDepth 100000 in
set_option maxHeartbeats 1600000 in
theorem reads_calls (s : ByteArray) (hmax : s.size ≤ 9223372036854775807) (w : World) (S : St w) :
    Calls Tryd.prog 4 #[.string s] w fun e w' => e = .returned (.bool true) ∧ Below w.heap.size w w' := by
  have S' := Aside0.mk (fun (W : World) (hW : Below w.heap.size w W) => S.below hW (Nat.le_refl _))
  have hW := Aside0.mk works_calls
  by_cases hs : s.size ≤ 100
  · by_cases hid : ∃ r n, IsId s r n
    · obtain ⟨r, n, hid⟩ := hid
      have hR := Aside0.mk (fun (W : World) (SW : St W) => read_is hid W SW)
      have hF := Aside0.mk (fun (W : World) => refread_is_calls hid W)
      have h1 : decide ((s.size : Int) > 100) = false := decide_eq_false (by omega)
      clear S hid
      go_enter Tryd.func4, Tryd.ntmps4
      go_wp2_with (first
        | (go_at_call 14; refine (hR.out _ (S'.out _ (Below.refl _ _))).mono ?_; rintro e w1 ⟨rfl, hb1⟩; have hq1 := Aside0.mk hb1; clear hb1)
        | (go_at_call 16; refine (hF.out _).mono ?_; rintro e w2 ⟨rfl, hb2⟩
           have hq2 := Aside0.mk (below_step (below_alloc hq1.out _) hb2)
           have hy2 := (hb2.block w1.heap.size (by simp)).trans (heap_alloc_new w1 _)
           have hlt5 : w1.heap.size < w2.heap.size := (Array.getElem?_eq_some_iff.1 hy2).1
           have d20 := cell_of_row w2 w1.heap.size 0 _ _ _ hy2
           have d21 := cell_of_row w2 w1.heap.size 1 _ _ _ hy2
           clear hb2 hy2)
        | (go_at_call 13; refine (hW.out _ (S'.out _ (below_alloc hq2.out _))).mono ?_; rintro e w3 ⟨rfl, hb3⟩; have hq3 := Aside0.mk (below_step (below_alloc hq2.out _) hb3); clear hb3))
      go_ret
      exact ⟨rfl, hq3.out⟩
    · have hR := Aside0.mk (fun (W : World) (SW : St W) => read_not (s := s) (by omega) (fun r n hh => hid ⟨r, n, hh⟩) W SW)
      have hF := Aside0.mk (fun (W : World) => refread_not_calls (s := s) (by omega) (fun r n hh => hid ⟨r, n, hh⟩) W)
      have h1 : decide ((s.size : Int) > 100) = false := decide_eq_false (by omega)
      clear S hid
      go_enter Tryd.func4, Tryd.ntmps4
      go_wp2_with (first
        | (go_at_call 14; refine (hR.out _ (S'.out _ (Below.refl _ _))).mono ?_; rintro e w1 ⟨rfl, hb1⟩; have hq1 := Aside0.mk hb1; clear hb1)
        | (go_at_call 16; refine (hF.out _).mono ?_; rintro e w2 ⟨rfl, hb2⟩
           have hq2 := Aside0.mk (below_step (below_alloc hq1.out _) hb2)
           have hy2 := (hb2.block w1.heap.size (by simp)).trans (heap_alloc_new w1 _)
           have hlt5 : w1.heap.size < w2.heap.size := (Array.getElem?_eq_some_iff.1 hy2).1
           have d20 := cell_of_row w2 w1.heap.size 0 _ _ _ hy2
           have d21 := cell_of_row w2 w1.heap.size 1 _ _ _ hy2
           clear hb2 hy2)
        | (go_at_call 13; refine (hW.out _ (S'.out _ (below_alloc hq2.out _))).mono ?_; rintro e w3 ⟨rfl, hb3⟩; have hq3 := Aside0.mk (below_step (below_alloc hq2.out _) hb3); clear hb3))
      go_ret
      exact ⟨rfl, hq3.out⟩
  · have h1 : decide ((s.size : Int) > 100) = true := decide_eq_true (by omega)
    go_enter Tryd.func4, Tryd.ntmps4
    go_wp2_with (first
      | (go_at_call 13; refine (hW.out _ (S'.out _ (Below.refl _ _))).mono ?_; rintro e w3 ⟨rfl, hb3⟩))
    go_ret
    exact ⟨rfl, hb3⟩
/-- The two boxed ids. -/
def Two (W : World) (b : Nat) (r n r' n' : Int) : Prop := W.heap[b]? = some (.cells #[.int .i64 r, .int .i64 n] 23 (0, 0)) ∧ W.heap[b + 1]? = some (.cells #[.int .i64 r', .int .i64 n'] 23 (0, 0))
theorem Two.facts {W : World} {b : Nat} {r n r' n' : Int} (h : Two W b r n r' n') : (W.cell? ⟨b, 0, none⟩ = some (.int .i64 r) ∧ W.cell? ⟨b, 1, none⟩ = some (.int .i64 n)) ∧ (W.cell? ⟨b + 1, 0, none⟩ = some (.int .i64 r') ∧ W.cell? ⟨b + 1, 1, none⟩ = some (.int .i64 n')) ∧ b < W.heap.size ∧ b + 1 < W.heap.size :=
  ⟨⟨cell_of_row W b 0 _ _ _ h.1, cell_of_row W b 1 _ _ _ h.1⟩, ⟨cell_of_row W (b + 1) 0 _ _ _ h.2, cell_of_row W (b + 1) 1 _ _ _ h.2⟩, (Array.getElem?_eq_some_iff.1 h.1).1, (Array.getElem?_eq_some_iff.1 h.2).1⟩
theorem Two.below {W W' : World} {b : Nat} {r n r' n' : Int} (h : Two W b r n r' n') (hb : Below W.heap.size W W') : Two W' b r n r' n' :=
  ⟨(hb.block _ (Array.getElem?_eq_some_iff.1 h.1).1).trans h.1, (hb.block _ (Array.getElem?_eq_some_iff.1 h.2).1).trans h.2⟩
theorem Two.alloc {W : World} {b : Nat} {r n r' n' : Int} (h : Two W b r n r' n') (o : Obj) : Two (W.alloc o) b r n r' n' := ⟨at_old h.1 o, at_old h.2 o⟩
set_option maxRecDepth 100000 in
set_option maxHeartbeats 3200000 in
theorem tells_ok (r n r' n' : Int) (w : World) (S : St w) (h : idErrN r n = 0) (c1 c2 : Bool) (cn : Int) (hcn : cn = if c2 then 1 else if c1 then -1 else 0)
    (hL1 : ∀ w, Calls Tryd.prog 10 #[.agg #[.int .i64 r, .int .i64 n], .agg #[.int .i64 r', .int .i64 n']] w fun e w' => e = .returned (.bool c1) ∧ Below w.heap.size w w')
    (hL2 : ∀ w, Calls Tryd.prog 10 #[.agg #[.int .i64 r', .int .i64 n'], .agg #[.int .i64 r, .int .i64 n]] w fun e w' => e = .returned (.bool c2) ∧ Below w.heap.size w w')
    (hC : ∀ w, Calls Tryd.prog 11 #[.agg #[.int .i64 r, .int .i64 n], .agg #[.int .i64 r', .int .i64 n']] w fun e w' => e = .returned (.int .i64 cn) ∧ Below w.heap.size w w') :
    Calls Tryd.prog 3 #[.agg #[.int .i64 r, .int .i64 n], .agg #[.int .i64 r', .int .i64 n']] w fun e w' => e = .returned (.bool true) ∧ Below w.heap.size w w' := by
  obtain ⟨g1, g2, g3, g4⟩ := idErr_ok.1 h
  have t1 : decide (n < 1) = false := decide_eq_false (by omega)
  have t2 : decide (n > 1048576) = false := decide_eq_false (by omega)
  have t3 : decide (r < 0) = false := decide_eq_false (by omega)
  have t4 : decide (r > 7) = false := decide_eq_false (by omega)
  have S' := Aside0.mk (fun (W : World) (hW : Below w.heap.size w W) => S.below hW (Nat.le_refl _))
  have hW := Aside0.mk works_calls
  have hK := Aside0.mk (fun W => by have := check_calls r n W; rw [h] at this; exact this)
  have hT := Aside0.mk (fun (W : World) (SW : St W) => text_calls r n W SW)
  have hF := Aside0.mk (fun (W : World) => reftext_calls h W)
  have hR := Aside0.mk (fun (W : World) (SW : St W) => read_is (s := textS r n) ⟨h, rfl⟩ W SW)
  have hL1 := Aside0.mk hL1
  have hL2 := Aside0.mk hL2
  have hC := Aside0.mk hC
  clear g1 g2 g3 g4 h S
  cases c1 <;> cases c2 <;> simp only [if_true, if_false, Bool.false_eq_true] at hcn <;> subst hcn
  all_goals
    go_enter Tryd.func3, Tryd.ntmps3
    go_wp2_with (first
      | (go_at_call 9; refine (hK.out _).mono ?_; rintro e w1 ⟨rfl, hb1⟩
         have hm1 := Aside0.mk (Two.below (r := r) (n := n) (r' := r') (n' := n') ⟨at_old (heap_alloc_new w _) _, by have := heap_alloc_new (w.alloc (.cells #[.int .i64 r, .int .i64 n] 23)) (.cells #[.int .i64 r', .int .i64 n'] 23); simpa using this⟩ hb1)
         have hq1 := Aside0.mk (below_step (below_alloc (below_alloc (Below.refl w.heap.size w) _) _) hb1)
         obtain ⟨⟨m11, m12⟩, ⟨m13, m14⟩, m15, m16⟩ := hm1.out.facts
         clear hb1)
      | (go_at_call 10; have hh := hq2; clear hh; refine (hL2.out _).mono ?_; rintro e w3 ⟨rfl, hb3⟩
         have hm3 := Aside0.mk (Two.below hm2.out hb3)
         have hq3 := Aside0.mk (below_step hq2.out hb3)
         obtain ⟨⟨m31, m32⟩, ⟨m33, m34⟩, m35, m36⟩ := hm3.out.facts
         clear hb3)
      | (go_at_call 10; refine (hL1.out _).mono ?_; rintro e w2 ⟨rfl, hb2⟩
         have hm2 := Aside0.mk (Two.below hm1.out hb2)
         have hq2 := Aside0.mk (below_step hq1.out hb2)
         obtain ⟨⟨m21, m22⟩, ⟨m23, m24⟩, m25, m26⟩ := hm2.out.facts
         clear hb2)
      | (go_at_call 11; refine (hC.out _).mono ?_; rintro e w4 ⟨rfl, hb4⟩
         have hm4 := Aside0.mk (Two.below hm3.out hb4)
         have hq4 := Aside0.mk (below_step hq3.out hb4)
         obtain ⟨⟨m41, m42⟩, ⟨m43, m44⟩, m45, m46⟩ := hm4.out.facts
         clear hb4)
      | (go_at_call 12; refine (hT.out _ (S'.out _ hq4.out)).mono ?_; rintro e w5 ⟨rfl, hb5⟩
         have hm5 := Aside0.mk (Two.below hm4.out hb5)
         have hq5 := Aside0.mk (below_step hq4.out hb5)
         obtain ⟨⟨m51, m52⟩, ⟨m53, m54⟩, m55, m56⟩ := hm5.out.facts
         clear hb5)
      | (go_at_call 14; refine (hR.out _ (S'.out _ hq5.out)).mono ?_; rintro e w6 ⟨rfl, hb6⟩
         have hm6 := Aside0.mk (Two.below hm5.out hb6)
         have hq6 := Aside0.mk (below_step hq5.out hb6)
         obtain ⟨⟨m61, m62⟩, ⟨m63, m64⟩, m65, m66⟩ := hm6.out.facts
         clear hb6)
      | (go_at_call 15; refine (hF.out _).mono ?_; rintro e w7 ⟨rfl, hb7⟩
         have hm7 := Aside0.mk (Two.below (hm6.out.alloc _) hb7)
         have hq7 := Aside0.mk (below_step (below_alloc hq6.out _) hb7)
         obtain ⟨⟨m71, m72⟩, ⟨m73, m74⟩, m75, m76⟩ := hm7.out.facts
         have hy7 := (hb7.block w6.heap.size (by simp)).trans (heap_alloc_new w6 _)
         have hlt7 : w6.heap.size < w7.heap.size := (Array.getElem?_eq_some_iff.1 hy7).1
         have d70 := cell_of_row w7 w6.heap.size 0 _ _ _ hy7
         have d71 := cell_of_row w7 w6.heap.size 1 _ _ _ hy7
         clear hb7 hy7)
      | (go_at_call 13; refine (hW.out _ (S'.out _ hq7.out)).mono ?_; rintro e w8 ⟨rfl, hb8⟩; have hq8 := Aside0.mk (below_step hq7.out hb8); clear hb8))
  all_goals
    go_ret
    exact ⟨rfl, hq8.out⟩
set_option maxRecDepth 100000 in
set_option maxHeartbeats 16000000 in
theorem tells_bad (r n r' n' : Int) (w : World) (S : St w) (c1 c2 : Bool) (cn ee : Int) (hcn : cn = if c2 then 1 else if c1 then -1 else 0) (b1 b2 b3 b4 : Bool) (t1 : decide (n < 1) = b1) (t2 : decide (n > 1048576) = b2) (t3 : decide (r < 0) = b3) (t4 : decide (r > 7) = b4)
    (hK : ∀ w, Calls Tryd.prog 9 #[.agg #[.int .i64 r, .int .i64 n]] w fun e w' => e = .returned (.int .i64 ee) ∧ Below w.heap.size w w')
    (hT : ∀ w, St w → Calls Tryd.prog 12 #[.agg #[.int .i64 r, .int .i64 n]] w fun e w' => e = .returned (.string ⟨#[]⟩) ∧ Below w.heap.size w w')
    (hb : (b3 = true ∧ b1 = true ∧ ee = 7) ∨ (b3 = true ∧ b1 = false ∧ b2 = true ∧ ee = 7) ∨ (b3 = true ∧ b1 = false ∧ b2 = false ∧ ee = 7) ∨ (b3 = false ∧ b4 = true ∧ b1 = true ∧ ee = 7) ∨ (b3 = false ∧ b4 = true ∧ b1 = false ∧ b2 = true ∧ ee = 7) ∨ (b3 = false ∧ b4 = true ∧ b1 = false ∧ b2 = false ∧ ee = 7) ∨ (b3 = false ∧ b4 = false ∧ b1 = true ∧ ee = 8) ∨ (b3 = false ∧ b4 = false ∧ b1 = false ∧ b2 = true ∧ ee = 8))
    (hL1 : ∀ w, Calls Tryd.prog 10 #[.agg #[.int .i64 r, .int .i64 n], .agg #[.int .i64 r', .int .i64 n']] w fun e w' => e = .returned (.bool c1) ∧ Below w.heap.size w w')
    (hL2 : ∀ w, Calls Tryd.prog 10 #[.agg #[.int .i64 r', .int .i64 n'], .agg #[.int .i64 r, .int .i64 n]] w fun e w' => e = .returned (.bool c2) ∧ Below w.heap.size w w')
    (hC : ∀ w, Calls Tryd.prog 11 #[.agg #[.int .i64 r, .int .i64 n], .agg #[.int .i64 r', .int .i64 n']] w fun e w' => e = .returned (.int .i64 cn) ∧ Below w.heap.size w w') :
    Calls Tryd.prog 3 #[.agg #[.int .i64 r, .int .i64 n], .agg #[.int .i64 r', .int .i64 n']] w fun e w' => e = .returned (.bool true) ∧ Below w.heap.size w w' := by
  have S' := Aside0.mk (fun (W : World) (hW : Below w.heap.size w W) => S.below hW (Nat.le_refl _))
  have hW := Aside0.mk works_calls
  have hK := Aside0.mk hK
  have hT := Aside0.mk hT
  have hL1 := Aside0.mk hL1
  have hL2 := Aside0.mk hL2
  have hC := Aside0.mk hC
  clear S
  rcases hb with ⟨rfl, rfl, rfl⟩ | ⟨rfl, rfl, rfl, rfl⟩ | ⟨rfl, rfl, rfl, rfl⟩ | ⟨rfl, rfl, rfl, rfl⟩ | ⟨rfl, rfl, rfl, rfl, rfl⟩ | ⟨rfl, rfl, rfl, rfl, rfl⟩ | ⟨rfl, rfl, rfl, rfl⟩ | ⟨rfl, rfl, rfl, rfl, rfl⟩
  all_goals (cases c1 <;> cases c2 <;> simp only [if_true, if_false, Bool.false_eq_true] at hcn <;> subst hcn)
  all_goals
    go_enter Tryd.func3, Tryd.ntmps3
    go_wp2_with (first
      | (go_at_call 9; refine (hK.out _).mono ?_; rintro e w1 ⟨rfl, hb1⟩
         have hm1 := Aside0.mk (Two.below (r := r) (n := n) (r' := r') (n' := n') ⟨at_old (heap_alloc_new w _) _, by have := heap_alloc_new (w.alloc (.cells #[.int .i64 r, .int .i64 n] 23)) (.cells #[.int .i64 r', .int .i64 n'] 23); simpa using this⟩ hb1)
         have hq1 := Aside0.mk (below_step (below_alloc (below_alloc (Below.refl w.heap.size w) _) _) hb1)
         obtain ⟨⟨m11, m12⟩, ⟨m13, m14⟩, m15, m16⟩ := hm1.out.facts
         clear hb1)
      | (go_at_call 10; have hh := hq2; clear hh; refine (hL2.out _).mono ?_; rintro e w3 ⟨rfl, hb3⟩
         have hm3 := Aside0.mk (Two.below hm2.out hb3)
         have hq3 := Aside0.mk (below_step hq2.out hb3)
         obtain ⟨⟨m31, m32⟩, ⟨m33, m34⟩, m35, m36⟩ := hm3.out.facts
         clear hb3)
      | (go_at_call 10; refine (hL1.out _).mono ?_; rintro e w2 ⟨rfl, hb2⟩
         have hm2 := Aside0.mk (Two.below hm1.out hb2)
         have hq2 := Aside0.mk (below_step hq1.out hb2)
         obtain ⟨⟨m21, m22⟩, ⟨m23, m24⟩, m25, m26⟩ := hm2.out.facts
         clear hb2)
      | (go_at_call 11; refine (hC.out _).mono ?_; rintro e w4 ⟨rfl, hb4⟩
         have hm4 := Aside0.mk (Two.below hm3.out hb4)
         have hq4 := Aside0.mk (below_step hq3.out hb4)
         obtain ⟨⟨m41, m42⟩, ⟨m43, m44⟩, m45, m46⟩ := hm4.out.facts
         clear hb4)
      | (go_at_call 12; refine (hT.out _ (S'.out _ hq4.out)).mono ?_; rintro e w5 ⟨rfl, hb5⟩
         have hm5 := Aside0.mk (Two.below hm4.out hb5)
         have hq5 := Aside0.mk (below_step hq4.out hb5)
         obtain ⟨⟨m51, m52⟩, ⟨m53, m54⟩, m55, m56⟩ := hm5.out.facts
         clear hb5)
      | (go_at_call 13; refine (hW.out _ (S'.out _ hq5.out)).mono ?_; rintro e w8 ⟨rfl, hb8⟩; have hq8 := Aside0.mk (below_step hq5.out hb8); clear hb8))
  all_goals
    go_ret
    exact ⟨rfl, hq8.out⟩
theorem tells_calls (r n r' n' : Int) (w : World) (S : St w) :
    Calls Tryd.prog 3 #[.agg #[.int .i64 r, .int .i64 n], .agg #[.int .i64 r', .int .i64 n']] w fun e w' => e = .returned (.bool true) ∧ Below w.heap.size w w' := by
  have hcn : cmpN r n r' n' = if decide (ltN r' n' r n) = true then 1 else if decide (ltN r n r' n') = true then -1 else 0 := by
    unfold cmpN
    by_cases h1 : ltN r n r' n'
    · have h2 : ¬ ltN r' n' r n := by unfold ltN at h1 ⊢; omega
      simp [h1, h2]
    · simp [h1]
  by_cases h : idErrN r n = 0
  · exact tells_ok r n r' n' w S h _ _ _ hcn (less_calls r n r' n') (less_calls r' n' r n) (compare_calls r n r' n')
  · refine tells_bad r n r' n' w S _ _ _ (idErrN r n) hcn _ _ _ _ rfl rfl rfl rfl (check_calls r n) (fun W SW => by have := text_calls r n W SW; rw [textS_none h] at this; exact this) ?_ (less_calls r n r' n') (less_calls r' n' r n) (compare_calls r n r' n')
    have hn : ¬ (0 ≤ r ∧ r ≤ 7 ∧ 1 ≤ n ∧ n ≤ 1048576) := fun e => h (idErr_ok.2 e)
    have e7 : (r < 0 ∨ 7 < r) → idErrN r n = 7 := fun e => by unfold idErrN; rw [if_pos e]
    have e8 : ¬ (r < 0 ∨ 7 < r) → idErrN r n = 8 := fun e => by unfold idErrN; rw [if_neg e, if_pos (by omega)]
    simp only [decide_eq_true_eq, decide_eq_false_iff_not]
    by_cases q3 : r < 0
    · have := e7 (Or.inl q3); by_cases q1 : n < 1 <;> by_cases q2 : n > 1048576 <;> simp [q1, q2, q3, this]
    · by_cases q4 : r > 7
      · have := e7 (Or.inr q4); by_cases q1 : n < 1 <;> by_cases q2 : n > 1048576 <;> simp [q1, q2, q3, q4, this]
      · have := e8 (by omega)
        by_cases q1 : n < 1
        · simp [q1, q3, q4, this]
        · have q2 : n > 1048576 := by omega
          simp [q1, q2, q3, q4, this]
end Go.Proofs.YtjffghebcaklaaaDoor
