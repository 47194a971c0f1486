/- The program's package record: Check by its three parts, and Copy. -/
import Derived.Test.YtjffghebcaklaaaSet
namespace Go.Proofs.Ytjffghebcaklaaa
open Go Go.RowKit Go.Proofs.YtjffghebcaklaaaW.PrintWords Go.Proofs.YtjffghebcaklaaaW.PrintLast Go.Proofs.YtjffghebcaklaaaW.PrintMore
set_option linter.unusedVariables false
set_option linter.unusedSimpArgs false
attribute [local go_sem] run_store_float
def sel3 (e1 e2 e3 : Int) : Int := if e1 = 0 then if e2 = 0 then e3 else e2 else e1
set_option maxRecDepth 100000 in
set_option maxHeartbeats 1600000 in
theorem recCheck_parts (r : Rec) (A A' : Option Addr) (c c' : Nat) (w : World) (hC : Kd.C kId w A r.f2.length r.f2) (hc : r.f2.length ≤ c) (hC' : Kd.C kCmd w A' r.f3.length r.f3) (hc' : r.f3.length ≤ c')
    (e1 e2 e3 : Int) (h1 : Ev (fun k => PRef.record_look_own.f k r.f0.f0 r.f0.f1 r.f1 r.f2 r.f3) e1) (h2 : Ev (fun k => PRef.record_look_deps.f k r.f0.f0 r.f0.f1 r.f1 r.f2 r.f3) e2) (h3 : Ev (fun k => PRef.record_look_does.f k r.f0.f0 r.f0.f1 r.f1 r.f2 r.f3) e3) :
    Calls Try.prog 39 #[.agg #[.int .i64 r.f0.f0, .int .i64 r.f0.f1, .int .i64 r.f1, .slice A r.f2.length c, .slice A' r.f3.length c']] w fun e w' => e = .returned (.int .i64 (sel3 e1 e2 e3)) ∧ Below w.heap.size w w' := by
  obtain ⟨k1, g1⟩ := h1.rounds
  obtain ⟨k2, g2⟩ := h2.rounds
  obtain ⟨k3, g3⟩ := h3.rounds
  have c1 := fun (W : World) (hb : CKeep w W) => PRef.record_look_own.calls k1 r.f0.f0 r.f0.f1 r.f1 A c r.f2 A' c' r.f3 e1 W (cel_id.C hb hC) hc (cel_cmd.C hb hC') hc' g1
  have c2 := fun (W : World) (hb : CKeep w W) => PRef.record_look_deps.calls k2 r.f0.f0 r.f0.f1 r.f1 A c r.f2 A' c' r.f3 e2 W (cel_id.C hb hC) hc (cel_cmd.C hb hC') hc' g2
  have c3 := fun (W : World) (hb : CKeep w W) => PRef.record_look_does.calls k3 r.f0.f0 r.f0.f1 r.f1 A c r.f2 A' c' r.f3 e3 W (cel_id.C hb hC) hc (cel_cmd.C hb hC') hc' g3
  have C1 := Lib.hid c1
  have C2 := Lib.hid c2
  have C3 := Lib.hid c3
  clear c1 c2 c3 g1 g2 g3 h1 h2 h3 hC hC' hc hc'
  go_enter Try.func39, Try.ntmps39
  go_wp2
  have hB : Below w.heap.size w ((w.alloc (.cells #[.int .i64 r.f0.f0, .int .i64 r.f0.f1, .int .i64 r.f1, .slice A r.f2.length c, .slice A' r.f3.length c'] 49)).alloc (.cells #[.func (.func 59) #[] #[], .func (.func 60) #[] #[], .func (.func 61) #[] #[]] 95)) := ((Below.refl _ _).alloc (Nat.le_refl _) _).alloc (by simp) _
  have hb0 := fun (j : Nat) (v : Value) (h : (#[.int .i64 r.f0.f0, .int .i64 r.f0.f1, .int .i64 r.f1, .slice A r.f2.length c, .slice A' r.f3.length c'] : Array Value)[j]? = some v) => show ((w.alloc (.cells #[.int .i64 r.f0.f0, .int .i64 r.f0.f1, .int .i64 r.f1, .slice A r.f2.length c, .slice A' r.f3.length c'] 49)).alloc (.cells #[.func (.func 59) #[] #[], .func (.func 60) #[] #[], .func (.func 61) #[] #[]] 95)).cell? ⟨w.heap.size, j, none⟩ = some v by
    rw [World.cell?_alloc_lt _ _ _ (by simp)]; exact (cell_of_row _ _ _ _ _ _ (heap_alloc_new _ _)).trans h
  have hf0 := fun (j : Nat) (v : Value) (h : (#[.func (.func 59) #[] #[], .func (.func 60) #[] #[], .func (.func 61) #[] #[]] : Array Value)[j]? = some v) => show ((w.alloc (.cells #[.int .i64 r.f0.f0, .int .i64 r.f0.f1, .int .i64 r.f1, .slice A r.f2.length c, .slice A' r.f3.length c'] 49)).alloc (.cells #[.func (.func 59) #[] #[], .func (.func 60) #[] #[], .func (.func 61) #[] #[]] 95)).cell? ⟨w.heap.size + 1, j, none⟩ = some v by
    have := heap_alloc_new (w.alloc (.cells #[.int .i64 r.f0.f0, .int .i64 r.f0.f1, .int .i64 r.f1, .slice A r.f2.length c, .slice A' r.f3.length c'] 49)) (.cells #[.func (.func 59) #[] #[], .func (.func 60) #[] #[], .func (.func 61) #[] #[]] 95)
    simp only [World.size_alloc] at this
    exact (cell_of_row _ _ _ _ _ _ this).trans h
  have hz : ((w.alloc (.cells #[.int .i64 r.f0.f0, .int .i64 r.f0.f1, .int .i64 r.f1, .slice A r.f2.length c, .slice A' r.f3.length c'] 49)).alloc (.cells #[.func (.func 59) #[] #[], .func (.func 60) #[] #[], .func (.func 61) #[] #[]] 95)).heap.size = w.heap.size + 2 := by simp
  generalize ((w.alloc (.cells #[.int .i64 r.f0.f0, .int .i64 r.f0.f1, .int .i64 r.f1, .slice A r.f2.length c, .slice A' r.f3.length c'] 49)).alloc (.cells #[.func (.func 59) #[] #[], .func (.func 60) #[] #[], .func (.func 61) #[] #[]] 95)) = W0 at hB hb0 hf0 hz ⊢
  have HB := Aside0.mk hB
  have HB0 := Aside0.mk hb0
  have HF0 := Aside0.mk hf0
  have HZ := Aside0.mk hz
  clear hB hb0 hf0 hz
  go_loopw [8] (fun i wr => ∃ k : Nat, k ≤ 3 ∧ i = .int .i64 k ∧ Aside0 (Below W0.heap.size W0 wr) ∧ Aside0 ((1 ≤ k → e1 = 0) ∧ (2 ≤ k → e2 = 0) ∧ (3 ≤ k → e3 = 0))) (fun i _ => 3 - (intOf i).toNat)
  case atStart => exact ⟨0, by omega, rfl, ⟨Below.refl _ _⟩, ⟨by omega, by omega, by omega⟩⟩
  case round =>
    obtain ⟨k, hk, rfl, hBr, hE⟩ := hrel
    have hck := CKeep.trans (CKeep.below HB.out) (CKeep.below hBr.out)
    have b0 := (hBr.out.cell (p := ⟨w.heap.size, 0, none⟩) (by rw [HZ.out]; simp)).trans (HB0.out 0 _ rfl)
    have b1 := (hBr.out.cell (p := ⟨w.heap.size, 1, none⟩) (by rw [HZ.out]; simp)).trans (HB0.out 1 _ rfl)
    have b2 := (hBr.out.cell (p := ⟨w.heap.size, 2, none⟩) (by rw [HZ.out]; simp)).trans (HB0.out 2 _ rfl)
    have b3 := (hBr.out.cell (p := ⟨w.heap.size, 3, none⟩) (by rw [HZ.out]; simp)).trans (HB0.out 3 _ rfl)
    have b4 := (hBr.out.cell (p := ⟨w.heap.size, 4, none⟩) (by rw [HZ.out]; simp)).trans (HB0.out 4 _ rfl)
    have HK := Aside0.mk hck
    clear hck
    have h4 : k = 0 ∨ k = 1 ∨ k = 2 ∨ k = 3 := by omega
    rcases h4 with rfl | rfl | rfl | rfl
    · have f0 := (hBr.out.cell (p := ⟨w.heap.size + 1, 0, none⟩) (by rw [HZ.out]; simp)).trans (HF0.out 0 _ rfl)
      by_cases he : e1 = 0
      · have he1 : (e1 != 0) = false := by simp [he]
        have HE := Aside0.mk he
        clear he
        go_wp2_with (go_at_call 59; refine (C1.out _ HK.out).mono ?_; rintro e w1 ⟨rfl, hb1⟩)
        go_roundw
        case rel => exact ⟨1, by omega, by go_num, ⟨hBr.out.trans (hb1.mono hBr.out.size)⟩, ⟨fun _ => HE.out, by omega, by omega⟩⟩
        case measure => simp [intOf]
      · have he1 : (e1 != 0) = true := by simp [he]
        have HE := Aside0.mk he
        clear he
        go_wp2_with (go_at_call 59; refine (C1.out _ HK.out).mono ?_; rintro e w1 ⟨rfl, hb1⟩)
        go_ret
        exact ⟨by rw [sel3, if_neg HE.out]; rfl, HB.out.trans ((hBr.out.trans (hb1.mono hBr.out.size)).mono (by rw [HZ.out]; omega))⟩
    · have f0 := (hBr.out.cell (p := ⟨w.heap.size + 1, 1, none⟩) (by rw [HZ.out]; simp)).trans (HF0.out 1 _ rfl)
      by_cases he : e2 = 0
      · have he1 : (e2 != 0) = false := by simp [he]
        have HE := Aside0.mk he
        clear he
        go_wp2_with (go_at_call 60; refine (C2.out _ HK.out).mono ?_; rintro e w1 ⟨rfl, hb1⟩)
        go_roundw
        case rel => exact ⟨2, by omega, by go_num, ⟨hBr.out.trans (hb1.mono hBr.out.size)⟩, ⟨fun _ => hE.out.1 (by omega), fun _ => HE.out, by omega⟩⟩
        case measure => simp [intOf]
      · have he1 : (e2 != 0) = true := by simp [he]
        have HE := Aside0.mk he
        clear he
        go_wp2_with (go_at_call 60; refine (C2.out _ HK.out).mono ?_; rintro e w1 ⟨rfl, hb1⟩)
        go_ret
        exact ⟨by rw [sel3, if_pos (hE.out.1 (by omega)), if_neg HE.out]; rfl, HB.out.trans ((hBr.out.trans (hb1.mono hBr.out.size)).mono (by rw [HZ.out]; omega))⟩
    · have f0 := (hBr.out.cell (p := ⟨w.heap.size + 1, 2, none⟩) (by rw [HZ.out]; simp)).trans (HF0.out 2 _ rfl)
      by_cases he : e3 = 0
      · have he1 : (e3 != 0) = false := by simp [he]
        have HE := Aside0.mk he
        clear he
        go_wp2_with (go_at_call 61; refine (C3.out _ HK.out).mono ?_; rintro e w1 ⟨rfl, hb1⟩)
        go_roundw
        case rel => exact ⟨3, by omega, by go_num, ⟨hBr.out.trans (hb1.mono hBr.out.size)⟩, ⟨fun _ => hE.out.1 (by omega), fun _ => hE.out.2.1 (by omega), fun _ => HE.out⟩⟩
        case measure => simp [intOf]
      · have he1 : (e3 != 0) = true := by simp [he]
        have HE := Aside0.mk he
        clear he
        go_wp2_with (go_at_call 61; refine (C3.out _ HK.out).mono ?_; rintro e w1 ⟨rfl, hb1⟩)
        go_ret
        exact ⟨by rw [sel3, if_pos (hE.out.1 (by omega)), if_pos (hE.out.2.1 (by omega))]; rfl, HB.out.trans ((hBr.out.trans (hb1.mono hBr.out.size)).mono (by rw [HZ.out]; omega))⟩
    · go_wp2
      go_ret
      exact ⟨by rw [sel3, if_pos (hE.out.1 (by omega)), if_pos (hE.out.2.1 (by omega)), hE.out.2.2 (by omega)]; rfl, HB.out.trans (hBr.out.mono (by rw [HZ.out]; omega))⟩
end Go.Proofs.Ytjffghebcaklaaa
