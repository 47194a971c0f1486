/- reach.Path. -/
import Derived.Test.YtjffghebcaklaaaFrom
import Derived.WalkMore
namespace Go.Proofs.Ytjffghebcaklaaa
open Go Go.RowKit Go.Shelf Go.Lib Go.Sort Go.Proofs.YtjffghebcaklaaaW.PrintWords Go.Proofs.YtjffghebcaklaaaW.PrintLast Go.Proofs.YtjffghebcaklaaaW.PrintMore
set_option linter.unusedVariables false
set_option linter.unusedSimpArgs false
attribute [local go_sem] run_store_float
attribute [local go_sem] wide_fn wide_depth Oper.semAt_some wide_fn_round wide_depth_round
/-- What Path's loop keeps: the box fb holds v; what lay in w lies. -/
structure PathI (w : World) (fb : Nat) (v : Bool) (y : Id) (pre : List Id) (C : Nat → Prop) (W : World) : Prop where
  box : BoolBox W fb v
  val : decide (y ∈ pre) = v
  mine : C fb
  rest : ∀ b, b ≠ fb → b < w.heap.size → W.heap[b]? = w.heap[b]?
  size : w.heap.size ≤ W.heap.size
  os : W.os = w.os
  tape : W.tape = w.tape
  output : W.output = w.output
theorem PathI.abide (w : World) (fb : Nat) (v : Bool) (y : Id) (B : Nat) (hB : w.heap.size ≤ B) : Abide B (PathI w fb v y) := by
  rintro pre C W W' h hk
  exact ⟨(hk.block fb h.box.lt (.inr h.mine)).trans h.box, h.val, h.mine, fun b hb hl => (hk.block b (Nat.lt_of_lt_of_le hl h.size) (.inl (by omega))).trans (h.rest b hb hl), Nat.le_trans h.size hk.size, hk.os.trans h.os, hk.tape.trans h.tape, hk.output.trans h.output⟩
theorem PathI.step {w : World} {fb : Nat} {v : Bool} {y : Id} {pre : List Id} {C : Nat → Prop} {W W' : World} (h : PathI w fb v y pre C W) (hk : Below W.heap.size W W') (x : Id) (hv : decide (y ∈ pre ++ [x]) = v) : PathI w fb v y (pre ++ [x]) C W' :=
  ⟨(hk.block fb h.box.lt).trans h.box, hv, h.mine, fun b hb hl => (hk.block b (Nat.lt_of_lt_of_le hl h.size)).trans (h.rest b hb hl), Nat.le_trans h.size hk.size, hk.os.trans h.os, hk.tape.trans h.tape, hk.output.trans h.output⟩
def PathX (w : World) (fb : Nat) (y : Id) (c : Code) (pre : List Id) (C : Nat → Prop) (W : World) : Prop := c = .exit 0 ∧ PathI w fb true y pre C W
set_option maxRecDepth 100000 in
set_option maxHeartbeats 1600000 in
theorem path_calls {w : World} {p : Option Addr} {mb : Nat} {rs : List Rec} (hg : GraphP w p mb rs) (a y : Id)
    (D : Nat) (hD : ∀ r ∈ rs, r.f2.length ≤ D ∧ r.f3.length ≤ 1048576) (hb : 1 + D * ((allIds rs [a]).length + 1) ≤ 1048576) (hN : (allIds rs [a]).length ≤ 1048576) :
    Calls Try.prog 19 #[.pointer p, .agg #[.int .i64 a.f0, .int .i64 a.f1], .agg #[.int .i64 y.f0, .int .i64 y.f1]] w fun e w' => e = .returned (.bool (decide (y ∈ reachIds rs [a]))) ∧ Below w.heap.size w w' := by
  refine (callsIn_wide (n := 0)).1 ?_
  refine callsIn_of_wp_marks Try.func19 rfl trivial ?_
  simp only [Try.ntmps19, List.size_toArray, List.length_cons, List.length_nil, Nat.reduceAdd, Nat.reduceSub, Array.replicate_succ, Array.replicate_zero, List.push_toArray, List.append_toArray, List.nil_append, List.cons_append]
  gi_wp2
  refine (wpIn_wide (n := 0)).2 (wp_scope_straight ((wpIn_wide (n := 0)).1 ?_))
  gi_wp2
  refine wpIn_label ?_
  gi_wp2_with (gi_at_call 46; refine (callsIn_wide.2 (each_calls p 1 1 _ _)).mono ?_; rintro e w' ⟨rfl, rfl⟩)
  have hB6 : Below w.heap.size w ((((((w.alloc (.cells #[.int .i64 a.f0, .int .i64 a.f1] 37)).alloc (.cells #[.int .i64 y.f0, .int .i64 y.f1] 37)).alloc (.cells #[.bool false] 4)).alloc (.cells #[.int .i64 a.f0, .int .i64 a.f1] 37)).alloc (.cells #[.pointer p] 28)).alloc (.cells #[.slice (some ⟨w.heap.size + 1 + 1 + 1, 0, none⟩) 1 1] 23)) := ((((((Below.refl _ _).alloc (Nat.le_refl _) _).alloc (by simp) _).alloc (by simp; omega) _).alloc (by simp; omega) _).alloc (by simp; omega) _).alloc (by simp; omega) _
  have hy6 : IdBox ((((((w.alloc (.cells #[.int .i64 a.f0, .int .i64 a.f1] 37)).alloc (.cells #[.int .i64 y.f0, .int .i64 y.f1] 37)).alloc (.cells #[.bool false] 4)).alloc (.cells #[.int .i64 a.f0, .int .i64 a.f1] 37)).alloc (.cells #[.pointer p] 28)).alloc (.cells #[.slice (some ⟨w.heap.size + 1 + 1 + 1, 0, none⟩) 1 1] 23)) (w.heap.size + 1) y := at_old (at_old (at_old (at_old (at_new (by simp) _) _) _) _) _
  have hf6 : BoolBox ((((((w.alloc (.cells #[.int .i64 a.f0, .int .i64 a.f1] 37)).alloc (.cells #[.int .i64 y.f0, .int .i64 y.f1] 37)).alloc (.cells #[.bool false] 4)).alloc (.cells #[.int .i64 a.f0, .int .i64 a.f1] 37)).alloc (.cells #[.pointer p] 28)).alloc (.cells #[.slice (some ⟨w.heap.size + 1 + 1 + 1, 0, none⟩) 1 1] 23)) (w.heap.size + 1 + 1) false := at_old (at_old (at_old (at_new (by simp) _) _) _) _
  have hl6 : IdRow ((((((w.alloc (.cells #[.int .i64 a.f0, .int .i64 a.f1] 37)).alloc (.cells #[.int .i64 y.f0, .int .i64 y.f1] 37)).alloc (.cells #[.bool false] 4)).alloc (.cells #[.int .i64 a.f0, .int .i64 a.f1] 37)).alloc (.cells #[.pointer p] 28)).alloc (.cells #[.slice (some ⟨w.heap.size + 1 + 1 + 1, 0, none⟩) 1 1] 23)) (w.heap.size + 1 + 1 + 1) 37 ([a] ++ []) [] := at_old (at_old (at_new (by simp) _) _) _
  have hbg : PtrP ((((((w.alloc (.cells #[.int .i64 a.f0, .int .i64 a.f1] 37)).alloc (.cells #[.int .i64 y.f0, .int .i64 y.f1] 37)).alloc (.cells #[.bool false] 4)).alloc (.cells #[.int .i64 a.f0, .int .i64 a.f1] 37)).alloc (.cells #[.pointer p] 28)).alloc (.cells #[.slice (some ⟨w.heap.size + 1 + 1 + 1, 0, none⟩) 1 1] 23)) (w.heap.size + 1 + 1 + 1 + 1) p := at_old (at_new (by simp) _) _
  have hbl : SliceBox ((((((w.alloc (.cells #[.int .i64 a.f0, .int .i64 a.f1] 37)).alloc (.cells #[.int .i64 y.f0, .int .i64 y.f1] 37)).alloc (.cells #[.bool false] 4)).alloc (.cells #[.int .i64 a.f0, .int .i64 a.f1] 37)).alloc (.cells #[.pointer p] 28)).alloc (.cells #[.slice (some ⟨w.heap.size + 1 + 1 + 1, 0, none⟩) 1 1] 23)) (w.heap.size + 1 + 1 + 1 + 1 + 1) (some ⟨w.heap.size + 1 + 1 + 1, 0, none⟩) 1 1 := at_new (by simp) _
  have hs6 : ((((((w.alloc (.cells #[.int .i64 a.f0, .int .i64 a.f1] 37)).alloc (.cells #[.int .i64 y.f0, .int .i64 y.f1] 37)).alloc (.cells #[.bool false] 4)).alloc (.cells #[.int .i64 a.f0, .int .i64 a.f1] 37)).alloc (.cells #[.pointer p] 28)).alloc (.cells #[.slice (some ⟨w.heap.size + 1 + 1 + 1, 0, none⟩) 1 1] 23)).heap.size = w.heap.size + 6 := by simp
  generalize ((((((w.alloc (.cells #[.int .i64 a.f0, .int .i64 a.f1] 37)).alloc (.cells #[.int .i64 y.f0, .int .i64 y.f1] 37)).alloc (.cells #[.bool false] 4)).alloc (.cells #[.int .i64 a.f0, .int .i64 a.f1] 37)).alloc (.cells #[.pointer p] 28)).alloc (.cells #[.slice (some ⟨w.heap.size + 1 + 1 + 1, 0, none⟩) 1 1] 23)) = w6 at hB6 hy6 hf6 hl6 hbg hbl hs6 ⊢
  have hseq := each_seq hg hB6 (w.heap.size + 1 + 1 + 1 + 1 + 1) (w.heap.size + 1 + 1 + 1 + 1) (some ⟨w.heap.size + 1 + 1 + 1, 0, none⟩) 1 [a] hbl hbg (hl6.C (by simp)) D hD (by simpa using hb)
  have HB6 := Aside0.mk hB6
  have HY6 := Aside0.mk hy6
  have HF6 := Aside0.mk hf6
  have HS6 := Aside0.mk hs6
  clear hB6 hy6 hf6 hl6 hbg hbl hs6 hg
  refine wpIn_rangeFunc_mine (gf := 68) (lb := #[.pointer (some ⟨w.heap.size + 1 + 1 + 1 + 1 + 1, 0, none⟩), .pointer (some ⟨w.heap.size + 1 + 1 + 1 + 1, 0, none⟩)]) rfl (enters_of Try.func68 (by kernel_rfl) rfl) hseq (fun b hb => by have := HS6.out; omega) (Below.refl _ _) (fun _ => rfl)
    (fun b => b = w.heap.size + 1 + 1) (fun b hb => by have := HS6.out; omega) (PathI w6 (w.heap.size + 1 + 1) false y) (PathX w6 (w.heap.size + 1 + 1) y) (PathI.abide _ _ _ _ _ (Nat.le_refl _)) (fun c s C W W' h hk => ⟨h.1, PathI.abide _ _ _ _ _ (Nat.le_refl _) _ _ _ _ h.2 hk⟩)
    ⟨HF6.out, by simp, rfl, fun _ _ _ => rfl, Nat.le_refl _, rfl, rfl, rfl⟩ ?round ?done ?stop
  case round =>
    rintro L pre x C W hI hCl hCL hwL hL hpl
    have HI := Aside0.mk hI
    have HCl := Aside0.mk hCl
    have HCL := Aside0.mk hCL
    clear hI hCl hCL hseq
    gi_wp2
    refine ⟨C, Mine.below HCl.out ((Below.refl W.heap.size W).alloc (Nat.le_refl _) _) (Nat.le_refl _), ?_⟩
    intro W2 hk hs
    simp only [World.size_alloc] at hs
    have hb12 : ∀ b, b < W.heap.size → b ≠ L → W2.heap[b]? = W.heap[b]? := fun b hb hne => (hk.block b (by simp; omega) (.inr hne)).trans (Below.heap_alloc _ _ _ hb)
    have hx2 : IdBox W2 W.heap.size x := (hk.block W.heap.size (by simp) (.inr (by omega))).trans (heap_alloc_new W _)
    have hsz := HI.out.size
    have hs6 := HS6.out
    have hI2 : PathI w6 (w.heap.size + 1 + 1) false y pre C W2 := ⟨(hb12 _ HI.out.box.lt (by omega)).trans HI.out.box, HI.out.val, HI.out.mine, fun b hb hl => (hb12 b (by omega) (by omega)).trans (HI.out.rest b hb hl), by omega, hk.os.trans HI.out.os, hk.tape.trans HI.out.tape, hk.output.trans HI.out.output⟩
    have hy2 : IdBox W2 (w.heap.size + 1) y := (hI2.rest _ (by omega) (by omega)).trans HY6.out
    have x0 := hx2.c0
    have x1 := hx2.c1
    have y0 := hy2.c0
    have y1 := hy2.c1
    have f0 : W2.frozen? ⟨w.heap.size + 1 + 1, 0, none⟩ = false := by simp [World.frozen?, show W2.heap[w.heap.size + 1 + 1]? = _ from hI2.box]
    have ff := hI2.box.c0
    have HI2 := Aside0.mk hI2
    have hC2 : ∀ b, C b → b < W2.heap.size := fun b hb => by have := HCl.out b hb; omega
    have HC2 := Aside0.mk hC2
    clear hI2 hx2 hy2 hb12 hk hC2 hs hs6 hsz
    have hnot : y ∉ pre := by simpa using HI2.out.val
    have HNOT := Aside0.mk hnot
    clear hnot
    by_cases hxy : x = y
    · subst hxy
      gi_wp2
      exact ⟨C, Mine.set HC2.out HI2.out.mine 0 _, rfl, HI2.out.box.set true, by simp, HI2.out.mine, fun b hb hl => (Below.heap_setCell W2 _ _ b hb).trans (HI2.out.rest b hb hl), Nat.le_trans HI2.out.size (KeepsWalks.setCell W2 _ _).size, HI2.out.os, HI2.out.tape, HI2.out.output⟩
    · have HXY := Aside0.mk hxy
      obtain ⟨x0', x1'⟩ := x
      obtain ⟨y0', y1'⟩ := y
      by_cases h0 : x0' = y0'
      · subst h0
        have h1 : ¬ x1' = y1' := fun e => hxy (by rw [e])
        clear hxy
        gi_wp2
        exact ⟨C, Mine.refl HC2.out, HI2.out.step (Below.refl _ _) _ (by have hn := HNOT.out; simp [hn]; exact fun e => h1 e.symm)⟩
      · clear hxy
        gi_wp2
        exact ⟨C, Mine.refl HC2.out, HI2.out.step (Below.refl _ _) _ (by have hn := HNOT.out; simp [hn]; exact fun e => absurd e.symm h0)⟩
  case done =>
    rintro Dd xs C W hD hCD ⟨hnd, hmem⟩ hI hK
    have hv : decide (y ∈ reachIds rs [a]) = false := by
      have h1 := hI.val
      have h2 : y ∉ xs := by simpa using h1
      simpa using fun h => h2 ((hmem y).2 (((reachIds_spec rs [a]).2 y).1 h))
    have HV := Aside0.mk hv
    have c0 := hI.box.c0
    have HI := Aside0.mk hI
    have HK := Aside0.mk hK
    have HD' := Aside0.mk hD
    clear hI hK hD hseq hv hCD hmem hnd
    gi_wp2
    rw [Exit.noGoto_ret]
    refine ⟨by simp, .inl ⟨_, _, rfl, run_takeDeferred HK.out, ?_⟩⟩
    refine ⟨_, results_tmp rfl _ _ _, by rw [HV.out]; rfl, ?_⟩
    have hBW : Below w.heap.size w W := ⟨HI.out.os.trans HB6.out.os, HI.out.tape.trans HB6.out.tape, HI.out.output.trans HB6.out.output, Nat.le_trans HB6.out.size HI.out.size, fun i hi => (HI.out.rest i (by omega) (by have := HS6.out; omega)).trans (HB6.out.block i hi)⟩
    exact hBW.trans (belowK_b (w := w) (Nat.le_refl _) W Dd _ _ (by have := HS6.out; have := HD'.out; omega) HK.out rfl rfl)
  case stop =>
    rintro Dd cc pre C W hD hCD ⟨hnd, hmem⟩ ⟨rfl, hI⟩ hK
    have hv : decide (y ∈ reachIds rs [a]) = true := by
      have h1 := hI.val
      have h2 : y ∈ pre := by simpa using h1
      simpa using ((reachIds_spec rs [a]).2 y).2 (hmem y h2)
    have HV := Aside0.mk hv
    have c0 := hI.box.c0
    have HI := Aside0.mk hI
    have HK := Aside0.mk hK
    have HD' := Aside0.mk hD
    clear hI hK hD hseq hv hCD hmem hnd
    gi_wp2
    rw [Exit.noGoto_ret]
    refine ⟨by simp, .inl ⟨_, _, rfl, run_takeDeferred HK.out, ?_⟩⟩
    refine ⟨_, results_tmp rfl _ _ _, by rw [HV.out]; rfl, ?_⟩
    have hBW : Below w.heap.size w W := ⟨HI.out.os.trans HB6.out.os, HI.out.tape.trans HB6.out.tape, HI.out.output.trans HB6.out.output, Nat.le_trans HB6.out.size HI.out.size, fun i hi => (HI.out.rest i (by omega) (by have := HS6.out; omega)).trans (HB6.out.block i hi)⟩
    exact hBW.trans (belowK_b (w := w) (Nat.le_refl _) W Dd _ _ (by have := HS6.out; have := HD'.out; omega) HK.out rfl rfl)
end Go.Proofs.Ytjffghebcaklaaa
