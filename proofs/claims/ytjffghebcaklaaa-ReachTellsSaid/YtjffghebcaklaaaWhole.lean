/- reach.Whole. -/
import Derived.Test.YtjffghebcaklaaaPath
namespace Go.Proofs.Ytjffghebcaklaaa
open Go Go.RowKit Go.Shelf Go.Lib Go.Sort Go.Proofs.YtjffghebcaklaaaW.PrintWords Go.Proofs.YtjffghebcaklaaaW.PrintLast Go.Proofs.YtjffghebcaklaaaW.PrintMore
set_option linter.unusedVariables false
set_option linter.unusedSimpArgs false
attribute [local go_sem] run_store_float
attribute [local go_sem] wide_fn wide_depth Oper.semAt_some wide_fn_round wide_depth_round
/-- What a loop keeps that only turns the box fb, which holds v; F of what has come. -/
structure BoxI (w : World) (fb : Nat) (v : Bool) (F : List Id → Prop) (pre : List Id) (C : Nat → Prop) (W : World) : Prop where
  box : BoolBox W fb v
  val : F pre
  mine : C fb
  rest : ∀ b, b ≠ fb → b < w.heap.size → W.heap[b]? = w.heap[b]?
  size : w.heap.size ≤ W.heap.size
  os : W.os = w.os
  tape : W.tape = w.tape
  output : W.output = w.output
theorem BoxI.abide (w : World) (fb : Nat) (v : Bool) (F : List Id → Prop) (B : Nat) (hB : w.heap.size ≤ B) : Abide B (BoxI w fb v F) := by
  rintro pre C W W' h hk
  exact ⟨(hk.block fb h.box.lt (.inr h.mine)).trans h.box, h.val, h.mine, fun b hb hl => (hk.block b (Nat.lt_of_lt_of_le hl h.size) (.inl (by omega))).trans (h.rest b hb hl), Nat.le_trans h.size hk.size, hk.os.trans h.os, hk.tape.trans h.tape, hk.output.trans h.output⟩
theorem BoxI.step {w : World} {fb : Nat} {v : Bool} {F : List Id → Prop} {pre : List Id} {C : Nat → Prop} {W W' : World} (h : BoxI w fb v F pre C W) (hk : Below W.heap.size W W') (x : Id) (hv : F (pre ++ [x])) : BoxI w fb v F (pre ++ [x]) C W' :=
  ⟨(hk.block fb h.box.lt).trans h.box, hv, h.mine, fun b hb hl => (hk.block b (Nat.lt_of_lt_of_le hl h.size)).trans (h.rest b hb hl), Nat.le_trans h.size hk.size, hk.os.trans h.os, hk.tape.trans h.tape, hk.output.trans h.output⟩
theorem BoxI.below {w w0 : World} {fb : Nat} {v : Bool} {F : List Id → Prop} {pre : List Id} {C : Nat → Prop} {W : World} (h : BoxI w fb v F pre C W) (hb : Below w0.heap.size w0 w) (hfb : w0.heap.size ≤ fb) : Below w0.heap.size w0 W :=
  ⟨h.os.trans hb.os, h.tape.trans hb.tape, h.output.trans hb.output, Nat.le_trans hb.size h.size, fun i hi => (h.rest i (by omega) (Nat.lt_of_lt_of_le hi hb.size)).trans (hb.block i hi)⟩
def BoxX (w : World) (fb : Nat) (v : Bool) (F : List Id → Prop) (k : Code) (c : Code) (pre : List Id) (C : Nat → Prop) (W : World) : Prop := c = k ∧ BoxI w fb v F pre C W
theorem BoxX.abide (w : World) (fb : Nat) (v : Bool) (F : List Id → Prop) (k c : Code) (B : Nat) (hB : w.heap.size ≤ B) : Abide B (BoxX w fb v F k c) := fun s C W W' h hk => ⟨h.1, BoxI.abide w fb v F B hB _ _ _ _ h.2 hk⟩
theorem mem_addAll (x : Id) : ∀ (l s : List Id), x ∈ addAll s l ↔ x ∈ s ∨ x ∈ l
  | [], s => by simp [addAll]
  | y :: l, s => by
    show x ∈ addAll (if y ∈ s then s else s ++ [y]) l ↔ _
    rw [mem_addAll x l]
    split
    · rename_i h
      rw [List.mem_cons]
      constructor
      · rintro (h1 | h1)
        · exact .inl h1
        · exact .inr (.inr h1)
      · rintro (h1 | rfl | h1)
        · exact .inl h1
        · exact .inl h
        · exact .inr h1
    · rw [List.mem_append, List.mem_singleton, List.mem_cons, or_assoc]
/-- A pointer to a set in a variable's box. -/
def SetBox (w : World) (b sb : Nat) : Prop := w.heap[b]? = some (.cells #[.pointer (some ⟨sb, 0, none⟩)] 76 (0, 0))
theorem SetBox.c0 {w : World} {b g : Nat} (h : SetBox w b g) : w.cell? ⟨b, 0, none⟩ = some (.pointer (some ⟨g, 0, none⟩)) := cell_of_row w b 0 _ _ _ h
theorem SetBox.lt {w : World} {b g : Nat} (h : SetBox w b g) : b < w.heap.size := (Array.getElem?_eq_some_iff.1 h).1
theorem SetBox.below {w w' : World} {b g n : Nat} (h : SetBox w b g) (hb : Below n w w') (hn : w.heap.size ≤ n) : SetBox w' b g := (hb.block b (Nat.lt_of_lt_of_le h.lt hn)).trans h
theorem BoolBox.below {w w' : World} {b n : Nat} {v : Bool} (h : BoolBox w b v) (hb : Below n w w') (hn : w.heap.size ≤ n) : BoolBox w' b v := (hb.block b (Nat.lt_of_lt_of_le h.lt hn)).trans h
def wholeB (rs : List Rec) (l : List Id) : Bool := (reachIds rs l).all fun x => hasRec rs x && decide (x ∈ l)
set_option maxRecDepth 100000 in
set_option maxHeartbeats 1600000 in
theorem whole_calls {w : World} {p : Option Addr} {mb : Nat} {rs : List Rec} (hg : GraphP w p mb rs) (A : Option Addr) (c : Nat) (l : List Id) (hC : Kd.C kId w A l.length l)
    (D : Nat) (hD : ∀ r ∈ rs, r.f2.length ≤ D ∧ r.f3.length ≤ 1048576) (hb : l.length + D * ((allIds rs l).length + 1) ≤ 1048576) :
    Calls Try.prog 14 #[.pointer p, .slice A l.length c] w fun e w' => e = .returned (.bool (wholeB rs l)) ∧ Below w.heap.size w w' := by
  have hlen := hC.2.1
  refine (callsIn_wide (n := 0)).1 ?_
  refine callsIn_of_wp_marks Try.func14 rfl trivial ?_
  simp only [Try.ntmps14, List.size_toArray, List.length_cons, List.length_nil, Nat.reduceAdd, Nat.reduceSub, Array.replicate_succ, Array.replicate_zero, List.push_toArray, List.append_toArray, List.nil_append, List.cons_append]
  have hB2 : Below w.heap.size w ((w.alloc (.cells #[.pointer p] 28)).alloc (.cells #[.bool false] 4)) := ((Below.refl _ _).alloc (Nat.le_refl _) _).alloc (by simp) _
  have hnew := set_new ((w.alloc (.cells #[.pointer p] 28)).alloc (.cells #[.bool false] 4)) A c l (cel_id.C (CKeep.below hB2) hC) hlen
  have HG0 := Aside0.mk (show PtrP ((w.alloc (.cells #[.pointer p] 28)).alloc (.cells #[.bool false] 4)) w.heap.size p from at_old (at_new rfl _) _)
  have HF0 := Aside0.mk (show BoolBox ((w.alloc (.cells #[.pointer p] 28)).alloc (.cells #[.bool false] 4)) (w.heap.size + 1) false from at_new (by simp) _)
  have HB2 := Aside0.mk hB2
  clear hB2
  gi_wp2_with (first
    | (gi_at_call 45; refine (callsIn_wide.2 hnew).mono ?_; rintro e w1 ⟨sb, mb', rfl, hS1, hsb, hmb, hb1⟩; have hg1 := ((HG0.out.below hb1 (Nat.le_refl _)).below ((Below.refl w1.heap.size w1).alloc (Nat.le_refl _) (.cells #[.pointer (some ⟨sb, 0, none⟩)] 76)) (Nat.le_refl _)).c0)
    | (gi_at_call 46; refine (callsIn_wide.2 (each_calls p l.length c A _)).mono ?_; rintro e w' ⟨rfl, rfl⟩))
  have hB1 : Below w.heap.size w w1 := HB2.out.trans (hb1.mono HB2.out.size)
  have hs1 := hb1.size
  simp only [World.size_alloc] at hs1 hsb hmb
  have hB15 : Below w1.heap.size w1 (((w1.alloc (.cells #[.pointer (some ⟨sb, 0, none⟩)] 76)).alloc (.cells #[.pointer p] 28)).alloc (.cells #[.slice A l.length c] 23)) := (((Below.refl _ _).alloc (Nat.le_refl _) _).alloc (by simp) _).alloc (by simp; omega) _
  have hsl := (Array.getElem?_eq_some_iff.1 hS1.cell).1
  have hS5 := hS1.below hB15 hsl hS1.map.lt
  have hml := hS5.map.lt
  have hf5 := (HF0.out.below hb1 (Nat.le_refl _)).below hB15 (Nat.le_refl _)
  have hg5 := (HG0.out.below hb1 (Nat.le_refl _)).below hB15 (Nat.le_refl _)
  have ho5 : SetBox (((w1.alloc (.cells #[.pointer (some ⟨sb, 0, none⟩)] 76)).alloc (.cells #[.pointer p] 28)).alloc (.cells #[.slice A l.length c] 23)) w1.heap.size sb := at_old (at_old (at_new (by simp) _) _) _
  have hbg : PtrP (((w1.alloc (.cells #[.pointer (some ⟨sb, 0, none⟩)] 76)).alloc (.cells #[.pointer p] 28)).alloc (.cells #[.slice A l.length c] 23)) (w1.heap.size + 1) p := at_old (at_new (by simp) _) _
  have hbl : SliceBox (((w1.alloc (.cells #[.pointer (some ⟨sb, 0, none⟩)] 76)).alloc (.cells #[.pointer p] 28)).alloc (.cells #[.slice A l.length c] 23)) (w1.heap.size + 1 + 1) A l.length c := at_new (by simp) _
  have hs5 : (((w1.alloc (.cells #[.pointer (some ⟨sb, 0, none⟩)] 76)).alloc (.cells #[.pointer p] 28)).alloc (.cells #[.slice A l.length c] 23)).heap.size = w1.heap.size + 3 := by simp
  have hml1 := hS1.map.lt
  generalize (((w1.alloc (.cells #[.pointer (some ⟨sb, 0, none⟩)] 76)).alloc (.cells #[.pointer p] 28)).alloc (.cells #[.slice A l.length c] 23)) = w5 at hB15 hS5 hml hf5 hg5 ho5 hbg hbl hs5 ⊢
  have hB5 := hB1.trans (hB15.mono hB1.size)
  have hgr5 := hg.below hB5 (Nat.le_refl _)
  have hseq := each_seq hg hB5 (w1.heap.size + 1 + 1) (w1.heap.size + 1) A c l hbl hbg (cel_id.C (CKeep.below hB5) hC) D hD hb
  have HB5 := Aside0.mk hB5
  have HG5 := Aside0.mk hg5
  have HF5 := Aside0.mk hf5
  have HO5 := Aside0.mk ho5
  have HS5 := Aside0.mk hS5
  have HZ5 := Aside0.mk hs5
  have HGR := Aside0.mk hgr5
  have HGW2 := Aside0.mk hg
  clear hB5 hg5 hf5 ho5 hS5 hs5 hgr5 hbg hbl hB15 hB1 hg1 hS1 hb1 hnew hC hg HG0 HF0 HB2
  refine wpIn_rangeFunc_mine (gf := 68) (lb := #[.pointer (some ⟨w1.heap.size + 1 + 1, 0, none⟩), .pointer (some ⟨w1.heap.size + 1, 0, none⟩)]) rfl (enters_of Try.func68 (by kernel_rfl) rfl) hseq (fun b hb => by have := HZ5.out; omega) (Below.refl _ _) (fun _ => rfl)
    (fun b => b = w.heap.size + 1) (fun b hb => by have := HZ5.out; omega) (BoxI w5 (w.heap.size + 1) false (fun pre => ∀ x ∈ pre, hasRec rs x = true ∧ x ∈ l)) (BoxX w5 (w.heap.size + 1) false (fun pre => ∃ x ∈ pre, ¬ (hasRec rs x = true ∧ x ∈ l)) .ret) (BoxI.abide _ _ _ _ _ (Nat.le_refl _)) (fun c => BoxX.abide _ _ _ _ _ _ _ (Nat.le_refl _))
    ⟨HF5.out, by simp, rfl, fun _ _ _ => rfl, Nat.le_refl _, rfl, rfl, rfl⟩ ?round ?done ?stop
  case round =>
    rintro L pre x C W hI hCl hCL hwL hL hpl
    have HI := Aside0.mk hI
    have HCl := Aside0.mk hCl
    have HCL := Aside0.mk hCL
    clear hI hCl hCL hseq
    gi_wp2
    refine ⟨C, Mine.below HCl.out ((Below.refl W.heap.size W).alloc (Nat.le_refl _) _) (Nat.le_refl _), ?_⟩
    intro W2 hk hs
    simp only [World.size_alloc] at hs
    have hb12 : ∀ b, b < W.heap.size → b ≠ L → W2.heap[b]? = W.heap[b]? := fun b hb hne => (hk.block b (by simp; omega) (.inr hne)).trans (Below.heap_alloc _ _ _ hb)
    have hx2 : IdBox W2 W.heap.size x := (hk.block W.heap.size (by simp) (.inr (by omega))).trans (heap_alloc_new W _)
    have hsz := HI.out.size
    have hs5 := HZ5.out
    have hI2 : BoxI w5 (w.heap.size + 1) false (fun pre => ∀ x ∈ pre, hasRec rs x = true ∧ x ∈ l) pre C W2 := ⟨(hb12 _ HI.out.box.lt (by omega)).trans HI.out.box, HI.out.val, HI.out.mine, fun b hb hl => (hb12 b (by omega) (by omega)).trans (HI.out.rest b hb hl), by omega, hk.os.trans HI.out.os, hk.tape.trans HI.out.tape, hk.output.trans HI.out.output⟩
    have hB2 : Below w.heap.size w W2 := hI2.below HB5.out (by omega)
    have hg2 : PtrP W2 w.heap.size p := (hI2.rest _ (by omega) (by omega)).trans HG5.out
    have ho2 : SetBox W2 w1.heap.size sb := (hI2.rest _ (by omega) (by omega)).trans HO5.out
    have hS2 : SetAt W2 sb mb' (addAll [] l) := ⟨(hI2.rest _ (by omega) (by omega)).trans HS5.out.cell, HS5.out.map.same (hI2.rest _ (by omega) (by omega))⟩
    have hgraph := HGW2.out.below hB2 (Nat.le_refl _)
    have hcall := hasP_calls hgraph x
    have x0 := hx2.c0
    have x1 := hx2.c1
    have g0 := hg2.c0
    have hC2 : ∀ b, C b → b < W2.heap.size := fun b hb => by have := HCl.out b hb; omega
    have HI2 := Aside0.mk hI2
    have HC2 := Aside0.mk hC2
    have HX2 := Aside0.mk hx2
    have HO2 := Aside0.mk ho2
    have HS2 := Aside0.mk hS2
    have f0 : W2.frozen? ⟨w.heap.size + 1, 0, none⟩ = false := by simp [World.frozen?, show W2.heap[w.heap.size + 1]? = _ from hI2.box]
    clear hI2 hB2 hg2 ho2 hS2 hx2 hb12 hk hC2 hs hs5 hsz hgraph
    cases hh : hasRec rs x with
    | false =>
      rw [hh] at hcall
      have HH := Aside0.mk hh
      clear hh
      gi_wp2_with (gi_at_call 47; refine (CallsIn.inRound L (callsIn_wide.2 hcall)).mono ?_; rintro e w3 ⟨rfl, hb3⟩; have hf3 := HI2.out.box.below hb3 (Nat.le_refl _); have q0 := hf3.c0; have q1 : w3.frozen? ⟨w.heap.size + 1, 0, none⟩ = false := (by simp [World.frozen?, show w3.heap[w.heap.size + 1]? = _ from hf3]))
      have hm3 := Mine.below HC2.out hb3 (Nat.le_refl _)
      refine ⟨C, hm3.trans (Mine.set hm3.lt HI2.out.mine 0 _), rfl, hf3.set false, ⟨x, by simp, by simp [HH.out]⟩, HI2.out.mine, fun b hb hl => (Below.heap_setCell w3 _ _ b hb).trans ((hb3.block b (Nat.lt_of_lt_of_le hl HI2.out.size)).trans (HI2.out.rest b hb hl)), Nat.le_trans HI2.out.size (Nat.le_trans hb3.size (KeepsWalks.setCell w3 _ _).size), hb3.os.trans HI2.out.os, hb3.tape.trans HI2.out.tape, hb3.output.trans HI2.out.output⟩
    | true =>
      rw [hh] at hcall
      have HH := Aside0.mk hh
      clear hh
      have hcall2 : ∀ w3, Below W2.heap.size W2 w3 → Calls Try.prog 44 #[.pointer (some ⟨sb, 0, none⟩), .agg #[.int .i64 x.f0, .int .i64 x.f1]] w3 fun e w' => e = .returned (.bool (decide (x ∈ l))) ∧ Below w3.heap.size w3 w' := fun w3 hb3 => by
        have h1 := (Array.getElem?_eq_some_iff.1 HS2.out.cell).1
        have := set_has (HS2.out.below hb3 h1 HS2.out.map.lt) x
        have e : decide (x ∈ addAll [] l) = decide (x ∈ l) := by simp [mem_addAll]
        rw [e] at this
        exact this
      have HC3 := Aside0.mk hcall2
      clear hcall2
      by_cases hx : x ∈ l
      · have hd : decide (x ∈ l) = true := by simp [hx]
        rw [hd] at HC3
        have HX := Aside0.mk hx
        clear hx hd
        gi_wp2_with (first
          | (gi_at_call 47; refine (CallsIn.inRound L (callsIn_wide.2 hcall)).mono ?_; rintro e w3 ⟨rfl, hb3⟩; have y0 := (HX2.out.below hb3 (Nat.le_refl _)).c0; have y1 := (HX2.out.below hb3 (Nat.le_refl _)).c1; have y2 := (HO2.out.below hb3 (Nat.le_refl _)).c0)
          | (gi_at_call 44; refine (CallsIn.inRound L (callsIn_wide.2 (HC3.out _ hb3))).mono ?_; rintro e w4 ⟨rfl, hb4⟩))
        have hb24 := hb3.trans (hb4.mono hb3.size)
        exact ⟨C, Mine.below HC2.out hb24 (Nat.le_refl _), HI2.out.step hb24 x (fun y hy => by
          rcases List.mem_append.1 hy with hy | hy
          · exact HI2.out.val y hy
          · rw [List.mem_singleton.1 hy]; exact ⟨HH.out, HX.out⟩)⟩
      · have hd : decide (x ∈ l) = false := by simp [hx]
        rw [hd] at HC3
        have HX := Aside0.mk hx
        clear hx hd
        gi_wp2_with (first
          | (gi_at_call 47; refine (CallsIn.inRound L (callsIn_wide.2 hcall)).mono ?_; rintro e w3 ⟨rfl, hb3⟩; have y0 := (HX2.out.below hb3 (Nat.le_refl _)).c0; have y1 := (HX2.out.below hb3 (Nat.le_refl _)).c1; have y2 := (HO2.out.below hb3 (Nat.le_refl _)).c0)
          | (gi_at_call 44; refine (CallsIn.inRound L (callsIn_wide.2 (HC3.out _ hb3))).mono ?_; rintro e w4 ⟨rfl, hb4⟩; have hf4 := (HI2.out.box.below hb3 (Nat.le_refl _)).below hb4 (Nat.le_refl _); have q0 := hf4.c0; have q1 : w4.frozen? ⟨w.heap.size + 1, 0, none⟩ = false := (by simp [World.frozen?, show w4.heap[w.heap.size + 1]? = _ from hf4])))
        have hb24 := hb3.trans (hb4.mono hb3.size)
        have hm4 := Mine.below HC2.out hb24 (Nat.le_refl _)
        refine ⟨C, hm4.trans (Mine.set hm4.lt HI2.out.mine 0 _), rfl, hf4.set false, ⟨x, by simp, by simp [HX.out]⟩, HI2.out.mine, fun b hb hl => (Below.heap_setCell w4 _ _ b hb).trans ((hb24.block b (Nat.lt_of_lt_of_le hl HI2.out.size)).trans (HI2.out.rest b hb hl)), Nat.le_trans HI2.out.size (Nat.le_trans hb24.size (KeepsWalks.setCell w4 _ _).size), hb24.os.trans HI2.out.os, hb24.tape.trans HI2.out.tape, hb24.output.trans HI2.out.output⟩
  case done =>
    rintro Dd xs C W hD hCD ⟨hnd, hmem⟩ hI hK
    have hv : wholeB rs l = true := by
      unfold wholeB
      rw [List.all_eq_true]
      intro x hx
      have := hI.val x ((hmem x).2 (((reachIds_spec rs l).2 x).1 hx))
      simp [this.1, this.2]
    have HV := Aside0.mk hv
    have hbox := hI.box
    have f0 : W.frozen? ⟨w.heap.size + 1, 0, none⟩ = false := by simp [World.frozen?, show W.heap[w.heap.size + 1]? = _ from hbox]
    have c0 := hbox.c0
    have hne : Dd ≠ w.heap.size + 1 := by have := HZ5.out; omega
    have HI := Aside0.mk hI
    have HK := Aside0.mk hK
    have HD' := Aside0.mk hD
    have HBX := Aside0.mk hbox
    clear hI hK hD hseq hv hCD hmem hnd hbox
    gi_wp2
    have hK2 : (W.setCell ⟨w.heap.size + 1, 0, none⟩ (.bool true)).heap[Dd]? = some (.deferred (some [])) := (Below.heap_setCell W _ _ Dd hne).trans HK.out
    have hb2 : BoolBox ((W.setCell ⟨w.heap.size + 1, 0, none⟩ (.bool true)).putObj Dd (.deferred none)) (w.heap.size + 1) true := (World.putObj_heap_other (Ne.symm hne)).trans (HBX.out.set true)
    have c1 := hb2.c0
    refine ⟨by simp, .inl ⟨_, _, rfl, run_takeDeferred hK2, ?_⟩⟩
    refine ⟨.bool true, by simp [results, Try.results14, go_sem, c1], by rw [HV.out], ?_⟩
    have hBW : Below w.heap.size w W := HI.out.below HB5.out (by omega)
    exact (hBW.setCell (p := ⟨w.heap.size + 1, 0, none⟩) (by simp) _).trans (belowK_b (w := w) (Nat.le_refl _) _ Dd _ _ (by have := HZ5.out; have := HD'.out; omega) hK2 rfl rfl)
  case stop =>
    rintro Dd cc pre C W hD hCD ⟨hnd, hmem⟩ ⟨rfl, hI⟩ hK
    have hv : wholeB rs l = false := by
      obtain ⟨x, hx, hn⟩ := hI.val
      unfold wholeB
      rw [List.all_eq_false]
      exact ⟨x, ((reachIds_spec rs l).2 x).2 (hmem x hx), by simpa using hn⟩
    have HV := Aside0.mk hv
    have hbox := hI.box
    have c0 := hbox.c0
    have hne : Dd ≠ w.heap.size + 1 := by have := HZ5.out; omega
    have HI := Aside0.mk hI
    have HK := Aside0.mk hK
    have HD' := Aside0.mk hD
    have HBX := Aside0.mk hbox
    clear hI hK hD hseq hv hCD hmem hnd hbox
    gi_wp2
    have hb2 : BoolBox (W.putObj Dd (.deferred none)) (w.heap.size + 1) false := (World.putObj_heap_other (Ne.symm hne)).trans HBX.out
    have c1 := hb2.c0
    refine ⟨by simp, .inl ⟨_, _, rfl, run_takeDeferred HK.out, ?_⟩⟩
    refine ⟨.bool false, by simp [results, Try.results14, go_sem, c1], by rw [HV.out], ?_⟩
    have hBW : Below w.heap.size w W := HI.out.below HB5.out (by omega)
    exact hBW.trans (belowK_b (w := w) (Nat.le_refl _) _ Dd _ _ (by have := HZ5.out; have := HD'.out; omega) HK.out rfl rfl)
end Go.Proofs.Ytjffghebcaklaaa
