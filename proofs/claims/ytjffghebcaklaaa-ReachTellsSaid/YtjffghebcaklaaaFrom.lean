/- reach.From. -/
import Derived.Test.YtjffghebcaklaaaEach
namespace Go.Proofs.Ytjffghebcaklaaa
open Go Go.RowKit Go.Shelf Go.Lib Go.Sort Go.Proofs.YtjffghebcaklaaaW.PrintWords Go.Proofs.YtjffghebcaklaaaW.PrintLast Go.Proofs.YtjffghebcaklaaaW.PrintMore
set_option linter.unusedVariables false
set_option linter.unusedSimpArgs false
attribute [local go_sem] run_store_float
attribute [local go_sem] wide_fn wide_depth Oper.semAt_some
theorem wide_fn_round (l : Nat) (f : FuncId) : (Fence.wide.inRound l).fn f = True := rfl
theorem wide_depth_round (l : Nat) : ((Fence.wide.inRound l).depth = none) = True := by simp [Fence.wide, Fence.inRound]
attribute [local go_sem] wide_fn_round wide_depth_round
theorem Mine.set {C : Nat → Prop} {W : World} {b : Nat} (hlt : ∀ b, C b → b < W.heap.size) (hb : C b) (j : Nat) (v : Value) : Mine C C W (W.setCell ⟨b, j, none⟩ v) :=
  ⟨rfl, rfl, rfl, (KeepsWalks.setCell W _ v).size, fun _ h => h, fun _ h => .inl h, fun k hk => Nat.lt_of_lt_of_le (hlt k hk) (KeepsWalks.setCell W _ v).size, fun k hk hc => Below.heap_setCell W ⟨b, j, none⟩ v k (fun e => hc (by rw [e]; exact hb))⟩
theorem CKeep.putObj {W : World} {k : Nat} {o : Obj} (o' : Obj) (h : W.heap[k]? = some o) (ho : o.isCells = false) : CKeep W (W.putObj k o') := by
  intro a v hc
  have hne : a.block ≠ k := by
    intro e
    unfold World.cell? at hc
    rw [e, h] at hc
    cases o <;> simp_all [Obj.isCells]
  exact (World.cell?_of_block (World.putObj_heap_other hne)).trans hc
def FromI (w : World) (b0 : Nat) (pre : List Id) (C : Nat → Prop) (W : World) : Prop :=
  ∃ A c, SliceBox W b0 A pre.length c ∧ OwnIds W w.heap.size A c pre ∧ C b0 ∧ (∀ q, rowOf A = some q → C q ∧ q ≠ b0) ∧ Below w.heap.size w W
theorem FromI.abide (w : World) (b0 B : Nat) (hB : w.heap.size ≤ B) : Abide B (FromI w b0) := by
  rintro pre C W W' ⟨A, c, h1, h2, h3, h4, h5⟩ hk
  refine ⟨A, c, (hk.block b0 h1.lt (.inr h3)).trans h1, h2.same (fun q hq => hk.block q (h2.lt q hq).2 (.inr (h4 q hq).1)), h3, h4, ?_⟩
  exact ⟨hk.os.trans h5.os, hk.tape.trans h5.tape, hk.output.trans h5.output, Nat.le_trans h5.size hk.size, fun i hi => (hk.block i (Nat.lt_of_lt_of_le hi h5.size) (.inl (by omega))).trans (h5.block i hi)⟩
set_option maxRecDepth 100000 in
set_option maxHeartbeats 1600000 in
theorem from_calls {w : World} {p : Option Addr} {mb : Nat} {rs : List Rec} (hg : GraphP w p mb rs) (A : Option Addr) (c : Nat) (l : List Id) (hC : Kd.C kId w A l.length l)
    (D : Nat) (hD : ∀ r ∈ rs, r.f2.length ≤ D ∧ r.f3.length ≤ 1048576) (hb : l.length + D * ((allIds rs l).length + 1) ≤ 1048576) (hN : (allIds rs l).length ≤ 1048576) :
    Calls Try.prog 17 #[.pointer p, .slice A l.length c] w fun e w' => ∃ B d, e = .returned (.slice B (reachIds rs l).length d) ∧ Kd.C kId w' B (reachIds rs l).length (reachIds rs l) ∧ (reachIds rs l).length ≤ d ∧ Below w.heap.size w w' := by
  have hlen := hC.2.1
  refine (callsIn_wide (n := 0)).1 ?_
  refine callsIn_of_wp_marks Try.func17 rfl trivial ?_
  simp only [Try.ntmps17, List.size_toArray, List.length_cons, List.length_nil, Nat.reduceAdd, Nat.reduceSub, Array.replicate_succ, Array.replicate_zero, List.push_toArray, List.append_toArray, List.nil_append, List.cons_append]
  gi_wp2_with (gi_at_call 46; refine (callsIn_wide.2 (each_calls p l.length c A _)).mono ?_; rintro e w' ⟨rfl, rfl⟩)
  have hB3 : Below w.heap.size w (((w.alloc (.cells #[.slice none 0 0] 23)).alloc (.cells #[.pointer p] 28)).alloc (.cells #[.slice A l.length c] 23)) := (((Below.refl _ _).alloc (Nat.le_refl _) _).alloc (by simp) _).alloc (by simp; omega) _
  have hbo : SliceBox (((w.alloc (.cells #[.slice none 0 0] 23)).alloc (.cells #[.pointer p] 28)).alloc (.cells #[.slice A l.length c] 23)) w.heap.size none 0 0 := at_old (at_old (at_new rfl _) _) _
  have hbg : PtrP (((w.alloc (.cells #[.slice none 0 0] 23)).alloc (.cells #[.pointer p] 28)).alloc (.cells #[.slice A l.length c] 23)) (w.heap.size + 1) p := at_old (at_new (by simp) _) _
  have hbl : SliceBox (((w.alloc (.cells #[.slice none 0 0] 23)).alloc (.cells #[.pointer p] 28)).alloc (.cells #[.slice A l.length c] 23)) (w.heap.size + 2) A l.length c := at_new (by simp) _
  have hs3 : (((w.alloc (.cells #[.slice none 0 0] 23)).alloc (.cells #[.pointer p] 28)).alloc (.cells #[.slice A l.length c] 23)).heap.size = w.heap.size + 3 := by simp
  generalize (((w.alloc (.cells #[.slice none 0 0] 23)).alloc (.cells #[.pointer p] 28)).alloc (.cells #[.slice A l.length c] 23)) = w3 at hB3 hbo hbg hbl hs3 ⊢
  have hseq := each_seq hg hB3 (w.heap.size + 2) (w.heap.size + 1) A c l hbl hbg (cel_id.C (CKeep.below hB3) hC) D hD hb
  have HB3 := Aside0.mk hB3
  have HBO := Aside0.mk hbo
  have HS3 := Aside0.mk hs3
  clear hB3 hbo hbg hbl hs3 hC hg
  refine wpIn_rangeFunc_mine (gf := 68) (lb := #[.pointer (some ⟨w.heap.size + 2, 0, none⟩), .pointer (some ⟨w.heap.size + 1, 0, none⟩)]) rfl (enters_of Try.func68 (by kernel_rfl) rfl) hseq (fun b hb => by have := HS3.out; omega) (Below.refl _ _) (fun _ => rfl)
    (fun b => b = w.heap.size) (fun b hb => by have := HS3.out; omega) (FromI w w.heap.size) (fun _ _ _ _ => False) (FromI.abide _ _ _ HB3.out.size) (fun _ _ _ _ _ h _ => h)
    ⟨none, 0, HBO.out, ownIds_nil _ _, rfl, fun q hq => by simp [rowOf] at hq, HB3.out⟩ ?round ?done ?stop
  case round =>
    rintro L pre x C W ⟨A', c', h1, h2, h3, h4, h5⟩ hCl hCL hwL hL hpl
    have HI := Aside0.mk h1
    have HO := Aside0.mk h2
    have H3 := Aside0.mk h3
    have H4 := Aside0.mk h4
    have H5 := Aside0.mk h5
    have HCl := Aside0.mk hCl
    have HCL := Aside0.mk hCL
    clear h1 h2 h3 h4 h5 hCl hCL hseq
    gi_wp2
    refine ⟨C, Mine.below HCl.out ((Below.refl W.heap.size W).alloc (Nat.le_refl _) _) (Nat.le_refl _), ?_⟩
    intro W2 hk hs
    simp only [World.size_alloc] at hs
    have hb12 : ∀ b, b < W.heap.size → b ≠ L → W2.heap[b]? = W.heap[b]? := fun b hb hne => (hk.block b (by simp; omega) (.inr hne)).trans (Below.heap_alloc _ _ _ hb)
    have hx2 : IdBox W2 W.heap.size x := (hk.block W.heap.size (by simp) (.inr (by omega))).trans (heap_alloc_new W _)
    have ho2 : SliceBox W2 w.heap.size A' pre.length c' := (hb12 _ HI.out.lt (fun e => HCL.out (e ▸ H3.out))).trans HI.out
    have hw2 : OwnIds W2 w.heap.size A' c' pre := HO.out.same fun q hq => hb12 q (HO.out.lt q hq).2 (fun e => HCL.out (e ▸ (H4.out q hq).1))
    have hB2 : Below w.heap.size w W2 := ⟨hk.os.trans H5.out.os, hk.tape.trans H5.out.tape, hk.output.trans H5.out.output, by have := H5.out.size; omega, fun i hi => (hb12 i (Nat.lt_of_lt_of_le hi H5.out.size) (by have := HS3.out; omega)).trans (H5.out.block i hi)⟩
    have x0 := hx2.c0
    have x1 := hx2.c1
    have o0 := ho2.c0
    have HI2 := Aside0.mk ho2
    have HO2 := Aside0.mk hw2
    have HB2 := Aside0.mk hB2
    have hC2 : ∀ b, C b → b < W2.heap.size := fun b hb => by have := HCl.out b hb; omega
    have HC2 := Aside0.mk hC2
    clear ho2 hw2 hB2 hx2 hb12 hk hC2 hs
    have hpl2 : pre.length + 1 ≤ 8388608 := by omega
    gi_wp2_with (gi_at_builtin; refine wpListIn_append_ids (HO2.out.alloc _) (one_C _ x) hpl2 (by have := HB2.out.size; simp; omega) rfl (.tmp 11) (.tmp 13) rfl rfl rfl ?_; intro A5 c5 w5 hown5 hgrow5 hat5; have hbo5 : SliceBox w5 w.heap.size A' pre.length c' := (hgrow5.block w.heap.size (by have := HI2.out.lt; simp; omega) (fun e => (H4.out _ e.symm).2 rfl)).trans (HI2.out.below ((Below.refl W2.heap.size W2).alloc (Nat.le_refl _) _) (Nat.le_refl _)); have o5 := hbo5.c0; have f5 : w5.frozen? ⟨w.heap.size, 0, none⟩ = false := (by simp [World.frozen?, show w5.heap[w.heap.size]? = _ from hbo5]))
    have m1 : Mine C C W2 (W2.alloc (.cells #[.int .i64 x.f0, .int .i64 x.f1] 37)) := Mine.below HC2.out ((Below.refl W2.heap.size W2).alloc (Nat.le_refl _) _) (Nat.le_refl _)
    have m2 := Mine.grown m1.lt hgrow5 (fun r e => .inl (H4.out r e).1) (fun b => rowOf A5 = some b) (fun b hb => ⟨by
      rcases hat5 with e | e
      · rw [e] at hb; exact .inl (H4.out b hb).1
      · rw [e] at hb; injection hb with hb; exact .inr (by omega), (hown5.lt b hb).2⟩)
    have hne5 : ∀ q, rowOf A5 = some q → q ≠ w.heap.size := by
      intro q hq e
      rcases hat5 with e' | e'
      · rw [e'] at hq; exact (H4.out q hq).2 e
      · rw [e'] at hq; injection hq with hq; simp at hq; have := HI2.out.lt; omega
    refine ⟨_, (m1.trans m2).trans (Mine.set m2.lt (.inl H3.out) 0 _), A5, c5, ?_, ?_, .inl H3.out, fun q hq => ⟨.inr hq, hne5 q hq⟩, ?_⟩
    · have := (show w5.heap[w.heap.size]? = _ from hbo5)
      simp [SliceBox, World.setCell, Array.getElem?_modify, this]
    · exact hown5.same fun q hq => Below.heap_setCell w5 _ _ q (hne5 q hq)
    · exact (((HB2.out.alloc HB2.out.size _).grown hgrow5 (by have := HB2.out.size; simp; omega) (fun k e => (HO2.out.lt k e).1))).setCell (Nat.le_refl _) _
  case done =>
    rintro Dd xs C W hD hCD ⟨hnd, hmem⟩ ⟨A', c', h1, h2, h3, h4, h5⟩ hK
    have hxl : xs.length ≤ 1048576 := Nat.le_trans (nodup_le hnd fun x hx => ((hmem x).1 hx).all) hN
    have hsort := sorted_calls A' c' xs W (h2.C (by omega)) hxl
    have e : sortIds xs = reachIds rs l := sortIds_of (reachIds_spec rs l).1 (fun x => ((reachIds_spec rs l).2 x).trans (hmem x).symm)
    rw [e] at hsort
    have c0 := h1.c0
    have HH5 := Aside0.mk h5
    have HK := Aside0.mk hK
    have HD' := Aside0.mk hD
    clear h1 h2 h3 h4 h5 e hseq hD hK hCD
    gi_wp2_with (gi_at_call 48; refine (callsIn_wide.2 hsort).mono ?_; rintro e w5 ⟨B, d, rfl, hC5, hb5, hq⟩; have hcap5 := Aside0.mk (show (reachIds rs l).length ≤ d by obtain ⟨_, rest5, R5, _, _, _, h, _⟩ := hq; omega); clear hq)
    have hK5 := (hb5.block Dd (Array.getElem?_eq_some_iff.1 HK.out).1).trans HK.out
    refine ⟨by simp, .inl ⟨_, _, rfl, run_takeDeferred hK5, ?_⟩⟩
    refine ⟨_, results_tmp rfl _ _ _, B, d, rfl, ?_, hcap5.out, ?_⟩
    · exact cel_id.C (CKeep.putObj _ hK5 rfl) hC5
    · have hB5 := HH5.out.trans (hb5.mono HH5.out.size)
      exact hB5.trans (belowK_b (w := w) (Nat.le_refl _) w5 Dd _ _ (by have := HS3.out; have := HD'.out; omega) hK5 rfl rfl)
  case stop =>
    rintro Dd cc pre C W _ _ _ h _
    exact h.elim
def BoolBox (w : World) (b : Nat) (v : Bool) : Prop := w.heap[b]? = some (.cells #[.bool v] 4 (0, 0))
theorem BoolBox.c0 {w : World} {b : Nat} {v : Bool} (h : BoolBox w b v) : w.cell? ⟨b, 0, none⟩ = some (.bool v) := cell_of_row w b 0 _ _ _ h
theorem BoolBox.lt {w : World} {b : Nat} {v : Bool} (h : BoolBox w b v) : b < w.heap.size := (Array.getElem?_eq_some_iff.1 h).1
theorem BoolBox.set {w : World} {b : Nat} {v : Bool} (h : BoolBox w b v) (u : Bool) : BoolBox (w.setCell ⟨b, 0, none⟩ (.bool u)) b u := by
  have := (show w.heap[b]? = _ from h)
  simp [BoolBox, World.setCell, Array.getElem?_modify, this]
end Go.Proofs.Ytjffghebcaklaaa
