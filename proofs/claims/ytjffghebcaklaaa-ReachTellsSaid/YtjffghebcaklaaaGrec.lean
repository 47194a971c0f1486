/- A graph's Record. -/
import Derived.Test.YtjffghebcaklaaaGraf
namespace Go.Proofs.Ytjffghebcaklaaa
open Go Go.RowKit Go.Lib Go.Sort Go.Proofs.YtjffghebcaklaaaW.PrintWords Go.Proofs.YtjffghebcaklaaaW.PrintLast Go.Proofs.YtjffghebcaklaaaW.PrintMore
set_option linter.unusedVariables false
set_option linter.unusedSimpArgs false
attribute [local go_sem] run_store_float
theorem results_two_row {P : Program} {fn : Func} {p u : Tmp} {ty : TypeId} (h : fn.results = #[.cell p ty, .tmp u]) (tmps : Array Value) (w : World) (g : Nat) (t : TypeId) (cs : Array Value) (fr : Nat × Nat) (d : TypeDesc)
    (hp : tmps.getD p undef = .pointer (some ⟨g, 0, none⟩)) (hg : w.heap[g]? = some (.cells cs t fr))
    (hu : P.underlying ty = some d) (hd : (match d with | .struct _ | .array _ _ => true | _ => false) = true) (hi : (P.info? ty).map (·.size) = some cs.size) :
    (results fn tmps).run P w = .ok (.tuple #[.agg cs, tmps.getD u undef]) w := by
  rw [results_cell_tmp h, hp]
  simp [asAddr, Result.andThen, run_loadVar_row w g t ty cs fr d hg hu hd hi]
/-- What lies in one block stays where that block stays. -/
theorem C_block {α : Type} {d : Kd α} {w w1 : World} {g n : Nat} {xs : List α} (h : d.C w (some ⟨g, 0, none⟩) n xs) (hb : w1.heap[g]? = w.heap[g]?) (hk : ∀ (w w1 : World) (x : α) (cs : List Value), d.K w x cs → d.K w1 x cs) : d.C w1 (some ⟨g, 0, none⟩) n xs := by
  refine ⟨h.1, h.2.1, fun hn => ?_⟩
  obtain ⟨ad, e, hc⟩ := h.2.2 hn
  refine ⟨ad, e, fun j p hj => ?_⟩
  obtain ⟨c, hs2, hr2, hcell⟩ := hc j p hj
  refine ⟨c, hs2, hk _ _ _ _ hr2, fun i u hu => ?_⟩
  obtain rfl := Option.some.inj e
  have := hcell i u hu
  rw [add_zero_at] at this ⊢
  exact (World.cell?_of_block (a := ⟨g, _, none⟩) hb).trans this
set_option maxRecDepth 100000 in
set_option maxHeartbeats 1600000 in
theorem record_some {w : World} {g mb : Nat} {rs : List Rec} (h : GraphAt w g mb rs) (x : Id) (hx : hasRec rs x = true) (hK : ∀ r ∈ rs, r.f2.length ≤ 1048576 ∧ r.f3.length ≤ 1048576) :
    Calls Try.prog 69 #[.pointer (some ⟨g, 0, none⟩), .agg #[.int .i64 x.f0, .int .i64 x.f1]] w fun e w' => ∃ r v, e = .returned (.tuple #[v, .bool true]) ∧ r ∈ rs ∧ r.f0 = x ∧ RecV w' v r ∧ Below w.heap.size w w' := by
  have hB : Below w.heap.size w ((w.alloc (.cells #[.int .i64 x.f0, .int .i64 x.f1] 37)).alloc (.cells #[.int .i64 0, .int .i64 0, .int .i64 0, .slice none 0 0, .slice none 0 0] 49)) := ((Below.refl _ _).alloc (Nat.le_refl _) _).alloc (by simp) _
  have hg := h.below hB (Nat.le_refl _)
  have hcall := graph_has hg x
  rw [hx] at hcall
  have HG := Aside0.mk hg
  have HB := Aside0.mk hB
  clear hg hB
  go_enter Try.func69, Try.ntmps69
  go_wp2_with (go_at_call 47; refine hcall.mono ?_; rintro e w1 ⟨rfl, hb1⟩)
  have hg1 := HG.out.below hb1 (Nat.le_refl _)
  have hb0 := (hb1.block w.heap.size (by simp; omega)).trans (at_old (heap_alloc_new w (.cells #[.int .i64 x.f0, .int .i64 x.f1] 37)) _)
  have hr0 := (hb1.block (w.heap.size + 1) (by simp)).trans (at_new (by simp) (.cells #[.int .i64 0, .int .i64 0, .int .i64 0, .slice none 0 0, .slice none 0 0] 49))
  have d0 := cell_of_row _ w.heap.size 0 _ _ _ hb0
  have d1 := cell_of_row _ w.heap.size 1 _ _ _ hb0
  obtain ⟨n, hgc⟩ := hg1.cell
  have hgc0 := cell_of_row _ g 0 _ _ _ hgc
  have hs1 := hb1.size
  simp only [World.size_alloc] at hs1
  rcases (hg1.recs.below (below_drew1 (Below.refl w1.heap.size w1)) (Nat.le_refl _)).look x false with ⟨_, r, v, hr, hrx, hv, hl⟩ | ⟨hh, _⟩
  · obtain ⟨A3, c3, A4, c4, rfl, hl3, hl4, hC3, hC4⟩ := hv
    simp only [Bool.false_eq_true, if_false] at hl
    have hcp := recCopy r A3 A4 c3 c4 w1.drew hC3 hC4 (hK r hr).1 (hK r hr).2
    have HB1 := Aside0.mk (HB.out.trans (hb1.mono HB.out.size))
    have HR0 := Aside0.mk hr0
    have HRX := Aside0.mk (And.intro hr hrx)
    clear h hg1 hgc hb0 hr0 hC3 hC4 hcall hb1 hr hrx hK
    go_still_tail 7, (by kernel_rfl)
    go_wp2_with (go_at_call 41; refine hcp.mono ?_; rintro e w3 ⟨B, B', d, d', rfl, hd, hd', hCB, hCB', hb3, p1, p2, rfl, rfl, hp1, hp2⟩; have hz := (hb3.block (w.heap.size + 1) (by simp; omega)).trans HR0.out; have z0 := cell_of_row _ (w.heap.size + 1) 0 _ _ _ hz; have z1 := cell_of_row _ (w.heap.size + 1) 1 _ _ _ hz; have z2 := cell_of_row _ (w.heap.size + 1) 2 _ _ _ hz; have z3 := cell_of_row _ (w.heap.size + 1) 3 _ _ _ hz; have z4 := cell_of_row _ (w.heap.size + 1) 4 _ _ _ hz; have fz : ∀ j, w3.frozen? ⟨w.heap.size + 1, j, none⟩ = false := fun j => by simp [World.frozen?, hz])
    have HS := Aside0.mk (set5 w3 (w.heap.size + 1) 49 (.int .i64 0) (.int .i64 0) (.int .i64 0) (.slice none 0 0) (.slice none 0 0) (.int .i64 r.f0.f0) (.int .i64 r.f0.f1) (.int .i64 r.f1) (.slice (some ⟨p1, 0, none⟩) r.f2.length d) (.slice (some ⟨p2, 0, none⟩) r.f3.length d') hz)
    have hne1 : p1 ≠ w.heap.size + 1 := by simp at hp1; omega
    have hne2 : p2 ≠ w.heap.size + 1 := by simp at hp2; omega
    generalize (((((w3.setCell ⟨w.heap.size + 1, 0, none⟩ (.int .i64 r.f0.f0)).setCell ⟨w.heap.size + 1, 1, none⟩ (.int .i64 r.f0.f1)).setCell ⟨w.heap.size + 1, 2, none⟩ (.int .i64 r.f1)).setCell ⟨w.heap.size + 1, 3, none⟩ (.slice (some ⟨p1, 0, none⟩) r.f2.length d)).setCell ⟨w.heap.size + 1, 4, none⟩ (.slice (some ⟨p2, 0, none⟩) r.f3.length d')) = W5 at HS ⊢
    have hB3 : Below w.heap.size w w3 := HB1.out.trans ((below_drew1 (Below.refl w1.heap.size w1)).trans hb3 |>.mono HB1.out.size)
    have hBB : Below w.heap.size w W5 := hB3.trans (turned_below HS.out.2 (by omega))
    refine bodyPost_ret (results_two_row rfl _ _ (w.heap.size + 1) 49 #[.int .i64 r.f0.f0, .int .i64 r.f0.f1, .int .i64 r.f1, .slice (some ⟨p1, 0, none⟩) r.f2.length d, .slice (some ⟨p2, 0, none⟩) r.f3.length d'] (0, 0) _ rfl HS.out.1 Try.underlying49 rfl (by kernel_rfl)) rfl ?_
    exact ⟨r, _, rfl, HRX.out.1, HRX.out.2, ⟨_, _, _, _, rfl, hd, hd', C_block hCB (HS.out.2.2.2 p1 hne1) (fun w w1 x cs h => by obtain rfl := flat_id.open_ h; exact flat_id.mk_ w1 x), C_block hCB' (HS.out.2.2.2 p2 hne2) (fun w w1 x cs h => by obtain rfl := flat_cmd.open_ h; exact flat_cmd.mk_ w1 x)⟩, hBB⟩
  · rw [hx] at hh; cases hh
theorem record_none {w : World} {g mb : Nat} {rs : List Rec} (h : GraphAt w g mb rs) (x : Id) (hx : hasRec rs x = false) :
    Calls Try.prog 69 #[.pointer (some ⟨g, 0, none⟩), .agg #[.int .i64 x.f0, .int .i64 x.f1]] w fun e w' => e = .returned (.tuple #[noRec, .bool false]) ∧ Below w.heap.size w w' := by
  have hB : Below w.heap.size w ((w.alloc (.cells #[.int .i64 x.f0, .int .i64 x.f1] 37)).alloc (.cells #[.int .i64 0, .int .i64 0, .int .i64 0, .slice none 0 0, .slice none 0 0] 49)) := ((Below.refl _ _).alloc (Nat.le_refl _) _).alloc (by simp) _
  have hg := h.below hB (Nat.le_refl _)
  have hcall := graph_has hg x
  rw [hx] at hcall
  have HB := Aside0.mk hB
  clear hg hB
  go_enter Try.func69, Try.ntmps69
  go_wp2_with (go_at_call 47; refine hcall.mono ?_; rintro e w1 ⟨rfl, hb1⟩; have hz := (hb1.block (w.heap.size + 1) (by simp)).trans (at_new (by simp) (.cells #[.int .i64 0, .int .i64 0, .int .i64 0, .slice none 0 0, .slice none 0 0] 49)); have z0 := cell_of_row _ (w.heap.size + 1) 0 _ _ _ hz; have z1 := cell_of_row _ (w.heap.size + 1) 1 _ _ _ hz; have z2 := cell_of_row _ (w.heap.size + 1) 2 _ _ _ hz; have z3 := cell_of_row _ (w.heap.size + 1) 3 _ _ _ hz; have z4 := cell_of_row _ (w.heap.size + 1) 4 _ _ _ hz; have fz : ∀ j, w1.frozen? ⟨w.heap.size + 1, j, none⟩ = false := fun j => by simp [World.frozen?, hz])
  have HS := Aside0.mk (set5 w1 (w.heap.size + 1) 49 (.int .i64 0) (.int .i64 0) (.int .i64 0) (.slice none 0 0) (.slice none 0 0) (.int .i64 0) (.int .i64 0) (.int .i64 0) (.slice none 0 0) (.slice none 0 0) hz)
  generalize (((((w1.setCell ⟨w.heap.size + 1, 0, none⟩ (.int .i64 0)).setCell ⟨w.heap.size + 1, 1, none⟩ (.int .i64 0)).setCell ⟨w.heap.size + 1, 2, none⟩ (.int .i64 0)).setCell ⟨w.heap.size + 1, 3, none⟩ (.slice none 0 0)).setCell ⟨w.heap.size + 1, 4, none⟩ (.slice none 0 0)) = W5 at HS ⊢
  refine bodyPost_ret (results_two_row rfl _ _ (w.heap.size + 1) 49 #[.int .i64 0, .int .i64 0, .int .i64 0, .slice none 0 0, .slice none 0 0] (0, 0) _ rfl HS.out.1 Try.underlying49 rfl (by kernel_rfl)) rfl ?_
  exact ⟨rfl, (HB.out.trans (hb1.mono HB.out.size)).trans (turned_below HS.out.2 (by omega))⟩
end Go.Proofs.Ytjffghebcaklaaa
