/- works of layer 16. -/
import Derived.Test.YtjffghebcaklaaaLawP
import Derived.StillTailTactics
import Derived.Deep.RegionHeld3
namespace Go.Proofs.Ytjffghebcaklaaa
open Go Go.RowKit Go.Shelf Go.Lib Go.Sort Go.Proofs.YtjffghebcaklaaaW.PrintWords Go.Proofs.YtjffghebcaklaaaW.PrintLast Go.Proofs.YtjffghebcaklaaaW.PrintMore
set_option linter.unusedVariables false
set_option linter.unusedSimpArgs false
attribute [local go_sem] run_store_float
theorem own_block {w : World} {g : Nat} {xs : List Id} (hn : xs.length ≤ maxLen) (h : w.heap[g]? = some (.cells (xs.flatMap encId).toArray 37 (0, 0))) : OwnIds w g (some ⟨g, 0, none⟩) xs.length xs := by
  have hl := flat_length encId 2 (fun _ => rfl) xs
  exact ⟨hl, .inr ⟨g, xs.length, _, rfl, Nat.le_refl _, h, Nat.le_refl _, hn, by simpa using hl, by show (xs.flatMap encId).take _ = _; exact List.take_of_length_le (by omega)⟩⟩
theorem ids_block {w : World} {g : Nat} {xs : List Id} (hn : xs.length ≤ maxLen) (h : w.heap[g]? = some (.cells (xs.flatMap encId).toArray 37 (0, 0))) : Kd.C kId w (some ⟨g, 0, none⟩) xs.length xs :=
  (own_block hn h).C (by simp only [maxLen] at hn; omega)
/-- The world in which works asks for a graph. -/
def wW (w : World) : World := ((((((w.alloc (Obj.cells #[Value.int IntKind.i64 0, Value.int IntKind.i64 1] 37)).alloc
                      (Obj.cells #[Value.int IntKind.i64 0, Value.int IntKind.i64 2] 37)).alloc
                  (Obj.cells #[Value.int IntKind.i64 0, Value.int IntKind.i64 3] 37)).alloc
              (Obj.cells #[Value.int IntKind.i64 0, Value.int IntKind.i64 2] 37)).alloc
          (Obj.cells #[Value.int IntKind.i64 0, Value.int IntKind.i64 9] 37)).alloc
      (Obj.cells
        #[Value.int IntKind.i64 0, Value.int IntKind.i64 1, Value.int IntKind.i64 1,
          Value.slice (some { block := w.heap.size + 1 + 1 + 1, off := 0 }) 1 1, Value.slice none 0 0,
          Value.int IntKind.i64 0, Value.int IntKind.i64 2, Value.int IntKind.i64 1, Value.slice none 0 0,
          Value.slice none 0 0, Value.int IntKind.i64 0, Value.int IntKind.i64 3, Value.int IntKind.i64 1,
          Value.slice (some { block := w.heap.size + 1 + 1 + 1 + 1, off := 0 }) 1 1, Value.slice none 0 0]
        49))
theorem wW_below (w : World) : Below w.heap.size w (wW w) :=
  ((((((Below.refl _ _).alloc (Nat.le_refl _) _).alloc (by simp) _).alloc (by simp; omega) _).alloc (by simp; omega) _).alloc (by simp; omega) _).alloc (by simp; omega) _
theorem wW_a (w : World) : IdBox (wW w) w.heap.size wA := at_old (at_old (at_old (at_old (at_old (idBox_new w wA) _) _) _) _) _
theorem wW_b (w : World) : IdBox (wW w) (w.heap.size + 1) wB := at_old (at_old (at_old (at_old (at_new (by simp) _) _) _) _) _
theorem wW_recs (w : World) : Kd.C kRec (wW w) (some ⟨w.heap.size + 1 + 1 + 1 + 1 + 1, 0, none⟩) 3 wRs := by
  have h3 : (wW w).heap[w.heap.size + 1 + 1 + 1]? = some (.cells ([wB].flatMap encId).toArray 37 (0, 0)) := at_old (at_old (at_new (by simp) _) _) _
  have h4 : (wW w).heap[w.heap.size + 1 + 1 + 1 + 1]? = some (.cells ([(⟨0, 9⟩ : Id)].flatMap encId).toArray 37 (0, 0)) := at_old (at_new (by simp) _) _
  have c3 := ids_block (by decide) h3
  have c4 := ids_block (by decide) h4
  have h5 := show (wW w).heap[w.heap.size + 1 + 1 + 1 + 1 + 1]? = some _ from at_new (by simp) _
  have cn : Kd.C kId (wW w) none 0 [] := ⟨rfl, by decide, fun h => absurd h (by omega)⟩
  have cm : Kd.C kCmd (wW w) none 0 [] := ⟨rfl, by decide, fun h => absurd h (by omega)⟩
  refine ⟨rfl, by decide, fun _ => ⟨_, rfl, fun j r hj => ?_⟩⟩
  rcases j with _ | _ | _ | j
  · obtain rfl : _ = r := Option.some.inj hj
    exact ⟨_, rfl, PRef.k49_mk (wW w) ⟨wA, 1, [wB], []⟩ (Nat.le_refl _) c3 (Nat.le_refl _) cm, fun i u hu => by rw [add_zero_at, show kRec.sz = 5 from rfl, cell_of_row _ _ _ _ _ _ h5]; rcases i with _ | _ | _ | _ | _ | i <;> first | exact hu | simp at hu⟩
  · obtain rfl : _ = r := Option.some.inj hj
    exact ⟨_, rfl, PRef.k49_mk (wW w) ⟨wB, 1, [], []⟩ (Nat.le_refl _) cn (Nat.le_refl _) cm, fun i u hu => by rw [add_zero_at, show kRec.sz = 5 from rfl, cell_of_row _ _ _ _ _ _ h5]; rcases i with _ | _ | _ | _ | _ | i <;> first | exact hu | simp at hu⟩
  · obtain rfl : _ = r := Option.some.inj hj
    exact ⟨_, rfl, PRef.k49_mk (wW w) ⟨wC, 1, [⟨0, 9⟩], []⟩ (Nat.le_refl _) c4 (Nat.le_refl _) cm, fun i u hu => by rw [add_zero_at, show kRec.sz = 5 from rfl, cell_of_row _ _ _ _ _ _ h5]; rcases i with _ | _ | _ | _ | _ | i <;> first | exact hu | simp at hu⟩
  · simp [wRs] at hj
set_option maxRecDepth 100000 in
set_option maxHeartbeats 3200000 in
theorem works_calls (w : World) :
    Calls Try.prog 9 #[] w fun e w' => e = .returned (.bool true) ∧ Below w.heap.size w w' := by
  have HN := Aside0.mk (new20 (w := wW w) wRs_few (some ⟨w.heap.size + 1 + 1 + 1 + 1 + 1, 0, none⟩) 3 (wW_recs w))
  go_enter Try.func9, Try.ntmps9
  go_wp2_with (go_at_call 10; refine (HN.out).mono ?_; rintro e w1 ⟨g, mb, rfl, hg, hlt, hb⟩)
  have HB := Aside0.mk ((wW_below w).trans (hb.mono (wW_below w).size))
  have ha := (wW_a w).below hb (Nat.le_refl _)
  have hbx := (wW_b w).below hb (Nat.le_refl _)
  have HC : Aside0 (∀ W : World, Below w1.heap.size w1 W → Calls Try.prog 11 #[.pointer (some ⟨g, 0, none⟩)] W fun e w' => ∃ A c, e = .returned (.slice A 2 c) ∧ Kd.C kId w' A 2 [wA, wB] ∧ 2 ≤ c ∧ Below W.heap.size W w') := ⟨fun W hW => (closed20 (hg.below hW (Nat.le_refl _)) wRs_few).mono (by
    rintro e w' ⟨A, c, out, rfl, ho, hl, hr, hx, hb'⟩
    obtain rfl := wRs_closed hr hx
    exact ⟨A, c, rfl, ho.C (by simp), ho.le, hb'⟩)⟩
  have HP := Aside0.mk (fun (W : World) (hW : Below w1.heap.size w1 W) => by have := path20 (hg.below hW (Nat.le_refl _)) wRs_few wA wB; rw [wRs_a, show decide (wB ∈ [wA, wB]) = true from by decide] at this; exact this)
  have HQ := Aside0.mk (fun (W : World) (hW : Below w1.heap.size w1 W) => by have := path20 (hg.below hW (Nat.le_refl _)) wRs_few wB wA; rw [wRs_b, show decide (wA ∈ [wB]) = false from by decide] at this; exact this)
  have HWb : Aside0 (∀ W : World, Below w1.heap.size w1 W → Calls Try.prog 14 #[.pointer (some ⟨g, 0, none⟩), .slice (some ⟨W.heap.size, 0, none⟩) 1 1] (W.alloc (.cells #[.int .i64 wB.f0, .int .i64 wB.f1] 37)) fun e w' => e = .returned (.bool true) ∧ Below (W.alloc (.cells #[.int .i64 wB.f0, .int .i64 wB.f1] 37)).heap.size (W.alloc (.cells #[.int .i64 wB.f0, .int .i64 wB.f1] 37)) w') := ⟨fun W hW => by
    have := whole20 (hg.below (below_alloc hW _) (Nat.le_refl _)) wRs_few (some ⟨W.heap.size, 0, none⟩) 1 [wB] (ids_block (xs := [wB]) (by decide) (heap_alloc_new W _)) (by decide)
    rw [wRs_whole] at this
    exact this⟩
  have HX := Aside0.mk (fun (W : World) (hW : Below w1.heap.size w1 W) => (⟨(ha.below hW (Nat.le_refl _)).c0, (ha.below hW (Nat.le_refl _)).c1, (hbx.below hW (Nat.le_refl _)).c0, (hbx.below hW (Nat.le_refl _)).c1⟩ : _ ∧ _ ∧ _ ∧ _))
  have HSa : Aside0 (∀ (W : World) (A : Option Addr) (c : Nat) (A' : Option Addr), Kd.C kId W A 2 [wA, wB] → 2 ≤ c → Kd.C kId W A' 2 [wA, wB] → Calls Try.prog 12 #[.slice A 2 c, .slice A' 2 2] W fun e w' => e = .returned (.bool true) ∧ Drawn0 W w') := ⟨fun W A c A' hC hc hC' => by
    have := same_calls' W [wA, wB] [wA, wB] A c A' 2 hC hc hC' (Nat.le_refl _)
    rw [show decide ([wA, wB] = [wA, wB]) = true from by decide] at this
    exact this⟩
  have HSb : Aside0 (∀ (W : World) (A : Option Addr) (c : Nat), Kd.C kId W A 2 [wA, wB] → 2 ≤ c → Calls Try.prog 12 #[.slice A 2 c, .slice (some ⟨W.heap.size, 0, none⟩) 2 2] (W.alloc (.cells #[.int .i64 wA.f0, .int .i64 wA.f1, .int .i64 wB.f0, .int .i64 wB.f1] 37)) fun e w' => e = .returned (.bool true) ∧ Drawn0 (W.alloc (.cells #[.int .i64 wA.f0, .int .i64 wA.f1, .int .i64 wB.f0, .int .i64 wB.f1] 37)) w') := ⟨fun W A c hC hc =>
    HSa.out _ A c _ (Kd.C_below hC ((Below.refl _ _).alloc (Nat.le_refl _) _)) hc (ids_block (xs := [wA, wB]) (by decide) (heap_alloc_new W _))⟩
  have HCa := Aside0.mk (HC.out w1.drew (below_drew1 (Below.refl _ _)))
  have HCb := Aside0.mk (HC.out (w1.alloc (.cells #[.int .i64 wA.f0, .int .i64 wA.f1, .int .i64 wB.f0, .int .i64 wB.f1] 37)).drew (below_drew1 (below_alloc (Below.refl _ _) _)))
  obtain ⟨x1, x2, x3, x4⟩ := HX.out w1 (Below.refl _ _)
  have H0 := Aside0.mk (show Below w1.heap.size w1 w1 from Below.refl _ _)
  clear hg ha hbx hb hlt HN
  go_region_held3 (fun W => W.cell? ⟨w.heap.size, 0, none⟩ = some (.int .i64 wA.f0) ∧ W.cell? ⟨w.heap.size, 1, none⟩ = some (.int .i64 wA.f1) ∧ W.cell? ⟨w.heap.size + 1, 0, none⟩ = some (.int .i64 wB.f0) ∧ W.cell? ⟨w.heap.size + 1, 1, none⟩ = some (.int .i64 wB.f1))
    (first | (exact ⟨x1, x2, x3, x4⟩) | (exact ⟨y1, y2, y3, y4⟩) | (exact ⟨z1, z2, z3, z4⟩) | (exact ⟨u1, u2, u3, u4⟩) | (exact ⟨v1, v2, v3, v4⟩) | (exact ⟨t1, t2, t3, t4⟩) | go_keep)
    ((first
    | (go_at_call 11; with_reducible refine HCa.out.mono ?_; rintro e w2 ⟨A, c, rfl, hC, hc, hb2⟩
       have H2 := Aside0.mk (below_step (below_drew1 (Below.refl w1.heap.size w1)) hb2)
       obtain ⟨y1, y2, y3, y4⟩ := HX.out w2 H2.out
       have HC2 := Aside0.mk hC
       have HCl := Aside0.mk hc
       clear hC hc hb2)
    | (go_at_call 11; with_reducible refine HCb.out.mono ?_; rintro e w2 ⟨A, c, rfl, hC, hc, hb2⟩
       have H2 := Aside0.mk (below_step (below_drew1 (below_alloc (Below.refl w1.heap.size w1) _)) hb2)
       have HZ : Aside0 (Kd.C kId w2 (some ⟨w1.heap.size, 0, none⟩) 2 [wA, wB]) := Aside0.mk (ids_block (xs := [wA, wB]) (w := w2) (g := w1.heap.size) (by decide) ((hb2.block _ (by simp)).trans (heap_alloc_new w1 _)))
       obtain ⟨y1, y2, y3, y4⟩ := HX.out w2 H2.out
       have HC2 := Aside0.mk hC
       have HCl := Aside0.mk hc
       clear hC hc hb2)
    | (go_at_call 12; with_reducible refine (HSa.out w2 A c (some ⟨w1.heap.size, 0, none⟩) HC2.out HCl.out HZ.out).mono ?_; rintro e w3 ⟨rfl, hd3⟩
       have H3 := Aside0.mk (below_step H2.out hd3.below)
       obtain ⟨z1, z2, z3, z4⟩ := HX.out w3 H3.out
       clear hd3)
    | (go_at_call 12; with_reducible refine (HSb.out w2 A c HC2.out HCl.out).mono ?_; rintro e w3 ⟨rfl, hd3⟩
       have H3 := Aside0.mk (below_step (below_alloc H2.out _) hd3.below)
       obtain ⟨z1, z2, z3, z4⟩ := HX.out w3 H3.out
       clear hd3)
    | (go_at_call 19; with_reducible refine (HP.out w3 H3.out).mono ?_; rintro e w4 ⟨rfl, hb4⟩
       have H4 := Aside0.mk (below_step H3.out hb4)
       obtain ⟨u1, u2, u3, u4⟩ := HX.out w4 H4.out
       clear hb4)
    | (go_at_call 19; with_reducible refine (HQ.out w4 H4.out).mono ?_; rintro e w5 ⟨rfl, hb5⟩
       have H5 := Aside0.mk (below_step H4.out hb5)
       obtain ⟨v1, v2, v3, v4⟩ := HX.out w5 H5.out
       clear hb5)
    | (go_at_call 14; with_reducible refine (HWb.out w5 H5.out).mono ?_; rintro e w6 ⟨rfl, hb6⟩
       have H6 := Aside0.mk (below_step (below_alloc H5.out _) hb6)
       obtain ⟨t1, t2, t3, t4⟩ := HX.out w6 H6.out
       clear hb6)))
  all_goals (go_wp2; go_ret; exact ⟨rfl, HB.out.trans (H6.out.mono HB.out.size)⟩)
end Go.Proofs.Ytjffghebcaklaaa
