/- The reference's Closed and Whole. -/
import Derived.Test.YtjffghebcaklaaaRefG
namespace Go.Proofs.Ytjffghebcaklaaa
open Go Go.RowKit Go.Shelf Go.Lib Go.Sort Go.Proofs.YtjffghebcaklaaaW.PrintWords Go.Proofs.YtjffghebcaklaaaW.PrintLast Go.Proofs.YtjffghebcaklaaaW.PrintMore
set_option linter.unusedVariables false
set_option linter.unusedSimpArgs false
attribute [local go_sem] run_store_float
theorem geq_find (rs : List Rec) (x : Id) : decide (0 ≤ findAt rs x) = hasRec rs x := by
  rcases findAt_spec rs x with ⟨h, hh, _⟩ | ⟨i, h, _, hh, _⟩
  · rw [h, hh]; rfl
  · rw [h, hh]; simp
theorem lss_find (rs : List Rec) (x : Id) : decide (findAt rs x < 0) = !hasRec rs x := by
  rcases findAt_spec rs x with ⟨h, hh, _⟩ | ⟨i, h, _, hh, _⟩
  · rw [h, hh]; rfl
  · rw [h, hh]; simp
theorem all_take (rs : List Rec) (l : List Id) (k : Nat) (h : k < l.length) : (l.take (k + 1)).all (hasRec rs) = ((l.take k).all (hasRec rs) && hasRec rs (rdId l k)) := by
  rw [take_succ_rd l k h, List.all_append]
  simp [rdId]
/-- Is all there that one reaches? -/
def wholeOne (rs : List Rec) (x : Id) : Bool := (reachIds rs [x]).all (hasRec rs)
set_option maxRecDepth 100000 in
set_option maxHeartbeats 1600000 in
theorem refWhole_calls (rs : List Rec) (A0 : Option Addr) (c0 : Nat) (l : List Id) (A : Option Addr) (c : Nat) (w : World) (hR : Kd.C kRec w A0 rs.length rs) (hc0 : rs.length ≤ c0) (hC : Kd.C kId w A l.length l) (hc : l.length ≤ c) (hl : l.length ≤ 1048576) (hN : (allIds rs l).length ≤ 1048576) :
    Calls Try.prog 16 #[.slice A0 rs.length c0, .slice A l.length c] w fun e w' => e = .returned (.bool (wholeB rs l)) ∧ Below w.heap.size w w' := by
  have hfrom := refFrom_calls rs A0 c0 l A c w hR hc0 hC hl hN
  have HR := Aside0.mk hR
  have HC := Aside0.mk hC
  clear hR hC
  go_enter Try.func16, Try.ntmps16
  go_wp2_with (go_at_call 18; refine hfrom.mono ?_; rintro e w1 ⟨B, d, rfl, hC1, hd1, hb1⟩)
  have HW := Aside0.mk (show wholeB rs l = (reachIds rs l).all fun x => hasRec rs x && decide (x ∈ l) from rfl)
  have hal := hC1.2.1
  generalize reachIds rs l = all at hC1 hd1 HW hal ⊢
  have HC1 := Aside0.mk hC1
  have HB1 := Aside0.mk hb1
  clear hC1 hb1 hfrom
  go_loopw [6] (fun i wr => ∃ k : Nat, k ≤ all.length ∧ i = .int .i64 k ∧ Aside0 ((all.take k).all (fun x => hasRec rs x && decide (x ∈ l)) = true) ∧ Aside0 (Below w1.heap.size w1 wr)) (fun i _ => all.length - (intOf i).toNat)
  case atStart => exact ⟨0, Nat.zero_le _, rfl, ⟨by simp⟩, ⟨Below.refl _ _⟩⟩
  case round =>
    obtain ⟨k, hk, rfl, hall, hBr⟩ := hrel
    by_cases hlt : k < all.length
    · obtain ⟨ad, rfl, x0, x1⟩ := PRef.at_T37 (cel_id.C (CKeep.below hBr.out) HC1.out) (k : Int) (by omega) (by omega)
      have HT := Aside0.mk (take_succ_rd all k hlt)
      have HM := Aside0.mk (show PRef.rd_T37 all k ∈ all by
        have e : PRef.rd_T37 all k = all[k] := by simp [PRef.rd_T37, List.getD_eq_getElem?_getD, List.getElem?_eq_getElem hlt]
        rw [e]; exact List.getElem_mem hlt)
      generalize PRef.rd_T37 all (k : Int) = y at x0 x1 HT HM
      simp only [Int.toNat_natCast] at x0 x1
      have hBw : Below w.heap.size w wr := HB1.out.trans (hBr.out.mono HB1.out.size)
      have hfind := refFind_calls rs y A0 c0 wr (cel_rec.C (CKeep.below hBw) HR.out) hc0
      have hlss := lss_find rs y
      have HBW := Aside0.mk hBw
      clear hBw
      cases hh : hasRec rs y with
      | false =>
        rw [hh] at hlss
        have HH := Aside0.mk hh
        clear hh
        obtain ⟨fa, hfa⟩ : ∃ fa : Int, fa = findAt rs y := ⟨_, rfl⟩
        rw [← hfa] at hfind hlss
        clear hfa
        go_wp2_with (go_at_call 33; refine hfind.mono ?_; rintro e w3 ⟨rfl, hb3⟩)
        go_ret
        have e : wholeB rs l = false := by
          rw [HW.out, List.all_eq_false]
          exact ⟨y, HM.out, by simp [HH.out]⟩
        rw [e]
        exact ⟨rfl, HBW.out.trans (hb3.mono HBW.out.size)⟩
      | true =>
        rw [hh] at hlss
        have HH := Aside0.mk hh
        clear hh
        obtain ⟨fa, hfa⟩ : ∃ fa : Int, fa = findAt rs y := ⟨_, rfl⟩
        rw [← hfa] at hfind hlss
        clear hfa
        have HX0 := Aside0.mk x0
        have HX1 := Aside0.mk x1
        by_cases hy : y ∈ l
        · have hhas : ∀ W, Below w.heap.size w W → Calls Try.prog 15 #[.slice A l.length c, .agg #[.int .i64 y.f0, .int .i64 y.f1]] W fun e w' => e = .returned (.bool true) ∧ Below W.heap.size W w' := fun W hW => by
            have := refHas_calls l y A c W (cel_id.C (CKeep.below hW) HC.out) hc
            rwa [show decide (y ∈ l) = true from by simp [hy]] at this
          have HHS := Aside0.mk hhas
          have HY := Aside0.mk hy
          clear hy hhas
          go_wp2_with (first
            | (go_at_call 33; refine hfind.mono ?_; rintro e w3 ⟨rfl, hb3⟩; have y0 := pw_cell_below hb3 x0; have y1 := pw_cell_below hb3 x1)
            | (go_at_call 15; refine (HHS.out _ (HBW.out.trans (hb3.mono HBW.out.size))).mono ?_; rintro e w4 ⟨rfl, hb4⟩))
          go_roundw
          case rel => exact ⟨k + 1, by omega, by go_num, ⟨by rw [HT.out, List.all_append, hall.out]; simp [HH.out, HY.out]⟩, ⟨hBr.out.trans ((hb3.trans (hb4.mono hb3.size)).mono hBr.out.size)⟩⟩
          case measure => simp [intOf]; omega
        · have hhas : ∀ W, Below w.heap.size w W → Calls Try.prog 15 #[.slice A l.length c, .agg #[.int .i64 y.f0, .int .i64 y.f1]] W fun e w' => e = .returned (.bool false) ∧ Below W.heap.size W w' := fun W hW => by
            have := refHas_calls l y A c W (cel_id.C (CKeep.below hW) HC.out) hc
            rwa [show decide (y ∈ l) = false from by simp [hy]] at this
          have HHS := Aside0.mk hhas
          have HY := Aside0.mk hy
          clear hy hhas
          go_wp2_with (first
            | (go_at_call 33; refine hfind.mono ?_; rintro e w3 ⟨rfl, hb3⟩; have y0 := pw_cell_below hb3 x0; have y1 := pw_cell_below hb3 x1)
            | (go_at_call 15; refine (HHS.out _ (HBW.out.trans (hb3.mono HBW.out.size))).mono ?_; rintro e w4 ⟨rfl, hb4⟩))
          go_ret
          have e : wholeB rs l = false := by
            rw [HW.out, List.all_eq_false]
            exact ⟨y, HM.out, by simp [HY.out]⟩
          rw [e]
          exact ⟨rfl, HBW.out.trans ((hb3.trans (hb4.mono hb3.size)).mono HBW.out.size)⟩
    · go_wp2
      go_ret
      obtain rfl : k = all.length := by omega
      have e : wholeB rs l = true := by
        have := hall.out
        rw [List.take_length] at this
        rw [HW.out]
        exact this
      rw [e]
      exact ⟨rfl, HB1.out.trans (hBr.out.mono HB1.out.size)⟩
theorem allOne_le (rs : List Rec) (x y : Id) : (allIds rs [x]).length = (allIds rs [y]).length := by simp [allIds]
set_option maxRecDepth 100000 in
set_option maxHeartbeats 3200000 in
theorem refClosed_calls (rs : List Rec) (A0 : Option Addr) (c0 : Nat) (w : World) (hR : Kd.C kRec w A0 rs.length rs) (hc0 : rs.length ≤ c0) (hrl : rs.length ≤ 1000000) (hN : ∀ x, (allIds rs [x]).length ≤ 1048576) :
    Calls Try.prog 13 #[.slice A0 rs.length c0] w fun e w' => ∃ B d out, e = .returned (.slice B out.length d) ∧ Kd.C kId w' B out.length out ∧ out.length ≤ d ∧ Rising out ∧ (∀ x, x ∈ out ↔ hasRec rs x = true ∧ wholeOne rs x = true) ∧ Below w.heap.size w w' := by
  have HR := Aside0.mk hR
  have HN := Aside0.mk hN
  have hO := ownIds_empty w w.heap.size (Nat.le_refl _)
  have hB : Below w.heap.size w (w.alloc (.cells #[] 37)) := (Below.refl _ _).alloc (Nat.le_refl _) _
  clear hR hN
  go_enter Try.func13, Try.ntmps13
  go_wp2
  generalize w.alloc (.cells #[] 37) = W0 at hO hB ⊢
  have HO := Aside0.mk hO
  have HB := Aside0.mk hB
  clear hO hB
  go_loopw [3, 4] (fun v i wr => ∃ (k : Nat) (A' : Option Addr) (c' : Nat) (acc : List Id), k ≤ rs.length ∧ i = .int .i64 k ∧ v = .slice A' acc.length c' ∧ acc.length ≤ c' ∧ acc.length ≤ k ∧ Aside0 (Rising acc ∧ ∀ x, x ∈ acc ↔ (∃ r ∈ rs.take k, r.f0 = x) ∧ wholeOne rs x = true) ∧ Aside0 (Kd.C kId wr A' acc.length acc) ∧ Aside0 (Below w.heap.size w wr)) (fun _ i _ => rs.length - (intOf i).toNat)
  case atStart => exact ⟨0, _, 0, [], Nat.zero_le _, rfl, rfl, Nat.le_refl _, Nat.le_refl _, ⟨List.Pairwise.nil, fun x => by simp⟩, ⟨HO.out.C (by simp)⟩, HB⟩
  case round =>
    obtain ⟨k, A', c', acc, hk, rfl, rfl, hle, hlk, hacc, hCa, hBr⟩ := hrel
    by_cases hlt : k < rs.length
    · obtain ⟨ad, A3, c3, A4, c4, rfl, x0w, x1w, _, _, _, _, _, _, _⟩ := PRef.at_T49 HR.out (k : Int) (by omega) (by omega)
      have HT := Aside0.mk (take_succ_rec rs k hlt)
      generalize PRef.rd_T49 rs (k : Int) = r at x0w x1w HT
      simp only [Int.toNat_natCast] at x0w x1w
      have HX0 := Aside0.mk (fun (W : World) (h : Below w.heap.size w W) => pw_cell_below h x0w)
      have HX1 := Aside0.mk (fun (W : World) (h : Below w.heap.size w W) => pw_cell_below h x1w)
      clear x0w x1w
      have x0 := HX0.out wr hBr.out
      have x1 := HX1.out wr hBr.out
      have hbx : Below w.heap.size w (wr.alloc (.cells #[.int .i64 r.f0.f0, .int .i64 r.f0.f1] 37)) := hBr.out.alloc hBr.out.size _
      have hfrom := refFrom_calls rs (some ad) c0 [r.f0] (some ⟨wr.heap.size, 0, none⟩) 1 _ (cel_rec.C (CKeep.below hbx) HR.out) hc0 (one_C wr r.f0) (by simp) (HN.out r.f0)
      have HWO := Aside0.mk (show wholeOne rs r.f0 = (reachIds rs [r.f0]).all (hasRec rs) from rfl)
      generalize reachIds rs [r.f0] = all at hfrom HWO
      have HBX := Aside0.mk hbx
      clear hbx
      go_wp2_with (go_at_call 18; refine hfrom.mono ?_; rintro e w1 ⟨B, d, rfl, hC1, hd1, hb1⟩)
      have hal := hC1.2.1
      have HC1 := Aside0.mk hC1
      have HB1 := Aside0.mk (HBX.out.trans (hb1.mono HBX.out.size))
      have HCA := Aside0.mk (cel_id.C (CKeep.trans (CKeep.below ((Below.refl wr.heap.size wr).alloc (Nat.le_refl _) _)) (CKeep.below hb1)) hCa.out)
      clear hC1 hb1 hfrom x0 x1
      obtain ⟨wi, rfl⟩ : ∃ wi : World, wi = w1 := ⟨_, rfl⟩
      go_loopw [6, 7] (fun v i wr => ∃ (q : Nat) (b : Bool), q ≤ all.length ∧ i = .int .i64 q ∧ v = .bool b ∧ Aside0 ((all.take q).all (hasRec rs) = b) ∧ Aside0 (Below wi.heap.size wi wr)) (fun _ i _ => all.length - (intOf i).toNat)
      case atStart => exact ⟨0, true, Nat.zero_le _, rfl, rfl, ⟨by simp⟩, ⟨Below.refl _ _⟩⟩
      case round =>
        obtain ⟨q, b, hq, rfl, rfl, hall, hB5⟩ := hrel
        have hBw5 : Below w.heap.size w wr := HB1.out.trans (hB5.out.mono HB1.out.size)
        by_cases hqt : q < all.length
        · obtain ⟨ad3, rfl, y0, y1⟩ := PRef.at_T37 (cel_id.C (CKeep.below hB5.out) HC1.out) (q : Int) (by omega) (by omega)
          have HTq := Aside0.mk (all_take rs all q hqt)
          have e : rdId all (q : Int) = PRef.rd_T37 all (q : Int) := rfl
          rw [e] at HTq
          clear e
          generalize PRef.rd_T37 all (q : Int) = y at y0 y1 HTq
          simp only [Int.toNat_natCast] at y0 y1
          have hfind := refFind_calls rs y (some ad) c0 wr (cel_rec.C (CKeep.below hBw5) HR.out) hc0
          have hgeq := geq_find rs y
          obtain ⟨fa, hfa⟩ : ∃ fa : Int, fa = findAt rs y := ⟨_, rfl⟩
          rw [← hfa] at hfind hgeq
          clear hfa hBw5
          cases b with
          | false =>
            go_wp2
            go_roundw
            case rel => exact ⟨q + 1, false, by omega, by go_num, rfl, ⟨by rw [HTq.out, hall.out]; rfl⟩, hB5⟩
            case measure => simp [intOf]; omega
          | true =>
            have HGQ := Aside0.mk hgeq
            clear hgeq
            go_wp2_with (go_at_call 33; refine hfind.mono ?_; rintro e w5 ⟨rfl, hb5⟩)
            go_roundw
            case rel => exact ⟨q + 1, hasRec rs y, by omega, by go_num, by rw [← HGQ.out], ⟨by rw [HTq.out, hall.out]; rfl⟩, ⟨hB5.out.trans (hb5.mono hB5.out.size)⟩⟩
            case measure => simp [intOf]; omega
        · have hqe : q = all.length := by omega
          have hb : b = wholeOne rs r.f0 := by rw [HWO.out, ← hall.out, hqe, List.take_length]
          have HQE := Aside0.mk hqe
          have HBB := Aside0.mk hb
          have x0 := HX0.out wr hBw5
          have x1 := HX1.out wr hBw5
          have HBW := Aside0.mk hBw5
          have hCacc := cel_id.C (CKeep.below hB5.out) HCA.out
          clear hqe hb hBw5
          cases b with
          | false =>
            go_wp2
            go_roundw
            case rel =>
              refine ⟨k + 1, A', c', acc, by omega, by go_num, rfl, hle, by omega, ⟨hacc.out.1, fun x => ?_⟩, ⟨hCacc⟩, HBW⟩
              rw [hacc.out.2 x, HT.out]
              constructor
              · rintro ⟨⟨q, hq, e⟩, h⟩; exact ⟨⟨q, List.mem_append_left _ hq, e⟩, h⟩
              · rintro ⟨⟨q, hq, e⟩, h⟩
                rcases List.mem_append.1 hq with hq | hq
                · exact ⟨⟨q, hq, e⟩, h⟩
                · rw [← e, List.mem_singleton.1 hq, ← HBB.out] at h; cases h
            case measure => simp [intOf]; omega
          | true =>
            have hput := put_calls acc r.f0 A' c' wr hCacc hle (by omega)
            have hpl := (putId_length acc r.f0).2
            go_wp2_with (go_at_call 31; refine hput.mono ?_; rintro e w5 ⟨B6, d6, rfl, hC6, hd6, hb6⟩)
            go_roundw
            case rel =>
              refine ⟨k + 1, B6, d6, putId acc r.f0, by omega, by go_num, rfl, hd6, by omega, ⟨rising_putId hacc.out.1 _, fun x => ?_⟩, ⟨hC6⟩, ⟨HBW.out.trans (hb6.mono HBW.out.size)⟩⟩
              rw [mem_putId, hacc.out.2 x, HT.out]
              constructor
              · rintro (⟨⟨q, hq, e⟩, h⟩ | rfl)
                · exact ⟨⟨q, List.mem_append_left _ hq, e⟩, h⟩
                · exact ⟨⟨r, by simp, rfl⟩, HBB.out.symm⟩
              · rintro ⟨⟨q, hq, e⟩, h⟩
                rcases List.mem_append.1 hq with hq | hq
                · exact .inl ⟨⟨q, hq, e⟩, h⟩
                · right; rw [← e, List.mem_singleton.1 hq]
            case measure => simp [intOf]; omega
    · go_wp2
      go_ret
      obtain rfl : k = rs.length := by omega
      refine ⟨_, _, acc, rfl, hCa.out, hle, hacc.out.1, fun x => ?_, hBr.out⟩
      rw [hacc.out.2 x, List.take_length, hasRec_iff]
end Go.Proofs.Ytjffghebcaklaaa
