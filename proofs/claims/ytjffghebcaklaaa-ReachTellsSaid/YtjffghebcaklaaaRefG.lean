/- The reference's From: what is reached. -/
import Derived.Test.YtjffghebcaklaaaRefF
namespace Go.Proofs.Ytjffghebcaklaaa
open Go Go.RowKit Go.Shelf Go.Lib Go.Sort Go.Proofs.YtjffghebcaklaaaW.PrintWords Go.Proofs.YtjffghebcaklaaaW.PrintLast Go.Proofs.YtjffghebcaklaaaW.PrintMore
set_option linter.unusedVariables false
set_option linter.unusedSimpArgs false
attribute [local go_sem] run_store_float
/-- Where the reference's loop stands: i ids of out are through. -/
def stepAt (rs : List Rec) (out : List Id) (i : Nat) : List Id := (out.take i).foldl (fun more x => (depsOf rs x).foldl putId more) out
theorem stepAt_succ (rs : List Rec) (out : List Id) (i : Nat) (h : i < out.length) : stepAt rs out (i + 1) = (depsOf rs (rdId out i)).foldl putId (stepAt rs out i) := by
  unfold stepAt
  rw [take_succ_rd out i h, List.foldl_append]
  rfl
theorem stepAt_all (rs : List Rec) (out : List Id) : stepAt rs out out.length = stepIds rs out := by unfold stepAt; rw [List.take_length]; rfl
theorem stepAt_ok {rs : List Rec} {l out : List Id} (hr : Rising out) (h1 : ∀ x ∈ out, Rch rs l x) (i : Nat) : Rising (stepAt rs out i) ∧ ∀ x ∈ stepAt rs out i, Rch rs l x := by
  obtain ⟨a, b⟩ := stepFrom_spec rs (out.take i) out hr
  refine ⟨a, fun x hx => ?_⟩
  rcases (b x).1 hx with hx | ⟨z, hz, hx⟩
  · exact h1 x hx
  · exact .step (h1 z (List.mem_of_mem_take hz)) hx
theorem foldDeps_ok {rs : List Rec} {l more : List Id} (hr : Rising more) (h1 : ∀ x ∈ more, Rch rs l x) {z : Id} (hz : Rch rs l z) (k : Nat) : Rising (((depsOf rs z).take k).foldl putId more) ∧ ∀ x ∈ ((depsOf rs z).take k).foldl putId more, Rch rs l x := by
  refine ⟨foldPut_rising _ _ hr, fun x hx => ?_⟩
  rcases (mem_foldPut x _ _).1 hx with hx | hx
  · exact h1 x hx
  · exact .step hz (List.mem_of_mem_take hx)
theorem ok_len {rs : List Rec} {l m : List Id} (h : Rising m ∧ ∀ x ∈ m, Rch rs l x) : m.length ≤ (allIds rs l).length := nodup_le h.1.nodup fun x hx => (h.2 x hx).all
theorem fold_takeId (l acc : List Id) (k : Nat) (h : k < l.length) : (l.take (k + 1)).foldl putId acc = putId ((l.take k).foldl putId acc) (rdId l k) := by
  rw [take_succ_rd l k h, List.foldl_append]
  rfl
set_option maxRecDepth 100000 in
set_option maxHeartbeats 3200000 in
theorem refFrom_calls (rs : List Rec) (A0 : Option Addr) (c0 : Nat) (l : List Id) (A : Option Addr) (c : Nat) (w : World) (hR : Kd.C kRec w A0 rs.length rs) (hc0 : rs.length ≤ c0) (hC : Kd.C kId w A l.length l) (hl : l.length ≤ 1048576) (hN : (allIds rs l).length ≤ 1048576) :
    Calls Try.prog 18 #[.slice A0 rs.length c0, .slice A l.length c] w fun e w' => ∃ B d, e = .returned (.slice B (reachIds rs l).length d) ∧ Kd.C kId w' B (reachIds rs l).length (reachIds rs l) ∧ (reachIds rs l).length ≤ d ∧ Below w.heap.size w w' := by
  have hsort := refSorted_calls l A c w hC hl
  have hrl := hR.2.1
  have HR := Aside0.mk hR
  clear hR hC
  go_enter Try.func18, Try.ntmps18
  go_wp2_with (go_at_call 49; refine hsort.mono ?_; rintro e w1 ⟨B, d, rfl, hC1, hd1, hb1⟩)
  have hS0 : Rising (sortIds l) ∧ (∀ x ∈ l, x ∈ sortIds l) ∧ ∀ x ∈ sortIds l, Rch rs l x := ⟨rising_sortIds l, fun x hx => (mem_sortIds x l).2 hx, fun x hx => .base ((mem_sortIds x l).1 hx)⟩
  generalize sortIds l = out0 at hC1 hd1 hS0 ⊢
  have HC1 := Aside0.mk hC1
  have HB1 := Aside0.mk hb1
  have HS0 := Aside0.mk hS0
  clear hC1 hb1 hS0 hsort
  go_loopw [5] (fun v wr => ∃ (A1 : Option Addr) (c1 : Nat) (out : List Id), v = .slice A1 out.length c1 ∧ out.length ≤ c1 ∧ Aside0 (Kd.C kId wr A1 out.length out) ∧ Aside0 (Below w.heap.size w wr) ∧ Aside0 (Rising out ∧ (∀ x ∈ l, x ∈ out) ∧ ∀ x ∈ out, Rch rs l x)) (fun v _ => (allIds rs l).length - sliceLen v)
  case atStart => exact ⟨B, d, out0, rfl, hd1, HC1, HB1, HS0⟩
  case round =>
    obtain ⟨A1, c1, out, rfl, hle1, hCo, hBo, hOk⟩ := hrel
    clear HC1 HB1 HS0 hd1
    have hlo := ok_len (rs := rs) (l := l) ⟨hOk.out.1, hOk.out.2.2⟩
    obtain ⟨wo, rfl⟩ : ∃ wo : World, wo = wr := ⟨_, rfl⟩
    go_wp2
    go_loopw [6, 7] (fun v i wr => ∃ (k : Nat) (A2 : Option Addr) (c2 : Nat) (more : List Id), k ≤ out.length ∧ i = .int .i64 k ∧ v = .slice A2 more.length c2 ∧ more.length ≤ c2 ∧ more.length ≤ 1048576 ∧ Aside0 (more = stepAt rs out k) ∧ Aside0 (Kd.C kId wr A2 more.length more) ∧ Aside0 (Below wo.heap.size wo wr)) (fun _ i _ => out.length - (intOf i).toNat)
    case atStart => exact ⟨0, A1, c1, out, Nat.zero_le _, rfl, rfl, hle1, by omega, ⟨rfl⟩, hCo, ⟨Below.refl _ _⟩⟩
    case round =>
      obtain ⟨k, A2, c2, more, hk, rfl, rfl, hle2, hlm, hmore, hCm, hBm⟩ := hrel
      by_cases hlt : k < out.length
      · obtain ⟨ad, rfl, x0, x1⟩ := PRef.at_T37 (cel_id.C (CKeep.below hBm.out) hCo.out) (k : Int) (by omega) (by omega)
        have HT := Aside0.mk (stepAt_succ rs out k hlt)
        have HZ := Aside0.mk (show Rch rs l (rdId out k) from hOk.out.2.2 _ (by
          have e : rdId out k = out[k] := by simp [rdId, PRef.rd_T37, List.getD_eq_getElem?_getD, List.getElem?_eq_getElem hlt]
          rw [e]; exact List.getElem_mem hlt))
        have e : rdId out (k : Int) = PRef.rd_T37 out (k : Int) := rfl
        rw [e] at HT HZ
        clear e
        generalize PRef.rd_T37 out (k : Int) = z at x0 x1 HT HZ
        simp only [Int.toNat_natCast] at x0 x1
        have hBw : Below w.heap.size w wr := hBo.out.trans (hBm.out.mono hBo.out.size)
        have hfind := refFind_calls rs z A0 c0 wr (cel_rec.C (CKeep.below hBw) HR.out) hc0
        have HBW := Aside0.mk hBw
        rcases findAt_spec rs z with ⟨hf, _, hdz⟩ | ⟨j, hf, hj, _, hdz, _⟩
        · rw [hf] at hfind
          have HDZ := Aside0.mk hdz
          clear hf hdz hBw
          go_wp2_with (go_at_call 33; refine hfind.mono ?_; rintro e w3 ⟨rfl, hb3⟩)
          go_roundw
          case rel => exact ⟨k + 1, A2, c2, more, by omega, by go_num, rfl, hle2, hlm, ⟨by rw [HT.out, HDZ.out]; exact hmore.out⟩, ⟨cel_id.C (CKeep.below hb3) hCm.out⟩, ⟨hBm.out.trans (hb3.mono hBm.out.size)⟩⟩
          case measure => simp [intOf]; omega
        · rw [hf] at hfind
          have HDZ := Aside0.mk hdz
          clear hf hdz hBw
          go_wp2_with (go_at_call 33; refine hfind.mono ?_; rintro e w3 ⟨rfl, hb3⟩)
          obtain ⟨ad0, A3, c3, A4, c4, rfl, _, _, _, x3w, _, l3, g3, _, _⟩ := PRef.at_T49 HR.out (j : Int) (by omega) (by omega)
          have e : rdRec rs (j : Int) = PRef.rd_T49 rs (j : Int) := rfl
          rw [e] at HDZ
          have hdl := g3.2.1
          generalize (PRef.rd_T49 rs (j : Int)).f2 = deps at x3w l3 g3 HDZ hdl
          simp only [Int.toNat_natCast] at x3w
          have HX3 := Aside0.mk (fun (W : World) (h : Below w.heap.size w W) => pw_cell_below h x3w)
          have HG3 := Aside0.mk (fun (W : World) (h : Below w.heap.size w W) => cel_id.C (CKeep.below h) g3)
          clear x3w g3 e x0 x1
          have HB3 := Aside0.mk (HBW.out.trans (hb3.mono HBW.out.size))
          have HM3 := Aside0.mk (hBm.out.trans (hb3.mono hBm.out.size))
          have HC3 := Aside0.mk (cel_id.C (CKeep.below hb3) hCm.out)
          clear hb3 hfind
          obtain ⟨wi, rfl⟩ : ∃ wi : World, wi = w3 := ⟨_, rfl⟩
          go_loopw [6, 9] (fun v i wr => ∃ (q : Nat) (A5 : Option Addr) (c5 : Nat) (m5 : List Id), q ≤ deps.length ∧ i = .int .i64 q ∧ v = .slice A5 m5.length c5 ∧ m5.length ≤ c5 ∧ m5.length ≤ 1048576 ∧ Aside0 (m5 = (deps.take q).foldl putId more) ∧ Aside0 (Kd.C kId wr A5 m5.length m5) ∧ Aside0 (Below wi.heap.size wi wr)) (fun _ i _ => deps.length - (intOf i).toNat)
          case atStart => exact ⟨0, A2, c2, more, Nat.zero_le _, rfl, rfl, hle2, hlm, ⟨by simp⟩, HC3, ⟨Below.refl _ _⟩⟩
          case round =>
            obtain ⟨q, A5, c5, m5, hq, rfl, rfl, hle5, hl5, hm5, hC5, hB5⟩ := hrel
            have hBw5 : Below w.heap.size w wr := HB3.out.trans (hB5.out.mono HB3.out.size)
            have x3 := HX3.out wr hBw5
            by_cases hqt : q < deps.length
            · obtain ⟨ad3, rfl, y0, y1⟩ := PRef.at_T37 (HG3.out wr hBw5) (q : Int) (by omega) (by omega)
              have HTq := Aside0.mk (fold_takeId deps more q hqt)
              have e : rdId deps (q : Int) = PRef.rd_T37 deps (q : Int) := rfl
              rw [e] at HTq
              clear e
              generalize PRef.rd_T37 deps (q : Int) = y at y0 y1 HTq
              simp only [Int.toNat_natCast] at y0 y1
              have hcall := put_calls m5 y A5 c5 wr hC5.out hle5 hl5
              have hlen : (putId m5 y).length ≤ 1048576 := by
                have h1 := foldDeps_ok (rs := rs) (l := l) (stepAt_ok hOk.out.1 hOk.out.2.2 k).1 (stepAt_ok hOk.out.1 hOk.out.2.2 k).2 HZ.out (q + 1)
                have h2 := ok_len h1
                rw [HDZ.out, ← hmore.out, HTq.out, ← hm5.out] at h2
                omega
              have HLEN := Aside0.mk hlen
              clear hlen hBw5
              go_wp2_with (go_at_call 31; refine hcall.mono ?_; rintro e w5 ⟨B6, d6, rfl, hC6, hd6, hb6⟩)
              go_roundw
              case rel => exact ⟨q + 1, B6, d6, putId m5 y, by omega, by go_num, rfl, hd6, HLEN.out, ⟨by rw [HTq.out, ← hm5.out]⟩, ⟨hC6⟩, ⟨hB5.out.trans (hb6.mono hB5.out.size)⟩⟩
              case measure => simp [intOf]; omega
            · clear hBw5
              go_wp2
              have hqe : q = deps.length := by omega
              go_roundw
              case rel =>
                refine ⟨k + 1, A5, c5, m5, by omega, by go_num, rfl, hle5, hl5, ⟨?_⟩, hC5, ⟨HM3.out.trans (hB5.out.mono HM3.out.size)⟩⟩
                rw [HT.out, HDZ.out, ← hmore.out, hm5.out, hqe, List.take_length]
              case measure => simp [intOf]; omega
      · have hke : k = out.length := by omega
        have hmo : more = stepIds rs out := by rw [hmore.out, hke, stepAt_all]
        have hge := step_le (rs := rs) hOk.out.1
        rw [← hmo] at hge
        have HMO := Aside0.mk hmo
        have HKE := Aside0.mk hke
        have HBM := Aside0.mk (hBo.out.trans (hBm.out.mono hBo.out.size))
        clear hmo hke
        by_cases hlen : more.length = out.length
        · have hn : (((more.length : Int)) == (out.length : Int)) = true := by simp [hlen]
          have e : out = reachIds rs l := by
            refine rising_ext hOk.out.1 (reachIds_spec rs l).1 fun x => ?_
            rw [(reachIds_spec rs l).2]
            exact ⟨hOk.out.2.2 x, fun hx => Rch.closed hOk.out.2.1 (fun a b => step_same hOk.out.1 (by rw [← HMO.out]; exact hlen) a b) hx⟩
          have HE := Aside0.mk e
          have HLE := Aside0.mk hlen
          clear e
          go_wp2
          go_ret
          rw [← HE.out]
          exact ⟨_, _, rfl, cel_id.C (CKeep.below hBm.out) hCo.out, hle1, HBM.out⟩
        · have hn : (((more.length : Int)) == (out.length : Int)) = false := by simp; omega
          have HLE := Aside0.mk hlen
          clear hlen
          go_wp2
          go_roundw
          case rel =>
            refine ⟨A2, c2, more, rfl, hle2, hCm, HBM, ⟨?_⟩⟩
            rw [HMO.out]
            exact ⟨rising_step hOk.out.1, fun x hx => (mem_step hOk.out.1 x).2 (.inl (hOk.out.2.1 x hx)), fun x hx => by
              rcases (mem_step hOk.out.1 x).1 hx with hx | ⟨z, hz, hx⟩
              · exact hOk.out.2.2 x hx
              · exact .step (hOk.out.2.2 z hz) hx⟩
          case measure =>
            have h1 := HLE.out
            have h2 := ok_len (rs := rs) (l := l) (stepAt_ok hOk.out.1 hOk.out.2.2 out.length)
            rw [stepAt_all, ← HMO.out] at h2
            simp only [sliceLen]
            omega
end Go.Proofs.Ytjffghebcaklaaa
