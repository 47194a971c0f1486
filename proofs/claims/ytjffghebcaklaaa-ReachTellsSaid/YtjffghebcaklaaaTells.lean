/- ReachTells: the walk. -/
import Derived.Test.YtjffghebcaklaaaWorks
namespace Go.Proofs.Ytjffghebcaklaaa
open Go Go.RowKit Go.Shelf Go.Lib Go.Sort Go.Proofs.YtjffghebcaklaaaW.PrintWords Go.Proofs.YtjffghebcaklaaaW.PrintLast Go.Proofs.YtjffghebcaklaaaW.PrintMore
set_option linter.unusedVariables false
set_option linter.unusedSimpArgs false
attribute [local go_sem] run_store_float
theorem rd_id_mem (l : List Id) (k : Nat) (h : k < l.length) : PRef.rd_T37 l k ∈ l := by
  have e : PRef.rd_T37 l k = l[k] := by simp [PRef.rd_T37, List.getD_eq_getElem?_getD, List.getElem?_eq_getElem h]
  rw [e]
  exact List.getElem_mem h
theorem closed_len {rs : List Rec} {c : List Id} {P : Id → Prop} (hc : Rising c) (h : ∀ x, x ∈ c ↔ hasRec rs x = true ∧ P x) : c.length ≤ rs.length := by
  have := nodup_le hc.nodup (l := rs.map (·.f0)) fun x hx => by
    obtain ⟨r, hr, e⟩ := (hasRec_iff rs x).1 ((h x).1 hx).1
    exact e ▸ List.mem_map_of_mem hr
  rwa [List.length_map] at this
section
variable (rs : List Rec) (A : Option Addr) (c : Nat) (l : List Id) (A' : Option Addr) (c' : Nat) (w : World) (hC : Kd.C kRec w A rs.length rs) (hc : rs.length ≤ c) (hC' : Kd.C kId w A' l.length l) (hc' : l.length ≤ c')
include hC hc hC' hc'
set_option maxRecDepth 100000 in
set_option maxHeartbeats 3200000 in
theorem closes_main (hf : fewB rs 20 = true) (hl : l.length ≤ 20) (hk : RecsOk rs) (hr0 : ∀ W, Below w.heap.size w W → Calls Try.prog 8 #[.slice A rs.length c] W fun e w' => e = .returned (.int .i64 0) ∧ Below W.heap.size W w') :
    Calls Try.prog 3 #[.slice A rs.length c, .slice A' l.length c'] w fun e w' => e = .returned (.bool true) ∧ Below w.heap.size w w' := by
  have hn : rs.length ≤ 20 := by
    simp only [fewB, Bool.and_eq_true, decide_eq_true_eq] at hf
    omega
  have F := Few20.of hk hn
  have Fn := Few20.nil
  have HCr := Aside0.mk (fun (W : World) (hW : Below w.heap.size w W) => Kd.C_below hC hW)
  have HCl := Aside0.mk (fun (W : World) (hW : Below w.heap.size w W) => Kd.C_below hC' hW)
  have hfew := few_calls w rs A c hC hc 20
  rw [hf] at hfew
  have HF := Aside0.mk hfew
  have HK := Aside0.mk hr0
  have HW := Aside0.mk (@works_calls)
  have hlen : decide ((l.length : Int) > 20) = false := decide_eq_false (by omega)
  cases hv : wholeB rs l
  all_goals
    have HV := Aside0.mk hv
    clear hfew hr0 hC hC' hf hv
    go_enter Try.func3, Try.ntmps3
    go_wp2_with (first
      | (go_at_call 7; refine HF.out.mono ?_; rintro e w1 ⟨rfl, hd1⟩; have H1 := Aside0.mk hd1.below; clear hd1)
      | (go_at_call 8; refine (HK.out w1 H1.out).mono ?_; rintro e w2 ⟨rfl, hb2⟩; have H2 := Aside0.mk (below_step H1.out hb2); clear hb2)
      | (go_at_call 10; refine (new20 F A c (HCr.out w2 H2.out)).mono ?_; rintro e w3 ⟨g, mb, rfl, hg3, _, hb3⟩; have H3 := Aside0.mk (below_step H2.out hb3); have HG3 := Aside0.mk hg3; clear hb3 hg3)
      | (go_at_call 11; refine (closed20 HG3.out F).mono ?_; rintro e w4 ⟨Ac, cc, out, rfl, ho4, hol, hri, hmem, hb4⟩; have H4 := Aside0.mk (below_step H3.out hb4); have HG4 := Aside0.mk (HG3.out.below hb4 (Nat.le_refl _)); have HO4 := Aside0.mk ho4; have HRI := Aside0.mk hri; have HM := Aside0.mk hmem; have HOL := Aside0.mk (Nat.le_trans (closed_len hri hmem) hn); clear hb4 ho4 hri hmem hol)
      | (go_at_call 13; refine (refClosed20 w4 rs A c (HCr.out w4 H4.out) hc F).mono ?_; rintro e w5 ⟨B, d, out2, rfl, hC5, hd5, hri2, hmem2, hb5⟩; obtain rfl := closed_same F.once HRI.out hri2 HM.out hmem2; have H5 := Aside0.mk (below_step H4.out hb5); have HG5 := Aside0.mk (HG4.out.below hb5 (Nat.le_refl _)); have HO5 := Aside0.mk (HO4.out.below hb5 (Nat.le_refl _)); have HC5 := Aside0.mk hC5; have HD5 := Aside0.mk hd5; clear hb5 hC5 hri2 hmem2 hd5)
      | (go_at_call 12; refine (same_calls' w5 out out Ac cc B d (HO5.out.C (by have := HOL.out; omega)) HO5.out.le HC5.out HD5.out).mono ?_; rintro e w6 ⟨rfl, hd6⟩; rw [show decide (out = out) = true from decide_eq_true rfl]; have H6 := Aside0.mk (below_step H5.out hd6.below); have HG6 := Aside0.mk (HG5.out.below hd6.below (Nat.le_refl _)); have HO6 := Aside0.mk (HO5.out.below hd6.below (Nat.le_refl _)); clear hd6)
      | (go_at_call 14; have hz6 := whole20 HG6.out F Ac cc out (HO6.out.C (by have := HOL.out; omega)) (by have := HOL.out; omega); with_reducible refine hz6.mono ?_; clear hz6; rintro e w7 ⟨rfl, hb7⟩; rw [closed_whole HM.out]; have H7 := Aside0.mk (below_step H6.out hb7); have HG7 := Aside0.mk (HG6.out.below hb7 (Nat.le_refl _)); have HO7 := Aside0.mk (HO6.out.below hb7 (Nat.le_refl _)); clear hb7)
      | (go_at_call 14; refine (whole20 HG7.out F A' c' l (HCl.out w7 H7.out) (by omega)).mono ?_; rintro e w8 ⟨rfl, hb8⟩; rw [HV.out]; have H8 := Aside0.mk (below_step H7.out hb8); have HO8 := Aside0.mk (HO7.out.below hb8 (Nat.le_refl _)); clear hb8))
    have hn5 : l.length ≤ 9223372036854775807 := by omega
    go_loopw [9] (fun i wr => ∃ k : Nat, k ≤ l.length ∧ i = .int .i64 k ∧ Aside0 (Below w.heap.size w wr) ∧ Aside0 (Below w8.heap.size w8 wr)) (fun i _ => l.length - (intOf i).toNat)
    case atStart => exact ⟨0, Nat.zero_le _, rfl, H8, ⟨Below.refl _ _⟩⟩
    case round =>
      obtain ⟨k, hk, rfl, HB, HR⟩ := hrel
      by_cases hlt : k < l.length
      · obtain ⟨ad, rfl, x0, x1⟩ := PRef.at_T37 (HCl.out wr HB.out) (k : Int) (by omega) (by omega)
        have HI := Aside0.mk (rd_id_mem l k hlt)
        generalize PRef.rd_T37 l (k : Int) = y at x0 x1 HI
        simp only [Int.toNat_natCast] at x0 x1
        first
          | (have HIO := Aside0.mk (whole_has F.once HM.out HV.out HI.out)
             go_wp2_with (go_at_call 15; refine (refHas_calls out y Ac cc wr ((HO8.out.below HR.out (Nat.le_refl _)).C (by have := HOL.out; omega)) HO8.out.le).mono ?_; rintro e w9 ⟨rfl, hb9⟩; rw [show decide (y ∈ out) = true from decide_eq_true HIO.out]; have H9 := Aside0.mk (below_step HB.out hb9); have HR9 := Aside0.mk (below_step HR.out hb9); clear hb9)
             go_roundw
             case rel => exact ⟨k + 1, by omega, by go_num, H9, HR9⟩
             case measure => simp [intOf]; omega)
          | (go_wp2
             go_roundw
             case rel => exact ⟨k + 1, by omega, by go_num, HB, HR⟩
             case measure => simp [intOf]; omega)
      · go_wp2_with (first
          | (go_at_call 16; refine (refWhole20 wr rs A c (HCr.out wr HB.out) hc F A' c' l (HCl.out wr HB.out) hc' (by omega)).mono ?_; rintro e w9 ⟨rfl, hb9⟩; rw [HV.out]; have H9 := Aside0.mk (below_step HB.out hb9); clear hb9)
          | (go_at_call 11; refine (closed20 (mb := 0) (.inl ⟨rfl, rfl⟩ : GraphP w9 none 0 []) Fn).mono ?_; rintro e w10 ⟨An, cn, outn, rfl, _, _, _, hmn, hb10⟩; obtain rfl := closed_nil hmn; have H10 := Aside0.mk (below_step H9.out hb10); clear hb10 hmn)
          | (go_at_call 14; refine (whole20 (mb := 0) (.inl ⟨rfl, rfl⟩ : GraphP w10 none 0 []) Fn none 0 [] ⟨rfl, by decide, fun h => absurd h (by simp)⟩ (by simp)).mono ?_; rintro e w11 ⟨rfl, hb11⟩; rw [wholeB_nil]; have H11 := Aside0.mk (below_step H10.out hb11); clear hb11)
          | (go_at_call 9; refine (HW.out w11).mono ?_; rintro e w12 ⟨rfl, hb12⟩; have H12 := Aside0.mk (below_step H11.out hb12); clear hb12))
        go_ret
        exact ⟨rfl, H12.out⟩
set_option maxRecDepth 100000 in
set_option maxHeartbeats 3200000 in
theorem closes_calls (hw : ∀ r ∈ rs, RecW r) :
    Calls Try.prog 3 #[.slice A rs.length c, .slice A' l.length c'] w fun e w' => e = .returned (.bool true) ∧ Below w.heap.size w w' := by
  have hfew := few_calls w rs A c hC hc 20
  have HW := Aside0.mk (@works_calls)
  cases hf : fewB rs 20 with
  | false =>
    rw [hf] at hfew
    have HF := Aside0.mk hfew
    clear hfew hf hC hC'
    go_enter Try.func3, Try.ntmps3
    go_wp2_with (first
      | (go_at_call 7; refine HF.out.mono ?_; rintro e w1 ⟨rfl, hd1⟩; have H1 := Aside0.mk hd1.below; clear hd1)
      | (go_at_call 9; refine (HW.out w1).mono ?_; rintro e w2 ⟨rfl, hb2⟩; have H2 := Aside0.mk (below_step H1.out hb2); clear hb2))
    go_ret
    exact ⟨rfl, H2.out⟩
  | true =>
    by_cases hl : l.length ≤ 20
    · obtain ⟨r, hr, h0⟩ : ∃ r : Int, (r = 0 → RecsOk rs) ∧ ∀ W, Below w.heap.size w W → Calls Try.prog 8 #[.slice A rs.length c] W fun e w' => e = .returned (.int .i64 r) ∧ Below W.heap.size W w' := by
        obtain ⟨r, h1, h2⟩ := ev_ref15 rs hC.2.1 hw
        obtain ⟨k, hk⟩ := h1.rounds
        exact ⟨r, h2, fun W hW => PRef.cortegeref15_Check.calls k A c rs _ W (Kd.C_below hC hW) hc hk⟩
      by_cases hz : r = 0
      · subst hz
        exact closes_main rs A c l A' c' w hC hc hC' hc' hf hl (hr rfl) h0
      · have hlen : decide ((l.length : Int) > 20) = false := decide_eq_false (by omega)
        have hz' : (r == 0) = false := by simpa using hz
        rw [hf] at hfew
        have HF := Aside0.mk hfew
        have HK := Aside0.mk h0
        clear hfew hf hC hC' h0 hr hz
        go_enter Try.func3, Try.ntmps3
        go_wp2_with (first
          | (go_at_call 7; refine HF.out.mono ?_; rintro e w1 ⟨rfl, hd1⟩; have H1 := Aside0.mk hd1.below; clear hd1)
          | (go_at_call 8; refine (HK.out w1 H1.out).mono ?_; rintro e w2 ⟨rfl, hb2⟩; have H2 := Aside0.mk (below_step H1.out hb2); clear hb2)
          | (go_at_call 9; refine (HW.out w2).mono ?_; rintro e w3 ⟨rfl, hb3⟩; have H3 := Aside0.mk (below_step H2.out hb3); clear hb3))
        go_ret
        exact ⟨rfl, H3.out⟩
    · have hlen : decide ((l.length : Int) > 20) = true := decide_eq_true (by omega)
      rw [hf] at hfew
      have HF := Aside0.mk hfew
      clear hfew hf hC hC'
      go_enter Try.func3, Try.ntmps3
      go_wp2_with (first
        | (go_at_call 7; refine HF.out.mono ?_; rintro e w1 ⟨rfl, hd1⟩; have H1 := Aside0.mk hd1.below; clear hd1)
        | (go_at_call 9; refine (HW.out w1).mono ?_; rintro e w2 ⟨rfl, hb2⟩; have H2 := Aside0.mk (below_step H1.out hb2); clear hb2))
      go_ret
      exact ⟨rfl, H2.out⟩
end
end Go.Proofs.Ytjffghebcaklaaa

namespace Go.Proofs.Ytjffghebcaklaaa
open Go Go.RowKit Go.Shelf Go.Lib Go.Sort Go.Proofs.YtjffghebcaklaaaW.PrintWords Go.Proofs.YtjffghebcaklaaaW.PrintLast Go.Proofs.YtjffghebcaklaaaW.PrintMore
set_option linter.unusedVariables false
set_option linter.unusedSimpArgs false
attribute [local go_sem] run_store_float
theorem C_one {w : World} {ad : Addr} {y : Id} (x0 : w.cell? ad = some (.int .i64 y.f0)) (x1 : w.cell? ⟨ad.block, ad.off + 1, none⟩ = some (.int .i64 y.f1)) : Kd.C kId w (some ad) 1 [y] := by
  refine ⟨rfl, by decide, fun _ => ⟨ad, rfl, fun j p hj => ?_⟩⟩
  rcases j with _ | j
  · obtain rfl : y = p := Option.some.inj hj
    refine ⟨encId y, rfl, flat_id.mk_ w y, fun i u hu => ?_⟩
    rcases i with _ | _ | i
    · obtain rfl : _ = u := Option.some.inj hu
      exact x0
    · obtain rfl : _ = u := Option.some.inj hu
      exact x1
    · simp [encId] at hu
  · simp at hj
section
variable (rs : List Rec) (A : Option Addr) (c : Nat) (l : List Id) (A' : Option Addr) (c' : Nat) (b : Id) (w : World) (hC : Kd.C kRec w A rs.length rs) (hc : rs.length ≤ c) (hC' : Kd.C kId w A' l.length l) (hc' : l.length ≤ c')
include hC hc hC' hc'
set_option maxRecDepth 100000 in
set_option maxHeartbeats 3200000 in
theorem tells_main (hf : fewB rs 20 = true) (hl : l.length ≤ 20) (hk : RecsOk rs) (hr0 : ∀ W, Below w.heap.size w W → Calls Try.prog 8 #[.slice A rs.length c] W fun e w' => e = .returned (.int .i64 0) ∧ Below W.heap.size W w') :
    Calls Try.prog 4 #[.slice A rs.length c, .slice A' l.length c', .agg #[.int .i64 b.f0, .int .i64 b.f1]] w fun e w' => e = .returned (.bool true) ∧ Below w.heap.size w w' := by
  have hn : rs.length ≤ 20 := by
    simp only [fewB, Bool.and_eq_true, decide_eq_true_eq] at hf
    omega
  have F := Few20.of hk hn
  have HCr := Aside0.mk (fun (W : World) (hW : Below w.heap.size w W) => Kd.C_below hC hW)
  have HCl := Aside0.mk (fun (W : World) (hW : Below w.heap.size w W) => Kd.C_below hC' hW)
  have hB0 : Below w.heap.size w (w.alloc (.cells #[.int .i64 b.f0, .int .i64 b.f1] 37)) := (Below.refl _ _).alloc (Nat.le_refl _) _
  have hbox : IdBox (w.alloc (.cells #[.int .i64 b.f0, .int .i64 b.f1] 37)) w.heap.size b := idBox_new w b
  have hfew := few_calls _ rs A c (Kd.C_below hC hB0) hc 20
  rw [hf] at hfew
  have HF := Aside0.mk hfew
  have HK := Aside0.mk hr0
  have HW := Aside0.mk (@works_calls)
  have HB0 := Aside0.mk hB0
  have HBX := Aside0.mk (fun (W : World) h => hbox.below (w' := W) h (Nat.le_refl _))
  have hlen : decide ((l.length : Int) > 20) = false := decide_eq_false (by omega)
  clear hfew hr0 hC hC' hf hB0 hbox
  go_enter Try.func4, Try.ntmps4
  go_wp2_with (first
    | (go_at_call 7; refine HF.out.mono ?_; rintro e w1 ⟨rfl, hd1⟩; have H1 := Aside0.mk (below_step HB0.out hd1.below); have K1 := Aside0.mk hd1.below; clear hd1)
    | (go_at_call 8; refine (HK.out w1 H1.out).mono ?_; rintro e w2 ⟨rfl, hb2⟩; have H2 := Aside0.mk (below_step H1.out hb2); have K2 := Aside0.mk (below_step K1.out hb2); clear hb2)
    | (go_at_call 10; refine (new20 F A c (HCr.out w2 H2.out)).mono ?_; rintro e w3 ⟨g, mb, rfl, hg3, _, hb3⟩; have H3 := Aside0.mk (below_step H2.out hb3); have K3 := Aside0.mk (below_step K2.out hb3); have HG3 := Aside0.mk hg3; clear hb3 hg3)
    | (go_at_call 17; refine (from20 HG3.out F A' c' l (HCl.out w3 H3.out) (by omega)).mono ?_; rintro e w4 ⟨B, d, rfl, hC4, hd4, hb4⟩; have HD4 := Aside0.mk hd4; have H4 := Aside0.mk (below_step H3.out hb4); have K4 := Aside0.mk (below_step K3.out hb4); have HG4 := Aside0.mk (HG3.out.below hb4 (Nat.le_refl _)); have HC4 := Aside0.mk hC4; clear hb4 hC4 hd4)
    | (go_at_call 18; refine (refFrom20 w4 rs A c (HCr.out w4 H4.out) hc F A' c' l (HCl.out w4 H4.out) hc' (by omega)).mono ?_; rintro e w5 ⟨B5, d5, rfl, hC5, hd5, hb5⟩; have H5 := Aside0.mk (below_step H4.out hb5); have K5 := Aside0.mk (below_step K4.out hb5); have HG5 := Aside0.mk (HG4.out.below hb5 (Nat.le_refl _)); have HC5 := Aside0.mk hC5; have HC45 := Aside0.mk (Kd.C_below HC4.out hb5); have HD5 := Aside0.mk hd5; clear hb5 hC5 hd5)
    | (go_at_call 12; refine (same_calls' w5 (reachIds rs l) (reachIds rs l) B d B5 d5 HC45.out HD4.out HC5.out HD5.out).mono ?_; rintro e w6 ⟨rfl, hd6⟩; rw [show decide (reachIds rs l = reachIds rs l) = true from decide_eq_true rfl]; have H6 := Aside0.mk (below_step H5.out hd6.below); have K6 := Aside0.mk (below_step K5.out hd6.below); have HG6 := Aside0.mk (HG5.out.below hd6.below (Nat.le_refl _)); clear hd6))
  have hn5 : l.length ≤ 9223372036854775807 := by omega
  go_loopw [9] (fun i wr => ∃ k : Nat, k ≤ l.length ∧ i = .int .i64 k ∧ Aside0 (Below w.heap.size w wr) ∧ Aside0 (Below (w.alloc (.cells #[.int .i64 b.f0, .int .i64 b.f1] 37)).heap.size (w.alloc (.cells #[.int .i64 b.f0, .int .i64 b.f1] 37)) wr) ∧ Aside0 (GraphP wr (some ⟨g, 0, none⟩) mb rs)) (fun i _ => l.length - (intOf i).toNat)
  case atStart => exact ⟨0, Nat.zero_le _, rfl, H6, K6, HG6⟩
  case round =>
    obtain ⟨k, hk, rfl, HB, KB, HG⟩ := hrel
    by_cases hlt : k < l.length
    · obtain ⟨ad, rfl, x0, x1⟩ := PRef.at_T37 (HCl.out wr HB.out) (k : Int) (by omega) (by omega)
      generalize PRef.rd_T37 l (k : Int) = y at x0 x1
      simp only [Int.toNat_natCast] at x0 x1
      have hwr : IntKind.i64.wrap ((k : Int) + 1) = (k : Int) + 1 := by rw [IntKind.wrap_i64]; omega
      have s1 : (0 : Int) ≤ (k : Int) := by omega
      have s2 : (k : Int) ≤ (k : Int) + 1 := by omega
      have s4 : (0 : Int) ≤ (k : Int) + 1 := by omega
      have b0 := (HBX.out wr KB.out).c0
      have b1 := (HBX.out wr KB.out).c1
      have k1 : (k : Int) + 1 ≤ (c' : Int) := by omega
      cases hv : decide (b ∈ reachIds rs [y])
      all_goals
        have hpath := path20 (HG.out.below (below_drew1 (Below.refl wr.heap.size wr)) (Nat.le_refl _)) F y b
        rw [hv] at hpath
        have HP := Aside0.mk hpath
        have HV := Aside0.mk hv
        clear hpath hv
        go_wp2
        go_region_held3 (fun W => W.cell? ⟨w.heap.size, 0, none⟩ = some (.int .i64 b.f0) ∧ W.cell? ⟨w.heap.size, 1, none⟩ = some (.int .i64 b.f1) ∧ W.cell? (ad.add (k * 2)) = some (.int .i64 y.f0) ∧ W.cell? ⟨(ad.add (k * 2)).block, (ad.add (k * 2)).off + 1, none⟩ = some (.int .i64 y.f1))
          (first | (exact ⟨b0, b1, x0, x1⟩) | (exact ⟨p0, p1, p2, p3⟩) | (exact ⟨q0, q1, q2, q3⟩) | (exact ⟨r0, r1, r2, r3⟩) | go_keep)
          ((first
            | (go_at_call 19; with_reducible refine HP.out.mono ?_; rintro e w7 ⟨rfl, hb7⟩
               have H7 := Aside0.mk (below_step HB.out ((below_drew1 (Below.refl wr.heap.size wr)).trans hb7))
               have K7 := Aside0.mk (below_step KB.out ((below_drew1 (Below.refl wr.heap.size wr)).trans hb7))
               have G7 := Aside0.mk (HG.out.below ((below_drew1 (Below.refl wr.heap.size wr)).trans hb7) (Nat.le_refl _))
               have p0 := (HBX.out w7 K7.out).c0
               have p1 := (HBX.out w7 K7.out).c1
               have p2 := pw_cell_below ((below_drew1 (Below.refl wr.heap.size wr)).trans hb7) x0
               have p3 := pw_cell_below ((below_drew1 (Below.refl wr.heap.size wr)).trans hb7) x1
               clear hb7)
            | (go_at_call 18; have hz7 := refFrom20 w7 rs A c (HCr.out w7 H7.out) hc F (some (ad.add (k * 2))) (c' - k) [y] (C_one p2 p3) (by show 1 ≤ c' - k; omega) (by simp); refine hz7.mono ?_; rintro e w8 ⟨B8, d8, rfl, hC8, hd8, hb8⟩
               have H8 := Aside0.mk (below_step H7.out hb8)
               have K8 := Aside0.mk (below_step K7.out hb8)
               have G8 := Aside0.mk (G7.out.below hb8 (Nat.le_refl _))
               have q0 := (HBX.out w8 K8.out).c0
               have q1 := (HBX.out w8 K8.out).c1
               have q2 := pw_cell_below hb8 p2
               have q3 := pw_cell_below hb8 p3
               have HC8 := Aside0.mk hC8
               have HD8 := Aside0.mk hd8
               clear hb8 hC8 hd8 hz7)
            | (go_at_call 15; have hz8 := refHas_calls (reachIds rs [y]) b B8 d8 w8 HC8.out HD8.out; rw [HV.out] at hz8; refine hz8.mono ?_; rintro e w9 ⟨rfl, hb9⟩
               have H9 := Aside0.mk (below_step H8.out hb9)
               have K9 := Aside0.mk (below_step K8.out hb9)
               have G9 := Aside0.mk (G8.out.below hb9 (Nat.le_refl _))
               have r0 := (HBX.out w9 K9.out).c0
               have r1 := (HBX.out w9 K9.out).c1
               have r2 := pw_cell_below hb9 q2
               have r3 := pw_cell_below hb9 q3
               clear hb9 hz8)))
        go_wp2
        go_roundw
        case rel => exact ⟨k + 1, by omega, by go_num, H9, K9, G9⟩
        case measure => simp [intOf]; omega
    · go_wp2_with (first
        | (go_at_call 9; refine (HW.out wr).mono ?_; rintro e w12 ⟨rfl, hb12⟩; have H12 := Aside0.mk (below_step HB.out hb12); clear hb12))
      go_ret
      exact ⟨rfl, H12.out⟩
set_option maxRecDepth 100000 in
set_option maxHeartbeats 3200000 in
theorem tells_calls (hw : ∀ r ∈ rs, RecW r) :
    Calls Try.prog 4 #[.slice A rs.length c, .slice A' l.length c', .agg #[.int .i64 b.f0, .int .i64 b.f1]] w fun e w' => e = .returned (.bool true) ∧ Below w.heap.size w w' := by
  have hB0 : Below w.heap.size w (w.alloc (.cells #[.int .i64 b.f0, .int .i64 b.f1] 37)) := (Below.refl _ _).alloc (Nat.le_refl _) _
  have hfew := few_calls _ rs A c (Kd.C_below hC hB0) hc 20
  have HB0 := Aside0.mk hB0
  clear hB0
  have HW := Aside0.mk (@works_calls)
  cases hf : fewB rs 20 with
  | false =>
    rw [hf] at hfew
    have HF := Aside0.mk hfew
    clear hfew hf hC hC'
    go_enter Try.func4, Try.ntmps4
    go_wp2_with (first
      | (go_at_call 7; refine HF.out.mono ?_; rintro e w1 ⟨rfl, hd1⟩; have H1 := Aside0.mk (below_step HB0.out hd1.below); clear hd1)
      | (go_at_call 9; refine (HW.out w1).mono ?_; rintro e w2 ⟨rfl, hb2⟩; have H2 := Aside0.mk (below_step H1.out hb2); clear hb2))
    go_ret
    exact ⟨rfl, H2.out⟩
  | true =>
    by_cases hl : l.length ≤ 20
    · obtain ⟨r, hr, h0⟩ : ∃ r : Int, (r = 0 → RecsOk rs) ∧ ∀ W, Below w.heap.size w W → Calls Try.prog 8 #[.slice A rs.length c] W fun e w' => e = .returned (.int .i64 r) ∧ Below W.heap.size W w' := by
        obtain ⟨r, h1, h2⟩ := ev_ref15 rs hC.2.1 hw
        obtain ⟨k, hk⟩ := h1.rounds
        exact ⟨r, h2, fun W hW => PRef.cortegeref15_Check.calls k A c rs _ W (Kd.C_below hC hW) hc hk⟩
      by_cases hz : r = 0
      · subst hz
        exact tells_main rs A c l A' c' b w hC hc hC' hc' hf hl (hr rfl) h0
      · have hlen : decide ((l.length : Int) > 20) = false := decide_eq_false (by omega)
        have hz' : (r == 0) = false := by simpa using hz
        rw [hf] at hfew
        have HF := Aside0.mk hfew
        have HK := Aside0.mk h0
        clear hfew hf hC hC' h0 hr hz
        go_enter Try.func4, Try.ntmps4
        go_wp2_with (first
          | (go_at_call 7; refine HF.out.mono ?_; rintro e w1 ⟨rfl, hd1⟩; have H1 := Aside0.mk (below_step HB0.out hd1.below); clear hd1)
          | (go_at_call 8; refine (HK.out w1 H1.out).mono ?_; rintro e w2 ⟨rfl, hb2⟩; have H2 := Aside0.mk (below_step H1.out hb2); clear hb2)
          | (go_at_call 9; refine (HW.out w2).mono ?_; rintro e w3 ⟨rfl, hb3⟩; have H3 := Aside0.mk (below_step H2.out hb3); clear hb3))
        go_ret
        exact ⟨rfl, H3.out⟩
    · have hlen : decide ((l.length : Int) > 20) = true := decide_eq_true (by omega)
      rw [hf] at hfew
      have HF := Aside0.mk hfew
      clear hfew hf hC hC'
      go_enter Try.func4, Try.ntmps4
      go_wp2_with (first
        | (go_at_call 7; refine HF.out.mono ?_; rintro e w1 ⟨rfl, hd1⟩; have H1 := Aside0.mk (below_step HB0.out hd1.below); clear hd1)
        | (go_at_call 9; refine (HW.out w1).mono ?_; rintro e w2 ⟨rfl, hb2⟩; have H2 := Aside0.mk (below_step H1.out hb2); clear hb2))
      go_ret
      exact ⟨rfl, H2.out⟩
end
end Go.Proofs.Ytjffghebcaklaaa
