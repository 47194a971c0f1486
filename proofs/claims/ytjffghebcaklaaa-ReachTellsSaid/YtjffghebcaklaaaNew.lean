/- The program's edges.New, where the records are a graph. -/
import Derived.Test.YtjffghebcaklaaaGraph
import Derived.Test.YtjffghebcaklaaaCopy
import Derived.StillTailTactics
import Derived.Deep.RegionHeld3
namespace Go.Proofs.Ytjffghebcaklaaa
open Go Go.RowKit Go.Lib Go.Sort Go.Proofs.YtjffghebcaklaaaW.PrintWords Go.Proofs.YtjffghebcaklaaaW.PrintLast Go.Proofs.YtjffghebcaklaaaW.PrintMore
set_option linter.unusedVariables false
set_option linter.unusedSimpArgs false
attribute [local go_sem] run_store_float
/-- The record passes the program's checks. -/
structure RecOk (r : Rec) : Prop where
  own : Ev (fun k => PRef.record_look_own.f k r.f0.f0 r.f0.f1 r.f1 r.f2 r.f3) 0
  deps : Ev (fun k => PRef.record_look_deps.f k r.f0.f0 r.f0.f1 r.f1 r.f2 r.f3) 0
  does : Ev (fun k => PRef.record_look_does.f k r.f0.f0 r.f0.f1 r.f1 r.f2 r.f3) 0
  few : r.f2.length ≤ 1048576
  few3 : r.f3.length ≤ 1048576
/-- The map's records, their slices in blocks from N on. -/
def RecsFrom (N : Nat) (w : World) (mb : Nat) (rs : List Rec) : Prop := ∃ m, MapAt w mb m ∧ m.map Prod.fst = rs.map (·.f0) ∧ ∀ p ∈ m, ∃ r ∈ rs, r.f0 = p.1 ∧ RecV w p.2 r ∧ ∃ g1 g2 n1 n2 c1 c2 x0 x1 x2, p.2 = .agg #[x0, x1, x2, .slice (some ⟨g1, 0, none⟩) n1 c1, .slice (some ⟨g2, 0, none⟩) n2 c2] ∧ N ≤ g1 ∧ N ≤ g2
theorem RecsFrom.recs {N : Nat} {w : World} {mb : Nat} {rs : List Rec} (h : RecsFrom N w mb rs) : RecsAt w mb rs := by
  obtain ⟨m, h1, h2, h3⟩ := h
  exact ⟨m, h1, h2, fun p hp => by obtain ⟨r, hr, e, hv, _⟩ := h3 p hp; exact ⟨r, hr, e, hv⟩⟩
theorem RecsFrom.keep {N : Nat} {w w' : World} {mb : Nat} {rs : List Rec} (h : RecsFrom N w mb rs) (hb : ∀ i, i < w.heap.size → N ≤ i ∨ i = mb → w'.heap[i]? = w.heap[i]?) (hs : w.heap.size ≤ w'.heap.size) : RecsFrom N w' mb rs := by
  obtain ⟨m, h1, h2, h3⟩ := h
  refine ⟨m, h1.same (hb mb h1.lt (.inr rfl)), h2, fun p hp => ?_⟩
  obtain ⟨r, hr, e, ⟨A, c, A', c', hv, hle, hle', hC, hC'⟩, g1, g2, n1, n2, c1, c2, x0, x1, x2, hv2, hg1, hg2⟩ := h3 p hp
  have hvv := hv
  rw [hv2] at hvv
  injection hvv with hvv
  simp only [Array.mk.injEq, List.cons.injEq, Value.slice.injEq] at hvv
  obtain ⟨_, _, _, ⟨rfl, _, _⟩, ⟨rfl, _, _⟩, _⟩ := hvv
  have hgo : ∀ {α : Type} {d : Kd α} {g n : Nat} {xs : List α}, d.C w (some ⟨g, 0, none⟩) n xs → N ≤ g → (∀ (w w1 : World) (x : α) (cs : List Value), d.K w x cs → d.K w1 x cs) → d.C w' (some ⟨g, 0, none⟩) n xs := by
    intro α d g n xs hC hg hk
    refine ⟨hC.1, hC.2.1, fun hn => ?_⟩
    obtain ⟨ad, e, hc⟩ := hC.2.2 hn
    refine ⟨ad, e, fun j p hj => ?_⟩
    obtain ⟨c, hs2, hr2, hcell⟩ := hc j p hj
    refine ⟨c, hs2, hk _ _ _ _ hr2, fun i u hu => ?_⟩
    obtain rfl := Option.some.inj e
    have := hcell i u hu
    rw [add_zero_at] at this ⊢
    have hlt := World.block_lt_of_cell? w _ this
    exact (World.cell?_of_block (a := ⟨g, _, none⟩) (hb g hlt (.inl hg))).trans this
  exact ⟨r, hr, e, ⟨_, _, _, _, hv, hle, hle', hgo hC hg1 (fun w w1 x cs h => by obtain rfl := flat_id.open_ h; exact flat_id.mk_ w1 x), hgo hC' hg2 (fun w w1 x cs h => by obtain rfl := flat_cmd.open_ h; exact flat_cmd.mk_ w1 x)⟩, g1, g2, n1, n2, c1, c2, x0, x1, x2, hv2, hg1, hg2⟩
theorem RecsFrom.below {N : Nat} {w w' : World} {mb n : Nat} {rs : List Rec} (h : RecsFrom N w mb rs) (hb : Below n w w') (hn : w.heap.size ≤ n) : RecsFrom N w' mb rs :=
  h.keep (fun i hi _ => hb.block i (Nat.lt_of_lt_of_le hi hn)) hb.size
theorem RecsFrom.store {N : Nat} {w : World} {mb : Nat} {rs : List Rec} (h : RecsFrom N w mb rs) {r : Rec} {g1 g2 c c' : Nat} (hv : RecV w (.agg #[.int .i64 r.f0.f0, .int .i64 r.f0.f1, .int .i64 r.f1, .slice (some ⟨g1, 0, none⟩) r.f2.length c, .slice (some ⟨g2, 0, none⟩) r.f3.length c']) r) (hg1 : N ≤ g1) (hg2 : N ≤ g2) (hn : hasRec rs r.f0 = false) :
    ∃ w', (Instr.mapUpdate 70 (.map (some mb)) (.agg #[.int .i64 r.f0.f0, .int .i64 r.f0.f1]) (.agg #[.int .i64 r.f0.f0, .int .i64 r.f0.f1, .int .i64 r.f1, .slice (some ⟨g1, 0, none⟩) r.f2.length c, .slice (some ⟨g2, 0, none⟩) r.f3.length c'])).run Try.prog w = .ok () w' ∧ RecsFrom N w' mb (rs ++ [r]) ∧ Turned w w' mb := by
  obtain ⟨m, h1, h2, h3⟩ := h
  obtain ⟨w', hr, hm, ht⟩ := h1.update (Try.underlying70) r.f0 (.agg #[.int .i64 r.f0.f0, .int .i64 r.f0.f1, .int .i64 r.f1, .slice (some ⟨g1, 0, none⟩) r.f2.length c, .slice (some ⟨g2, 0, none⟩) r.f3.length c'])
  have hg : mget m r.f0 = none := by
    have := mget_isSome m r.f0
    rw [h2, ← hasRec_mem, hn] at this
    exact Option.not_isSome_iff_eq_none.1 (by rw [this]; simp)
  have hck : CKeep w w' := CKeep.map h1 ⟨by rw [ht.1], by rw [ht.1], by rw [ht.1], by rw [ht.2.1]; exact Nat.le_refl _, fun i _ hi => ht.2.2 i (fun e => hi (by rw [e]))⟩
  refine ⟨w', hr, ⟨_, hm, ?_, ?_⟩, ht⟩
  · unfold mput
    rw [hg]
    simp [h2]
  · unfold mput
    rw [hg]
    intro p hp
    simp only [Option.isSome_none, Bool.false_eq_true, if_false, List.mem_append, List.mem_singleton] at hp
    rcases hp with hp | rfl
    · obtain ⟨q, hq, e, hqv, hrest⟩ := h3 p hp
      exact ⟨q, List.mem_append_left _ hq, e, hqv.keep hck, hrest⟩
    · exact ⟨r, by simp, rfl, hv.keep hck, g1, g2, _, _, c, c', _, _, _, rfl, hg1, hg2⟩
theorem hasRec_take {rs : List Rec} (hn : OnceIds rs) (k : Nat) (h : k < rs.length) : hasRec (rs.take k) (PRef.rd_T49 rs k).f0 = false := by
  have e : PRef.rd_T49 rs k = rs[k] := by simp [PRef.rd_T49, List.getD_eq_getElem?_getD, List.getElem?_eq_getElem h]
  rw [e, hasRec_mem, decide_eq_false_iff_not]
  intro hm
  obtain ⟨q, hq, he⟩ := List.mem_map.1 hm
  obtain ⟨j, hj, rfl⟩ := List.mem_take_iff_getElem.1 hq
  have h1 : (rs.map (·.f0))[j]'(by simp; omega) = (rs.map (·.f0))[k]'(by simpa using h) := by simpa using he
  have := (List.getElem_inj hn).1 h1
  omega
theorem take_succ_rec (l : List Rec) (k : Nat) (h : k < l.length) : l.take (k + 1) = l.take k ++ [PRef.rd_T49 l k] := by
  rw [List.take_succ_eq_append_getElem h]
  simp [PRef.rd_T49, List.getD_eq_getElem?_getD, List.getElem?_eq_getElem h]
theorem rd_rec_mem (l : List Rec) (k : Nat) (h : k < l.length) : PRef.rd_T49 l k ∈ l := by
  have e : PRef.rd_T49 l k = l[k] := by simp [PRef.rd_T49, List.getD_eq_getElem?_getD, List.getElem?_eq_getElem h]
  rw [e]
  exact List.getElem_mem h
set_option maxRecDepth 100000 in
set_option maxHeartbeats 1600000 in
theorem new_calls (rs : List Rec) (A : Option Addr) (c : Nat) (w : World) (hC : Kd.C kRec w A rs.length rs) (hok : ∀ r ∈ rs, RecOk r) (hn : OnceIds rs) (hl : rs.length ≤ 1048576) :
    Calls Try.prog 10 #[.slice A rs.length c] w fun e w' => ∃ g mb, e = .returned (.tuple #[.pointer (some ⟨g, 0, none⟩), .int .i64 0]) ∧ GraphAt w' g mb rs ∧ w.heap.size ≤ g ∧ w.heap.size ≤ mb ∧ Below w.heap.size w w' := by
  have hmm := @run_makeMap Try.prog
  go_enter Try.func10, Try.ntmps10
  go_wp2
  have hB : Below w.heap.size w ((w.alloc (.map #[] 0)).alloc (.cells #[.map (some w.heap.size), .int .i64 0] 74)) := ((Below.refl _ _).alloc (Nat.le_refl _) _).alloc (by simp) _
  have hcell : ((w.alloc (.map #[] 0)).alloc (.cells #[.map (some w.heap.size), .int .i64 0] 74)).heap[w.heap.size + 1]? = some (.cells #[.map (some w.heap.size), .int .i64 0] 74 (0, 0)) := at_new (by simp) _
  have hmap : MapAt ((w.alloc (.map #[] 0)).alloc (.cells #[.map (some w.heap.size), .int .i64 0] 74)) w.heap.size [] := (mapAt_made w).same (Below.heap_alloc _ _ _ (by simp))
  have hrecs : RecsFrom (w.heap.size + 2) ((w.alloc (.map #[] 0)).alloc (.cells #[.map (some w.heap.size), .int .i64 0] 74)) w.heap.size [] := ⟨[], hmap, rfl, fun p hp => by cases hp⟩
  generalize ((w.alloc (.map #[] 0)).alloc (.cells #[.map (some w.heap.size), .int .i64 0] 74)) = W0 at hB hcell hmap hrecs ⊢
  have HB := Aside0.mk hB
  have HN := Aside0.mk (fun (k : Nat) h => hasRec_take hn k h)
  have HK := Aside0.mk (fun (k : Nat) h => hok _ (rd_rec_mem rs k h))
  have HC := Aside0.mk hC
  have HG := Aside0.mk hcell
  have HR := Aside0.mk hrecs
  clear hB hcell hmap hrecs hC hn hok hmm
  go_loopw [14] (fun i wr => ∃ (k : Nat) (n : Int), k ≤ rs.length ∧ i = .int .i64 k ∧ Aside0 (Below w.heap.size w wr) ∧ Aside0 (wr.heap[w.heap.size + 1]? = some (.cells #[.map (some w.heap.size), .int .i64 n] 74 (0, 0))) ∧ Aside0 (RecsFrom (w.heap.size + 2) wr w.heap.size (rs.take k))) (fun i _ => rs.length - (intOf i).toNat)
  case atStart => exact ⟨0, 0, Nat.zero_le _, rfl, HB, HG, HR⟩
  case round =>
    obtain ⟨k, n, hk, rfl, hBr, hGr, hRr⟩ := hrel
    clear HB HG HR
    by_cases hlt : k < rs.length
    · have hCr := cel_rec.C (CKeep.below hBr.out) HC.out
      obtain ⟨ad, A3, c3, A4, c4, rfl, x0, x1, x2, x3, x4, l3, g3, l4, g4⟩ := PRef.at_T49 hCr (k : Int) (by omega) (by omega)
      have HT := Aside0.mk (take_succ_rec rs k hlt)
      have hnk := HN.out k hlt
      have hokk := HK.out k hlt
      generalize PRef.rd_T49 rs (k : Int) = r at x0 x1 x2 x3 x4 l3 g3 l4 g4 HT hnk hokk
      simp only [Int.toNat_natCast] at x0 x1 x2 x3 x4
      have hbx : Below wr.heap.size wr (wr.alloc (.cells #[.int .i64 r.f0.f0, .int .i64 r.f0.f1, .int .i64 r.f1, .slice A3 r.f2.length c3, .slice A4 r.f3.length c4] 49)) := (Below.refl _ _).alloc (Nat.le_refl _) _
      have hchk := recCheck_parts r A3 A4 c3 c4 (wr.alloc (.cells #[.int .i64 r.f0.f0, .int .i64 r.f0.f1, .int .i64 r.f1, .slice A3 r.f2.length c3, .slice A4 r.f3.length c4] 49)) (cel_id.C (CKeep.below hbx) g3) l3 (cel_cmd.C (CKeep.below hbx) g4) l4 0 0 0 hokk.own hokk.deps hokk.does
      have hcg0 := cell_of_row _ (w.heap.size + 1) 0 _ _ _ hGr.out
      have hcg1 := cell_of_row _ (w.heap.size + 1) 1 _ _ _ hGr.out
      have e0 : sel3 0 0 0 = 0 := rfl
      rw [e0] at hchk
      clear hCr e0
      go_wp2_with (go_at_call 39; refine hchk.mono ?_; rintro e w1 ⟨rfl, hb1⟩)
      have hbw1 : Below wr.heap.size wr w1 := hbx.trans (hb1.mono hbx.size)
      have hs1 : wr.heap.size + 1 ≤ w1.heap.size := by have := hb1.size; simp at this; omega
      have hbox1 := (hb1.block wr.heap.size (by simp)).trans (heap_alloc_new wr _)
      have hlg := (Array.getElem?_eq_some_iff.1 hGr.out).1
      have hg1 := (hbw1.block (w.heap.size + 1) hlg).trans hGr.out
      have HR1 := Aside0.mk (hRr.out.below hbw1 (Nat.le_refl _))
      have b0 := cell_of_row _ wr.heap.size 0 _ _ _ hbox1
      have b1 := cell_of_row _ wr.heap.size 1 _ _ _ hbox1
      have gg := cell_of_row _ (w.heap.size + 1) 0 _ _ _ hg1
      have HX := Aside0.mk hbox1
      have HG1 := Aside0.mk hg1
      have HB1 := Aside0.mk hbw1
      have HF := Aside0.mk (And.intro hokk.few hokk.few3)
      have HRV := Aside0.mk (show RecV wr (.agg #[.int .i64 r.f0.f0, .int .i64 r.f0.f1, .int .i64 r.f1, .slice A3 r.f2.length c3, .slice A4 r.f3.length c4]) r from ⟨_, _, _, _, rfl, l3, l4, g3, g4⟩)
      clear hbw1 hbox1 hg1 hbx hchk hb1 x0 x1 x2 x3 x4 hcg0 hcg1 hokk g3 g4
      have hih : ∀ n, Calls Try.prog 40 #[.agg #[.map (some w.heap.size)], .agg #[.int .i64 r.f0.f0, .int .i64 r.f0.f1]] (w1.drewN n) fun e w' => e = .returned (.bool false) ∧ Below w1.heap.size w1 w' := fun n =>
        (index_has (HR1.out.recs.below (pw_below_drewN (Below.refl _ _) n) (Nat.le_refl _)) r.f0).mono fun e w' h => by rw [hnk] at h; exact ⟨h.1, (pw_below_drewN (Below.refl _ _) n).trans h.2⟩
      have HI := Aside0.mk hih
      clear hih
      go_still_tail 6, (by kernel_rfl)
      go_wp2_with (go_at_call 40; refine (HI.out 1).mono ?_; rintro e w2 ⟨rfl, hb2⟩)
      have hs2 : w1.heap.size ≤ w2.heap.size := hb2.size
      have hbox2 := (hb2.block wr.heap.size (by omega)).trans HX.out
      have hlg2 : w.heap.size + 1 < w1.heap.size := by omega
      have hg2 := (hb2.block (w.heap.size + 1) hlg2).trans HG1.out
      have HB2 := Aside0.mk (HB1.out.trans (hb2.mono HB1.out.size))
      have HR2 := Aside0.mk (HR1.out.below hb2 (Nat.le_refl _))
      have HG2 := Aside0.mk hg2
      have HX2 := Aside0.mk hbox2
      have a0 := cell_of_row _ wr.heap.size 0 _ _ _ hbox2
      have a1 := cell_of_row _ wr.heap.size 1 _ _ _ hbox2
      have a2 := cell_of_row _ wr.heap.size 2 _ _ _ hbox2
      have a3 := cell_of_row _ wr.heap.size 3 _ _ _ hbox2
      have a4 := cell_of_row _ wr.heap.size 4 _ _ _ hbox2
      have ag := cell_of_row _ (w.heap.size + 1) 0 _ _ _ hg2
      have hcp := fun n => recCopy r A3 A4 c3 c4 (w2.drewN n) (by
        obtain ⟨_, _, _, _, e, _, _, h1, _⟩ := (HRV.out.keep (CKeep.below HB2.out))
        injection e with e; simp only [Array.mk.injEq, List.cons.injEq, Value.slice.injEq] at e
        obtain ⟨_, _, _, ⟨rfl, _, rfl⟩, _⟩ := e
        exact cel_id.C (CKeep.below (pw_below_drewN (Below.refl _ _) n)) h1) (by
        obtain ⟨_, _, _, _, e, _, _, _, h1⟩ := (HRV.out.keep (CKeep.below HB2.out))
        injection e with e; simp only [Array.mk.injEq, List.cons.injEq, Value.slice.injEq] at e
        obtain ⟨_, _, _, _, ⟨rfl, _, rfl⟩, _⟩ := e
        exact cel_cmd.C (CKeep.below (pw_below_drewN (Below.refl _ _) n)) h1) HF.out.1 HF.out.2
      have HCP := Aside0.mk hcp
      have HN2 := Aside0.mk (show w.heap.size + 2 ≤ w2.heap.size by omega)
      clear hbox2 hg2 hb2 b0 b1 gg hcp
      have ne1 : wr.heap.size ≠ w.heap.size := by omega
      have ne2 : w.heap.size + 1 ≠ w.heap.size := by omega
      go_region_held3 (fun W => W.cell? ⟨wr.heap.size, 0, none⟩ = some (.int .i64 r.f0.f0) ∧ W.cell? ⟨wr.heap.size, 1, none⟩ = some (.int .i64 r.f0.f1) ∧ W.cell? ⟨wr.heap.size, 2, none⟩ = some (.int .i64 r.f1) ∧ W.cell? ⟨wr.heap.size, 3, none⟩ = some (.slice A3 r.f2.length c3) ∧ W.cell? ⟨wr.heap.size, 4, none⟩ = some (.slice A4 r.f3.length c4) ∧ W.cell? ⟨w.heap.size + 1, 0, none⟩ = some (.map (some w.heap.size)))
        (go_keep)
        ((go_at_call 41; refine (HCP.out 1).mono ?_; rintro e w3 ⟨B, B', d, d', rfl, hd, hd', hCB, hCB', hb3, p1, p2, rfl, rfl, hp1, hp2⟩; have k0 := pw_cell_below hb3 a0; have k1 := pw_cell_below hb3 a1; have k2 := pw_cell_below hb3 a2; have k3 := pw_cell_below hb3 a3; have k4 := pw_cell_below hb3 a4; have kg := pw_cell_below hb3 ag; obtain ⟨w4, hup, hR4, ht4⟩ := (HR2.out.below ((pw_below_drewN (Below.refl w2.heap.size w2) 1).trans hb3) (Nat.le_refl _)).store ⟨_, _, _, _, rfl, hd, hd', hCB, hCB'⟩ (Nat.le_trans HN2.out hp1) (Nat.le_trans HN2.out hp2) hnk; have m0 := (World.cell?_of_block (a := ⟨wr.heap.size, 0, none⟩) (ht4.2.2 _ ne1)).trans k0; have m1 := (World.cell?_of_block (a := ⟨wr.heap.size, 1, none⟩) (ht4.2.2 _ ne1)).trans k1; have m2 := (World.cell?_of_block (a := ⟨wr.heap.size, 2, none⟩) (ht4.2.2 _ ne1)).trans k2; have m3 := (World.cell?_of_block (a := ⟨wr.heap.size, 3, none⟩) (ht4.2.2 _ ne1)).trans k3; have m4 := (World.cell?_of_block (a := ⟨wr.heap.size, 4, none⟩) (ht4.2.2 _ ne1)).trans k4; have mg := (World.cell?_of_block (a := ⟨w.heap.size + 1, 0, none⟩) (ht4.2.2 _ ne2)).trans kg))
      go_wp2_with fail
      have hg3 := (hb3.block (w.heap.size + 1) (Nat.lt_of_lt_of_le hlg2 hs2)).trans HG2.out
      have hg4 := (ht4.2.2 (w.heap.size + 1) ne2).trans hg3
      have hB3 := HB2.out.trans ((((pw_below_drewN (Below.refl w2.heap.size w2) 1).trans hb3)).mono HB2.out.size)
      have hB4 : Below w.heap.size w w4 := (hBr.out.trans (hB3.mono hBr.out.size)).trans (turned_below ht4 (Nat.le_refl _))
      have HB4 := Aside0.mk hB4
      have HR4 := Aside0.mk hR4
      have HG4 := Aside0.mk hg4
      have q0 := cell_of_row _ (w.heap.size + 1) 0 _ _ _ hg4
      have q1 := cell_of_row _ (w.heap.size + 1) 1 _ _ _ hg4
      have fz : w4.frozen? ⟨w.heap.size + 1, 1, none⟩ = false := by simp [World.frozen?, hg4]
      clear hg3 hg4 hB3 hB4 hR4 hb3 hup ht4 hCB hCB' a0 a1 a2 a3 a4 ag k0 k1 k2 k4 kg mg m0 m1 m2 m4 k3
      go_still_tail 10, (by kernel_rfl)
      go_wp2
      go_roundw
      case rel =>
        refine ⟨k + 1, wrap64 (n + (r.f2.length : Int)), by omega, by go_num, ⟨(below_drew1 HB4.out).setCell (by simp) _⟩, Aside0.mk ?_, Aside0.mk ?_⟩
        rotate_left
        · rw [HT.out]
          refine HR4.out.keep (fun i hi hx => Below.heap_setCell _ _ _ _ (by show i ≠ w.heap.size + 1; omega)) (by simp [World.setCell])
        rotate_left
        · have := HG4.out
          simp [World.setCell, World.drew, Array.getElem?_modify, this]
      case measure => simp [intOf]; omega
    · go_wp2
      obtain rfl : k = rs.length := by omega
      have hrr := hRr.out
      rw [List.take_length] at hrr
      refine bodyPost_ret (v := .tuple #[.pointer (some ⟨w.heap.size + 1, 0, none⟩), .int .i64 0]) (by simp [results, Try.results10, go_sem]) rfl ?_
      exact ⟨_, _, rfl, ⟨⟨n, hGr.out⟩, hrr.recs⟩, by omega, Nat.le_refl _, hBr.out⟩
end Go.Proofs.Ytjffghebcaklaaa
