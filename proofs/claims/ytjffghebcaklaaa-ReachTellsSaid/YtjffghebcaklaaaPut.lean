/- The reference's Put and Sorted of ids, as they read. -/
import Derived.Test.YtjffghebcaklaaaOpen
namespace Go.Proofs.Ytjffghebcaklaaa
open Go Go.RowKit Go.Shelf Go.Lib Go.Sort Go.Proofs.YtjffghebcaklaaaW.PrintWords Go.Proofs.YtjffghebcaklaaaW.PrintLast Go.Proofs.YtjffghebcaklaaaW.PrintMore
set_option linter.unusedVariables false
set_option linter.unusedSimpArgs false
theorem wrap_succ (i : Nat) (h : i < 9223372036854775807) : wrap64 ((i : Int) + 1) = ((i + 1 : Nat) : Int) := by unfold wrap64; omega
theorem drop_rd (l : List Id) (i : Nat) (h : i < l.length) : l.drop i = rdId l i :: l.drop (i + 1) := by
  rw [List.drop_eq_getElem_cons h]
  congr 1
  simp [rdId, PRef.rd_T37, List.getD_eq_getElem?_getD, List.getElem?_eq_getElem h]
theorem ev_has0 (l : List Id) (x : Id) (hl : l.length ≤ 9223372036854775807) : ∀ (d i : Nat), i + d = l.length → Ev (fun k => PRef.cortegeref03_Has.l0 k l (i : Int) x.f0 x.f1) (decide (x ∈ l.drop i))
  | 0, i, hi => by
    rw [List.drop_of_length_le (by omega)]
    refine Ev.step (fun k => ?_) (Ev.now _)
    simp only [PRef.cortegeref03_Has.l0]
    rw [if_neg (by omega)]
    rfl
  | d + 1, i, hi => by
    have hlt : i < l.length := by omega
    have hw := wrap_succ i (by omega)
    have hd := drop_rd l i hlt
    by_cases hx : rdId l i = x
    · have hb : ((rdId l i).f0 == x.f0 && ((rdId l i).f1 == x.f1)) = true := by rw [id_beq]; simp [hx]
      refine Ev.step (f := fun _ => some true) (fun k => ?_) ?_
      · simp only [PRef.cortegeref03_Has.l0]
        rw [if_pos (by omega), if_pos (by omega), if_pos hb]
      · rw [hd]; simp [hx]; exact Ev.now _
    · have hb : ((rdId l i).f0 == x.f0 && ((rdId l i).f1 == x.f1)) = false := by rw [id_beq]; simp [hx]
      refine Ev.step (f := fun k => PRef.cortegeref03_Has.l0 k l ((i + 1 : Nat) : Int) x.f0 x.f1) (fun k => ?_) ?_
      · simp only [PRef.cortegeref03_Has.l0]
        rw [if_pos (by omega), if_pos (by omega), if_neg (by rw [show ((PRef.rd_T37 l (i : Int)).f0 == x.f0 && ((PRef.rd_T37 l (i : Int)).f1 == x.f1)) = false from hb]; simp), hw]
      · have := ev_has0 l x hl d (i + 1) (by omega)
        rw [hd]
        have e : decide (x ∈ rdId l i :: l.drop (i + 1)) = decide (x ∈ l.drop (i + 1)) := by
          rw [Bool.eq_iff_iff]; simp [Ne.symm hx]
        rw [e]
        exact this
theorem ev_has (l : List Id) (x : Id) (hl : l.length ≤ 9223372036854775807) : Ev (fun k => PRef.cortegeref03_Has.f k l x.f0 x.f1) (decide (x ∈ l)) := by
  have := ev_has0 l x hl l.length 0 (by omega)
  simpa [PRef.cortegeref03_Has.f] using this
theorem refHas_calls (l : List Id) (x : Id) (A : Option Addr) (c : Nat) (w : World) (hC : Kd.C kId w A l.length l) (hc : l.length ≤ c) :
    Calls Try.prog 15 #[.slice A l.length c, .agg #[.int .i64 x.f0, .int .i64 x.f1]] w fun e w' => e = .returned (.bool (decide (x ∈ l))) ∧ Below w.heap.size w w' := by
  obtain ⟨k, hk⟩ := (ev_has l x hC.2.1).rounds
  exact PRef.cortegeref03_Has.calls k A c l x.f0 x.f1 _ w hC hc hk
theorem refLess_calls (x y : Id) (w : World) :
    Calls Try.prog 55 #[.agg #[.int .i64 x.f0, .int .i64 x.f1], .agg #[.int .i64 y.f0, .int .i64 y.f1]] w fun e w' => e = .returned (.bool (decide (idLt x y))) ∧ Below w.heap.size w w' :=
  PRef.cortegeref03_Less.calls x.f0 x.f1 y.f0 y.f1 _ w (ev_less x y)
/-- What Put has made of the ids so far, and whether x is among them. -/
def insStep (x : Id) (s : List Id × Bool) (y : Id) : List Id × Bool := if s.2 = false ∧ idLt x y then (s.1 ++ [x] ++ [y], true) else (s.1 ++ [y], s.2)
theorem ins_true (x : Id) : ∀ (l acc : List Id), l.foldl (insStep x) (acc, true) = (acc ++ l, true)
  | [], acc => by simp
  | y :: l, acc => by
    rw [List.foldl_cons, show insStep x (acc, true) y = (acc ++ [y], true) from by simp [insStep], ins_true x l]
    simp
theorem ins_fin (x : Id) : ∀ (l acc : List Id), (let s := l.foldl (insStep x) (acc, false); if s.2 = true then s.1 else s.1 ++ [x]) = acc ++ insId x l
  | [], acc => by simp [insId]
  | y :: l, acc => by
    by_cases h : idLt x y
    · rw [List.foldl_cons, show insStep x (acc, false) y = (acc ++ [x] ++ [y], true) from by simp [insStep, h], ins_true]
      simp [insId, h]
    · rw [List.foldl_cons, show insStep x (acc, false) y = (acc ++ [y], false) from by simp [insStep, h], ins_fin x l]
      simp [insId, h]
theorem ins_len (x : Id) : ∀ (l acc : List Id) (b : Bool), (l.foldl (insStep x) (acc, b)).1.length ≤ acc.length + l.length + 1 ∧ ((l.foldl (insStep x) (acc, b)).2 = false → (l.foldl (insStep x) (acc, b)).1.length = acc.length + l.length)
  | [], acc, b => by simp
  | y :: l, acc, b => by
    cases b with
    | true =>
      rw [ins_true]
      simp
    | false =>
      by_cases h : idLt x y
      · rw [List.foldl_cons, show insStep x (acc, false) y = (acc ++ [x] ++ [y], true) from by simp [insStep, h], ins_true]
        simp; omega
      · rw [List.foldl_cons, show insStep x (acc, false) y = (acc ++ [y], false) from by simp [insStep, h]]
        have := ins_len x l (acc ++ [y]) false
        simp only [List.length_append, List.length_cons, List.length_nil] at this ⊢
        exact ⟨by omega, fun h => by have := this.2 h; omega⟩
theorem fold_take (x : Id) (l : List Id) (k : Nat) (h : k < l.length) : (l.take (k + 1)).foldl (insStep x) ([], false) = insStep x ((l.take k).foldl (insStep x) ([], false)) (rdId l k) := by
  rw [take_succ_rd l k h, List.foldl_append]
  rfl
set_option maxRecDepth 100000 in
set_option maxHeartbeats 1600000 in
theorem put_calls (l : List Id) (x : Id) (A : Option Addr) (c : Nat) (w : World) (hC : Kd.C kId w A l.length l) (hc : l.length ≤ c) (hl : l.length ≤ 1048576) :
    Calls Try.prog 31 #[.slice A l.length c, .agg #[.int .i64 x.f0, .int .i64 x.f1]] w fun e w' => ∃ B d, e = .returned (.slice B (putId l x).length d) ∧ Kd.C kId w' B (putId l x).length (putId l x) ∧ (putId l x).length ≤ d ∧ Below w.heap.size w w' := by
  have hB : Below w.heap.size w (w.alloc (.cells #[.int .i64 x.f0, .int .i64 x.f1] 37)) := (Below.refl _ _).alloc (Nat.le_refl _) _
  have hcall := refHas_calls l x A c _ (cel_id.C (CKeep.below hB) hC) hc
  have HB := Aside0.mk hB
  have HC := Aside0.mk hC
  by_cases hx : x ∈ l
  · have hd : decide (x ∈ l) = true := by simp [hx]
    rw [hd] at hcall
    have e : putId l x = l := by simp [putId, hx]
    rw [e]
    clear hB hC hd hx e
    go_enter Try.func31, Try.ntmps31
    go_wp2_with (go_at_call 15; refine hcall.mono ?_; rintro e w1 ⟨rfl, hb1⟩)
    go_ret
    have hB1 := HB.out.trans (hb1.mono HB.out.size)
    exact ⟨_, _, rfl, cel_id.C (CKeep.below hB1) HC.out, hc, hB1⟩
  · have hd : decide (x ∈ l) = false := by simp [hx]
    rw [hd] at hcall
    have e : putId l x = insId x l := by simp [putId, hx]
    rw [e]
    clear hB hC hd hx e
    go_enter Try.func31, Try.ntmps31
    go_wp2_with (go_at_call 15; refine hcall.mono ?_; rintro e w1 ⟨rfl, hb1⟩)
    have hB1 := HB.out.trans (hb1.mono HB.out.size)
    have hX1 : IdBox w1 w.heap.size x := (idBox_new w x).below hb1 (Nat.le_refl _)
    have hW : Below w.heap.size w (w1.alloc (.cells #[] 37)) := hB1.alloc hB1.size _
    have hO := ownIds_empty w1 w1.heap.size (Nat.le_refl _)
    have hX0 : IdBox (w1.alloc (.cells #[] 37)) w.heap.size x := hX1.below ((Below.refl w1.heap.size w1).alloc (Nat.le_refl _) _) (Nat.le_refl _)
    have hxl := hX1.lt
    have HW1 := Aside0.mk hB1.size
    have hws : w1.heap.size + 1 = (w1.alloc (.cells #[] 37)).heap.size := by simp
    generalize (w1.alloc (.cells #[] 37)) = W0 at hW hO hX0 hws ⊢
    have HW0 := Aside0.mk hW
    have HO0 := Aside0.mk hO
    have HX0 := Aside0.mk hX0
    have HWS := Aside0.mk hws
    clear hW hO hX0 hB1 hX1 hb1 hcall hws HB
    go_loopw [5, 6, 7] (fun v dn i wr => ∃ (k : Nat) (A' : Option Addr) (c' : Nat) (acc : List Id) (b : Bool), k ≤ l.length ∧ i = .int .i64 k ∧ v = .slice A' acc.length c' ∧ dn = .bool b ∧ Aside0 ((l.take k).foldl (insStep x) ([], false) = (acc, b)) ∧ Aside0 (OwnIds wr w1.heap.size A' c' acc) ∧ Aside0 (IdBox wr w.heap.size x) ∧ Aside0 (Below w.heap.size w wr) ∧ w1.heap.size ≤ wr.heap.size)
      (fun _ _ i _ => l.length - (intOf i).toNat)
    case atStart => exact ⟨0, _, 0, [], false, Nat.zero_le _, rfl, rfl, rfl, ⟨by simp⟩, HO0, HX0, HW0, by have := HWS.out; omega⟩
    case round =>
      obtain ⟨k, A', c', acc, b, hk, rfl, rfl, rfl, hacc, hown, hX, hBr, hsz⟩ := hrel
      clear HO0 HX0 HW0
      have hla := ins_len x (l.take k) [] false
      rw [hacc.out] at hla
      have hal : acc.length ≤ 1048577 := by have := hla.1; simp at this; omega
      have hrow := hown.out.lt
      clear hla
      by_cases hlt : k < l.length
      · obtain ⟨ad, rfl, x0w, x1w⟩ := PRef.at_T37 HC.out (k : Int) (by omega) (by omega)
        have HT := Aside0.mk (fold_take x l k hlt)
        have e : rdId l (k : Int) = PRef.rd_T37 l (k : Int) := rfl
        rw [e] at HT
        generalize PRef.rd_T37 l (k : Int) = y at x0w x1w HT
        simp only [Int.toNat_natCast] at x0w x1w
        have HCE0 := Aside0.mk (fun (W : World) (h : Below w.heap.size w W) => pw_cell_below h x0w)
        have HCE1 := Aside0.mk (fun (W : World) (h : Below w.heap.size w W) => pw_cell_below h x1w)
        have x0 := HCE0.out wr hBr.out
        have x1 := HCE1.out wr hBr.out
        clear x0w x1w
        have b0 := hX.out.c0
        have b1 := hX.out.c1
        have hlen8 : acc.length + 1 ≤ 8388608 := by omega
        have hlen9 : (acc ++ [x]).length + 1 ≤ 8388608 := by simp; omega
        clear e
        cases b with
        | true =>
          have HST := Aside0.mk (show insStep x (acc, true) y = (acc ++ [y], true) from by simp [insStep])
          have hownD : ∀ n, OwnIds (wr.drewN n) w1.heap.size A' c' acc := fun n => hown.out
          have hBD : ∀ n, Below w.heap.size w (wr.drewN n) := fun n => pw_below_drewN hBr.out n
          have HOD := Aside0.mk hownD
          have HBD := Aside0.mk hBD
          clear hownD hBD
          go_wp2
          go_quiet (fail)
          go_wp2_with (at_builtin; refine wpList_append_ids ((HOD.out _).alloc _) (one_C _ y) hlen8 (by simp; omega) rfl (.tmp 33) (.tmp 38) rfl rfl rfl ?_; intro A5 c5 w5 hown5 hgrow5 hat5)
          go_roundw
          case rel =>
            have hsz5 := hgrow5.size
            have hbb := (HBD.out nq).alloc (HBD.out nq).size (.cells #[.int .i64 y.f0, .int .i64 y.f1] 37)
            have hX5 : IdBox w5 w.heap.size x := (hgrow5.block w.heap.size (by have := hX.out.lt; simp; omega) (fun e => by have := (hrow _ e.symm).1; omega)).trans ((Below.heap_alloc _ _ _ hX.out.lt).trans hX.out)
            exact ⟨k + 1, A5, c5, acc ++ [y], true, by omega, by go_num, by simp, rfl, ⟨by rw [HT.out, hacc.out, HST.out]⟩, ⟨hown5⟩, ⟨hX5⟩, ⟨hbb.grown hgrow5 (by have := hBr.out.size; simp; omega) (fun q hq => by have := (hrow q hq).1; have := HW1.out; omega)⟩, by simp at hsz5; omega⟩
          case measure => simp [intOf]; omega
        | false =>
          by_cases hxy : idLt x y
          · have HST := Aside0.mk (show insStep x (acc, false) y = (acc ++ [x] ++ [y], true) from by simp [insStep, hxy])
            have hless : ∀ W, Calls Try.prog 55 #[.agg #[.int .i64 x.f0, .int .i64 x.f1], .agg #[.int .i64 y.f0, .int .i64 y.f1]] W fun e w' => e = .returned (.bool true) ∧ Below W.heap.size W w' := fun W => by
              have := refLess_calls x y W
              rwa [decide_eq_true hxy] at this
            have HLS := Aside0.mk hless
            clear hxy hless
            go_wp2
            go_region_with (go_at_call 55; refine (HLS.out _).mono ?_; rintro e w2 ⟨rfl, hb2⟩)
            all_goals
              have hb02 : Below wr.heap.size wr w2 := below_step (by repeat (first | exact Below.refl _ _ | apply pw_below_drewN | apply below_drew1)) hb2
              have hB2 : Below w.heap.size w w2 := hBr.out.trans (hb02.mono hBr.out.size)
              have y0 := HCE0.out w2 hB2
              have y1 := HCE1.out w2 hB2
              have hX2 := hX.out.below hb02 (Nat.le_refl _)
              have z0 := hX2.c0
              have z1 := hX2.c1
              have hown2 := hown.out.below hb02 (Nat.le_refl _)
              have hs2 := hb02.size
              have HX2 := Aside0.mk hX2
              have HB2 := Aside0.mk hB2
              have HO2 := Aside0.mk hown2
              clear hb2 hX2 hb02 hB2 hown2
              go_wp2_with (first
                | (at_builtin; refine wpList_append_ids (HO2.out.alloc _) (one_C w2 x) hlen8 (by simp; omega) rfl (.tmp 29) (.tmp 31) rfl rfl rfl ?_; intro A5 c5 w5 hown5 hgrow5 hat5; have hs5 : w2.heap.size + 1 ≤ w5.heap.size := by { have := hgrow5.size; simpa using this }; have hB5 : Below w.heap.size w w5 := ((HB2.out.alloc HB2.out.size _).grown hgrow5 (by { have := HB2.out.size; simp; omega }) (fun q hq => by { have := (hrow q hq).1; have := HW1.out; omega })); have u0 := HCE0.out w5 hB5; have u1 := HCE1.out w5 hB5; have HO5 := Aside0.mk hown5; clear hown5)
                | (at_builtin; refine wpList_append_ids (HO5.out.alloc _) (one_C w5 y) hlen9 (by simp; omega) rfl (.tmp 33) (.tmp 38) rfl (by simp; rfl) rfl ?_; intro A6 c6 w6 hown6 hgrow6 hat6))
              have hrow5 := HO5.out.lt
              have hs6 := hgrow6.size
              have hX6 : IdBox w6 w.heap.size x := by
                have h2 := HX2.out
                have h5 : IdBox w5 w.heap.size x := (hgrow5.block w.heap.size (by have := h2.lt; simp; omega) (fun e => by have := (hrow _ e.symm).1; omega)).trans ((Below.heap_alloc _ _ _ h2.lt).trans h2)
                exact (hgrow6.block w.heap.size (by have := h5.lt; simp; omega) (fun e => by have := (hrow5 _ e.symm).1; omega)).trans ((Below.heap_alloc _ _ _ h5.lt).trans h5)
              go_roundw
              case rel =>
                exact ⟨k + 1, A6, c6, acc ++ [x] ++ [y], true, by omega, by go_num, by simp, rfl, ⟨by rw [HT.out, hacc.out, HST.out]⟩, ⟨hown6⟩, ⟨hX6⟩, ⟨(hB5.alloc hB5.size _).grown hgrow6 (by have := hB5.size; simp; omega) (fun q hq => by have := (hrow5 q hq).1; have := HW1.out; omega)⟩, by simp at hs6; omega⟩
              case measure => simp [intOf]; omega
          · have HST := Aside0.mk (show insStep x (acc, false) y = (acc ++ [y], false) from by simp [insStep, hxy])
            have hless : ∀ W, Calls Try.prog 55 #[.agg #[.int .i64 x.f0, .int .i64 x.f1], .agg #[.int .i64 y.f0, .int .i64 y.f1]] W fun e w' => e = .returned (.bool false) ∧ Below W.heap.size W w' := fun W => by
              have := refLess_calls x y W
              rwa [decide_eq_false hxy] at this
            have HLS := Aside0.mk hless
            clear hxy hless
            go_wp2
            go_region_with (go_at_call 55; refine (HLS.out _).mono ?_; rintro e w2 ⟨rfl, hb2⟩)
            all_goals
              have hb02 : Below wr.heap.size wr w2 := below_step (by repeat (first | exact Below.refl _ _ | apply pw_below_drewN | apply below_drew1)) hb2
              have hB2 : Below w.heap.size w w2 := hBr.out.trans (hb02.mono hBr.out.size)
              have y0 := HCE0.out w2 hB2
              have y1 := HCE1.out w2 hB2
              have hX2 := hX.out.below hb02 (Nat.le_refl _)
              have hown2 := hown.out.below hb02 (Nat.le_refl _)
              have hs2 := hb02.size
              have HX2 := Aside0.mk hX2
              have HB2 := Aside0.mk hB2
              have HO2 := Aside0.mk hown2
              clear hb2 hX2 hb02 hB2 hown2
              go_wp2_with (at_builtin; refine wpList_append_ids (HO2.out.alloc _) (one_C w2 y) hlen8 (by simp; omega) rfl (.tmp 33) (.tmp 38) rfl rfl rfl ?_; intro A5 c5 w5 hown5 hgrow5 hat5)
              have hs5 := hgrow5.size
              have hX5 : IdBox w5 w.heap.size x := (hgrow5.block w.heap.size (by have := HX2.out.lt; simp; omega) (fun e => by have := (hrow _ e.symm).1; omega)).trans ((Below.heap_alloc _ _ _ HX2.out.lt).trans HX2.out)
              go_roundw
              case rel =>
                exact ⟨k + 1, A5, c5, acc ++ [y], false, by omega, by go_num, by simp, rfl, ⟨by rw [HT.out, hacc.out, HST.out]⟩, ⟨hown5⟩, ⟨hX5⟩, ⟨(HB2.out.alloc HB2.out.size _).grown hgrow5 (by have := HB2.out.size; simp; omega) (fun q hq => by have := (hrow q hq).1; have := HW1.out; omega)⟩, by simp at hs5; omega⟩
              case measure => simp [intOf]; omega
      · have hkl : k = l.length := by omega
        have hfin := ins_fin x l []
        have hacc' := hacc.out
        rw [hkl, List.take_length] at hacc'
        rw [hacc'] at hfin
        have b0 := hX.out.c0
        have b1 := hX.out.c1
        have hlen8 : acc.length + 1 ≤ 8388608 := by omega
        have HKL := Aside0.mk hkl
        have HFIN := Aside0.mk hfin
        clear hkl hfin hacc'
        cases b with
        | true =>
          go_wp2
          go_ret
          have e : insId x l = acc := by have := HFIN.out; simpa using this.symm
          rw [e]
          exact ⟨_, _, rfl, hown.out.C (by omega), hown.out.le, hBr.out⟩
        | false =>
          go_wp2_with (at_builtin; refine wpList_append_ids (hown.out.alloc _) (one_C wr x) hlen8 (by simp; omega) rfl (.tmp 42) (.tmp 44) rfl rfl rfl ?_; intro A5 c5 w5 hown5 hgrow5 hat5)
          go_ret
          have e : insId x l = acc ++ [x] := by have := HFIN.out; simpa using this.symm
          rw [e]
          exact ⟨_, _, by simp, hown5.C (by simp; omega), hown5.le, (hBr.out.alloc hBr.out.size _).grown hgrow5 (by have := hBr.out.size; simp; omega) (fun q hq => by have := (hrow q hq).1; have := HW1.out; omega)⟩
end Go.Proofs.Ytjffghebcaklaaa
