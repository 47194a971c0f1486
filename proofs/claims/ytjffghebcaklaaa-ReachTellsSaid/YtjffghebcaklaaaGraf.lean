/- A graph's Ids, Missing, Users, Record. -/
import Derived.Test.YtjffghebcaklaaaGath
namespace Go.Proofs.Ytjffghebcaklaaa
open Go Go.RowKit Go.Lib Go.Sort Go.Proofs.YtjffghebcaklaaaW.PrintWords Go.Proofs.YtjffghebcaklaaaW.PrintLast Go.Proofs.YtjffghebcaklaaaW.PrintMore
set_option linter.unusedVariables false
set_option linter.unusedSimpArgs false
attribute [local go_sem] run_store_float
theorem ids1_calls (r : Rec) (v : Value) (W : World) (hv : RecV W v r) :
    Calls Try.prog 66 (#[v] ++ #[]) W fun e w' => ∃ A c, e = .returned (.slice A [r.f0].length c) ∧ Kd.C kId w' A [r.f0].length [r.f0] ∧ Below W.heap.size W w' := by
  obtain ⟨A3, c3, A4, c4, rfl, _⟩ := hv
  have hC := one_C (W.alloc (.cells #[.int .i64 r.f0.f0, .int .i64 r.f0.f1, .int .i64 r.f1, .slice A3 r.f2.length c3, .slice A4 r.f3.length c4] 49)) r.f0
  rw [World.size_alloc] at hC
  have HC := Aside0.mk hC
  clear hC
  go_enter Try.func66, Try.ntmps66
  go_wp2
  go_ret
  exact ⟨_, _, rfl, HC.out, ((Below.refl _ _).alloc (Nat.le_refl _) _).alloc (by simp) _⟩
theorem ids_calls {w : World} {g mb : Nat} {rs : List Rec} (h : GraphAt w g mb rs) (hl : rs.length ≤ 1048576) :
    Calls Try.prog 43 #[.pointer (some ⟨g, 0, none⟩)] w fun e w' => ∃ A c, e = .returned (.slice A (gath rs fun r => [r.f0]).length c) ∧ OwnIds w' w.heap.size A c (gath rs fun r => [r.f0]) ∧ Below w.heap.size w w' := by
  have hcall := gathered_calls h 66 #[] (fun r => [r.f0]) (enters_of Try.func66 (by kernel_rfl) rfl) 1 (fun r _ => by simp) (by omega) (fun r hr W v hb hv => ids1_calls r v W hv)
  clear h
  go_enter Try.func43, Try.ntmps43
  go_wp2_with (go_at_call 65; refine hcall.mono ?_; rintro e w1 ⟨A, c, rfl, hC, hb⟩)
  go_ret
  exact ⟨_, _, rfl, hC, hb⟩
/-- A captured pointer's box. -/
def PtrBox (w : World) (b g : Nat) : Prop := w.heap[b]? = some (.cells #[.pointer (some ⟨g, 0, none⟩)] 28 (0, 0))
theorem PtrBox.c0 {w : World} {b g : Nat} (h : PtrBox w b g) : w.cell? ⟨b, 0, none⟩ = some (.pointer (some ⟨g, 0, none⟩)) := cell_of_row w b 0 _ _ _ h
theorem PtrBox.lt {w : World} {b g : Nat} (h : PtrBox w b g) : b < w.heap.size := (Array.getElem?_eq_some_iff.1 h).1
theorem PtrBox.below {w w' : World} {b g n : Nat} (h : PtrBox w b g) (hb : Below n w w') (hn : w.heap.size ≤ n) : PtrBox w' b g := (hb.block b (Nat.lt_of_lt_of_le h.lt hn)).trans h
def missOf (rs : List Rec) (r : Rec) : List Id := r.f2.filter fun d => !hasRec rs d
theorem missOf_snoc (rs : List Rec) (l : List Id) (x : Id) : (l ++ [x]).filter (fun d => !hasRec rs d) = if hasRec rs x then l.filter (fun d => !hasRec rs d) else l.filter (fun d => !hasRec rs d) ++ [x] := by
  rw [List.filter_append]
  by_cases h : hasRec rs x = true
  · simp [h]
  · have h : hasRec rs x = false := by simpa using h
    simp [h]
set_option maxRecDepth 100000 in
set_option maxHeartbeats 1600000 in
theorem missing1_calls (r : Rec) (v : Value) (W : World) (hv : RecV W v r) (g mb b : Nat) (rs : List Rec) (hg : GraphAt W g mb rs) (hb : PtrBox W b g) (hl : r.f2.length ≤ 1048576) :
    Calls Try.prog 81 (#[v] ++ #[.pointer (some ⟨b, 0, none⟩)]) W fun e w' => ∃ A c, e = .returned (.slice A (missOf rs r).length c) ∧ Kd.C kId w' A (missOf rs r).length (missOf rs r) ∧ Below W.heap.size W w' := by
  obtain ⟨A3, c3, A4, c4, rfl, hl3, hl4, hC, _⟩ := hv
  have hB0 : Below W.heap.size W (W.alloc (.cells #[.int .i64 r.f0.f0, .int .i64 r.f0.f1, .int .i64 r.f1, .slice A3 r.f2.length c3, .slice A4 r.f3.length c4] 49)) := (Below.refl _ _).alloc (Nat.le_refl _) _
  have HC := Aside0.mk hC
  have HG := Aside0.mk hg
  have HP := Aside0.mk hb
  have HB0 := Aside0.mk hB0
  clear hC hg hb hB0
  go_enter Try.func81, Try.ntmps81
  go_wp2
  generalize W.alloc (.cells #[.int .i64 r.f0.f0, .int .i64 r.f0.f1, .int .i64 r.f1, .slice A3 r.f2.length c3, .slice A4 r.f3.length c4] 49) = W0 at HB0 ⊢
  go_loopw [4, 10] (fun v i wr => ∃ (k : Nat) (A : Option Addr) (c : Nat) (acc : List Id), k ≤ r.f2.length ∧ i = .int .i64 k ∧ v = .slice A acc.length c ∧ Aside0 (acc = (r.f2.take k).filter fun d => !hasRec rs d) ∧ Aside0 (OwnIds wr W.heap.size A c acc) ∧ Aside0 (Below W.heap.size W wr)) (fun _ i _ => r.f2.length - (intOf i).toNat)
  case atStart => exact ⟨0, none, 0, [], Nat.zero_le _, rfl, rfl, ⟨by simp⟩, ⟨ownIds_nil _ _⟩, HB0⟩
  case round =>
    obtain ⟨k, A, c, acc, hk, rfl, rfl, hacc, hown, hB⟩ := hrel
    by_cases hlt : k < r.f2.length
    · obtain ⟨ad, rfl, x0, x1⟩ := PRef.at_T37 (cel_id.C (CKeep.below hB.out) HC.out) (k : Int) (by omega) (by omega)
      have HT := Aside0.mk (take_succ_rd r.f2 k hlt)
      generalize PRef.rd_T37 r.f2 (k : Int) = x at x0 x1 HT
      simp only [Int.toNat_natCast] at x0 x1
      have hbx : Below W.heap.size W (wr.alloc (.cells #[.int .i64 x.f0, .int .i64 x.f1] 37)) := hB.out.alloc hB.out.size _
      have hp0 := (HP.out.below hbx (Nat.le_refl _)).c0
      have hcall := graph_has (HG.out.below hbx (Nat.le_refl _)) x
      have hal : acc.length ≤ k := by rw [hacc.out]; exact Nat.le_trans (List.length_filter_le _ _) (by simp; omega)
      have HBX := Aside0.mk hbx
      by_cases hh : hasRec rs x = true
      · rw [hh] at hcall
        have HH := Aside0.mk hh
        clear hh hbx
        go_wp2_with (go_at_call 47; refine hcall.mono ?_; rintro e w1 ⟨rfl, hb1⟩)
        go_roundw
        case rel =>
          have hb2 := HBX.out.trans (hb1.mono HBX.out.size)
          have hb3 : Below wr.heap.size wr w1 := ((Below.refl wr.heap.size wr).alloc (Nat.le_refl _) _).trans (hb1.mono (by simp))
          exact ⟨k + 1, A, c, acc, by omega, by go_num, rfl, ⟨by rw [HT.out, missOf_snoc, if_pos HH.out]; exact hacc.out⟩, ⟨hown.out.below hb3 (Nat.le_refl _)⟩, ⟨hb2⟩⟩
        case measure => simp [intOf]; omega
      · have hh : hasRec rs x = false := by simpa using hh
        rw [hh] at hcall
        have HH := Aside0.mk hh
        clear hh hbx
        go_wp2_with (first
          | (go_at_call 47; refine hcall.mono ?_; rintro e w1 ⟨rfl, hb1⟩; have d0 := ((idBox_new wr x).below hb1 (Nat.le_refl _)).c0; have d1 := ((idBox_new wr x).below hb1 (Nat.le_refl _)).c1)
          | (at_builtin; refine wpList_append_ids ((hown.out.below (((Below.refl wr.heap.size wr).alloc (Nat.le_refl _) _).trans (hb1.mono (by simp))) (Nat.le_refl _)).alloc _) (one_C _ x) (by simp; omega) (by have := hb1.size; have := hB.out.size; simp at *; omega) rfl (.tmp 18) (.tmp 20) rfl rfl rfl ?_; intro A5 c5 w5 hown5 hgrow5 hat5))
        go_roundw
        case rel =>
          have hb2 := HBX.out.trans (hb1.mono HBX.out.size)
          have hlta := hown.out.lt
          exact ⟨k + 1, A5, c5, acc ++ [x], by omega, by go_num, by simp, ⟨by rw [HT.out, missOf_snoc, HH.out, hacc.out]; rfl⟩, ⟨hown5⟩, ⟨(hb2.alloc hb2.size _).grown hgrow5 (by have := hb2.size; simp; omega) (fun k e => (hlta k e).1)⟩⟩
        case measure => simp [intOf]; omega
    · go_wp2
      go_ret
      obtain rfl : k = r.f2.length := by omega
      have e : acc = missOf rs r := by rw [hacc.out, List.take_length]; rfl
      have hal : acc.length ≤ r.f2.length := by rw [e]; exact List.length_filter_le _ _
      rw [← e]
      exact ⟨_, _, rfl, hown.out.C (by omega), hB.out⟩
theorem missing_calls {w : World} {g mb : Nat} {rs : List Rec} (h : GraphAt w g mb rs) (K : Nat) (hK : ∀ r ∈ rs, r.f2.length ≤ K) (hl : rs.length * K ≤ 1048576) (hk : K ≤ 1048576) :
    Calls Try.prog 62 #[.pointer (some ⟨g, 0, none⟩)] w fun e w' => ∃ A c, e = .returned (.slice A (gath rs (missOf rs)).length c) ∧ OwnIds w' w.heap.size A c (gath rs (missOf rs)) ∧ Below w.heap.size w w' := by
  have hB : Below w.heap.size w (w.alloc (.cells #[.pointer (some ⟨g, 0, none⟩)] 28)) := (Below.refl _ _).alloc (Nat.le_refl _) _
  have hg := h.below hB (Nat.le_refl _)
  have hp : PtrBox (w.alloc (.cells #[.pointer (some ⟨g, 0, none⟩)] 28)) w.heap.size g := heap_alloc_new w _
  have hcall := gathered_calls hg 81 #[.pointer (some ⟨w.heap.size, 0, none⟩)] (missOf rs) (enters_of Try.func81 (by kernel_rfl) rfl) K
    (fun r hr => Nat.le_trans (List.length_filter_le _ _) (hK r hr)) hl
    (fun r hr W v hb hv => missing1_calls r v W hv g mb w.heap.size rs (hg.below hb (Nat.le_refl _)) (hp.below hb (Nat.le_refl _)) (Nat.le_trans (hK r hr) hk))
  have hmf : ∀ (fn : Fn) (first cap : Array Value) (w : World), (Instr.makeFunc fn first cap).run Try.prog w = .ok (.func fn first cap) w := fun _ _ _ _ => rfl
  have HB := Aside0.mk hB
  clear h hg hp hB
  go_enter Try.func62, Try.ntmps62
  go_wp2_with (go_at_call 65; refine hcall.mono ?_; rintro e w1 ⟨A, c, rfl, hC, hb⟩)
  go_ret
  exact ⟨_, _, rfl, hC.base (fun q hq => Nat.le_trans HB.out.size (hC.lt q hq).1), HB.out.trans (hb.mono HB.out.size)⟩
def userOf (x : Id) (r : Rec) : List Id := if x ∈ r.f2 then [r.f0] else []
set_option maxRecDepth 100000 in
set_option maxHeartbeats 800000 in
theorem users1_calls (r : Rec) (v : Value) (W : World) (hv : RecV W v r) (b : Nat) (x : Id) (hb : IdBox W b x) :
    Calls Try.prog 82 (#[v] ++ #[.pointer (some ⟨b, 0, none⟩)]) W fun e w' => ∃ A c, e = .returned (.slice A (userOf x r).length c) ∧ Kd.C kId w' A (userOf x r).length (userOf x r) ∧ Below W.heap.size W w' := by
  obtain ⟨A3, c3, A4, c4, rfl, hl3, hl4, hC, _⟩ := hv
  have hB0 : Below W.heap.size W (W.alloc (.cells #[.int .i64 r.f0.f0, .int .i64 r.f0.f1, .int .i64 r.f1, .slice A3 r.f2.length c3, .slice A4 r.f3.length c4] 49)) := (Below.refl _ _).alloc (Nat.le_refl _) _
  have hcall := has_calls r.f2 x A3 c3 _ (cel_id.C (CKeep.below hB0) hC)
  have c0 := (hb.below hB0 (Nat.le_refl _)).c0
  have c1 := (hb.below hB0 (Nat.le_refl _)).c1
  have HB0 := Aside0.mk hB0
  by_cases hx : x ∈ r.f2
  · have hd : decide (x ∈ r.f2) = true := by simp [hx]
    rw [hd] at hcall
    have hu : userOf x r = [r.f0] := by simp [userOf, hx]
    rw [hu]
    clear hC hb hB0 hx hd hu
    go_enter Try.func82, Try.ntmps82
    go_wp2_with (go_at_call 83; refine hcall.mono ?_; rintro e w1 ⟨rfl, hb1⟩; have d0 := cell_of_row _ W.heap.size 0 _ _ _ ((hb1.block W.heap.size (by simp)).trans (heap_alloc_new W _)); have d1 := cell_of_row _ W.heap.size 1 _ _ _ ((hb1.block W.heap.size (by simp)).trans (heap_alloc_new W _)))
    go_ret
    have hB1 := HB0.out.trans (hb1.mono HB0.out.size)
    exact ⟨_, _, rfl, one_C w1 r.f0, hB1.alloc hB1.size _⟩
  · have hd : decide (x ∈ r.f2) = false := by simp [hx]
    rw [hd] at hcall
    have hu : userOf x r = [] := by simp [userOf, hx]
    rw [hu]
    clear hC hb hB0 hx hd hu
    go_enter Try.func82, Try.ntmps82
    go_wp2_with (go_at_call 83; refine hcall.mono ?_; rintro e w1 ⟨rfl, hb1⟩)
    go_ret
    exact ⟨_, _, rfl, (ownIds_nil w1 0).C (by simp), HB0.out.trans (hb1.mono HB0.out.size)⟩
theorem users_calls {w : World} {g mb : Nat} {rs : List Rec} (h : GraphAt w g mb rs) (x : Id) (hl : rs.length ≤ 1048576) :
    Calls Try.prog 64 #[.pointer (some ⟨g, 0, none⟩), .agg #[.int .i64 x.f0, .int .i64 x.f1]] w fun e w' => ∃ A c, e = .returned (.slice A (gath rs (userOf x)).length c) ∧ OwnIds w' w.heap.size A c (gath rs (userOf x)) ∧ Below w.heap.size w w' := by
  have hB : Below w.heap.size w (w.alloc (.cells #[.int .i64 x.f0, .int .i64 x.f1] 37)) := (Below.refl _ _).alloc (Nat.le_refl _) _
  have hg := h.below hB (Nat.le_refl _)
  have hcall := gathered_calls hg 82 #[.pointer (some ⟨w.heap.size, 0, none⟩)] (userOf x) (enters_of Try.func82 (by kernel_rfl) rfl) 1
    (fun r hr => by unfold userOf; split <;> simp) (by omega)
    (fun r hr W v hb hv => users1_calls r v W hv w.heap.size x ((idBox_new w x).below hb (Nat.le_refl _)))
  have hmf : ∀ (fn : Fn) (first cap : Array Value) (w : World), (Instr.makeFunc fn first cap).run Try.prog w = .ok (.func fn first cap) w := fun _ _ _ _ => rfl
  have HB := Aside0.mk hB
  clear h hg hB
  go_enter Try.func64, Try.ntmps64
  go_wp2_with (go_at_call 65; refine hcall.mono ?_; rintro e w1 ⟨A, c, rfl, hC, hb⟩)
  go_ret
  exact ⟨_, _, rfl, hC.base (fun q hq => Nat.le_trans HB.out.size (hC.lt q hq).1), HB.out.trans (hb.mono HB.out.size)⟩
end Go.Proofs.Ytjffghebcaklaaa
