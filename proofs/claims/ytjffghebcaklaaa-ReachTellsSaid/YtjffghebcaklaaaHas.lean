/- ident.Has: slices.ContainsFunc over a closure. -/
import Derived.Test.YtjffghebcaklaaaMapR
namespace Go.Proofs.Ytjffghebcaklaaa
open Go Go.RowKit Go.Lib Go.Sort Go.Proofs.YtjffghebcaklaaaW.PrintWords Go.Proofs.YtjffghebcaklaaaW.PrintLast Go.Proofs.YtjffghebcaklaaaW.PrintMore
set_option linter.unusedVariables false
set_option linter.unusedSimpArgs false
/-- A row of cells of an id in block b. -/
def IdBox (w : World) (b : Nat) (x : Id) : Prop := w.heap[b]? = some (.cells #[.int .i64 x.f0, .int .i64 x.f1] 37 (0, 0))
theorem IdBox.c0 {w : World} {b : Nat} {x : Id} (h : IdBox w b x) : w.cell? ⟨b, 0, none⟩ = some (.int .i64 x.f0) := cell_of_row w b 0 _ _ _ h
theorem IdBox.c1 {w : World} {b : Nat} {x : Id} (h : IdBox w b x) : w.cell? ⟨b, 1, none⟩ = some (.int .i64 x.f1) := cell_of_row w b 1 _ _ _ h
theorem IdBox.lt {w : World} {b : Nat} {x : Id} (h : IdBox w b x) : b < w.heap.size := (Array.getElem?_eq_some_iff.1 h).1
theorem IdBox.below {w w' : World} {b n : Nat} {x : Id} (h : IdBox w b x) (hb : Below n w w') (hn : w.heap.size ≤ n) : IdBox w' b x := (hb.block b (Nat.lt_of_lt_of_le h.lt hn)).trans h
theorem idBox_new (w : World) (x : Id) : IdBox (w.alloc (.cells #[.int .i64 x.f0, .int .i64 x.f1] 37)) w.heap.size x := heap_alloc_new w _
theorem has1_calls (x y : Id) (b : Nat) (w : World) (h : IdBox w b y) :
    Calls Try.prog 96 #[.agg #[.int .i64 x.f0, .int .i64 x.f1], .pointer (some ⟨b, 0, none⟩)] w fun e w' => e = .returned (.bool (decide (x = y))) ∧ Below w.heap.size w w' := by
  have hB : Below w.heap.size w (w.alloc (.cells #[.int .i64 x.f0, .int .i64 x.f1] 37)) := (Below.refl _ _).alloc (Nat.le_refl _) _
  have c0 := (h.below hB (Nat.le_refl _)).c0
  have c1 := (h.below hB (Nat.le_refl _)).c1
  have HB := Aside0.mk hB
  clear hB h
  obtain ⟨a, d⟩ := x
  obtain ⟨a', d'⟩ := y
  simp only at c0 c1 HB ⊢
  by_cases h0 : a = a'
  · subst h0
    by_cases h1 : d = d'
    · subst h1
      go_enter Try.func96, Try.ntmps96
      go_wp2
      go_ret
      exact ⟨by simp, HB.out⟩
    · go_enter Try.func96, Try.ntmps96
      go_wp2
      go_ret
      exact ⟨by simp [h1], HB.out⟩
  · go_enter Try.func96, Try.ntmps96
    go_wp2
    go_ret
    exact ⟨by simp [h0], HB.out⟩
set_option maxRecDepth 100000 in
set_option maxHeartbeats 800000 in
theorem indexFunc_calls (xs : List Id) (y : Id) (A : Option Addr) (c b : Nat) (w : World) (hC : Kd.C kId w A xs.length xs) (h : IdBox w b y) :
    Calls Try.prog 114 #[.slice A xs.length c, .func (.func 96) #[] #[.pointer (some ⟨b, 0, none⟩)]] w fun e w' => ∃ j : Int, e = .returned (.int .i64 j) ∧ decide (0 ≤ j) = decide (y ∈ xs) ∧ Below w.heap.size w w' := by
  have hl := hC.2.1
  go_enter Try.func114, Try.ntmps114
  go_wp2
  have HC := Aside0.mk hC
  have HX := Aside0.mk h
  clear hC h
  go_loopw [8] (fun i wr => ∃ k : Nat, k ≤ xs.length ∧ i = .int .i64 k ∧ Aside0 (y ∉ xs.take k) ∧ Aside0 (Below w.heap.size w wr)) (fun i _ => xs.length - (intOf i).toNat)
  case atStart => exact ⟨0, Nat.zero_le _, rfl, ⟨by simp⟩, ⟨Below.refl _ _⟩⟩
  case round =>
    obtain ⟨k, hk, rfl, hY, hB⟩ := hrel
    by_cases hlt : k < xs.length
    · obtain ⟨ad, rfl, x0, x1⟩ := PRef.at_T37 (cel_id.C (CKeep.below hB.out) HC.out) (k : Int) (by omega) (by omega)
      have HT := Aside0.mk (take_succ_rd xs k hlt)
      have hM := Aside0.mk (show PRef.rd_T37 xs k ∈ xs by
        have e : PRef.rd_T37 xs k = xs[k] := by simp [PRef.rd_T37, List.getD_eq_getElem?_getD, List.getElem?_eq_getElem hlt]
        rw [e]; exact List.getElem_mem hlt)
      generalize PRef.rd_T37 xs (k : Int) = x at x0 x1 HT hM
      simp only [Int.toNat_natCast] at x0 x1
      have hcall := has1_calls x y b wr (HX.out.below hB.out (Nat.le_refl _))
      by_cases hxy : x = y
      · have hd : decide (x = y) = true := by simp [hxy]
        rw [hd] at hcall
        have HXY := Aside0.mk hxy
        clear hxy hd
        go_wp2_with (go_at_call 96; refine hcall.mono ?_; rintro e w1 ⟨rfl, hb1⟩)
        go_ret
        refine ⟨_, rfl, ?_, hB.out.trans (hb1.mono hB.out.size)⟩
        have : y ∈ xs := HXY.out ▸ hM.out
        simp [this]
      · have hd : decide (x = y) = false := by simp [hxy]
        rw [hd] at hcall
        have HXY := Aside0.mk hxy
        clear hxy hd
        go_wp2_with (go_at_call 96; refine hcall.mono ?_; rintro e w1 ⟨rfl, hb1⟩)
        go_roundw
        case rel => exact ⟨k + 1, by omega, by go_num, ⟨by rw [HT.out]; intro hm; rcases List.mem_append.1 hm with hm | hm; exact hY.out hm; exact HXY.out (List.mem_singleton.1 hm).symm⟩, ⟨hB.out.trans (hb1.mono hB.out.size)⟩⟩
        case measure => simp [intOf]; omega
    · go_wp2
      go_ret
      obtain rfl : k = xs.length := by omega
      refine ⟨_, rfl, ?_, hB.out⟩
      have hY := hY.out
      rw [List.take_length] at hY
      simp [hY]
theorem contains_calls (xs : List Id) (y : Id) (A : Option Addr) (c b : Nat) (w : World) (hC : Kd.C kId w A xs.length xs) (h : IdBox w b y) :
    Calls Try.prog 95 #[.slice A xs.length c, .func (.func 96) #[] #[.pointer (some ⟨b, 0, none⟩)]] w fun e w' => e = .returned (.bool (decide (y ∈ xs))) ∧ Below w.heap.size w w' := by
  have hcall := indexFunc_calls xs y A c b w hC h
  obtain ⟨q, hq⟩ : ∃ q : Bool, decide (y ∈ xs) = q := ⟨_, rfl⟩
  rw [hq] at hcall ⊢
  clear hq hC h
  go_enter Try.func95, Try.ntmps95
  go_wp2_with (go_at_call 114; refine hcall.mono ?_; rintro e w1 ⟨j, rfl, hj, hb1⟩)
  go_ret
  exact ⟨by rw [← hj]; rfl, hb1⟩
theorem has_calls (xs : List Id) (y : Id) (A : Option Addr) (c : Nat) (w : World) (hC : Kd.C kId w A xs.length xs) :
    Calls Try.prog 83 #[.slice A xs.length c, .agg #[.int .i64 y.f0, .int .i64 y.f1]] w fun e w' => e = .returned (.bool (decide (y ∈ xs))) ∧ Below w.heap.size w w' := by
  have hB : Below w.heap.size w (w.alloc (.cells #[.int .i64 y.f0, .int .i64 y.f1] 37)) := (Below.refl _ _).alloc (Nat.le_refl _) _
  have hcall := contains_calls xs y A c w.heap.size _ (cel_id.C (CKeep.below hB) hC) (idBox_new w y)
  obtain ⟨q, hq⟩ : ∃ q : Bool, decide (y ∈ xs) = q := ⟨_, rfl⟩
  rw [hq] at hcall ⊢
  have hmf : ∀ (fn : Fn) (first cap : Array Value) (w : World), (Instr.makeFunc fn first cap).run Try.prog w = .ok (.func fn first cap) w := fun _ _ _ _ => rfl
  have HB := Aside0.mk hB
  clear hq hC hB
  go_enter Try.func83, Try.ntmps83
  go_wp2_with (go_at_call 95; refine hcall.mono ?_; rintro e w1 ⟨rfl, hb1⟩)
  go_ret
  exact ⟨rfl, HB.out.trans (hb1.mono HB.out.size)⟩
end Go.Proofs.Ytjffghebcaklaaa
