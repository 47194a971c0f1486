/- ident.Check, ident.Text, and the reference's answers for one id. -/
import Derived.Test.YtjffghebcaklaaaDoorPIdx
import Derived.Test.YtjffghebcaklaaaDoorShelf
import Derived.Lib.LaidTab
import Derived.Lib.AppendIntMem
namespace Go.Proofs.YtjffghebcaklaaaDoor
open Go Go.RowKit Go.Proofs.YtjffghebcaklaaaDoorW.PrintWords Go.Proofs.YtjffghebcaklaaaDoorW.PrintLast Go.Proofs.YtjffghebcaklaaaDoorW.PrintMore
set_option linter.unusedVariables false
set_option linter.unusedSimpArgs false
theorem cell_kept {w w' : World} (hb : Below w.heap.size w w') {a : Addr} {v : Value} (hc : w.cell? a = some v) : w'.cell? a = some v := (hb.cell (World.block_lt_of_cell? w a hc)).trans hc
theorem tab_kept {P : Program} {n : String} {g : Nat} {k : IntKind} {zs : List Int} {w w' : World} (hg : P.globalNamed n = some g) (h : Lib.TabIs P w n k zs) (hb : Below w.heap.size w w') : Lib.TabIs P w' n k zs := by
  unfold Lib.TabIs World.var? at h ⊢
  rw [hg] at h ⊢
  simp only [Option.bind_some] at h ⊢
  have hlt : g < w.heap.size := by
    rcases Nat.lt_or_ge g w.heap.size with h' | h'
    · exact h'
    · rw [Array.getElem?_eq_none h'] at h; cases h
  rw [hb.block g hlt]
  exact h
/-- What the laid variables give. -/
structure St (w : World) : Prop where
  tab : Lib.TabIs Tryd.prog w "internal/strconv.uint64pow10" .u64 Lib.pow10Tab
  max : ∃ m, w.cell? ⟨1, 0, none⟩ = some (.int .i64 m)
  syn : ∃ t p, w.cell? ⟨2, 0, none⟩ = some (.iface t p)
  rng : ∃ t p, w.cell? ⟨3, 0, none⟩ = some (.iface t p)
theorem St.below {w w' : World} (h : St w) {B : Nat} (hb : Below B w w') (hB : w.heap.size ≤ B) : St w' := by
  have hb : Below w.heap.size w w' := ⟨hb.os, hb.tape, hb.output, by have := hb.size; omega, fun i hi => hb.block i (by omega)⟩
  obtain ⟨m, hm⟩ := h.max
  obtain ⟨t, p, hs⟩ := h.syn
  obtain ⟨t', p', hr⟩ := h.rng
  exact ⟨tab_kept (g := 4) (by kernel_rfl) h.tab hb, ⟨m, cell_kept hb hm⟩, ⟨t, p, cell_kept hb hs⟩, ⟨t', p', cell_kept hb hr⟩⟩
/-- What is wrong with an id. -/
def idErrN (r n : Int) : Int := if r < 0 ∨ 7 < r then 7 else if n < 1 ∨ 1048576 < n then 8 else 0
theorem check_calls (r n : Int) (w : World) :
    Calls Tryd.prog 9 #[.agg #[.int .i64 r, .int .i64 n]] w fun e w' => e = .returned (.int .i64 (idErrN r n)) ∧ Below w.heap.size w w' := by
  refine (PId.ident_Check.calls 1 r n (idErrN r n) w ?_).mono fun e w' h => h
  unfold PId.ident_Check.f idErrN
  simp only [PId.ident_Check.j0]
  by_cases h1 : r < 0
  · simp [h1]
  · by_cases h2 : 8 ≤ r
    · have h3 : 7 < r := by omega
      simp [h1, h2, h3]
    · have h3 : ¬ 7 < r := by omega
      by_cases h4 : n < 1
      · simp [h1, h2, h3, h4]
      · by_cases h5 : n > 1048576
        · simp [h1, h2, h3, h4, h5]
        · have h6 : ¬ 1048576 < n := by omega
          simp [h1, h2, h3, h4, h6]
/-- The text of an id. -/
def textL (r n : Int) : List UInt8 := Lib.itoa r ++ 46 :: Lib.itoa n
def textS (r n : Int) : ByteArray := if idErrN r n = 0 then ⟨(textL r n).toArray⟩ else ⟨#[]⟩
theorem itoa_calls (m : Int) (h0 : -9223372036854775808 ≤ m) (h1 : m ≤ 9223372036854775807) (w : World) (S : St w) :
    Calls Tryd.prog 36 #[.int .i64 m] w fun e w' => e = .returned (.string ⟨(Lib.itoa m).toArray⟩) ∧ Below w.heap.size w w' :=
  (Tryd.strconv_Itoa m h0 h1 w S.tab).mono fun e w' ⟨he, k, os, hw⟩ => ⟨he, by rw [hw]; exact Lib.below_grow _ w (Nat.le_refl _) k os⟩
theorem itoa_small (m : Int) (h0 : 0 ≤ m) (h1 : m < 100) (w : World) :
    Calls Tryd.prog 36 #[.int .i64 m] w fun e w' => e = .returned (.string ⟨(Lib.itoa m).toArray⟩) ∧ w' = w := by
  have := Tryd.strconv_Itoa_small m.toNat (by omega) w
  rw [Int.toNat_of_nonneg h0] at this
  unfold Lib.itoa
  rw [if_neg (by omega)]
  exact this
set_option maxRecDepth 100000 in
set_option maxHeartbeats 800000 in
theorem text_calls (r n : Int) (w : World) (S : St w) :
    Calls Tryd.prog 12 #[.agg #[.int .i64 r, .int .i64 n]] w fun e w' => e = .returned (.string (textS r n)) ∧ Below w.heap.size w w' := by
  by_cases h : idErrN r n = 0
  · have hr : 0 ≤ r ∧ r ≤ 7 ∧ 1 ≤ n ∧ n ≤ 1048576 := by
      unfold idErrN at h
      split at h
      · cases h
      · split at h
        · cases h
        · omega
    have l1 := Lib.itoa_length_le r (by omega) (by omega)
    have l2 := Lib.itoa_length_le n (by omega) (by omega)
    go_enter Tryd.func12, Tryd.ntmps12
    go_wp2_with (first
      | (go_at_call 9; refine (check_calls r n _).mono ?_; rintro e w' ⟨rfl, hb⟩))
    have hB1 : Below w.heap.size w w' := (below_alloc (Below.refl _ _) _).trans (hb.mono (by simp))
    have c0 : w'.cell? ⟨w.heap.size, 0, none⟩ = some (.int .i64 r) := (hb.cell (by simp)).trans (cell_of_row _ _ 0 _ _ _ (heap_alloc_new w _))
    have c1 : w'.cell? ⟨w.heap.size, 1, none⟩ = some (.int .i64 n) := (hb.cell (by simp)).trans (cell_of_row _ _ 1 _ _ _ (heap_alloc_new w _))
    have hlt : w.heap.size < w'.heap.size := by have := hb.size; simp at this; omega
    have S1 := Aside0.mk (fun k => S.below (pw_below_drewN hB1 k) (Nat.le_refl _))
    have hB2 := Aside0.mk hB1
    clear hb hB1 S
    have hsz : ¬ 9223372036854775807 < (Lib.itoa r).length + 1 := by omega
    have hsz2 : ¬ 9223372036854775807 < (Lib.itoa r).length + 1 + (Lib.itoa n).length := by omega
    go_region_with (first
      | (go_at_call_of 36 (Value.int .i64 r); refine (itoa_small r (by omega) (by omega) _).mono ?_; rintro e w' ⟨rfl, rfl⟩)
      | (go_at_call_of 36 (Value.int .i64 n); refine (itoa_calls n (by omega) (by omega) _ (S1.out _)).mono ?_; rintro e w2 ⟨rfl, hb⟩))
    all_goals
      go_wp2_with fail
      go_ret
      refine ⟨?_, ?_⟩
      · rw [textS, if_pos h, textL, List.append_cons, ← bytes_append, ← bytes_append]
        rfl
      · repeat (first | exact below_step (by repeat (first | exact hB2.out | apply pw_below_drewN | apply below_drew1)) hb | apply pw_below_drewN | apply below_drew1)
  · have h1 : (idErrN r n == 0) = false := by simpa using h
    go_enter Tryd.func12, Tryd.ntmps12
    go_wp2_with (first
      | (go_at_call 9; refine (check_calls r n _).mono ?_; rintro e w' ⟨rfl, hb⟩))
    go_ret
    refine ⟨by rw [textS, if_neg h]; rfl, (below_alloc (Below.refl _ _) _).trans (hb.mono (by simp))⟩
end Go.Proofs.YtjffghebcaklaaaDoor
