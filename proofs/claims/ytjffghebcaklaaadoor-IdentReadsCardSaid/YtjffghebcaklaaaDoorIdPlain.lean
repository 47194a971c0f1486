/- Plain: ids' texts, read. No walk. -/
import Derived.Test.YtjffghebcaklaaaDoorIdRead
namespace Go.Proofs.YtjffghebcaklaaaDoor
open Go Go.RowKit Go.Proofs.YtjffghebcaklaaaDoorW.PrintWords Go.Proofs.YtjffghebcaklaaaDoorW.PrintLast Go.Proofs.YtjffghebcaklaaaDoorW.PrintMore
set_option linter.unusedVariables false
set_option linter.unusedSimpArgs false
theorem digit_byte (d : Nat) (h : d < 10) : (UInt8.ofNat (48 + d)).toNat = 48 + d := by
  simp [UInt8.toNat_ofNat']; omega
theorem dec_digits (u : Nat) : ∀ c ∈ Lib.decDigits u, 48 ≤ c.toNat ∧ c.toNat ≤ 57 := by
  induction u using Nat.strongRecOn with
  | _ u ih =>
    intro c hc
    by_cases h : u < 10
    · rw [Lib.decDigits_one h] at hc
      simp only [List.mem_singleton] at hc
      rw [hc, digit_byte u h]; omega
    · rw [dec_last u h] at hc
      simp only [List.mem_append, List.mem_singleton] at hc
      rcases hc with hc | hc
      · exact ih (u / 10) (by omega) c hc
      · rw [hc, digit_byte _ (Nat.mod_lt _ (by omega))]
        have := Nat.mod_lt u (show 0 < 10 by omega)
        omega
theorem dec_ne (u : Nat) : Lib.decDigits u ≠ [] := by
  by_cases h : u < 10
  · rw [Lib.decDigits_one h]; simp
  · rw [dec_last u h]; simp
theorem parse_append : ∀ (l l' : List UInt8) (acc v : Nat), Lib.parseUint10 acc l = .ok v → Lib.parseUint10 acc (l ++ l') = Lib.parseUint10 v l'
  | [], l', acc, v, h => by
    simp only [Lib.parseUint10] at h
    cases h
    rfl
  | c :: r, l', acc, v, h => by
    simp only [Lib.parseUint10, List.cons_append] at h ⊢
    split at h
    · rename_i h1
      rw [if_pos h1]
      split at h
      · cases h
      · rename_i h2
        rw [if_neg h2]
        split at h
        · cases h
        · rename_i h3
          rw [if_neg h3]
          exact parse_append r l' _ v h
    · cases h
theorem parse_dec (u : Nat) (hu : u < 1844674407370955162) : Lib.parseUint10 0 (Lib.decDigits u) = .ok u := by
  induction u using Nat.strongRecOn with
  | _ u ih =>
    by_cases h : u < 10
    · rw [Lib.decDigits_one h]
      simp only [Lib.parseUint10, digit_byte u h]
      rw [if_pos (by omega), if_neg (by omega), if_neg (by omega)]
      congr 1; omega
    · rw [dec_last u h, parse_append _ _ _ _ (ih (u / 10) (by omega) (by omega))]
      have hm := Nat.mod_lt u (show 0 < 10 by omega)
      simp only [Lib.parseUint10, digit_byte _ hm]
      rw [if_pos (by omega), if_neg (by omega), if_neg (by omega)]
      congr 1; omega
theorem atoi_dec (u : Nat) (hu : u < 1844674407370955162) : Lib.atoiAll (Lib.decDigits u) = .ok (u : Int) := by
  have hp := parse_dec u hu
  cases hl : Lib.decDigits u with
  | nil => exact absurd hl (dec_ne u)
  | cons c r =>
    rw [hl] at hp
    have hc := dec_digits u c (by rw [hl]; simp)
    have e1 : ¬ c.toNat = 45 := by omega
    have e2 : ¬ (c.toNat = 43 ∨ c.toNat = 45) := by omega
    simp only [Lib.atoiAll, if_neg e2, Lib.parseMag, hp]
    simp [e1]
    omega
theorem index_dot : ∀ (l l' : List UInt8), (∀ c ∈ l, c ≠ 46) → Lib.index (l ++ 46 :: l') [46] = l.length
  | [], l', h => by simp [Lib.index, List.isPrefixOf]
  | c :: r, l', h => by
    have hc : ¬ (46 : UInt8) = c := fun e => h c (by simp) e.symm
    have ih := index_dot r l' (fun x hx => h x (by simp [hx]))
    simp only [List.cons_append, Lib.index, ih]
    simp [List.isPrefixOf, hc]
theorem not_dot (u : Nat) : ∀ c ∈ Lib.decDigits u, c ≠ 46 := by
  rintro c hc rfl
  have := dec_digits u 46 hc
  simp at this
/-- Which ids may be. -/
theorem idErr_ok {r n : Int} : idErrN r n = 0 ↔ 0 ≤ r ∧ r ≤ 7 ∧ 1 ≤ n ∧ n ≤ 1048576 := by
  unfold idErrN
  constructor
  · intro h
    split at h
    · cases h
    · split at h
      · cases h
      · omega
  · intro h
    rw [if_neg (by omega), if_neg (by omega)]
theorem textL_dec {r n : Int} (h : idErrN r n = 0) : textL r n = Lib.decDigits r.toNat ++ 46 :: Lib.decDigits n.toNat := by
  obtain ⟨h1, h2, h3, h4⟩ := idErr_ok.1 h
  unfold textL Lib.itoa
  rw [if_neg (by omega), if_neg (by omega)]
theorem textS_list {r n : Int} (h : idErrN r n = 0) : (textS r n).data.toList = Lib.decDigits r.toNat ++ 46 :: Lib.decDigits n.toNat := by
  rw [textS, if_pos h, ← textL_dec h]
theorem textS_none {r n : Int} (h : ¬ idErrN r n = 0) : textS r n = ⟨#[]⟩ := by rw [textS, if_neg h]
theorem cut_text {r n : Int} (h : idErrN r n = 0) : cutA (textS r n) = Lib.decDigits r.toNat ∧ cutB (textS r n) = Lib.decDigits n.toNat := by
  have hi := index_dot (Lib.decDigits r.toNat) (Lib.decDigits n.toNat) (not_dot _)
  unfold cutA cutB Lib.cut
  rw [textS_list h, hi, if_pos (by omega)]
  simp
theorem read_text {r n : Int} (h : idErrN r n = 0) : atoiOk (cutA (textS r n)) = true ∧ atoiOk (cutB (textS r n)) = true ∧ atoiV (cutA (textS r n)) = r ∧ atoiV (cutB (textS r n)) = n := by
  obtain ⟨h1, h2⟩ := cut_text h
  obtain ⟨g1, g2, g3, g4⟩ := idErr_ok.1 h
  have a1 := atoi_dec r.toNat (by omega)
  have a2 := atoi_dec n.toNat (by omega)
  rw [h1, h2]
  refine ⟨by rw [atoiOk, a1], by rw [atoiOk, a2], ?_, ?_⟩
  · rw [atoiV, a1]; show ((r.toNat : Nat) : Int) = r; omega
  · rw [atoiV, a2]; show ((n.toNat : Nat) : Int) = n; omega
theorem text_size {r n : Int} : (textS r n).size ≤ 100 := by
  by_cases h : idErrN r n = 0
  · obtain ⟨g1, g2, g3, g4⟩ := idErr_ok.1 h
    have e : (textS r n).size = (textS r n).data.toList.length := (data_length _).symm
    rw [e, textS_list h]
    simp only [List.length_append, List.length_cons, Lib.decDigits_length]
    have := Lib.nDigits_le20 r.toNat (by omega)
    have := Lib.nDigits_le20 n.toNat (by omega)
    omega
  · rw [textS_none h]; decide
theorem mk_size (l : List UInt8) : (⟨l.toArray⟩ : ByteArray).size = l.length := by simp [ByteArray.size]
/-- Is the text some id's? -/
def IsId (s : ByteArray) (r n : Int) : Prop := idErrN r n = 0 ∧ textS r n = s
theorem text_ne {r n : Int} (h : idErrN r n = 0) : (textS r n).data.toList ≠ [] := by rw [textS_list h]; simp
theorem read_is {s : ByteArray} {r n : Int} (h : IsId s r n) (w : World) (S : St w) :
    Calls Tryd.prog 14 #[.string s] w fun e w' => e = .returned (.tuple #[.agg #[.int .i64 r, .int .i64 n], .int .i64 0]) ∧ Below w.heap.size w w' := by
  obtain ⟨h, rfl⟩ := h
  obtain ⟨h1, h2, h3, h4⟩ := read_text h
  have hs := @text_size r n
  have := read_core (textS r n) ⟨(cutA (textS r n)).toArray⟩ ⟨(cutB (textS r n)).toArray⟩ (textS r n) (Lib.cut (textS r n).data.toList [46]).2.2 true true r n w (fun W hW => S.below hW (Nat.le_refl _))
    (fun W SW => cut_calls _ _ (by omega) W SW)
    (fun W SW => by have := atoi_calls ⟨(cutA (textS r n)).toArray⟩ (by have := (cut_size (textS r n)).1; rw [mk_size]; omega) W SW; simp only [h1, h3] at this; exact this)
    (fun W SW => by have := atoi_calls ⟨(cutB (textS r n)).toArray⟩ (by have := (cut_size (textS r n)).2; rw [mk_size]; omega) W SW; simp only [h2, h4] at this; exact this)
    (fun W SW => text_calls r n W SW)
  have hne := text_ne h
  have hb : (!true || !true || (textS r n).toList.isEmpty || !((textS r n).toList == (textS r n).toList)) = false := by
    rw [ByteArray.toList_eq]
    cases hl : (textS r n).data.toList with
    | nil => exact absurd hl hne
    | cons a l => simp
  rw [hb] at this
  exact this
theorem read_not {s : ByteArray} (hs : s.size ≤ 1048576) (h : ∀ r n, ¬ IsId s r n) (w : World) (S : St w) :
    Calls Tryd.prog 14 #[.string s] w fun e w' => e = .returned (.tuple #[.agg #[.int .i64 0, .int .i64 0], .int .i64 3]) ∧ Below w.heap.size w w' := by
  have := read_core s ⟨(cutA s).toArray⟩ ⟨(cutB s).toArray⟩ (textS (atoiV (cutA s)) (atoiV (cutB s))) (Lib.cut s.data.toList [46]).2.2 (atoiOk (cutA s)) (atoiOk (cutB s)) (atoiV (cutA s)) (atoiV (cutB s)) w (fun W hW => S.below hW (Nat.le_refl _))
    (fun W SW => cut_calls _ _ (by omega) W SW)
    (fun W SW => atoi_calls ⟨(cutA s).toArray⟩ (by have := (cut_size s).1; rw [mk_size]; omega) W SW)
    (fun W SW => atoi_calls ⟨(cutB s).toArray⟩ (by have := (cut_size s).2; rw [mk_size]; omega) W SW)
    (fun W SW => text_calls _ _ W SW)
  have hb : (!atoiOk (cutA s) || !atoiOk (cutB s) || s.toList.isEmpty || !((textS (atoiV (cutA s)) (atoiV (cutB s))).toList == s.toList)) = true := by
    rw [Bool.eq_iff_iff]
    simp only [Bool.or_eq_true, Bool.not_eq_true', beq_eq_false_iff_ne, ByteArray.toList_eq, iff_true]
    by_cases hid : idErrN (atoiV (cutA s)) (atoiV (cutB s)) = 0
    · right
      intro e
      exact h _ _ ⟨hid, ByteArray.ext (Array.toList_inj.1 e)⟩
    · rw [textS_none hid]
      by_cases hn : s.data.toList = []
      · left; right; rw [hn]; rfl
      · right; exact fun e => hn e.symm
  rw [hb] at this
  exact this
end Go.Proofs.YtjffghebcaklaaaDoor
