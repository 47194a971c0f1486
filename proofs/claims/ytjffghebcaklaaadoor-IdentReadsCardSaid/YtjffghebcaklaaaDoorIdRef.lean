/- Plain: cortegeref03's Text and Read. No walk. -/
import Derived.Test.YtjffghebcaklaaaDoorIdPlain
namespace Go.Proofs.YtjffghebcaklaaaDoor
open Go Go.RowKit Go.Proofs.YtjffghebcaklaaaDoorW.PrintWords Go.Proofs.YtjffghebcaklaaaDoorW.PrintLast Go.Proofs.YtjffghebcaklaaaDoorW.PrintMore
set_option linter.unusedVariables false
set_option linter.unusedSimpArgs false
theorem w64 (n : Int) (h : -9223372036854775808 ≤ n ∧ n ≤ 9223372036854775807) : wrap64 n = n := by unfold wrap64; omega
theorem reftext_f {r n : Int} (h : idErrN r n = 0) : PId.cortegeref03_Text.f r n = some (textS r n) := by
  obtain ⟨g1, g2, g3, g4⟩ := idErr_ok.1 h
  have l1 := Lib.nDigits_le20 r.toNat (by omega)
  have l2 := Lib.nDigits_le20 n.toNat (by omega)
  have e : textS r n = (⟨(Lib.decDigits r.toNat).toArray⟩ ++ ⟨[46].toArray⟩) ++ ⟨(Lib.decDigits n.toNat).toArray⟩ := by
    rw [textS, if_pos h, textL_dec h, bytes_append, bytes_append]; simp
  unfold PId.cortegeref03_Text.f PId.cortegeref02_Digits.f
  rw [if_pos (by omega), Option.bind_some, if_pos (by rw [mk_size, Lib.decDigits_length]; omega), if_pos (by omega), Option.bind_some]
  have hs : (((⟨(Lib.decDigits r.toNat).toArray⟩ : ByteArray) ++ (⟨#[46]⟩ : ByteArray)).size + (⟨(Lib.decDigits n.toNat).toArray⟩ : ByteArray).size) ≤ 9223372036854775807 := by
    rw [show (⟨#[46]⟩ : ByteArray) = ⟨[46].toArray⟩ from rfl, bytes_append, mk_size, mk_size, List.length_append, Lib.decDigits_length, Lib.decDigits_length]
    simp; omega
  rw [if_pos hs, e]
theorem right_f (r n : Int) : PId.cortegeref03_Right.f r n = some (decide (idErrN r n = 0)) := by
  unfold PId.cortegeref03_Right.f
  by_cases h : idErrN r n = 0
  · obtain ⟨g1, g2, g3, g4⟩ := idErr_ok.1 h
    rw [if_pos g1, if_pos (by omega), if_pos g3]
    simp [h, g4]
  · have hn : ¬ (0 ≤ r ∧ r ≤ 7 ∧ 1 ≤ n ∧ n ≤ 1048576) := fun e => h (idErr_ok.2 e)
    simp only [h, decide_false]
    split
    · split
      · split
        · have : ¬ n ≤ 1048576 := by omega
          simp [this]
        · rfl
      · rfl
    · rfl
theorem bt_at (s : ByteArray) (i : Int) (h0 : 0 ≤ i) (h1 : i < s.size) : ∃ c, s.data.toList[i.toNat]? = some c ∧ bt s i = c.toNat := by
  have h : i.toNat < s.size := by omega
  refine ⟨s.data[i.toNat]'h, ?_, ?_⟩
  · rw [Array.getElem?_toList]; exact Array.getElem?_eq_getElem h
  · unfold bt; rw [dif_pos h]; rfl
theorem j0_step (k : Nat) (s : ByteArray) (b : Bool) : PId.cortegeref03_Read.j0 (k + 1) s b = if b = true then (some (0, 0, false)) else (if 0 < (s.size : Int) then (PId.cortegeref03_Read.l0 k s 2 (((bt s 0) - 48) % 256) 0) else (none)) := by
  rw [PId.cortegeref03_Read.j0]
theorem l0_step (k : Nat) (s : ByteArray) (x5 r acc : Int) : PId.cortegeref03_Read.l0 (k + 1) s x5 r acc =
    if x5 < (s.size : Int) then (if 0 ≤ x5 then (if (bt s x5) < 48 then (some (0, 0, false)) else (if (bt s x5) > 57 then (some (0, 0, false)) else (PId.cortegeref03_Read.l0 k s (wrap64 (x5 + 1)) r (wrap64 ((wrap64 (10 * acc)) + (((bt s x5) - 48) % 256)))))) else (none)) else ((PId.cortegeref03_Right.f r acc).bind fun t121 => (if t121 = true then ((PId.cortegeref03_Text.f r acc).bind fun t122 => (if t122.toList = s.toList then (some (r, acc, true)) else (some (0, 0, false)))) else (some (0, 0, false)))) := by
  rw [PId.cortegeref03_Read.l0]
theorem loop_any (s : ByteArray) (hs : s.size ≤ 1048576) : ∀ (m k : Nat) (x5 r acc : Int), (s.size : Int) - x5 ≤ m → m + 1 ≤ k → 0 ≤ x5 →
    PId.cortegeref03_Read.l0 k s x5 r acc = some (0, 0, false) ∨ ∃ r' n', PId.cortegeref03_Read.l0 k s x5 r acc = some (r', n', true) ∧ IsId s r' n' := by
  intro m
  induction m with
  | zero =>
    intro k x5 r acc h1 h2 h3
    obtain ⟨k, rfl⟩ : ∃ q, k = q + 1 := ⟨k - 1, by omega⟩
    rw [l0_step, if_neg (by omega), right_f, Option.bind_some]
    by_cases h : idErrN r acc = 0
    · rw [if_pos (by simpa using h), reftext_f h, Option.bind_some]
      split
      · rename_i e
        exact Or.inr ⟨r, acc, rfl, h, ByteArray.ext (Array.toList_inj.1 (by rwa [ByteArray.toList_eq, ByteArray.toList_eq] at e))⟩
      · exact Or.inl rfl
    · rw [if_neg (by simpa using h)]
      exact Or.inl rfl
  | succ m ih =>
    intro k x5 r acc h1 h2 h3
    obtain ⟨k, rfl⟩ : ∃ q, k = q + 1 := ⟨k - 1, by omega⟩
    by_cases hlt : x5 < s.size
    · rw [l0_step, if_pos hlt, if_pos h3]
      split
      · exact Or.inl rfl
      · split
        · exact Or.inl rfl
        · refine ih k _ r _ ?_ (by omega) ?_ <;> (rw [w64 _ (by omega)]; omega)
    · have := ih (k + 1) x5 r acc (by omega) (by omega) h3
      exact this
theorem decFrom_ge : ∀ (l : List UInt8) (acc N : Nat), Lib.decFrom acc l = some N → acc ≤ N
  | [], acc, N, h => by simp only [Lib.decFrom, Option.some.injEq] at h; omega
  | c :: r, acc, N, h => by
    simp only [Lib.decFrom] at h
    split at h
    · have := decFrom_ge r _ N h; omega
    · cases h
theorem loop_is (s : ByteArray) (hs : s.size ≤ 1048576) (r : Int) (N : Nat) (hN : N ≤ 1048576) (hid : IsId s r N) : ∀ (m k i : Nat) (acc : Nat), s.size - i ≤ m → m + 1 ≤ k → Lib.decFrom acc (s.data.toList.drop i) = some N →
    PId.cortegeref03_Read.l0 k s i r acc = some (r, (N : Int), true) := by
  intro m
  induction m with
  | zero =>
    intro k i acc h1 h2 h3
    obtain ⟨k, rfl⟩ : ∃ q, k = q + 1 := ⟨k - 1, by omega⟩
    rw [List.drop_eq_nil_of_le (by rw [data_length]; omega)] at h3
    simp only [Lib.decFrom, Option.some.injEq] at h3
    subst h3
    rw [l0_step, if_neg (by omega), right_f, Option.bind_some, if_pos (by simpa using hid.1), reftext_f hid.1, Option.bind_some, if_pos (by rw [hid.2])]
  | succ m ih =>
    intro k i acc h1 h2 h3
    obtain ⟨k, rfl⟩ : ∃ q, k = q + 1 := ⟨k - 1, by omega⟩
    have q2 : m + 1 ≤ k := by omega
    by_cases hlt : i < s.size
    · have q1 : s.size - (i + 1) ≤ m := by omega
      obtain ⟨c, hc, hb⟩ := bt_at s i (by omega) (by omega)
      rw [Int.toNat_natCast] at hc
      rw [List.drop_eq_getElem_cons (by rw [data_length]; exact hlt)] at h3
      have hc' : s.data.toList[i]'(by rw [data_length]; exact hlt) = c := by
        rw [List.getElem?_eq_getElem (by rw [data_length]; exact hlt)] at hc
        exact Option.some.inj hc
      rw [hc'] at h3
      simp only [Lib.decFrom, Lib.digitVal] at h3
      split at h3
      · rename_i d hd
        split at hd
        · rename_i hr
          have hd := Option.some.inj hd
          have hge := decFrom_ge _ _ _ h3
          rw [l0_step, if_pos (by omega), if_pos (by omega), if_neg (by omega), if_neg (by omega)]
          have e1 : wrap64 ((i : Int) + 1) = ((i + 1 : Nat) : Int) := by rw [w64 _ (by omega)]; omega
          have e2 : wrap64 (wrap64 (10 * (acc : Int)) + (bt s i - 48) % 256) = ((acc * 10 + d : Nat) : Int) := by
            rw [w64 (10 * (acc : Int)) (by omega), w64 _ (by omega)]; omega
          rw [e1, e2]
          exact ih k (i + 1) (acc * 10 + d) q1 q2 h3
        · cases hd
      · cases h3
    · exact ih (k + 1) i acc (by omega) (by omega) h3
theorem refread_not (s : ByteArray) (hs : s.size ≤ 1048576) (h : ∀ r n, ¬ IsId s r n) : PId.cortegeref03_Read.f (s.size + 2) s = some (0, 0, false) := by
  have hj : ∀ b, 3 ≤ s.size ∨ b = true → PId.cortegeref03_Read.j0 (s.size + 2) s b = some (0, 0, false) := by
    intro b hb
    rw [j0_step]
    split
    · rfl
    · rename_i hb'
      rw [if_pos (by rcases hb with hb | hb; omega; exact absurd hb hb')]
      rcases loop_any s hs s.size (s.size + 1) 2 ((bt s 0 - 48) % 256) 0 (by omega) (by omega) (by omega) with e | ⟨r', n', _, hi⟩
      · exact e
      · exact absurd hi (h _ _)
  unfold PId.cortegeref03_Read.f
  split
  · exact hj _ (Or.inr rfl)
  · rename_i h3
    rw [if_pos (by omega)]
    split
    · rw [if_pos (by omega)]
      split
      · exact hj _ (Or.inr rfl)
      · split
        · exact hj _ (Or.inr rfl)
        · exact hj _ (Or.inl (by omega))
    · exact hj _ (Or.inr rfl)
theorem decFrom_append : ∀ (l l' : List UInt8) (acc v : Nat), Lib.decFrom acc l = some v → Lib.decFrom acc (l ++ l') = Lib.decFrom v l'
  | [], l', acc, v, h => by simp only [Lib.decFrom, Option.some.injEq] at h; subst h; rfl
  | c :: r, l', acc, v, h => by
    simp only [Lib.decFrom, List.cons_append] at h ⊢
    split at h
    · exact decFrom_append r l' _ v h
    · cases h
theorem decFrom_dec (u : Nat) : Lib.decFrom 0 (Lib.decDigits u) = some u := by
  induction u using Nat.strongRecOn with
  | _ u ih =>
    by_cases h : u < 10
    · rw [Lib.decDigits_one h]
      simp only [Lib.decFrom, Lib.digitVal, digit_byte u h]
      rw [if_pos (by omega)]
      simp
    · have hm := Nat.mod_lt u (show 0 < 10 by omega)
      rw [dec_last u h, decFrom_append _ _ _ _ (ih (u / 10) (by omega))]
      simp only [Lib.decFrom, Lib.digitVal, digit_byte _ hm]
      rw [if_pos (by omega)]
      simp; omega
theorem nDigits_le : ∀ (k u : Nat), u < 10 ^ (k + 1) → Lib.nDigits u ≤ k + 1
  | 0, u, h => by rw [Lib.nDigits_small (by simpa using h)]; omega
  | k + 1, u, h => by
    by_cases h1 : u < 10
    · rw [Lib.nDigits_small h1]; omega
    · rw [Lib.nDigits_big h1]
      have := nDigits_le k (u / 10) (by rw [Nat.div_lt_iff_lt_mul (by omega)]; rw [Nat.pow_succ] at h; exact h)
      omega
theorem refread_is {s : ByteArray} {r n : Int} (hid : IsId s r n) : PId.cortegeref03_Read.f (s.size + 2) s = some (r, n, true) := by
  obtain ⟨g1, g2, g3, g4⟩ := idErr_ok.1 hid.1
  have hl : s.data.toList = UInt8.ofNat (48 + r.toNat) :: 46 :: Lib.decDigits n.toNat := by
    rw [← hid.2, textS_list hid.1, Lib.decDigits_one (by omega)]; rfl
  have hsz : s.size = 2 + Lib.nDigits n.toNat := by
    rw [← data_length, hl]; simp [Lib.decDigits_length]; omega
  have l7 := nDigits_le 6 n.toNat (by omega)
  have l1 : 1 ≤ Lib.nDigits n.toNat := by
    rw [← Lib.decDigits_length]
    exact List.length_pos_iff.2 (dec_ne _)
  have hb0 : bt s 0 = 48 + r := by
    obtain ⟨c, hc, hb⟩ := bt_at s 0 (by omega) (by omega)
    rw [hl] at hc
    simp only [Int.toNat_zero, List.getElem?_cons_zero, Option.some.injEq] at hc
    rw [hb, ← hc, digit_byte _ (by omega)]; omega
  have hb1 : bt s 1 = 46 := by
    obtain ⟨c, hc, hb⟩ := bt_at s 1 (by omega) (by omega)
    rw [hl] at hc
    simp at hc
    rw [hb, ← hc]; rfl
  unfold PId.cortegeref03_Read.f
  rw [if_neg (by omega), if_pos (by omega), if_pos hb1, if_pos (by omega), if_neg (by omega), if_neg (by omega)]
  have h9 : decide ((s.size : Int) > 9) = false := decide_eq_false (by omega)
  rw [h9, j0_step, if_neg (by simp), if_pos (by omega)]
  have hid' : IsId s r (n.toNat : Int) := by rw [Int.toNat_of_nonneg (by omega)]; exact hid
  have := loop_is s (by omega) r n.toNat (by omega) hid' s.size (s.size + 1) 2 0 (by omega) (by omega) (by rw [hl]; exact decFrom_dec _)
  rw [Int.toNat_of_nonneg (by omega)] at this
  rw [show (bt s 0 - 48) % 256 = r from by omega]
  exact this
theorem refread_is_calls {s : ByteArray} {r n : Int} (hid : IsId s r n) (w : World) :
    Calls Tryd.prog 16 #[.string s] w fun e w' => e = .returned (.tuple #[.agg #[.int .i64 r, .int .i64 n], .bool true]) ∧ Below w.heap.size w w' :=
  PId.cortegeref03_Read.calls (s.size + 2) s r n true w (refread_is hid)
theorem refread_not_calls {s : ByteArray} (hs : s.size ≤ 1048576) (h : ∀ r n, ¬ IsId s r n) (w : World) :
    Calls Tryd.prog 16 #[.string s] w fun e w' => e = .returned (.tuple #[.agg #[.int .i64 0, .int .i64 0], .bool false]) ∧ Below w.heap.size w w' :=
  PId.cortegeref03_Read.calls (s.size + 2) s 0 0 false w (refread_not s hs h)
theorem reftext_calls {r n : Int} (h : idErrN r n = 0) (w : World) :
    Calls Tryd.prog 15 #[.agg #[.int .i64 r, .int .i64 n]] w fun e w' => e = .returned (.string (textS r n)) ∧ Below w.heap.size w w' :=
  PId.cortegeref03_Text.calls r n _ w (reftext_f h)
end Go.Proofs.YtjffghebcaklaaaDoor
