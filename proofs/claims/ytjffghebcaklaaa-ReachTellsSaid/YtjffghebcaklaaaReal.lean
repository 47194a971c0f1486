/- Floats: the contracts of real, cortegeref01, cmd.word, cmd.key. -/
import Derived.Test.YtjffghebcaklaaaFlt
namespace Go.Proofs.Ytjffghebcaklaaa
open Go Go.RowKit

def fOrd (a b : Nat) : Option Ordering := FloatKind.f64.format.order a b
def fNan (a : Nat) : Bool := fOrd a a != some .eq
/-- 2 ^ i, by doubling. -/
def fPow : Nat → Option Nat
  | 0 => some 4607182418800017408
  | i + 1 => (fPow i).bind fun x => floatBits .mul .f64 4611686018427387904 x

set_option maxHeartbeats 400000 in
theorem nan_calls (a : Nat) (w : World) :
    Calls Try.prog 109 #[.float .f64 a] w fun e w' => e = .returned (.bool (fNan a)) ∧ w' = w := by
  go_enter Try.func109, Try.ntmps109
  go_wp2
  go_ret
  exact ⟨rfl, rfl⟩

theorem fPow_some : ∀ i, i ≤ 1023 → (fPow i).isSome = true := by
  have h : (List.range 1024).all (fun i => (fPow i).isSome) = true := by decide +kernel
  intro i hi
  exact List.all_eq_true.1 h i (List.mem_range.2 (by omega))
theorem fPow_last : fPow 1023 = some 9214364837600034816 := by decide +kernel
theorem fPow_step (i : Nat) (x : Nat) (hx : fPow i = some x) (hi : i < 1023) : ∃ y, fPow (i + 1) = some y ∧ floatBits .mul .f64 4611686018427387904 x = some y := by
  have h := fPow_some (i + 1) (by omega)
  obtain ⟨y, hy⟩ := Option.isSome_iff_exists.1 h
  exact ⟨y, hy, by rw [← hy]; simp [fPow, hx]⟩

set_option maxRecDepth 100000 in
set_option maxHeartbeats 400000 in
theorem big_calls (w : World) :
    Calls Try.prog 110 #[] w fun e w' => e = .returned (.float .f64 9218868437227405311) ∧ w' = w := by
  go_enter Try.func110, Try.ntmps110
  go_wp2
  go_loop [1, 2] (fun x i => ∃ (k b : Nat), k ≤ 1023 ∧ i = .int .i64 k ∧ x = .float .f64 b ∧ fPow k = some b) (fun _ i => 1023 - (intOf i).toNat)
  case atStart => exact ⟨0, _, by omega, rfl, rfl, rfl⟩
  case round =>
    obtain ⟨k, b, hk, rfl, rfl, hp⟩ := hrel
    by_cases hlt : k < 1023
    · obtain ⟨y, hy, hm⟩ := fPow_step k b hp hlt
      have hmul := fun (W : World) (t : TypeId) => run_float_arith (P := Try.prog) (w := W) .mul t .f64 _ _ _ hm
      have Hp := Lib.hid hp
      have Hy := Lib.hid hy
      clear hp hy hm
      go_wp2
      go_round
      case rel => exact ⟨k + 1, y, by omega, by go_num, rfl, Hy.out⟩
      case measure => simp [intOf]; omega
    · obtain rfl : k = 1023 := by omega
      rw [fPow_last] at hp
      obtain rfl := Option.some.inj hp
      clear hp
      have h1 := fun (W : World) (t : TypeId) => run_float_arith (P := Try.prog) (w := W) .quo t .f64 9214364837600034816 4841369599423283200 8980177656976769024 (by decide +kernel)
      have h2 := fun (W : World) (t : TypeId) => run_float_arith (P := Try.prog) (w := W) .sub t .f64 9214364837600034816 8980177656976769024 9214364837600034814 (by decide +kernel)
      have h3 := fun (W : World) (t : TypeId) => run_float_arith (P := Try.prog) (w := W) .add t .f64 9214364837600034816 9214364837600034814 9218868437227405311 (by decide +kernel)
      go_wp2
      go_ret
      exact ⟨rfl, rfl⟩

theorem fZero_read {a : Nat} (h : fOrd a 0 = some .eq) : ∃ s e, FloatKind.f64.format.read a = .number s 0 e := by
  have h0 : FloatKind.f64.format.read 0 = .number false 0 (-1074) := by decide +kernel
  unfold fOrd Ieee.Format.order at h
  rw [h0] at h
  cases hr : FloatKind.f64.format.read a with
  | nan s f => rw [hr] at h; simp [Ieee.Datum.order] at h
  | infinity s => rw [hr] at h; cases s <;> simp [Ieee.Datum.order] at h
  | number s m e =>
    rw [hr] at h
    refine ⟨s, e, ?_⟩
    have h1 : Ieee.signed s m (e - min e (-1074)).toNat = 0 := by
      have h2 := Option.some.inj h
      rw [Int.compare_eq_eq] at h2
      rw [h2]; simp [Ieee.signed]
    have h3 : m <<< (e - min e (-1074)).toNat = 0 := by
      cases s <;> simp [Ieee.signed] at h1 <;> simpa using h1
    have h4 : m = 0 := by
      rw [Nat.shiftLeft_eq] at h3
      rcases Nat.mul_eq_zero.1 h3 with h5 | h5
      · exact h5
      · exact absurd h5 (Nat.pos_iff_ne_zero.1 (Nat.two_pow_pos _))
    rw [h4]
def fNeg (a : Nat) : Bool := (FloatKind.f64.format.read a).neg
def fInf (s : Bool) : Nat := if s then 18442240474082181120 else 9218868437227405312
theorem fInv {a : Nat} (h : fOrd a 0 = some .eq) : floatBits .quo .f64 4607182418800017408 a = some (fInf (fNeg a)) := by
  obtain ⟨s, e, hr⟩ := fZero_read h
  have h1 : FloatKind.f64.format.read 4607182418800017408 = .number false 4503599627370496 (-52) := by decide +kernel
  have hn : fNeg a = s := by unfold fNeg; rw [hr]; rfl
  rw [hn]
  show FloatKind.f64.format.div 4607182418800017408 a = _
  unfold Ieee.Format.div
  rw [hr, h1]
  cases s <;> rfl
def fKind (a : Nat) : Int :=
  if fNan a then 0 else if fOrd a 0 == some .eq then (if fNeg a then 3 else 4) else if fOrd a 0 == some .lt then (if fOrd a 18442240474082181119 == some .lt then 1 else 2) else if fOrd a 9218868437227405311 == some .gt then 6 else 5

set_option maxRecDepth 100000 in
set_option maxHeartbeats 400000 in
theorem kind_calls (a : Nat) (w : World) :
    Calls Try.prog 93 #[.float .f64 a] w fun e w' => e = .returned (.int .i64 (fKind a)) ∧ w' = w := by
  have big : fNan 0 = false := by decide +kernel
  have hneg : ∀ (W : World), (Op.unary .neg (.float .f64 9218868437227405311)).run Try.prog W = Result.ok (.float .f64 18442240474082181119) W := fun _ => rfl
  by_cases hn : fNan a = true
  · go_enter Try.func93, Try.ntmps93
    go_wp2_with (go_at_call 109; refine (nan_calls _ _).mono ?_; rintro e w' ⟨rfl, rfl⟩)
    go_ret
    exact ⟨by simp [fKind, hn], rfl⟩
  · have hn' : fNan a = false := by simpa using hn
    clear hn
    by_cases hz : fOrd a 0 = some .eq
    · have hi := fun (W : World) (t : TypeId) => run_float_arith (P := Try.prog) (w := W) .quo t .f64 _ _ _ (fInv hz)
      have hz1 : (FloatKind.f64.format.order a 0 == some Ordering.eq) = true := by simpa [fOrd] using hz
      have HZ := Lib.hid hz
      clear hz
      rcases hs : fNeg a with _ | _
      all_goals
        rw [hs] at hi
        have HS := Lib.hid hs
        clear hs
        go_enter Try.func93, Try.ntmps93
        go_wp2_with (go_at_call 109; refine (nan_calls _ _).mono ?_; rintro e w' ⟨rfl, rfl⟩)
        go_ret
        exact ⟨by simp [fKind, hn', fOrd, hz1, HS.out], rfl⟩
    · have hz1 : (FloatKind.f64.format.order a 0 == some Ordering.eq) = false := by simpa [fOrd] using hz
      have HZ := Lib.hid hz
      clear hz
      by_cases hl : FloatKind.f64.format.order a 0 = some .lt
      · have hl1 : (FloatKind.f64.format.order a 0 == some Ordering.lt) = true := by simpa using hl
        clear hl
        by_cases hb : FloatKind.f64.format.order a 18442240474082181119 = some .lt
        · have hb1 : (FloatKind.f64.format.order a 18442240474082181119 == some Ordering.lt) = true := by simpa using hb
          clear hb
          go_enter Try.func93, Try.ntmps93
          go_wp2_with (first | (go_at_call 109; refine (nan_calls _ _).mono ?_; rintro e w' ⟨rfl, rfl⟩) | (go_at_call 110; refine (big_calls _).mono ?_; rintro e w' ⟨rfl, rfl⟩))
          go_ret
          exact ⟨by simp [fKind, hn', fOrd, hz1, hl1, hb1], rfl⟩
        · have hb1 : (FloatKind.f64.format.order a 18442240474082181119 == some Ordering.lt) = false := by simpa using hb
          clear hb
          go_enter Try.func93, Try.ntmps93
          go_wp2_with (first | (go_at_call 109; refine (nan_calls _ _).mono ?_; rintro e w' ⟨rfl, rfl⟩) | (go_at_call 110; refine (big_calls _).mono ?_; rintro e w' ⟨rfl, rfl⟩))
          go_ret
          exact ⟨by simp [fKind, hn', fOrd, hz1, hl1, hb1], rfl⟩
      · have hl1 : (FloatKind.f64.format.order a 0 == some Ordering.lt) = false := by simpa using hl
        clear hl
        by_cases hb : FloatKind.f64.format.order a 9218868437227405311 = some .gt
        · have hb1 : (FloatKind.f64.format.order a 9218868437227405311 == some Ordering.gt) = true := by simpa using hb
          clear hb
          go_enter Try.func93, Try.ntmps93
          go_wp2_with (first | (go_at_call 109; refine (nan_calls _ _).mono ?_; rintro e w' ⟨rfl, rfl⟩) | (go_at_call 110; refine (big_calls _).mono ?_; rintro e w' ⟨rfl, rfl⟩))
          go_ret
          exact ⟨by simp [fKind, hn', fOrd, hz1, hl1, hb1], rfl⟩
        · have hb1 : (FloatKind.f64.format.order a 9218868437227405311 == some Ordering.gt) = false := by simpa using hb
          clear hb
          go_enter Try.func93, Try.ntmps93
          go_wp2_with (first | (go_at_call 109; refine (nan_calls _ _).mono ?_; rintro e w' ⟨rfl, rfl⟩) | (go_at_call 110; refine (big_calls _).mono ?_; rintro e w' ⟨rfl, rfl⟩))
          go_ret
          exact ⟨by simp [fKind, hn', fOrd, hz1, hl1, hb1], rfl⟩

/-- Numbers that are the same, as the reference has it. -/
def fSame (a b : Nat) : Bool := if fNan a || fNan b then fNan a && fNan b else if fOrd a 0 == some .eq && fOrd b 0 == some .eq then fNeg a == fNeg b else fOrd a b == some .eq
theorem fInf_eq (s t : Bool) : (FloatKind.f64.format.order (fInf s) (fInf t) == some Ordering.eq) = (s == t) := by cases s <;> cases t <;> decide +kernel
set_option maxRecDepth 100000 in
set_option maxHeartbeats 400000 in
theorem same_calls (a b : Nat) (w : World) :
    Calls Try.prog 91 #[.float .f64 a, .float .f64 b] w fun e w' => e = .returned (.bool (fSame a b)) ∧ w' = w := by
  rcases ha : fNan a with _ | _ <;> rcases hb : fNan b with _ | _
  · by_cases hz : fOrd a 0 = some .eq
    · have hz1 : (FloatKind.f64.format.order a 0 == some Ordering.eq) = true := by simpa [fOrd] using hz
      by_cases hy : fOrd b 0 = some .eq
      · have hy1 : (FloatKind.f64.format.order b 0 == some Ordering.eq) = true := by simpa [fOrd] using hy
        have hi := fun (W : World) (t : TypeId) => run_float_arith (P := Try.prog) (w := W) .quo t .f64 _ _ _ (fInv hz)
        have hj := fun (W : World) (t : TypeId) => run_float_arith (P := Try.prog) (w := W) .quo t .f64 _ _ _ (fInv hy)
        clear hz hy
        have he := fInf_eq (fNeg a) (fNeg b)
        go_enter Try.func91, Try.ntmps91
        go_wp2_with (go_at_call 109; refine (nan_calls _ _).mono ?_; rintro e w' ⟨rfl, rfl⟩)
        go_ret
        exact ⟨by simp [fSame, ha, hb, fOrd, hz1, hy1], rfl⟩
      · have hy1 : (FloatKind.f64.format.order b 0 == some Ordering.eq) = false := by simpa [fOrd] using hy
        clear hz hy
        go_enter Try.func91, Try.ntmps91
        go_wp2_with (go_at_call 109; refine (nan_calls _ _).mono ?_; rintro e w' ⟨rfl, rfl⟩)
        go_ret
        exact ⟨by simp [fSame, ha, hb, fOrd, hz1, hy1], rfl⟩
    · have hz1 : (FloatKind.f64.format.order a 0 == some Ordering.eq) = false := by simpa [fOrd] using hz
      clear hz
      go_enter Try.func91, Try.ntmps91
      go_wp2_with (go_at_call 109; refine (nan_calls _ _).mono ?_; rintro e w' ⟨rfl, rfl⟩)
      go_ret
      exact ⟨by simp [fSame, ha, hb, fOrd, hz1], rfl⟩
  all_goals
    go_enter Try.func91, Try.ntmps91
    go_wp2_with (go_at_call 109; refine (nan_calls _ _).mono ?_; rintro e w' ⟨rfl, rfl⟩)
    go_ret
    exact ⟨by simp [fSame, ha, hb], rfl⟩

open Go.Proofs.YtjffghebcaklaaaW.PrintWords (Aside0)
set_option linter.unusedVariables false
set_option linter.unusedSimpArgs false
theorem ext_bits (W : World) (b : Nat) : (callFunc 122 #[.float .f64 b]).run Try.prog W = .ok (.value (.int .u64 b)) W := by kernel_rfl
theorem ext_nan (W : World) : (callFunc 124 #[.int .u64 9221120237041090561]).run Try.prog W = .ok (.value (.float .f64 9221120237041090561)) W := by kernel_rfl
def fCanon (a : Nat) : Nat := if fNan a then 9221120237041090561 else a
set_option maxRecDepth 100000 in
set_option maxHeartbeats 400000 in
theorem canon_calls (a : Nat) (w : World) :
    Calls Try.prog 123 #[.float .f64 a] w fun e w' => e = .returned (.float .f64 (fCanon a)) ∧ w' = w := by
  rcases hn : fNan a with _ | _
  · have hn1 : (FloatKind.f64.format.order a a != some Ordering.eq) = false := hn
    have HN := Aside0.mk hn
    clear hn
    have hx := ext_nan
    go_enter Try.func123, Try.ntmps123
    go_wp2
    go_ret
    exact ⟨by simp [fCanon, HN.out], rfl⟩
  · have hn1 : (FloatKind.f64.format.order a a != some Ordering.eq) = true := hn
    have HN := Aside0.mk hn
    clear hn
    have hx := ext_nan
    go_enter Try.func123, Try.ntmps123
    go_wp2
    go_ret
    exact ⟨by simp [fCanon, HN.out], rfl⟩
set_option maxRecDepth 100000 in
set_option maxHeartbeats 400000 in
theorem bits_calls (a : Nat) (w : World) :
    Calls Try.prog 120 #[.float .f64 a] w fun e w' => e = .returned (.int .u64 (fCanon a)) ∧ w' = w := by
  have hx := ext_bits
  go_enter Try.func120, Try.ntmps120
  go_wp2_with (go_at_call 123; refine (canon_calls _ _).mono ?_; rintro e w' ⟨rfl, rfl⟩)
  go_ret
  exact ⟨rfl, rfl⟩
def fSameP (a b : Nat) : Bool := fCanon a == fCanon b
theorem nat_cast_beq (a b : Nat) : (((a : Nat) : Int) == ((b : Nat) : Int)) = (a == b) := by
  rw [Bool.eq_iff_iff]; simp only [beq_iff_eq]; omega
set_option maxRecDepth 100000 in
set_option maxHeartbeats 400000 in
theorem psame_calls (a b : Nat) (w : World) :
    Calls Try.prog 108 #[.float .f64 a, .float .f64 b] w fun e w' => e = .returned (.bool (fSameP a b)) ∧ w' = w := by
  go_enter Try.func108, Try.ntmps108
  go_wp2_with (go_at_call 120; refine (bits_calls _ _).mono ?_; rintro e w' ⟨rfl, rfl⟩)
  go_ret
  exact ⟨by show Ending.returned (.bool (((fCanon a : Nat) : Int) == ((fCanon b : Nat) : Int))) = _; rw [nat_cast_beq]; rfl, rfl⟩
set_option maxRecDepth 100000 in
set_option maxHeartbeats 400000 in
theorem plus_calls (a : Nat) (w : World) :
    Calls Try.prog 113 #[.float .f64 a] w fun e w' => e = .returned (.bool (fSameP a 0)) ∧ w' = w := by
  go_enter Try.func113, Try.ntmps113
  go_wp2_with (go_at_call 108; refine (psame_calls _ _ _).mono ?_; rintro e w' ⟨rfl, rfl⟩)
  go_ret
  exact ⟨rfl, rfl⟩
/-- A kind's word is told, none else. -/
def wordOf (k : Int) : ByteArray := if k = 1 then ⟨#[103, 101, 116]⟩ else if k = 2 then ⟨#[112, 117, 116]⟩ else if k = 3 then ⟨#[100, 101, 108]⟩ else if k = 4 then ⟨#[97, 100, 100]⟩ else ⟨#[]⟩
set_option maxRecDepth 100000 in
set_option maxHeartbeats 400000 in
theorem word_calls (k : Int) (w : World) :
    Calls Try.prog 111 #[.int .i64 k] w fun e w' => e = .returned (.string (wordOf k)) ∧ Below w.heap.size w w' := by
  by_cases h0 : k < 0
  · have HW : wordOf k = ⟨#[]⟩ := by unfold wordOf; rw [if_neg (by omega), if_neg (by omega), if_neg (by omega), if_neg (by omega)]
    rw [HW]
    clear HW
    go_enter Try.func111, Try.ntmps111
    go_wp2
    go_ret
    exact ⟨rfl, (Below.refl _ _).alloc (Nat.le_refl _) _⟩
  · by_cases h5 : 5 ≤ k
    · have HW : wordOf k = ⟨#[]⟩ := by unfold wordOf; rw [if_neg (by omega), if_neg (by omega), if_neg (by omega), if_neg (by omega)]
      rw [HW]
      clear HW
      go_enter Try.func111, Try.ntmps111
      go_wp2
      go_ret
      exact ⟨rfl, (Below.refl _ _).alloc (Nat.le_refl _) _⟩
    · have h : k = 0 ∨ k = 1 ∨ k = 2 ∨ k = 3 ∨ k = 4 := by omega
      clear h0 h5
      rcases h with rfl | rfl | rfl | rfl | rfl
      all_goals
        go_enter Try.func111, Try.ntmps111
        go_wp2
        go_ret
        exact ⟨rfl, (Below.refl _ _).alloc (Nat.le_refl _) _⟩
def okByte (c : UInt8) : Bool := decide (97 ≤ c.toNat) && decide (c.toNat ≤ 122) || decide (48 ≤ c.toNat) && decide (c.toNat ≤ 57)
def keyB (s : ByteArray) : Bool := s.data.toList.all okByte && decide (1 ≤ s.size) && decide (s.size ≤ 12)
set_option maxRecDepth 100000 in
set_option maxHeartbeats 400000 in
theorem key_calls (s : ByteArray) (w : World) (hs : s.size ≤ 9223372036854775807) :
    Calls Try.prog 112 #[.string s] w fun e w' => e = .returned (.bool (keyB s)) ∧ Below w.heap.size w w' := by
  have hconv := Lib.run_convert_string_bytes (P := Try.prog) w 9 43 5 s Try.underlying9 Try.underlying43 Try.underlying5
  have HB := Aside0.mk (Lib.bytesWorld_below w 5 s)
  have HC := Aside0.mk (Lib.bytesWorld_cell w 5 s)
  generalize Lib.bytesWorld w 5 s = W at hconv HB HC
  generalize grownCap w s.size 0 5 = cp at hconv
  go_enter Try.func112, Try.ntmps112
  go_wp2
  clear hconv
  go_loop [8] (fun i => ∃ k : Nat, k ≤ s.size ∧ i = .int .i64 k ∧ Aside0 ((s.data.toList.take k).all okByte = true)) (fun i => s.size - (intOf i).toNat)
  case atStart => exact ⟨0, Nat.zero_le _, rfl, ⟨by simp⟩⟩
  case round =>
    obtain ⟨k, hk, rfl, hA⟩ := hrel
    by_cases hlt : k < s.size
    · have hlt' : k < s.data.toList.length := by simpa using hlt
      have hc := HC.out k hlt
      have HG : Aside0 (s.data.toList.getD k 0 = s.data.toList[k]'hlt') := ⟨by simp [List.getD_eq_getElem?_getD, List.getElem?_eq_getElem hlt']⟩
      rw [HG.out] at hc
      have HT : Aside0 ((s.data.toList.take (k + 1)).all okByte = ((s.data.toList.take k).all okByte && okByte (s.data.toList[k]'hlt'))) := ⟨by rw [List.take_succ_eq_append_getElem hlt', List.all_append]; simp⟩
      have HF : Aside0 (okByte (s.data.toList[k]'hlt') = false → keyB s = false) := ⟨fun h => by
        have : s.data.toList.all okByte = false := by
          rw [List.all_eq_false]
          exact ⟨_, List.getElem_mem hlt', by rw [h]; decide⟩
        unfold keyB
        rw [this]
        rfl⟩
      have hlt256 := (s.data.toList[k]'hlt').toNat_lt
      have HO : Aside0 (okByte (s.data.toList[k]'hlt') = (decide (97 ≤ (s.data.toList[k]'hlt').toNat) && decide ((s.data.toList[k]'hlt').toNat ≤ 122) || decide (48 ≤ (s.data.toList[k]'hlt').toNat) && decide ((s.data.toList[k]'hlt').toNat ≤ 57))) := ⟨rfl⟩
      generalize s.data.toList[k]'hlt' = u at hc HT HF HO hlt256
      generalize u.toNat = b at hc HO hlt256
      clear HG
      have h5 : (b < 48 ∨ (57 < b ∧ b < 97) ∨ 122 < b) ∨ (48 ≤ b ∧ b ≤ 57) ∨ (97 ≤ b ∧ b ≤ 122) := by omega
      rcases h5 with h3 | h3 | h3
      · have HK : Aside0 (keyB s = false) := ⟨HF.out (by rw [HO.out]; simp; omega)⟩
        rcases h3 with h3 | ⟨h3, h4⟩ | h3
        · have e1 : decide ((97 : Int) ≤ (b : Int)) = false := decide_eq_false (by omega)
          have e3 : decide ((48 : Int) ≤ (b : Int)) = false := decide_eq_false (by omega)
          go_wp2
          go_ret
          exact ⟨by rw [HK.out]; rfl, HB.out⟩
        · have e1 : decide ((97 : Int) ≤ (b : Int)) = false := decide_eq_false (by omega)
          have e3 : decide ((48 : Int) ≤ (b : Int)) = true := decide_eq_true (by omega)
          have e4 : decide ((b : Int) ≤ 57) = false := decide_eq_false (by omega)
          go_wp2
          go_ret
          exact ⟨by rw [HK.out]; rfl, HB.out⟩
        · have e1 : decide ((97 : Int) ≤ (b : Int)) = true := decide_eq_true (by omega)
          have e2 : decide ((b : Int) ≤ 122) = false := decide_eq_false (by omega)
          have e3 : decide ((48 : Int) ≤ (b : Int)) = true := decide_eq_true (by omega)
          have e4 : decide ((b : Int) ≤ 57) = false := decide_eq_false (by omega)
          go_wp2
          go_ret
          exact ⟨by rw [HK.out]; rfl, HB.out⟩
      · have HOK : Aside0 (okByte u = true) := ⟨by rw [HO.out]; simp; omega⟩
        obtain ⟨h3, h4⟩ := h3
        have e1 : decide ((97 : Int) ≤ (b : Int)) = false := decide_eq_false (by omega)
        have e3 : decide ((48 : Int) ≤ (b : Int)) = true := decide_eq_true (by omega)
        have e4 : decide ((b : Int) ≤ 57) = true := decide_eq_true (by omega)
        go_wp2
        go_round
        case rel => exact ⟨k + 1, by omega, by go_num, ⟨by rw [HT.out, hA.out, HOK.out]; rfl⟩⟩
        case measure => simp [intOf]; omega
      · have HOK : Aside0 (okByte u = true) := ⟨by rw [HO.out]; simp; omega⟩
        obtain ⟨h3, h4⟩ := h3
        have e1 : decide ((97 : Int) ≤ (b : Int)) = true := decide_eq_true (by omega)
        have e2 : decide ((b : Int) ≤ 122) = true := decide_eq_true (by omega)
        go_wp2
        go_round
        case rel => exact ⟨k + 1, by omega, by go_num, ⟨by rw [HT.out, hA.out, HOK.out]; rfl⟩⟩
        case measure => simp [intOf]; omega
    · obtain rfl : k = s.size := by omega
      have HA : Aside0 (s.data.toList.all okByte = true) := ⟨by have := hA.out; rwa [List.take_of_length_le (by simp)] at this⟩
      by_cases h1 : 1 ≤ s.size
      · have e1 : decide ((1 : Int) ≤ (s.size : Int)) = true := decide_eq_true (by omega)
        by_cases h2 : s.size ≤ 12
        · have e2 : decide ((s.size : Int) ≤ 12) = true := decide_eq_true (by omega)
          have HK : Aside0 (keyB s = true) := ⟨by simp [keyB, HA.out, h1, h2]⟩
          go_wp2
          go_ret
          exact ⟨by rw [HK.out]; rfl, HB.out⟩
        · have e2 : decide ((s.size : Int) ≤ 12) = false := decide_eq_false (by omega)
          have HK : Aside0 (keyB s = false) := ⟨by simp [keyB, h2]⟩
          go_wp2
          go_ret
          exact ⟨by rw [HK.out]; rfl, HB.out⟩
      · have e1 : decide ((1 : Int) ≤ (s.size : Int)) = false := decide_eq_false (by omega)
        have HK : Aside0 (keyB s = false) := ⟨by simp [keyB, h1]⟩
        go_wp2
        go_ret
        exact ⟨by rw [HK.out]; rfl, HB.out⟩
end Go.Proofs.Ytjffghebcaklaaa
