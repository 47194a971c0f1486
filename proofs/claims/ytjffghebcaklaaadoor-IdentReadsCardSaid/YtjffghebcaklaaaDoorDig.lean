/- cortegeref02.Digits: a whole number's decimal text. -/
import Derived.Test.YtjffghebcaklaaaDoorFlt
import Derived.Lib.ItoaNum
import Derived.Lib.ItoaMem
import Derived.Lib.ItoaLen
import Derived.Laws.Runes
namespace Go.Proofs.YtjffghebcaklaaaDoor
open Go Go.RowKit
open Go.Proofs.YtjffghebcaklaaaDoorW.PrintWords (Aside0)
set_option linter.unusedVariables false
def tenB : ByteArray := ⟨#[48, 49, 50, 51, 52, 53, 54, 55, 56, 57]⟩
theorem tenB_at : ∀ i : Fin 10, tenB.extract i.val (i.val + 1) = ⟨#[UInt8.ofNat (48 + i.val)]⟩ := by decide +kernel
theorem dec_last (n : Nat) (h : ¬ n < 10) : Lib.decDigits n = Lib.decDigits (n / 10) ++ [UInt8.ofNat (48 + n % 10)] := by
  rw [Lib.decDigits, dif_neg h]
theorem bytes_append (a b : List UInt8) : (⟨a.toArray⟩ : ByteArray) ++ ⟨b.toArray⟩ = ⟨(a ++ b).toArray⟩ := by
  apply ByteArray.ext
  simp
set_option maxHeartbeats 400000 in
theorem digits_small (n : Nat) (h : n < 10) (w : World) :
    Calls Tryd.prog 39 #[.int .i64 (n : Int)] w fun e w' => e = .returned (.string ⟨(Lib.decDigits n).toArray⟩) ∧ ∃ m, w' = w.drewN m := by
  have h1 : decide ((n : Int) < -9) = false := decide_eq_false (by omega)
  have h2 : decide ((n : Int) < 0) = false := decide_eq_false (by omega)
  have h3 : decide ((n : Int) < 10) = true := decide_eq_true (by omega)
  go_enter Tryd.func39, Tryd.ntmps39
  go_wp2
  go_ret
  refine ⟨?_, 0, rfl⟩
  have := tenB_at ⟨n, h⟩
  rw [Lib.decDigits_one h]
  exact congrArg (fun z => Ending.returned (Value.string z)) this
set_option maxHeartbeats 800000 in
theorem digits_big (n : Nat) (h : ¬ n < 10) (hn : n < 9223372036854775808) (w : World) (ih : ∀ w, Calls Tryd.prog 39 #[.int .i64 ((n : Int) / 10)] w fun e w' => e = .returned (.string ⟨(Lib.decDigits (n / 10)).toArray⟩) ∧ ∃ m, w' = w.drewN m) :
    Calls Tryd.prog 39 #[.int .i64 (n : Int)] w fun e w' => e = .returned (.string ⟨(Lib.decDigits n).toArray⟩) ∧ ∃ m, w' = w.drewN m := by
  have h1 : decide ((n : Int) < -9) = false := decide_eq_false (by omega)
  have h2 : decide ((n : Int) < 0) = false := decide_eq_false (by omega)
  have h3 : decide ((n : Int) < 10) = false := decide_eq_false (by omega)
  have hw : IntKind.i64.wrap ((n : Int) / 10) = (n : Int) / 10 := wrap_small _ (by omega) (by omega)
  obtain ⟨d, h4, hm, hend⟩ : ∃ d : Nat, d < 10 ∧ (n : Int).tmod 10 = (d : Int) ∧ Aside0 (Lib.decDigits n = Lib.decDigits (n / 10) ++ [UInt8.ofNat (48 + d)]) :=
    ⟨n % 10, Nat.mod_lt _ (by omega), by rw [Int.tmod_eq_emod_of_nonneg (by omega)]; omega, ⟨dec_last n h⟩⟩
  have hw2 : IntKind.i64.wrap ((d : Int) + 1) = (d : Int) + 1 := wrap_small _ (by omega) (by omega)
  have h5 : (0 : Int) ≤ (d : Int) + 1 := by omega
  have h6 : (d : Int) + 1 ≤ 10 := by omega
  have h7 : (d : Int) ≤ (d : Int) + 1 := by omega
  have h8 : ¬ 9223372036854775807 < (Lib.decDigits (n / 10)).length + (min (d + 1) 10 - d) := by
    rw [Lib.decDigits_length]
    have := Lib.nDigits_le20 (n / 10) (by omega)
    omega
  go_enter Tryd.func39, Tryd.ntmps39
  go_wp2
  go_quiet (first
    | (go_at_call 39; exact Calls.quiet_of (ih _)))
  go_wp2
  go_ret
  refine ⟨?_, nq, rfl⟩
  have := tenB_at ⟨d, h4⟩
  rw [hend.out, ← bytes_append, ← this]
  rfl
theorem digits_calls (n : Nat) (hn : n < 9223372036854775808) : ∀ (w : World),
    Calls Tryd.prog 39 #[.int .i64 (n : Int)] w fun e w' => e = .returned (.string ⟨(Lib.decDigits n).toArray⟩) ∧ ∃ m, w' = w.drewN m := by
  induction n using Nat.strongRecOn with
  | _ n ih =>
    intro w
    by_cases h : n < 10
    · exact digits_small n h w
    · refine digits_big n h hn w ?_
      have := ih (n / 10) (by omega) (by omega)
      rwa [show ((n / 10 : Nat) : Int) = (n : Int) / 10 from by omega] at this
end Go.Proofs.YtjffghebcaklaaaDoor
