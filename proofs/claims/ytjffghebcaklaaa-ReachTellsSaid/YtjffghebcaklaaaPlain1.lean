/- Plain: what the printed checks of ids, commands, batches and records tell. No program. -/
import Derived.Test.YtjffghebcaklaaaPRefx
namespace Go.Proofs.Ytjffghebcaklaaa
open Go Go.RowKit Go.Proofs.YtjffghebcaklaaaW.PrintWords Go.Proofs.YtjffghebcaklaaaW.PrintLast Go.Proofs.YtjffghebcaklaaaW.PrintMore
set_option linter.unusedVariables false
set_option linter.unusedSimpArgs false
abbrev Id := PRef.S37
abbrev Cmd := PRef.S115
abbrev Rec := PRef.S49
abbrev kId := PRef.k37
abbrev kCmd := PRef.k115
abbrev kRec := PRef.k49
abbrev rdId := PRef.rd_T37
abbrev rdCmd := PRef.rd_T115
abbrev rdRec := PRef.rd_T49
instance : DecidableEq Id := fun a b => if h : a.f0 = b.f0 ∧ a.f1 = b.f1 then isTrue (by cases a; cases b; simp_all) else isFalse (fun e => h (by rw [e]; exact ⟨rfl, rfl⟩))
theorem id_beq (x y : Id) : ((x.f0 == y.f0) && (x.f1 == y.f1)) = decide (x = y) := by
  rw [Bool.eq_iff_iff]; simp
  constructor
  · rintro ⟨h1, h2⟩; cases x; cases y; simp_all
  · rintro rfl; exact ⟨rfl, rfl⟩
/-- What is wrong with an id. -/
def idErr (x : Id) : Int := if x.f0 < 0 ∨ 7 < x.f0 then 7 else if x.f1 < 1 ∨ 1048576 < x.f1 then 8 else 0
theorem ev_identCheck (x : Id) : Ev (fun k => PRef.ident_Check.f k x.f0 x.f1) (idErr x) := by
  refine ⟨1, fun k hk => ?_⟩
  obtain ⟨k, rfl⟩ : ∃ m, k = m + 1 := ⟨k - 1, by omega⟩
  unfold PRef.ident_Check.f idErr
  simp only [PRef.ident_Check.j0]
  by_cases h1 : x.f0 < 0
  · simp [h1]
  · by_cases h2 : 8 ≤ x.f0
    · have h3 : 7 < x.f0 := by omega
      simp [h1, h2, h3]
    · have h3 : ¬ 7 < x.f0 := by omega
      by_cases h4 : x.f1 < 1
      · simp [h1, h2, h3, h4]
      · by_cases h5 : x.f1 > 1048576
        · simp [h1, h2, h3, h4, h5]
        · have h6 : ¬ 1048576 < x.f1 := by omega
          simp [h1, h2, h3, h4, h6]
theorem ev_refId (x : Id) : Ev (fun k => PRef.cortegeref08_id.f k x.f0 x.f1) (idErr x) := by
  refine ⟨1, fun k hk => ?_⟩
  obtain ⟨k, rfl⟩ : ∃ m, k = m + 1 := ⟨k - 1, by omega⟩
  unfold PRef.cortegeref08_id.f idErr
  simp only [PRef.cortegeref08_id.j0, PRef.cortegeref03_Right.f]
  by_cases h1 : x.f0 < 0
  · simp [h1]
  · by_cases h3 : 7 < x.f0
    · simp [h1, h3]
    · have h7 : x.f0 ≥ 0 := by omega
      have h8 : x.f0 < 8 := by omega
      by_cases h4 : x.f1 < 1
      · have h9 : ¬ x.f1 ≥ 1 := by omega
        simp [h1, h3, h4, h7, h8, h9]
      · have h9 : x.f1 ≥ 1 := by omega
        by_cases h5 : 1048576 < x.f1
        · have h10 : ¬ x.f1 ≤ 1048576 := by omega
          simp [h1, h3, h4, h5, h7, h8, h9, h10]
        · have h10 : x.f1 ≤ 1048576 := by omega
          simp [h1, h3, h4, h5, h7, h8, h9, h10]
def idLt (a b : Id) : Prop := a.f0 < b.f0 ∨ (a.f0 = b.f0 ∧ a.f1 < b.f1)
instance (a b : Id) : Decidable (idLt a b) := by unfold idLt; infer_instance
def idCmp (a b : Id) : Int := if idLt a b then -1 else if idLt b a then 1 else 0
def cmpI (x y : Int) : Int := if x < y then -1 else if y < x then 1 else 0
theorem cmp_is (x y : Int) : PRef.cmp_Compare_int.f x y = some (cmpI x y) := by
  unfold PRef.cmp_Compare_int.f cmpI
  simp only [PRef.cmp_isNaN_int.f]
  by_cases h1 : x < y
  · simp [h1]
  · by_cases h2 : y < x <;> simp [h1, h2]
theorem ev_compare (a b : Id) : Ev (fun k => PRef.ident_Compare.f k a.f0 a.f1 b.f0 b.f1) (idCmp a b) := by
  refine ⟨3, fun k hk => ?_⟩
  obtain ⟨k, rfl⟩ : ∃ m, k = m + 3 := ⟨k - 3, by omega⟩
  unfold PRef.ident_Compare.f idCmp idLt
  simp only [cmp_is, Option.bind_some, PRef.cmp_Or_int.f, PRef.cmp_Or_int.l0]
  unfold cmpI
  by_cases h1 : a.f0 = b.f0
  · by_cases h2 : a.f1 = b.f1
    · simp [h1, h2]
    · by_cases h3 : a.f1 < b.f1
      · simp [h1, h2, h3, rd, wrap64]
      · have h4 : b.f1 < a.f1 := by omega
        simp [h1, h2, h3, h4, rd, wrap64]
  · by_cases h3 : a.f0 < b.f0
    · simp [h1, h3, rd, wrap64]
    · have h4 : b.f0 < a.f0 := by omega
      have h5 : ¬ b.f0 = a.f0 := fun e => h1 e.symm
      simp [h1, h3, h4, h5, rd, wrap64]
theorem ev_less (a b : Id) : PRef.cortegeref03_Less.f a.f0 a.f1 b.f0 b.f1 = some (decide (idLt a b)) := by
  unfold PRef.cortegeref03_Less.f idLt
  by_cases h : a.f0 = b.f0
  · simp [h]
  · simp [h]
end Go.Proofs.Ytjffghebcaklaaa
