/- For any two ids: IdentTells returns true and leaves them as they were, with the package-level variables laid as the program's own text lays them (IdentTellsCardSaid). -/
import Derived.Test.YtjffghebcaklaaaDoorIdLaw
import Derived.Test.YtjffghebcaklaaaDoorLaid
import Derived.Test.YtjffghebcaklaaaDoorCards
import Derived.Test.YtjffghebcaklaaaDoorTie
import Derived.SevenTiedAt
import Derived.Lib.SmallJoins
namespace Go.Proofs.YtjffghebcaklaaaDoor
open Go Go.RowKit Go.ChangeShapes Go.WideShapes Go.ChangeAt
set_option linter.unusedVariables false
set_option maxRecDepth 100000 in
theorem tells_lifted (os : Os) (started : os.Started) (H : Type) (enc : TypeId × Value → H) :
    ReturnsInHanded {} Tryd.checked os 3 .any (fun w args => (Rows.identTellsSpec.pre enc Tryd.prog Tryd.f3 Rows.identTellsRow.domain false w args ∧ laidMet Tryd.prog Rows.identTellsRow.laid w) ∧ sizedMet enc Tryd.prog Tryd.f3 (OpenSpec.ofChange Rows.identTellsSpec) false w args)
      (Rows.identTellsSpec.post enc Tryd.prog Tryd.f3 false true false false) := by
  refine laid_wrap (C := Tryd.checked) (X := fun w _ => laidMet Tryd.prog Rows.identTellsRow.laid w) (fun _ _ _ hh h => h.of_heap hh) own started (by kernel_rfl) Tryd.func3
    (ChangeSpec.witness_at (enc := enc) (C := Tryd.checked) (os := os) (X := fun w _ => laidMet Tryd.prog Rows.identTellsRow.laid w) false (World.laidAll Tryd.prog os Rows.identTellsRow.laid) #[.agg #[.int .i64 0, .int .i64 0], .agg #[.int .i64 0, .int .i64 0]] 8 (World.laidAll_os _ _ _) (by kernel_rfl) (by kernel_rfl) (by kernel_rfl) (by kernel_rfl) (by kernel_rfl) (laid_met os _)) ?_
  intro W base args ds gs before hval0 hW hsh hL
  have hval : ∀ (j : Nat) t v, Tryd.f3.params[j]? = some t → args[j]? = some v → Value.okWide Tryd.prog W .any base t v := hval0
  have hW' := hW
  obtain ⟨p, q, hA0, hV, rfl, hfz, hnd⟩ := hW
  have hA : DataW.TrodAll enc Tryd.prog W 0 (fun _ => true) true Tryd.f3.params.toList args.toList ds p := hA0
  rw [Tryd.params3] at hA hval
  obtain ⟨v0, v1, d0, d1, p0, p1, rfl, rfl, hp, h0, h1⟩ := trodAll_two hA
  obtain ⟨rfl, rfl⟩ := trodVars_none hV
  obtain ⟨x0, x1, y0, y1, f0, rfl, rfl, hp0, k0, k1⟩ := Joins.open_agg2 Tryd.underlying23 (by kernel_rfl) (by kernel_rfl) (hval 0 23 v0 rfl rfl) h0
  obtain ⟨x2, x3, y2, y3, f1, rfl, rfl, hp1, k2, k3⟩ := Joins.open_agg2 Tryd.underlying23 (by kernel_rfl) (by kernel_rfl) (hval 1 23 v1 rfl rfl) h1
  obtain ⟨r, c0, rfl, w0⟩ := DataW.trod_int Tryd.underlying3 k0
  obtain ⟨n, c1, rfl, w1⟩ := DataW.trod_int Tryd.underlying3 k1
  obtain ⟨r', c2, rfl, w2⟩ := DataW.trod_int Tryd.underlying3 k2
  obtain ⟨n', c3, rfl, w3⟩ := DataW.trod_int Tryd.underlying3 k3
  obtain rfl : x0 = .int .i64 r := by simpa using c0
  obtain rfl : x1 = .int .i64 n := by simpa using c1
  obtain rfl : x2 = .int .i64 r' := by simpa using c2
  obtain rfl : x3 = .int .i64 n' := by simpa using c3
  clear hA0 hval0
  have one : ∀ (bs : Nat) (sp : Nat → Bool) (hd : Bool) (W' : World) (m : Int), (Lit.int .i64 m).wf = true → ∃ k, DataW.trod enc Tryd.prog W' bs sp hd k 3 [.int .i64 m] = some ((.lit (.int .i64 m), []) : DataW H × List MemPlace) := fun _ _ _ W' m hm => shut_int Tryd.underlying3 hm
  have ag : ∀ (bs : Nat) (sp : Nat → Bool) (hd : Bool) (W' : World) (m m' : Int), (Lit.int .i64 m).wf = true → (Lit.int .i64 m').wf = true → DataW.Trod enc Tryd.prog W' bs sp hd 23 (.agg #[.int .i64 m, .int .i64 m']) (.agg [.lit (.int .i64 m), .lit (.int .i64 m')]) [] := fun bs sp hd W' m m' hm hm' =>
    Joins.shut_agg2 (y0 := (.lit (.int .i64 m), [])) (y1 := (.lit (.int .i64 m'), [])) Tryd.underlying23 (by kernel_rfl) (by kernel_rfl) (one bs sp hd W' m hm) (one bs sp hd W' m' hm')
  refine (tells_calls r n r' n' W (st_of hL hsh)).mono fun e W' ⟨he, hb⟩ => ?_
  subst he
  refine ⟨_, rfl, _, _, _, [], _, [], hW', trodAll_mk1 (shut_bool Tryd.underlying4 true), trodAll_mk2 (ag _ _ _ W' r n w0 w1) (ag _ _ _ W' r' n' w2 w3), rfl, hb.frame _, fun h => by cases h⟩
theorem tells_holds : Rows.IdentTellsSaid :=
  OpenClaim.holds_of_wide 3 Tryd.f3 rfl rfl rfl rfl rfl rfl rfl ⟨rfl, rfl, rfl, rfl, rfl⟩ rfl rfl rfl rfl rfl (by kernel_rfl) Tryd.func3 (by kernel_rfl)
    (of_decide_eq_true (by kernel_rfl)) (by unfold Func.isWrapper; first | (rw [if_pos (by decide +kernel)]; kernel_rfl) | (rw [if_neg (by decide +kernel)]; exact ⟨rfl, rfl⟩))
    (fun os started H enc _ => tells_lifted os started H enc)
theorem identTells_card : Rows.IdentTellsCardSaid :=
  Claim7.holds_tied_plain_at .later [] [.data, .data, .data, .sentinel, .sentinel] true (true, "677a9521bb952bab75b5ad84be6af008263336ee9bfc3d17d1eef932f7b5529d") true
    tells_holds (fun _ h => by cases h) (by kernel_rfl) (fun _ h => by cases h) identTells_row_tie rfl ⟨rfl, rfl⟩ (by kernel_rfl) rfl
    (fun f fn hf hfn => by
      obtain rfl : f = 3 := Option.some.inj ((show Tryd.prog.funcNamed "cortege/cortegelaw03.IdentTells" = some 3 by kernel_rfl).symm.trans hf) |>.symm
      obtain rfl : fn = Tryd.f3 := (Option.some.inj (Tryd.func3.symm.trans hfn)).symm
      exact ⟨by kernel_rfl, fun j t ht => by
        rw [Tryd.params3] at ht
        have h3 : t = 23 := by
          rcases j with _ | _ | j
          · simpa using ht.symm
          · simpa using ht.symm
          · simp at ht
        subst h3
        exact (show Tryd.prog.wantsStandIn 23 = false by kernel_rfl)⟩)
    (by kernel_rfl)
#print axioms identTells_card
end Go.Proofs.YtjffghebcaklaaaDoor
