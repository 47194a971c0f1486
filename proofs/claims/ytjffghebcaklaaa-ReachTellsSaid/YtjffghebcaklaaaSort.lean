/- slices.SortFunc at ids by ident.Compare; ident.Sorted. -/
import Derived.Test.YtjffghebcaklaaaCopy
import Derived.Test.YtjffghebcaklaaaShelf
import Derived.Test.YtjffghebcaklaaaCmpG
namespace Go.Proofs.Ytjffghebcaklaaa
open Go Go.RowKit Go.Lib Go.Sort Go.Proofs.YtjffghebcaklaaaW.PrintWords Go.Proofs.YtjffghebcaklaaaW.PrintLast Go.Proofs.YtjffghebcaklaaaW.PrintMore
set_option linter.unusedVariables false
set_option linter.unusedSimpArgs false
instance : Inhabited Id := ⟨⟨0, 0⟩⟩
theorem compare_grows (x y : Id) (W : World) :
    Calls Try.prog 71 #[.agg #[.int .i64 x.f0, .int .i64 x.f1], .agg #[.int .i64 y.f0, .int .i64 y.f1]] W fun e w' => e = .returned (.int .i64 (idCmp x y)) ∧ ∃ q os', w' = grow (W.drewN q) os' := by
  obtain ⟨K, hK⟩ := ev_compare x y
  exact PRef.ident_Compare.grows K _ _ _ _ _ W (hK K (Nat.le_refl _))
theorem idLt_cmp (x y : Id) : ltOf idCmp x y = decide (idLt x y) := by
  unfold ltOf idCmp
  by_cases h : idLt x y
  · simp [h]
  · by_cases h2 : idLt y x <;> simp [h, h2]
theorem swo_id : SWO (ltOf idCmp) where
  irrefl x := by rw [idLt_cmp]; simp [idLt]
  trans x y z h1 h2 := by
    rw [idLt_cmp] at h1 h2 ⊢
    have h1 := of_decide_eq_true h1
    have h2 := of_decide_eq_true h2
    apply decide_eq_true
    unfold idLt at *
    omega
  ntrans x y z h1 h2 := by
    rw [idLt_cmp] at h1 h2 ⊢
    have h1 := of_decide_eq_false h1
    have h2 := of_decide_eq_false h2
    apply decide_eq_false
    unfold idLt at *
    omega
theorem id_total (x y : Id) (h1 : ltOf idCmp x y = false) (h2 : ltOf idCmp y x = false) : x = y := by
  rw [idLt_cmp] at h1 h2
  have h1 := of_decide_eq_false h1
  have h2 := of_decide_eq_false h2
  unfold idLt at h1 h2
  obtain ⟨a, b⟩ := x
  obtain ⟨c, d⟩ := y
  simp only at h1 h2
  obtain rfl : a = c := by omega
  obtain rfl : b = d := by omega
  rfl
theorem isAgg_id (w : World) : (isAgg 37).run Try.prog w = .ok true w := by kernel_rfl
theorem sizeOf_id (w : World) : (Go.sizeOf 37).run Try.prog w = .ok 2 w := by kernel_rfl
/-- The sort of a row of ids that holds at least one. -/
theorem sort_row (blk off cap : Nat) (d : Array Id) (w : World) (hH : HoldsK encId 2 w blk off d) (hblk : blk < w.heap.size) (hsz : d.size < 4611686018427387904) :
    Calls Try.prog 70 #[.slice (some ⟨blk, off, none⟩) d.size cap, .func (.func 71) #[] #[]] w fun e w' =>
      e = .returned (.tuple #[]) ∧ ∃ n os, w' = sortWorldK encId 2 w blk off n (d.toList.mergeSort fun x y => !(ltOf idCmp) y x).toArray os :=
  AnyQ.slices_SortFunc_total Try.sortId 2 isAgg_id sizeOf_id encId (fun _ => rfl) (fun x v hv => by simp [encId] at hv; rcases hv with rfl | rfl <;> rfl) idCmp swo_id 71 #[] blk off cap d w
    (enters_of Try.func71 (by kernel_rfl) rfl) (fun _ _ _ _ x y => compare_grows x y _) hH hblk hsz id_total
end Go.Proofs.Ytjffghebcaklaaa
