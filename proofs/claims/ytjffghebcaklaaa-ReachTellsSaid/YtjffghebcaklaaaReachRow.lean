/- For every list of records and of ids, and every id: ReachCloses and ReachTells return true and leave what they were handed as it was (ReachClosesSaid, ReachTellsSaid). -/
import Derived.Test.YtjffghebcaklaaaTells
import Derived.Test.YtjffghebcaklaaaRows
import Derived.WalkKit
import Derived.ProofKit
import Derived.OpenShut
import Derived.ShutString
import Derived.ChangeOld
import Derived.Below
import Derived.SizedLaws
import Derived.Carry
import Derived.Deep.Slices
import Derived.Deep.Fields
import Derived.ChangeSame
import Derived.Lib.SmallJoins
namespace Go.Proofs.Ytjffghebcaklaaa
open Go Go.RowKit Go.ChangeShapes Go.WideShapes Go.ChangeAt Go.Deep Go.Proofs.YtjffghebcaklaaaW.PrintWords Go.Proofs.YtjffghebcaklaaaW.PrintLast Go.Proofs.YtjffghebcaklaaaW.PrintMore
set_option linter.unusedVariables false
set_option linter.unusedSimpArgs false
section
variable {H : Type} {enc : TypeId × Value → H} {w : World} {base : Nat} {spare : Nat → Bool} {held : Bool}
theorem opens_int {n : Nat} {cs : List Value} {x : DataW H × List MemPlace} (h : DataW.trod enc Try.prog w base spare held n 3 cs = some x) : ∃ i : Int, cs = [.int .i64 i] := by
  obtain ⟨i, h1, _⟩ := DataW.trod_int Try.underlying3 h
  exact ⟨i, h1⟩
set_option maxRecDepth 100000 in
theorem opens_float0 {n : Nat} {cs : List Value} {x : DataW H × List MemPlace} (h : DataW.trod enc Try.prog w base spare held n 113 cs = some x) : ∃ b : Nat, cs = [.float .f64 b] ∧ (Lit.float .f64 b).wf = true := by
  cases n with
  | zero => simp [DataW.trod] at h
  | succ n =>
    unfold DataW.trod at h
    rw [Try.underlying113] at h
    split at h
    all_goals first
      | contradiction
      | (rename_i he
         injection he with he
         injection he with he
         subst he
         split at h
         · rename_i hw
           exact ⟨_, by rw [hw.1], hw.2⟩
         · cases h)
      | (rename_i he _; injection he with he; cases he)
      | (rename_i he; injection he with he; cases he)
      | (cases h)
set_option maxRecDepth 100000 in
theorem opens_float {n : Nat} {cs : List Value} {x : DataW H × List MemPlace} (h : DataW.trod enc Try.prog w base spare held n 113 cs = some x) : ∃ b : Nat, cs = [.float .f64 b] ∧ b < 18446744073709551616 := by
  obtain ⟨b, h1, h2⟩ := opens_float0 h
  exact ⟨b, h1, of_decide_eq_true h2⟩
theorem take2 {cs : List Value} (h : cs.length = 2) : ∃ a b, cs = [a, b] := by
  match cs, h with
  | [a, b], _ => exact ⟨a, b, rfl⟩
theorem take3 {cs : List Value} (h : cs.length = 3) : ∃ a b c, cs = [a, b, c] := by
  match cs, h with
  | [a, b, c], _ => exact ⟨a, b, c, rfl⟩
theorem take5 {cs : List Value} (h : cs.length = 5) : ∃ a b c d e, cs = [a, b, c, d, e] := by
  match cs, h with
  | [a, b, c, d, e], _ => exact ⟨a, b, c, d, e, rfl⟩
theorem some_at {α : Type} {xs : List α} {i : Nat} (h : i < xs.length) : ∃ x, xs[i]? = some x := ⟨_, List.getElem?_eq_getElem h⟩
theorem opens_id {n : Nat} {cs : List Value} {x : DataW H × List MemPlace} (h : DataW.trod enc Try.prog w base spare held n 37 cs = some x) : ∃ y : Id, kId.K w y cs ∧ True := by
  obtain ⟨xs, m, _, _, hl, hxl, hf⟩ := DataW.trod_struct Try.underlying37 h
  have hl2 : cs.length = 2 := hl.trans (by kernel_rfl)
  obtain ⟨a, b, rfl⟩ := take2 hl2
  have c1 : Try.prog.cellsOf 3 = 1 := by kernel_rfl
  have hx : xs.length = 2 := hxl
  obtain ⟨y0, e0⟩ := some_at (xs := xs) (i := 0) (by omega)
  obtain ⟨y1, e1⟩ := some_at (xs := xs) (i := 1) (by omega)
  have f0 : DataW.trod enc Try.prog w base spare held m 3 (([a, b].drop 0).take (Try.prog.cellsOf 3)) = xs[0]? := hf 0 _ rfl
  rw [c1, e0] at f0
  have f1 : DataW.trod enc Try.prog w base spare held m 3 (([a, b].drop 1).take (Try.prog.cellsOf 3)) = xs[1]? := hf 1 _ rfl
  rw [c1, e1] at f1
  obtain ⟨i, hi⟩ := opens_int f0
  obtain ⟨j, hj⟩ := opens_int f1
  simp at hi hj
  subst hi hj
  exact ⟨⟨i, j⟩, PRef.k37_mk w ⟨i, j⟩, trivial⟩
theorem opens_cmd {n : Nat} {cs : List Value} {x : DataW H × List MemPlace} (h : DataW.trod enc Try.prog w base spare held n 115 cs = some x) : ∃ y : Cmd, kCmd.K w y cs ∧ CmdW y := by
  obtain ⟨xs, m, _, _, hl, hxl, hf⟩ := DataW.trod_struct Try.underlying115 h
  have hl2 : cs.length = 3 := hl.trans (by kernel_rfl)
  obtain ⟨a, b, c, rfl⟩ := take3 hl2
  have c1 : Try.prog.cellsOf 3 = 1 := by kernel_rfl
  have c2 : Try.prog.cellsOf 9 = 1 := by kernel_rfl
  have c3 : Try.prog.cellsOf 113 = 1 := by kernel_rfl
  have hx : xs.length = 3 := hxl
  obtain ⟨y0, e0⟩ := some_at (xs := xs) (i := 0) (by omega)
  obtain ⟨y1, e1⟩ := some_at (xs := xs) (i := 1) (by omega)
  obtain ⟨y2, e2⟩ := some_at (xs := xs) (i := 2) (by omega)
  have f0 : DataW.trod enc Try.prog w base spare held m 3 (([a, b, c].drop 0).take (Try.prog.cellsOf 3)) = xs[0]? := hf 0 _ rfl
  rw [c1, e0] at f0
  have f1 : DataW.trod enc Try.prog w base spare held m 9 (([a, b, c].drop 1).take (Try.prog.cellsOf 9)) = xs[1]? := hf 1 _ rfl
  rw [c2, e1] at f1
  have f2 : DataW.trod enc Try.prog w base spare held m 113 (([a, b, c].drop 2).take (Try.prog.cellsOf 113)) = xs[2]? := hf 2 _ rfl
  rw [c3, e2] at f2
  obtain ⟨i, hi⟩ := opens_int f0
  obtain ⟨s, hs, _, hsz⟩ := DataW.trod_string Try.underlying9 f1
  obtain ⟨v, hv, hb⟩ := opens_float f2
  simp at hi hs hv
  subst hi hs hv
  exact ⟨⟨i, s, v⟩, PRef.k115_mk w ⟨i, s, v⟩, by unfold maxLen at hsz; show s.size ≤ _; omega, hb⟩
theorem opens_slice {α : Type} {d : Kd α} {t e : TypeId} (Q : α → Prop) (ht : Try.prog.underlying t = some (.slice e)) (hC : Try.prog.cellsOf e = d.sz)
    (hE : ∀ {n : Nat} {cs : List Value} {x : DataW H × List MemPlace}, DataW.trod enc Try.prog w base spare held n e cs = some x → ∃ y : α, d.K w y cs ∧ Q y)
    {n : Nat} {cs : List Value} {x : DataW H × List MemPlace} (h : DataW.trod enc Try.prog w base spare held n t cs = some x) :
    ∃ A c ys, cs = [.slice A ys.length c] ∧ ys.length ≤ c ∧ d.C w A ys.length ys ∧ ∀ y ∈ ys, Q y := by
  rcases open_slice ht h with ⟨rfl, _⟩ | ⟨a, len, cap, m, n, D, Pl, rfl, hb, hl, hm, hmm, _, hi⟩
  · exact ⟨none, 0, [], rfl, Nat.le_refl _, ⟨rfl, by simp, fun h => absurd h (by simp)⟩, by simp⟩
  · have hlm : len ≤ m := by rw [hmm]; split <;> omega
    have hall : ∀ i : Fin len, ∃ y : α, Q y ∧ ∃ c, c.length = d.sz ∧ d.K w y c ∧ ∀ j u, c[j]? = some u → w.cell? (a.add (i.val * d.sz + j)) = some u := by
      intro i
      obtain ⟨cs', hc, hd⟩ := hi i.val (by omega)
      obtain ⟨y, hK, hQ⟩ := hE hd
      obtain ⟨_, hcl, hat⟩ := World.cells?_some hc
      rw [hC] at hcl hat
      refine ⟨y, hQ, cs', hcl, hK, fun j u hj => ?_⟩
      have hjl : j < d.sz := by rw [← hcl]; exact (List.getElem?_eq_some_iff.1 hj).1
      rw [← Go.Deep.add_add, hat j hjl, hj]
    have hch : ∃ f : Fin len → α, ∀ i, Q (f i) ∧ ∃ c, c.length = d.sz ∧ d.K w (f i) c ∧ ∀ j u, c[j]? = some u → w.cell? (a.add (i.val * d.sz + j)) = some u :=
      ⟨fun i => Classical.choose (hall i), fun i => Classical.choose_spec (hall i)⟩
    obtain ⟨f, hf⟩ := hch
    refine ⟨some a, cap, List.ofFn f, by simp, by simpa using hl, ⟨rfl, by unfold maxLen at hm; simp; omega, fun _ => ⟨a, rfl, fun j p hj => ?_⟩⟩, fun y hy => ?_⟩
    · obtain ⟨hjl, hjp⟩ := List.getElem?_eq_some_iff.1 hj
      have hjn : j < len := by simpa using hjl
      have : f ⟨j, hjn⟩ = p := by rw [← hjp]; simp
      rw [← this]
      exact (hf ⟨j, hjn⟩).2
    · obtain ⟨i, hi⟩ := (List.mem_ofFn).1 hy
      exact hi ▸ (hf i).1
theorem opens_rec {n : Nat} {cs : List Value} {x : DataW H × List MemPlace} (h : DataW.trod enc Try.prog w base spare held n 49 cs = some x) : ∃ y : Rec, kRec.K w y cs ∧ RecW y := by
  obtain ⟨xs, m, _, _, hl, hxl, hf⟩ := DataW.trod_struct Try.underlying49 h
  have hl2 : cs.length = 5 := hl.trans (by kernel_rfl)
  obtain ⟨a, b, c, p, q, rfl⟩ := take5 hl2
  have c0 : Try.prog.cellsOf 37 = 2 := by kernel_rfl
  have c1 : Try.prog.cellsOf 3 = 1 := by kernel_rfl
  have c2 : Try.prog.cellsOf 23 = 1 := by kernel_rfl
  have c3 : Try.prog.cellsOf 47 = 1 := by kernel_rfl
  have hx : xs.length = 4 := hxl
  obtain ⟨y0, e0⟩ := some_at (xs := xs) (i := 0) (by omega)
  obtain ⟨y1, e1⟩ := some_at (xs := xs) (i := 1) (by omega)
  obtain ⟨y2, e2⟩ := some_at (xs := xs) (i := 2) (by omega)
  obtain ⟨y3, e3⟩ := some_at (xs := xs) (i := 3) (by omega)
  have f0 : DataW.trod enc Try.prog w base spare held m 37 (([a, b, c, p, q].drop 0).take (Try.prog.cellsOf 37)) = xs[0]? := hf 0 _ rfl
  rw [c0, e0] at f0
  have f1 : DataW.trod enc Try.prog w base spare held m 3 (([a, b, c, p, q].drop 2).take (Try.prog.cellsOf 3)) = xs[1]? := hf 1 _ rfl
  rw [c1, e1] at f1
  have f2 : DataW.trod enc Try.prog w base spare held m 23 (([a, b, c, p, q].drop 3).take (Try.prog.cellsOf 23)) = xs[2]? := hf 2 _ rfl
  rw [c2, e2] at f2
  have f3 : DataW.trod enc Try.prog w base spare held m 47 (([a, b, c, p, q].drop 4).take (Try.prog.cellsOf 47)) = xs[3]? := hf 3 _ rfl
  rw [c3, e3] at f3
  obtain ⟨i, hi, _⟩ := opens_id f0
  obtain ⟨j, hj⟩ := opens_int f1
  obtain ⟨A3, k3, l3, h3, g3, hC3, _⟩ := opens_slice (d := kId) (fun _ => True) Try.underlying23 (by kernel_rfl) opens_id f2
  obtain ⟨A4, k4, l4, h4, g4, hC4, hq⟩ := opens_slice (d := kCmd) CmdW Try.underlying47 (by kernel_rfl) opens_cmd f3
  have hi' := PRef.k37_open hi
  simp at hi' hj h3 h4
  obtain ⟨rfl, rfl⟩ := hi'
  subst hj h3 h4
  exact ⟨⟨i, j, l3, l4⟩, PRef.k49_mk w ⟨i, j, l3, l4⟩ g3 hC3 g4 hC4, ⟨hC3.2.1, hC4.2.1, hq⟩⟩
end
end Go.Proofs.Ytjffghebcaklaaa

namespace Go.Proofs.Ytjffghebcaklaaa
open Go Go.RowKit Go.ChangeShapes Go.WideShapes Go.ChangeAt Go.Proofs.YtjffghebcaklaaaW.PrintWords Go.Proofs.YtjffghebcaklaaaW.PrintLast Go.Proofs.YtjffghebcaklaaaW.PrintMore
set_option linter.unusedVariables false
theorem own : ownKnob Try.prog.godebug = none := by kernel_rfl
theorem laidOut : laidOutB Try.prog = true := by kernel_rfl
section
variable {H : Type} {enc : TypeId × Value → H} {W : World} {base : Nat} {v : Value} {d : DataW H} {p : List MemPlace}
set_option maxRecDepth 100000 in
theorem arg_recs (hv : Value.okWide Try.prog W .any base 22 v) (h : DataW.Trod enc Try.prog W 0 (fun _ => true) true 22 v d p) : ∃ A c rs, v = .slice A (rs : List Rec).length c ∧ rs.length ≤ c ∧ Kd.C kRec W A rs.length rs ∧ ∀ r ∈ rs, RecW r := by
  obtain ⟨a, len, cap, rfl⟩ := okWide_slice Try.underlying22 hv
  obtain ⟨n, hn⟩ := h
  obtain ⟨A, c, ys, hcs, hle, hC, hq⟩ := opens_slice (d := kRec) RecW Try.underlying22 (by kernel_rfl) opens_rec hn
  exact ⟨A, c, ys, by simpa [Value.cells] using hcs, hle, hC, hq⟩
set_option maxRecDepth 100000 in
theorem arg_ids (hv : Value.okWide Try.prog W .any base 23 v) (h : DataW.Trod enc Try.prog W 0 (fun _ => true) true 23 v d p) : ∃ A c xs, v = .slice A (xs : List Id).length c ∧ xs.length ≤ c ∧ Kd.C kId W A xs.length xs := by
  obtain ⟨a, len, cap, rfl⟩ := okWide_slice Try.underlying23 hv
  obtain ⟨n, hn⟩ := h
  obtain ⟨A, c, ys, hcs, hle, hC, _⟩ := opens_slice (d := kId) (fun _ => True) Try.underlying23 (by kernel_rfl) opens_id hn
  exact ⟨A, c, ys, by simpa [Value.cells] using hcs, hle, hC⟩
set_option maxRecDepth 100000 in
theorem arg_id (hv : Value.okWide Try.prog W .any base 37 v) (h : DataW.Trod enc Try.prog W 0 (fun _ => true) true 37 v d p) : ∃ x : Id, v = .agg #[.int .i64 x.f0, .int .i64 x.f1] := by
  obtain ⟨cs, rfl, _⟩ := okWide_struct Try.underlying37 hv
  obtain ⟨n, hn⟩ := h
  obtain ⟨y, hK, _⟩ := opens_id hn
  have := PRef.k37_open hK
  refine ⟨y, ?_⟩
  simp only [Value.cells] at this
  rw [← Array.toArray_toList (xs := cs), this]
end
set_option maxRecDepth 100000 in
theorem closes_lifted (os : Os) (started : os.Started) (H : Type) (enc : TypeId × Value → H) :
    ReturnsInHanded {} Try.checked os 3 .any (Rows.reachClosesSpec.pre6 enc Try.prog Try.f3 Rows.reachClosesRow.domain false) (Rows.reachClosesSpec.post enc Try.prog Try.f3 false true false false) := by
  refine returnsInHanded_of_change_sized (C := Try.checked) own started (by kernel_rfl) Try.func3
    (ChangeSpec.witness6 (enc := enc) (C := Try.checked) false ⟨#[], #[.slice none 0 0, .slice none 0 0], []⟩ 8 (by kernel_rfl) (by kernel_rfl) (by kernel_rfl) (by kernel_rfl)) ?_
  intro W base args ds gs before hval0 hW hcnd hsz0 _
  have hval : ∀ (j : Nat) t v, Try.f3.params[j]? = some t → args[j]? = some v → Value.okWide Try.prog W .any base t v := hval0
  have hW' := hW
  obtain ⟨p, q, hA0, hV, rfl, hfz, hnd⟩ := hW
  have hA : DataW.TrodAll enc Try.prog W 0 (fun _ => true) true Try.f3.params.toList args.toList ds p := hA0
  rw [Try.params3] at hA hval
  obtain ⟨v0, vs0, d0, ds0, p0, q0, hargs, rfl, rfl, h0, r0⟩ := trodAll_cons hA
  obtain ⟨v1, vs1, d1, ds1, p1, q1, rfl, rfl, rfl, h1, r1⟩ := trodAll_cons r0
  obtain ⟨rfl, rfl, rfl⟩ := trodAll_nil r1
  obtain rfl : args = #[v0, v1] := by cases args; simp_all
  obtain ⟨rfl, rfl⟩ := trodVars_none hV
  obtain ⟨A, c, rs, rfl, hc, hC, hw⟩ := arg_recs (hval 0 22 v0 rfl rfl) h0
  obtain ⟨A', c', l, rfl, hc', hC'⟩ := arg_ids (hval 1 23 v1 rfl rfl) h1
  have lt0 : ∀ x ∈ p0, x.block < W.heap.size := by obtain ⟨m, hm⟩ := h0; exact DataW.trod_lt m _ _ _ hm
  have lt1 : ∀ x ∈ p1, x.block < W.heap.size := by obtain ⟨m, hm⟩ := h1; exact DataW.trod_lt m _ _ _ hm
  clear hA0 hval0 hsz0
  refine (closes_calls rs A c l A' c' W hC hc hC' hc' hw).mono fun e W' ⟨he, bel⟩ => ?_
  subst he
  exact ⟨_, rfl, _, _, _, [], _, [], hW', trodAll_mk1 (shut_bool Try.underlying4 _), (trodAll_cons_mk (Below.trod laidOut (by kernel_rfl) (of_decide_eq_true (by kernel_rfl)) h0 bel lt0) (trodAll_cons_mk (Below.trod laidOut (by kernel_rfl) (of_decide_eq_true (by kernel_rfl)) h1 bel lt1) trodAll_mk0)), rfl, bel.frame _, fun h => by cases h⟩
theorem reachCloses_holds : Rows.ReachClosesSaid :=
  OpenClaim.holds_of_wide 3 Try.f3 rfl rfl rfl rfl rfl rfl rfl ⟨rfl, rfl, rfl, rfl, rfl⟩ rfl rfl rfl rfl rfl (by kernel_rfl) Try.func3 (by kernel_rfl)
    (of_decide_eq_true (by kernel_rfl)) (by unfold Func.isWrapper; first | (rw [if_pos (by decide +kernel)]; kernel_rfl) | (rw [if_neg (by decide +kernel)]; exact ⟨rfl, rfl⟩))
    (fun os started H enc _ => closes_lifted os started H enc)
#print axioms reachCloses_holds
set_option maxRecDepth 100000 in
theorem tells_lifted (os : Os) (started : os.Started) (H : Type) (enc : TypeId × Value → H) :
    ReturnsInHanded {} Try.checked os 4 .any (Rows.reachTellsSpec.pre6 enc Try.prog Try.f4 Rows.reachTellsRow.domain false) (Rows.reachTellsSpec.post enc Try.prog Try.f4 false true false false) := by
  refine returnsInHanded_of_change_sized (C := Try.checked) own started (by kernel_rfl) Try.func4
    (ChangeSpec.witness6 (enc := enc) (C := Try.checked) false ⟨#[], #[.slice none 0 0, .slice none 0 0, .agg #[.int .i64 0, .int .i64 0]], []⟩ 8 (by kernel_rfl) (by kernel_rfl) (by kernel_rfl) (by kernel_rfl)) ?_
  intro W base args ds gs before hval0 hW hcnd hsz0 _
  have hval : ∀ (j : Nat) t v, Try.f4.params[j]? = some t → args[j]? = some v → Value.okWide Try.prog W .any base t v := hval0
  have hW' := hW
  obtain ⟨p, q, hA0, hV, rfl, hfz, hnd⟩ := hW
  have hA : DataW.TrodAll enc Try.prog W 0 (fun _ => true) true Try.f4.params.toList args.toList ds p := hA0
  rw [Try.params4] at hA hval
  obtain ⟨v0, vs0, d0, ds0, p0, q0, hargs, rfl, rfl, h0, r0⟩ := trodAll_cons hA
  obtain ⟨v1, vs1, d1, ds1, p1, q1, rfl, rfl, rfl, h1, r1⟩ := trodAll_cons r0
  obtain ⟨v2, vs2, d2, ds2, p2, q2, rfl, rfl, rfl, h2, r2⟩ := trodAll_cons r1
  obtain ⟨rfl, rfl, rfl⟩ := trodAll_nil r2
  obtain rfl : args = #[v0, v1, v2] := by cases args; simp_all
  obtain ⟨rfl, rfl⟩ := trodVars_none hV
  obtain ⟨A, c, rs, rfl, hc, hC, hw⟩ := arg_recs (hval 0 22 v0 rfl rfl) h0
  obtain ⟨A', c', l, rfl, hc', hC'⟩ := arg_ids (hval 1 23 v1 rfl rfl) h1
  obtain ⟨b, rfl⟩ := arg_id (hval 2 37 v2 rfl rfl) h2
  have lt0 : ∀ x ∈ p0, x.block < W.heap.size := by obtain ⟨m, hm⟩ := h0; exact DataW.trod_lt m _ _ _ hm
  have lt1 : ∀ x ∈ p1, x.block < W.heap.size := by obtain ⟨m, hm⟩ := h1; exact DataW.trod_lt m _ _ _ hm
  have lt2 : ∀ x ∈ p2, x.block < W.heap.size := by obtain ⟨m, hm⟩ := h2; exact DataW.trod_lt m _ _ _ hm
  clear hA0 hval0 hsz0
  refine (tells_calls rs A c l A' c' b W hC hc hC' hc' hw).mono fun e W' ⟨he, bel⟩ => ?_
  subst he
  exact ⟨_, rfl, _, _, _, [], _, [], hW', trodAll_mk1 (shut_bool Try.underlying4 _), (trodAll_cons_mk (Below.trod laidOut (by kernel_rfl) (of_decide_eq_true (by kernel_rfl)) h0 bel lt0) (trodAll_cons_mk (Below.trod laidOut (by kernel_rfl) (of_decide_eq_true (by kernel_rfl)) h1 bel lt1) (trodAll_cons_mk (Below.trod laidOut (by kernel_rfl) (of_decide_eq_true (by kernel_rfl)) h2 bel lt2) trodAll_mk0))), rfl, bel.frame _, fun h => by cases h⟩
theorem reachTells_holds : Rows.ReachTellsSaid :=
  OpenClaim.holds_of_wide 4 Try.f4 rfl rfl rfl rfl rfl rfl rfl ⟨rfl, rfl, rfl, rfl, rfl⟩ rfl rfl rfl rfl rfl (by kernel_rfl) Try.func4 (by kernel_rfl)
    (of_decide_eq_true (by kernel_rfl)) (by unfold Func.isWrapper; first | (rw [if_pos (by decide +kernel)]; kernel_rfl) | (rw [if_neg (by decide +kernel)]; exact ⟨rfl, rfl⟩))
    (fun os started H enc _ => tells_lifted os started H enc)
#print axioms reachTells_holds
end Go.Proofs.Ytjffghebcaklaaa
