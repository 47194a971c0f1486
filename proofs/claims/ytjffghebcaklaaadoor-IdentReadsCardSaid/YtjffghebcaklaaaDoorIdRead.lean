/- ident.Read. -/
import Derived.Test.YtjffghebcaklaaaDoorIdD
namespace Go.Proofs.YtjffghebcaklaaaDoor
open Go Go.RowKit Go.Proofs.YtjffghebcaklaaaDoorW.PrintWords Go.Proofs.YtjffghebcaklaaaDoorW.PrintLast Go.Proofs.YtjffghebcaklaaaDoorW.PrintMore
set_option linter.unusedVariables false
set_option linter.unusedSimpArgs false
/-- strconv.Atoi at any text, in one. -/
def atoiV (l : List UInt8) : Int := match Lib.atoiAll l with | .ok v => v | .range => Lib.atoiSat l | _ => 0
def atoiOk (l : List UInt8) : Bool := match Lib.atoiAll l with | .ok _ => true | _ => false
/-- nil, or an error's pointer. -/
def errP (b : Bool) (N : Nat) : Value := if b then .nilIface else .iface 96 (.pointer (some ⟨N, 0, none⟩))
theorem atoi_ends (l : List UInt8) : (∃ v, Lib.atoiAll l = .ok v) ∨ Lib.atoiAll l = .range ∨ Lib.atoiAll l = Lib.atoiAll [] := by
  cases h : Lib.atoiAll l
  · exact Or.inl ⟨_, rfl⟩
  · exact Or.inr (Or.inr rfl)
  · exact Or.inr (Or.inl rfl)
theorem atoi_calls (s : ByteArray) (hs : s.size ≤ 4294967280) (w : World) (S : St w) :
    Calls Tryd.prog 38 #[.string s] w fun e w' => ∃ N, e = .returned (.tuple #[.int .i64 (atoiV s.data.toList), errP (atoiOk s.data.toList) N]) ∧ Below w.heap.size w w' := by
  rcases atoi_ends s.data.toList with ⟨v, h⟩ | h | h
  · refine (Tryd.strconv_Atoi_ok s (by omega) v h w).mono ?_
    rintro e w' ⟨he, hw⟩
    refine ⟨0, by rw [he]; simp [atoiV, atoiOk, errP, h], ?_⟩
    rcases hw with rfl | ⟨t, rfl⟩
    · exact Below.refl _ _
    · exact bytes_below (Below.refl _ _) (Nat.le_refl _) _ _
  · obtain ⟨t, p, hv⟩ := S.rng
    refine (Tryd.strconv_Atoi_range s (by omega) h _ w hv (Or.inr ⟨t, p, rfl⟩)).mono ?_
    rintro e w' ⟨N, he, _, _, hb⟩
    exact ⟨N, by rw [he]; simp [atoiV, atoiOk, errP, h], hb⟩
  · obtain ⟨t, p, hv⟩ := S.syn
    refine (Tryd.strconv_Atoi_syntax s (by omega) h _ w hv (Or.inr ⟨t, p, rfl⟩)).mono ?_
    rintro e w' ⟨N, he, _, _, hb⟩
    refine ⟨N, ?_, hb⟩
    rw [he]
    unfold atoiV atoiOk
    rw [h]
    rfl
theorem cut_calls (s sep : ByteArray) (hs : s.size < 4294967281) (w : World) (S : St w) :
    Calls Tryd.prog 37 #[.string s, .string sep] w fun e w' => e = .returned (.tuple #[.string ⟨(Lib.cut s.data.toList sep.data.toList).1.toArray⟩, .string ⟨(Lib.cut s.data.toList sep.data.toList).2.1.toArray⟩, .bool (Lib.cut s.data.toList sep.data.toList).2.2]) ∧ Below w.heap.size w w' := by
  obtain ⟨m, hm⟩ := S.max
  exact (Tryd.strings_Cut s sep m w hs hm).mono fun e w' ⟨he, n, hw⟩ => ⟨he, by rw [hw]; exact pw_below_drewN (Below.refl _ _) n⟩
def cutA (s : ByteArray) : List UInt8 := (Lib.cut s.data.toList [46]).1
def cutB (s : ByteArray) : List UInt8 := (Lib.cut s.data.toList [46]).2.1
/-- Is the text no id's? -/
def readBad (s : ByteArray) : Bool := !atoiOk (cutA s) || !atoiOk (cutB s) || s.size == 0 || textS (atoiV (cutA s)) (atoiV (cutB s)) != s
def readW (s : ByteArray) : Value := if readBad s then .tuple #[.agg #[.int .i64 0, .int .i64 0], .int .i64 3] else .tuple #[.agg #[.int .i64 (atoiV (cutA s)), .int .i64 (atoiV (cutB s))], .int .i64 0]
theorem cut_size (s : ByteArray) : (cutA s).length ≤ s.size ∧ (cutB s).length ≤ s.size := by
  unfold cutA cutB Lib.cut
  have : s.data.toList.length = s.size := rfl
  split <;> simp <;> omega
theorem at_old {w : World} {n : Nat} {o : Obj} (h : w.heap[n]? = some o) (o' : Obj) : (w.alloc o').heap[n]? = some o := (Below.heap_alloc w o' n (Array.getElem?_eq_some_iff.1 h).1).trans h
theorem set2 {w : World} {b : Nat} {z0 z1 v0 v1 : Value} {t : TypeId} (h : w.heap[b]? = some (.cells #[z0, z1] t (0, 0))) : ((w.setCell ⟨b, 0, none⟩ v0).setCell ⟨b, 1, none⟩ v1).heap[b]? = some (.cells #[v0, v1] t (0, 0)) := by
  have st : ∀ (W : World) (j : Nat) (u : Value) (cs : Array Value), W.heap[b]? = some (.cells cs t (0, 0)) → (W.setCell ⟨b, j, none⟩ u).heap[b]? = some (.cells (cs.setIfInBounds j u) t (0, 0)) := fun W j u cs hc => by
    simp [World.setCell, Array.getElem?_modify, hc]
  exact st _ 1 _ _ (st _ 0 _ _ h)
theorem results_two_row {P : Program} {fn : Func} {p u : Tmp} {ty : TypeId} (h : fn.results = #[.cell p ty, .tmp u]) (tmps : Array Value) (w : World) (g : Nat) (t : TypeId) (cs : Array Value) (fr : Nat × Nat) (d : TypeDesc)
    (hp : tmps.getD p undef = .pointer (some ⟨g, 0, none⟩)) (hg : w.heap[g]? = some (.cells cs t fr))
    (hu : P.underlying ty = some d) (hd : (match d with | .struct _ | .array _ _ => true | _ => false) = true) (hi : (P.info? ty).map (·.size) = some cs.size) :
    (results fn tmps).run P w = .ok (.tuple #[.agg cs, tmps.getD u undef]) w := by
  rw [results_cell_tmp h, hp]
  simp [asAddr, Result.andThen, run_loadVar_row w g t ty cs fr d hg hu hd hi]
theorem errP_true (N : Nat) : errP true N = .nilIface := rfl
theorem errP_false (N : Nat) : errP false N = .iface 96 (.pointer (some ⟨N, 0, none⟩)) := rfl
set_option maxRecDepth 100000 in
set_option maxHeartbeats 1600000 in
theorem read_core (s aB bB tx : ByteArray) (c oa ob : Bool) (va vb : Int) (w : World)
    (S : ∀ (W : World), Below w.heap.size w W → St W)
    (hC : ∀ W, St W → Calls Tryd.prog 37 #[.string s, .string ⟨#[46]⟩] W fun e w' => e = .returned (.tuple #[.string aB, .string bB, .bool c]) ∧ Below W.heap.size W w')
    (hA : ∀ W, St W → Calls Tryd.prog 38 #[.string aB] W fun e w' => ∃ N, e = .returned (.tuple #[.int .i64 va, errP oa N]) ∧ Below W.heap.size W w')
    (hB : ∀ W, St W → Calls Tryd.prog 38 #[.string bB] W fun e w' => ∃ N, e = .returned (.tuple #[.int .i64 vb, errP ob N]) ∧ Below W.heap.size W w')
    (hT : ∀ W, St W → Calls Tryd.prog 12 #[.agg #[.int .i64 va, .int .i64 vb]] W fun e w' => e = .returned (.string tx) ∧ Below W.heap.size W w') :
    Calls Tryd.prog 14 #[.string s] w fun e w' => e = .returned (if !oa || !ob || s.toList.isEmpty || !(tx.toList == s.toList) then .tuple #[.agg #[.int .i64 0, .int .i64 0], .int .i64 3] else .tuple #[.agg #[.int .i64 va, .int .i64 vb], .int .i64 0]) ∧ Below w.heap.size w w' := by
  cases oa <;> cases ob <;> simp only [errP_true, errP_false] at hA hB
  all_goals
    have hA' := Aside0.mk hA
    have hB' := Aside0.mk hB
    have hC' := Aside0.mk hC
    have hT' := Aside0.mk hT
    have S' := Aside0.mk S
    clear hA hB hC hT S
    go_enter Tryd.func14, Tryd.ntmps14
    go_wp2_with (first
      | (go_at_call 37; refine (hC'.out _ (S'.out _ (by (repeat (first | exact Below.refl _ _ | apply below_alloc))))).mono ?_; rintro e w1 ⟨rfl, hb1⟩
         have hq1 := Aside0.mk (below_then (below_alloc (Below.refl w.heap.size w) _) (by simp) hb1)
         have hx1 := Aside0.mk ((hb1.block w.heap.size (by simp)).trans (heap_alloc_new w _)); clear hb1)
      | (go_at_call_of 38 aB; refine (hA'.out _ (S'.out _ hq1.out)).mono ?_; rintro e w2 ⟨N2, rfl, hb2⟩
         have hq2 := Aside0.mk (below_step hq1.out hb2)
         have hx2 := Aside0.mk ((hb2.block w.heap.size (Array.getElem?_eq_some_iff.1 hx1.out).1).trans hx1.out); clear hb2)
      | (go_at_call_of 38 bB; refine (hB'.out _ (S'.out _ hq2.out)).mono ?_; rintro e w3 ⟨N3, rfl, hb3⟩
         have hq3 := Aside0.mk (below_step hq2.out hb3)
         have hx3 := ((hb3.block w.heap.size (Array.getElem?_eq_some_iff.1 hx2.out).1).trans hx2.out)
         have hlt3 : w.heap.size < w3.heap.size := (Array.getElem?_eq_some_iff.1 hx3).1
         have c30 := cell_of_row w3 w.heap.size 0 _ _ _ hx3
         have c31 := cell_of_row w3 w.heap.size 1 _ _ _ hx3
         have f30 : w3.frozen? ⟨w.heap.size, 0, none⟩ = false := by simp [World.frozen?, hx3]
         have f31 : w3.frozen? ⟨w.heap.size, 1, none⟩ = false := by simp [World.frozen?, hx3]
         have hx3 := Aside0.mk hx3
         clear hb3)
      | (go_at_call 12; refine (hT'.out _ (S'.out _ (below_alloc hq3.out _))).mono ?_; rintro e w4 ⟨rfl, hb4⟩
         have hq4 := Aside0.mk (below_step (below_alloc hq3.out _) hb4)
         have hx4 := (hb4.block w.heap.size (by simp; omega)).trans (at_old hx3.out _)
         have hlt4 : w.heap.size < w4.heap.size := (Array.getElem?_eq_some_iff.1 hx4).1
         have hy4 := (hb4.block w3.heap.size (by simp)).trans (heap_alloc_new w3 _)
         have hlt5 : w3.heap.size < w4.heap.size := (Array.getElem?_eq_some_iff.1 hy4).1
         have c40 := cell_of_row w4 w.heap.size 0 _ _ _ hx4
         have c41 := cell_of_row w4 w.heap.size 1 _ _ _ hx4
         have f40 : w4.frozen? ⟨w.heap.size, 0, none⟩ = false := by simp [World.frozen?, hx4]
         have f41 : w4.frozen? ⟨w.heap.size, 1, none⟩ = false := by simp [World.frozen?, hx4]
         have d40 := cell_of_row w4 w3.heap.size 0 _ _ _ hy4
         have d41 := cell_of_row w4 w3.heap.size 1 _ _ _ hy4
         have hx4 := Aside0.mk hx4
         clear hb4 hy4))
    all_goals
      first
        | (refine bodyPost_ret (results_two_row rfl _ _ w.heap.size 23 #[_, _] (0, 0) _ rfl (by first | exact at_old (set2 hx3.out) _ | exact set2 hx4.out | exact set2 (at_old hx3.out _)) Tryd.underlying23 rfl (by kernel_rfl)) rfl ⟨rfl, ?_⟩
           repeat (first | exact hq4.out | exact hq3.out | apply below_alloc | refine below_set ?_ (Nat.le_refl _)))
        | (exfalso; rename_i h; clear hA' hB' hC' hT' S'; simp_all; done)
end Go.Proofs.YtjffghebcaklaaaDoor
