/- A graph's pointer, nil too: Has, Record, Ids, Missing, Users. -/
import Derived.Test.YtjffghebcaklaaaGrec
namespace Go.Proofs.Ytjffghebcaklaaa
open Go Go.RowKit Go.Lib Go.Sort Go.Proofs.YtjffghebcaklaaaW.PrintWords Go.Proofs.YtjffghebcaklaaaW.PrintLast Go.Proofs.YtjffghebcaklaaaW.PrintMore
set_option linter.unusedVariables false
set_option linter.unusedSimpArgs false
attribute [local go_sem] run_store_float
/-- p is a graph of the records rs, or nil and there are none. -/
def GraphP (w : World) (p : Option Addr) (mb : Nat) (rs : List Rec) : Prop := (p = none ∧ rs = []) ∨ ∃ g, p = some ⟨g, 0, none⟩ ∧ GraphAt w g mb rs
theorem GraphP.below {w w' : World} {p : Option Addr} {mb n : Nat} {rs : List Rec} (h : GraphP w p mb rs) (hb : Below n w w') (hn : w.heap.size ≤ n) : GraphP w' p mb rs := by
  rcases h with h | ⟨g, e, h⟩
  · exact .inl h
  · exact .inr ⟨g, e, h.below hb hn⟩
theorem GraphP.once {w : World} {p : Option Addr} {mb : Nat} {rs : List Rec} (h : GraphP w p mb rs) : OnceIds rs := by
  rcases h with ⟨_, rfl⟩ | ⟨g, e, h⟩
  · simp [OnceIds]
  · exact h.recs.once
set_option maxRecDepth 100000 in
set_option maxHeartbeats 800000 in
theorem hasP_nil (x : Id) (w : World) : Calls Try.prog 47 #[.pointer none, .agg #[.int .i64 x.f0, .int .i64 x.f1]] w fun e w' => e = .returned (.bool false) ∧ Below w.heap.size w w' := by
  go_enter Try.func47, Try.ntmps47
  go_wp2
  go_quiet (fail)
  go_wp2
  go_ret
  refine ⟨rfl, ?_⟩
  repeat (first | exact (Below.refl _ _).alloc (Nat.le_refl _) _ | apply pw_below_drewN | apply below_drew1)
theorem hasP_calls {w : World} {p : Option Addr} {mb : Nat} {rs : List Rec} (h : GraphP w p mb rs) (x : Id) :
    Calls Try.prog 47 #[.pointer p, .agg #[.int .i64 x.f0, .int .i64 x.f1]] w fun e w' => e = .returned (.bool (hasRec rs x)) ∧ Below w.heap.size w w' := by
  rcases h with ⟨rfl, rfl⟩ | ⟨g, rfl, h⟩
  · exact hasP_nil x w
  · exact graph_has h x
def zRec : Rec := ⟨⟨0, 0⟩, 0, [], []⟩
theorem recV_zero (w : World) : RecV w noRec zRec := ⟨none, 0, none, 0, rfl, Nat.le_refl _, Nat.le_refl _, ⟨rfl, by simp [zRec], fun h => absurd h (by simp [zRec])⟩, ⟨rfl, by simp [zRec], fun h => absurd h (by simp [zRec])⟩⟩
theorem record_nil (x : Id) (w : World) : Calls Try.prog 69 #[.pointer none, .agg #[.int .i64 x.f0, .int .i64 x.f1]] w fun e w' => e = .returned (.tuple #[noRec, .bool false]) ∧ Below w.heap.size w w' := by
  have hB : Below w.heap.size w ((w.alloc (.cells #[.int .i64 x.f0, .int .i64 x.f1] 37)).alloc (.cells #[.int .i64 0, .int .i64 0, .int .i64 0, .slice none 0 0, .slice none 0 0] 49)) := ((Below.refl _ _).alloc (Nat.le_refl _) _).alloc (by simp) _
  have hcall := hasP_nil x ((w.alloc (.cells #[.int .i64 x.f0, .int .i64 x.f1] 37)).alloc (.cells #[.int .i64 0, .int .i64 0, .int .i64 0, .slice none 0 0, .slice none 0 0] 49))
  have HB := Aside0.mk hB
  clear hB
  go_enter Try.func69, Try.ntmps69
  go_wp2_with (go_at_call 47; refine hcall.mono ?_; rintro e w1 ⟨rfl, hb1⟩; have hz := (hb1.block (w.heap.size + 1) (by simp)).trans (at_new (by simp) (.cells #[.int .i64 0, .int .i64 0, .int .i64 0, .slice none 0 0, .slice none 0 0] 49)); have z0 := cell_of_row _ (w.heap.size + 1) 0 _ _ _ hz; have z1 := cell_of_row _ (w.heap.size + 1) 1 _ _ _ hz; have z2 := cell_of_row _ (w.heap.size + 1) 2 _ _ _ hz; have z3 := cell_of_row _ (w.heap.size + 1) 3 _ _ _ hz; have z4 := cell_of_row _ (w.heap.size + 1) 4 _ _ _ hz; have fz : ∀ j, w1.frozen? ⟨w.heap.size + 1, j, none⟩ = false := fun j => by simp [World.frozen?, hz])
  have HS := Aside0.mk (set5 w1 (w.heap.size + 1) 49 (.int .i64 0) (.int .i64 0) (.int .i64 0) (.slice none 0 0) (.slice none 0 0) (.int .i64 0) (.int .i64 0) (.int .i64 0) (.slice none 0 0) (.slice none 0 0) hz)
  generalize (((((w1.setCell ⟨w.heap.size + 1, 0, none⟩ (.int .i64 0)).setCell ⟨w.heap.size + 1, 1, none⟩ (.int .i64 0)).setCell ⟨w.heap.size + 1, 2, none⟩ (.int .i64 0)).setCell ⟨w.heap.size + 1, 3, none⟩ (.slice none 0 0)).setCell ⟨w.heap.size + 1, 4, none⟩ (.slice none 0 0)) = W5 at HS ⊢
  refine bodyPost_ret (results_two_row rfl _ _ (w.heap.size + 1) 49 #[.int .i64 0, .int .i64 0, .int .i64 0, .slice none 0 0, .slice none 0 0] (0, 0) _ rfl HS.out.1 Try.underlying49 rfl (by kernel_rfl)) rfl ?_
  exact ⟨rfl, (HB.out.trans (hb1.mono HB.out.size)).trans (turned_below HS.out.2 (by omega))⟩
theorem record_calls {w : World} {p : Option Addr} {mb : Nat} {rs : List Rec} (h : GraphP w p mb rs) (x : Id) (hK : ∀ r ∈ rs, r.f2.length ≤ 1048576 ∧ r.f3.length ≤ 1048576) :
    Calls Try.prog 69 #[.pointer p, .agg #[.int .i64 x.f0, .int .i64 x.f1]] w fun e w' => ∃ r v, e = .returned (.tuple #[v, .bool (hasRec rs x)]) ∧ r.f2 = depsOf rs x ∧ (hasRec rs x = true → r ∈ rs ∧ r.f0 = x) ∧ RecV w' v r ∧ Below w.heap.size w w' := by
  rcases h with ⟨rfl, rfl⟩ | ⟨g, rfl, h⟩
  · exact (record_nil x w).mono fun e w' ⟨he, hb⟩ => ⟨zRec, noRec, he, rfl, fun h => (by cases h), recV_zero w', hb⟩
  · cases hx : hasRec rs x with
    | true => exact (record_some h x hx hK).mono fun e w' ⟨r, v, he, hr, hrx, hv, hb⟩ => ⟨r, v, he, by rw [← hrx, depsOf_of h.recs.once hr], fun _ => ⟨hr, hrx⟩, hv, hb⟩
    | false => exact (record_none h x hx).mono fun e w' ⟨he, hb⟩ => ⟨zRec, noRec, he, by rw [depsOf_none hx]; rfl, fun h => (by cases h), recV_zero w', hb⟩
theorem gathered_nil (fnum : Nat) (cap : Array Value) (w : World) : Calls Try.prog 65 #[.pointer none, .func (.func fnum) #[] cap] w fun e w' => e = .returned (.slice none 0 0) ∧ w = w' := by
  go_enter Try.func65, Try.ntmps65
  go_wp2
  go_ret
  exact ⟨rfl, rfl⟩
theorem gath_nil (what : Rec → List Id) : gath [] what = [] := sortIds_of List.Pairwise.nil (fun x => by simp)
theorem nil_C (w : World) : Kd.C kId w none 0 [] := (ownIds_nil w 0).C (by simp)
theorem idsP_calls {w : World} {p : Option Addr} {mb : Nat} {rs : List Rec} (h : GraphP w p mb rs) (hl : rs.length ≤ 1048576) :
    Calls Try.prog 43 #[.pointer p] w fun e w' => ∃ A c, e = .returned (.slice A (gath rs fun r => [r.f0]).length c) ∧ OwnIds w' w.heap.size A c (gath rs fun r => [r.f0]) ∧ Below w.heap.size w w' := by
  rcases h with ⟨rfl, rfl⟩ | ⟨g, rfl, h⟩
  · rw [gath_nil]
    go_enter Try.func43, Try.ntmps43
    go_wp2_with (go_at_call 65; refine (gathered_nil _ _ _).mono ?_; rintro e w1 ⟨rfl, rfl⟩)
    go_ret
    exact ⟨_, _, rfl, ownIds_nil _ _, Below.refl _ _⟩
  · exact ids_calls h hl
theorem missingP_calls {w : World} {p : Option Addr} {mb : Nat} {rs : List Rec} (h : GraphP w p mb rs) (K : Nat) (hK : ∀ r ∈ rs, r.f2.length ≤ K) (hl : rs.length * K ≤ 1048576) (hk : K ≤ 1048576) :
    Calls Try.prog 62 #[.pointer p] w fun e w' => ∃ A c, e = .returned (.slice A (gath rs (missOf rs)).length c) ∧ OwnIds w' w.heap.size A c (gath rs (missOf rs)) ∧ Below w.heap.size w w' := by
  rcases h with ⟨rfl, rfl⟩ | ⟨g, rfl, h⟩
  · rw [gath_nil]
    have hmf : ∀ (fn : Fn) (first cap : Array Value) (w : World), (Instr.makeFunc fn first cap).run Try.prog w = .ok (.func fn first cap) w := fun _ _ _ _ => rfl
    go_enter Try.func62, Try.ntmps62
    go_wp2_with (go_at_call 65; refine (gathered_nil _ _ _).mono ?_; rintro e w1 ⟨rfl, rfl⟩)
    go_ret
    exact ⟨_, _, rfl, ownIds_nil _ _, (Below.refl _ _).alloc (Nat.le_refl _) _⟩
  · exact missing_calls h K hK hl hk
theorem usersP_calls {w : World} {p : Option Addr} {mb : Nat} {rs : List Rec} (h : GraphP w p mb rs) (x : Id) (hl : rs.length ≤ 1048576) :
    Calls Try.prog 64 #[.pointer p, .agg #[.int .i64 x.f0, .int .i64 x.f1]] w fun e w' => ∃ A c, e = .returned (.slice A (gath rs (userOf x)).length c) ∧ OwnIds w' w.heap.size A c (gath rs (userOf x)) ∧ Below w.heap.size w w' := by
  rcases h with ⟨rfl, rfl⟩ | ⟨g, rfl, h⟩
  · rw [gath_nil]
    have hmf : ∀ (fn : Fn) (first cap : Array Value) (w : World), (Instr.makeFunc fn first cap).run Try.prog w = .ok (.func fn first cap) w := fun _ _ _ _ => rfl
    go_enter Try.func64, Try.ntmps64
    go_wp2_with (go_at_call 65; refine (gathered_nil _ _ _).mono ?_; rintro e w1 ⟨rfl, rfl⟩)
    go_ret
    exact ⟨_, _, rfl, ownIds_nil _ _, (Below.refl _ _).alloc (Nat.le_refl _) _⟩
  · exact users_calls h x hl
/-- A pointer in a variable's box. -/
def PtrP (w : World) (b : Nat) (p : Option Addr) : Prop := w.heap[b]? = some (.cells #[.pointer p] 28 (0, 0))
theorem PtrP.c0 {w : World} {b : Nat} {p : Option Addr} (h : PtrP w b p) : w.cell? ⟨b, 0, none⟩ = some (.pointer p) := cell_of_row w b 0 _ _ _ h
theorem PtrP.lt {w : World} {b : Nat} {p : Option Addr} (h : PtrP w b p) : b < w.heap.size := (Array.getElem?_eq_some_iff.1 h).1
theorem PtrP.below {w w' : World} {b n : Nat} {p : Option Addr} (h : PtrP w b p) (hb : Below n w w') (hn : w.heap.size ≤ n) : PtrP w' b p := (hb.block b (Nat.lt_of_lt_of_le h.lt hn)).trans h
end Go.Proofs.Ytjffghebcaklaaa
