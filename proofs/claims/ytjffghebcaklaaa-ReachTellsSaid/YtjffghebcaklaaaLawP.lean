/- Plain: what is open and what is whole; bounds of few records; the small graph of works. No program. -/
import Derived.Test.YtjffghebcaklaaaRefL
namespace Go.Proofs.Ytjffghebcaklaaa
open Go Go.RowKit Go.Shelf Go.Lib Go.Sort Go.Proofs.YtjffghebcaklaaaW.PrintWords Go.Proofs.YtjffghebcaklaaaW.PrintLast Go.Proofs.YtjffghebcaklaaaW.PrintMore
set_option linter.unusedVariables false
set_option linter.unusedSimpArgs false
theorem mem_miss {rs : List Rec} {x : Id} : x ∈ rs.flatMap (missOf rs) ↔ ∃ r ∈ rs, x ∈ r.f2 ∧ hasRec rs x = false := by
  rw [List.mem_flatMap]
  simp [missOf]
theorem not_opn_step {rs : List Rec} {z y : Id} (h : ¬ Opn rs z) (hy : y ∈ depsOf rs z) : hasRec rs y = true ∧ ¬ Opn rs y := by
  obtain ⟨r, hr, e, hd⟩ := mem_depsOf hy
  have h2 : ¬ Opn rs y := fun h2 => h (e ▸ Opn.user h2 hr hd)
  refine ⟨?_, h2⟩
  cases h3 : hasRec rs y with
  | true => rfl
  | false => exact absurd (Opn.miss (mem_miss.2 ⟨r, hr, hd, h3⟩)) h2
theorem opn_leads {rs : List Rec} (hn : OnceIds rs) {x : Id} (h : Opn rs x) : ∃ y, Rch rs [x] y ∧ hasRec rs y = false := by
  induction h with
  | miss h =>
    obtain ⟨r, _, _, h3⟩ := mem_miss.1 h
    exact ⟨_, .base (List.mem_singleton.2 rfl), h3⟩
  | @user z r _ hr hd ih =>
    obtain ⟨y, hy, h3⟩ := ih
    refine ⟨y, ?_, h3⟩
    clear h3
    induction hy with
    | base hx =>
      rw [List.mem_singleton] at hx
      subst hx
      exact .step (.base (List.mem_singleton.2 rfl)) (by rw [depsOf_of hn hr]; exact hd)
    | step _ hyd ih2 => exact .step ih2 hyd
theorem wholeOne_iff (rs : List Rec) (x : Id) : wholeOne rs x = true ↔ ∀ y, Rch rs [x] y → hasRec rs y = true := by
  unfold wholeOne
  rw [List.all_eq_true]
  exact ⟨fun h y hy => h y (((reachIds_spec rs [x]).2 y).2 hy), fun h y hy => h y (((reachIds_spec rs [x]).2 y).1 hy)⟩
theorem opn_iff {rs : List Rec} (hn : OnceIds rs) (x : Id) : (hasRec rs x = true ∧ ¬ Opn rs x) ↔ (hasRec rs x = true ∧ wholeOne rs x = true) := by
  constructor
  · rintro ⟨h0, h1⟩
    refine ⟨h0, (wholeOne_iff rs x).2 fun y hy => ?_⟩
    have : hasRec rs y = true ∧ ¬ Opn rs y := by
      induction hy with
      | base hx => rw [List.mem_singleton] at hx; subst hx; exact ⟨h0, h1⟩
      | step _ hyd ih => exact not_opn_step ih.2 hyd
    exact this.1
  · rintro ⟨h0, h1⟩
    refine ⟨h0, fun h => ?_⟩
    obtain ⟨y, hy, h3⟩ := opn_leads hn h
    rw [(wholeOne_iff rs x).1 h1 y hy] at h3
    cases h3
theorem wholeB_iff (rs : List Rec) (l : List Id) : wholeB rs l = true ↔ ∀ y, Rch rs l y → hasRec rs y = true ∧ y ∈ l := by
  unfold wholeB
  rw [List.all_eq_true]
  simp only [Bool.and_eq_true, decide_eq_true_eq]
  exact ⟨fun h y hy => h y (((reachIds_spec rs l).2 y).2 hy), fun h y hy => h y (((reachIds_spec rs l).2 y).1 hy)⟩
theorem closed_whole {rs : List Rec} {c : List Id} (h : ∀ x, x ∈ c ↔ hasRec rs x = true ∧ ¬ Opn rs x) : wholeB rs c = true := by
  rw [wholeB_iff]
  intro y hy
  have : hasRec rs y = true ∧ ¬ Opn rs y := by
    induction hy with
    | base hx => exact (h _).1 hx
    | step _ hyd ih => exact not_opn_step ih.2 hyd
  exact ⟨this.1, (h _).2 this⟩
theorem whole_has {rs : List Rec} (hn : OnceIds rs) {c l : List Id} (h : ∀ x, x ∈ c ↔ hasRec rs x = true ∧ ¬ Opn rs x) (hl : wholeB rs l = true) {x : Id} (hx : x ∈ l) : x ∈ c := by
  rw [wholeB_iff] at hl
  rw [h, opn_iff hn]
  refine ⟨(hl x (.base hx)).1, (wholeOne_iff rs x).2 fun y hy => (hl y ?_).1⟩
  exact Rch.mono (fun z hz => by rw [List.mem_singleton] at hz; subst hz; exact hx) hy
theorem closed_same {rs : List Rec} (hn : OnceIds rs) {c d : List Id} (hc : Rising c) (hd : Rising d) (h : ∀ x, x ∈ c ↔ hasRec rs x = true ∧ ¬ Opn rs x) (h' : ∀ x, x ∈ d ↔ hasRec rs x = true ∧ wholeOne rs x = true) : c = d :=
  rising_ext hc hd fun x => by rw [h, h', opn_iff hn]
theorem closed_nil {c : List Id} (h : ∀ x, x ∈ c ↔ hasRec [] x = true ∧ ¬ Opn [] x) : c = [] := by
  cases c with
  | nil => rfl
  | cons x c => have := ((h x).1 List.mem_cons_self).1; simp [hasRec] at this
theorem wholeB_nil : wholeB [] [] = true := by
  rw [wholeB_iff]
  intro y hy
  have : y ∈ ([] : List Id) := by
    induction hy with
    | base hx => exact hx
    | step _ hyd ih => cases ih
  cases this
theorem flat_len {rs : List Rec} {f : Rec → List Id} {D : Nat} (h : ∀ r ∈ rs, (f r).length ≤ D) : (rs.flatMap f).length ≤ rs.length * D := by
  induction rs with
  | nil => simp
  | cons r rs ih =>
    rw [List.flatMap_cons, List.length_append, List.length_cons, Nat.add_mul]
    have h1 := h r List.mem_cons_self
    have h2 := ih fun q hq => h q (List.mem_cons_of_mem _ hq)
    omega
theorem sort_len (l : List Id) : (sortIds l).length ≤ l.length := nodup_le (rising_sortIds l).nodup fun x hx => (mem_sortIds x l).1 hx
/-- Few records that are a graph. -/
structure Few20 (rs : List Rec) : Prop where
  once : OnceIds rs
  ok : ∀ r ∈ rs, RecOk r
  n : rs.length ≤ 20
  deps : ∀ r ∈ rs, r.f2.length ≤ 16
  batch : ∀ r ∈ rs, r.f3.length ≤ 8
theorem Few20.nil : Few20 [] := ⟨by simp [OnceIds], by simp, by simp, by simp, by simp⟩
theorem Few20.of {rs : List Rec} (h : RecsOk rs) (hl : rs.length ≤ 20) : Few20 rs := ⟨h.once, fun r hr => (h.each r hr).1, hl, fun r hr => (h.each r hr).2.1, fun r hr => (h.each r hr).2.2⟩
theorem Few20.all {rs : List Rec} (h : Few20 rs) (l : List Id) (hl : l.length ≤ 400) : (allIds rs l).length ≤ 720 := by
  have h1 := flat_len (f := fun x => x.f2) h.deps
  have h2 := h.n
  have h3 : rs.length * 16 ≤ 20 * 16 := Nat.mul_le_mul_right _ h2
  unfold allIds
  rw [List.length_append]
  omega
theorem Few20.gathered {rs : List Rec} (h : Few20 rs) : (gath rs (missOf rs)).length + rs.length * ((opnAll rs).length + 1) ≤ 1048576 := by
  have h2 := h.n
  have h3 : rs.length * 16 ≤ 20 * 16 := Nat.mul_le_mul_right _ h2
  have h1 := flat_len (f := fun x => x.f2) h.deps
  have h4 : (gath rs (missOf rs)).length ≤ rs.length * 16 := by
    unfold gath
    refine Nat.le_trans (sort_len _) (flat_len fun r hr => ?_)
    unfold missOf
    exact Nat.le_trans (List.length_filter_le ..) (h.deps r hr)
  have h5 : (opnAll rs).length ≤ 340 := by
    unfold opnAll
    rw [List.length_append, List.length_map]
    omega
  have h6 : rs.length * ((opnAll rs).length + 1) ≤ 20 * 341 := Nat.mul_le_mul h2 (by omega)
  omega
section
variable {w : World} {p : Option Addr} {mb : Nat} {rs : List Rec}
theorem closed20 (hg : GraphP w p mb rs) (h : Few20 rs) :
    Calls Try.prog 11 #[.pointer p] w fun e w' => ∃ A c out, e = .returned (.slice A out.length c) ∧ OwnIds w' w.heap.size A c out ∧ out.length ≤ 1048576 ∧ Rising out ∧ (∀ x, x ∈ out ↔ hasRec rs x = true ∧ ¬ Opn rs x) ∧ Below w.heap.size w w' := by
  have h2 := h.n
  have h3 : rs.length * 16 ≤ 20 * 16 := Nat.mul_le_mul_right _ h2
  exact closed_calls hg 16 h.deps (by omega) (by omega) (by omega) h.gathered
theorem whole20 (hg : GraphP w p mb rs) (h : Few20 rs) (A : Option Addr) (c : Nat) (l : List Id) (hC : Kd.C kId w A l.length l) (hl : l.length ≤ 400) :
    Calls Try.prog 14 #[.pointer p, .slice A l.length c] w fun e w' => e = .returned (.bool (wholeB rs l)) ∧ Below w.heap.size w w' := by
  have h1 := h.all l hl
  exact whole_calls hg A c l hC 16 (fun r hr => ⟨h.deps r hr, by have := h.batch r hr; omega⟩) (by omega)
theorem from20 (hg : GraphP w p mb rs) (h : Few20 rs) (A : Option Addr) (c : Nat) (l : List Id) (hC : Kd.C kId w A l.length l) (hl : l.length ≤ 400) :
    Calls Try.prog 17 #[.pointer p, .slice A l.length c] w fun e w' => ∃ B d, e = .returned (.slice B (reachIds rs l).length d) ∧ Kd.C kId w' B (reachIds rs l).length (reachIds rs l) ∧ (reachIds rs l).length ≤ d ∧ Below w.heap.size w w' := by
  have h1 := h.all l hl
  exact from_calls hg A c l hC 16 (fun r hr => ⟨h.deps r hr, by have := h.batch r hr; omega⟩) (by omega) (by omega)
theorem path20 (hg : GraphP w p mb rs) (h : Few20 rs) (a y : Id) :
    Calls Try.prog 19 #[.pointer p, .agg #[.int .i64 a.f0, .int .i64 a.f1], .agg #[.int .i64 y.f0, .int .i64 y.f1]] w fun e w' => e = .returned (.bool (decide (y ∈ reachIds rs [a]))) ∧ Below w.heap.size w w' := by
  have h1 := h.all [a] (by simp)
  exact path_calls hg a y 16 (fun r hr => ⟨h.deps r hr, by have := h.batch r hr; omega⟩) (by omega) (by omega)
theorem new20 (h : Few20 rs) (A : Option Addr) (c : Nat) (hC : Kd.C kRec w A rs.length rs) :
    Calls Try.prog 10 #[.slice A rs.length c] w fun e w' => ∃ g mb, e = .returned (.tuple #[.pointer (some ⟨g, 0, none⟩), .int .i64 0]) ∧ GraphP w' (some ⟨g, 0, none⟩) mb rs ∧ w.heap.size ≤ g ∧ Below w.heap.size w w' := by
  have h2 := h.n
  refine (new_calls rs A c w hC h.ok h.once (by omega)).mono ?_
  rintro e w' ⟨g, mb, rfl, hg, h3, h4, hb⟩
  exact ⟨g, mb, rfl, .inr ⟨g, rfl, hg⟩, h3, hb⟩
end
section
variable (w : World) (rs : List Rec) (A : Option Addr) (c : Nat) (hC : Kd.C kRec w A rs.length rs) (hc : rs.length ≤ c)
include hC hc
theorem refClosed20 (h : Few20 rs) :
    Calls Try.prog 13 #[.slice A rs.length c] w fun e w' => ∃ B d out, e = .returned (.slice B out.length d) ∧ Kd.C kId w' B out.length out ∧ out.length ≤ d ∧ Rising out ∧ (∀ x, x ∈ out ↔ hasRec rs x = true ∧ wholeOne rs x = true) ∧ Below w.heap.size w w' := by
  have h2 := h.n
  exact refClosed_calls rs A c w hC hc (by omega) (fun x => by have := h.all [x] (by simp); omega)
theorem refWhole20 (h : Few20 rs) (A' : Option Addr) (c' : Nat) (l : List Id) (hC' : Kd.C kId w A' l.length l) (hc' : l.length ≤ c') (hl : l.length ≤ 400) :
    Calls Try.prog 16 #[.slice A rs.length c, .slice A' l.length c'] w fun e w' => e = .returned (.bool (wholeB rs l)) ∧ Below w.heap.size w w' := by
  have h1 := h.all l hl
  exact refWhole_calls rs A c l A' c' w hC hc hC' hc' (by omega) (by omega)
theorem refFrom20 (h : Few20 rs) (A' : Option Addr) (c' : Nat) (l : List Id) (hC' : Kd.C kId w A' l.length l) (hc' : l.length ≤ c') (hl : l.length ≤ 400) :
    Calls Try.prog 18 #[.slice A rs.length c, .slice A' l.length c'] w fun e w' => ∃ B d, e = .returned (.slice B (reachIds rs l).length d) ∧ Kd.C kId w' B (reachIds rs l).length (reachIds rs l) ∧ (reachIds rs l).length ≤ d ∧ Below w.heap.size w w' := by
  have h1 := h.all l hl
  exact refFrom_calls rs A c l A' c' w hC hc hC' (by omega) (by omega)
theorem few_calls (n : Int) :
    Calls Try.prog 7 #[.slice A rs.length c, .int .i64 n] w fun e w' => e = .returned (.bool (fewB rs n)) ∧ Drawn0 w w' := by
  obtain ⟨k, hk⟩ := (ev_few rs n hC.2.1).rounds
  exact PRef.cortegelaw15_Few.calls k A c rs n _ w hC hc hk
theorem check_calls (hw : ∀ r ∈ rs, RecW r) :
    ∃ r, (r = 0 → RecsOk rs) ∧ Calls Try.prog 8 #[.slice A rs.length c] w fun e w' => e = .returned (.int .i64 r) ∧ Below w.heap.size w w' := by
  obtain ⟨r, h1, h2⟩ := ev_ref15 rs hC.2.1 hw
  obtain ⟨k, hk⟩ := h1.rounds
  exact ⟨r, h2, PRef.cortegeref15_Check.calls k A c rs _ w hC hc hk⟩
end
theorem same_calls' (w : World) (a b : List Id) (A : Option Addr) (c : Nat) (A' : Option Addr) (c' : Nat) (hC : Kd.C kId w A a.length a) (hc : a.length ≤ c) (hC' : Kd.C kId w A' b.length b) (hc' : b.length ≤ c') :
    Calls Try.prog 12 #[.slice A a.length c, .slice A' b.length c'] w fun e w' => e = .returned (.bool (decide (a = b))) ∧ Drawn0 w w' := by
  obtain ⟨k, hk⟩ := (ev_same a b hC.2.1).rounds
  exact PRef.cortegeref03_Same.calls k A c a A' c' b _ w hC hc hC' hc' hk
def wA : Id := ⟨0, 1⟩
def wB : Id := ⟨0, 2⟩
def wC : Id := ⟨0, 3⟩
def wRs : List Rec := [⟨wA, 1, [wB], []⟩, ⟨wB, 1, [], []⟩, ⟨wC, 1, [⟨0, 9⟩], []⟩]
theorem wRs_few : Few20 wRs := by
  refine ⟨by unfold OnceIds; decide, ?_, by decide, by decide, by decide⟩
  intro r hr
  simp only [wRs, List.mem_cons, List.not_mem_nil, or_false] at hr
  rcases hr with rfl | rfl | rfl
  all_goals
    refine ⟨ev_own _ (by decide) (by decide) (by decide), ev_deps _ (by decide) ?_, ev_does _ (by decide) (by simp) (by decide) (by simp), by decide, by decide⟩
    intro j hj
    simp only [List.length_cons, List.length_nil] at hj
  · obtain rfl : j = 0 := by omega
    exact ⟨by decide, by decide, fun h => absurd h (by omega)⟩
  · omega
  · obtain rfl : j = 0 := by omega
    exact ⟨by decide, by decide, fun h => absurd h (by omega)⟩
theorem wRs_a : reachIds wRs [wA] = [wA, wB] := by decide +kernel
theorem wRs_b : reachIds wRs [wB] = [wB] := by decide +kernel
theorem wRs_c : wholeOne wRs wC = false := by decide +kernel
theorem wRs_closed {c : List Id} (hc : Rising c) (h : ∀ x, x ∈ c ↔ hasRec wRs x = true ∧ ¬ Opn wRs x) : c = [wA, wB] := by
  refine rising_ext hc (by unfold Rising; decide) fun x => ?_
  rw [h, opn_iff wRs_few.once]
  constructor
  · rintro ⟨h1, h2⟩
    obtain ⟨r, hr, e⟩ := (hasRec_iff _ _).1 h1
    simp only [wRs, List.mem_cons, List.not_mem_nil, or_false] at hr
    rcases hr with rfl | rfl | rfl
    · subst e; simp
    · subst e; simp
    · subst e; rw [show wholeOne wRs wC = false from wRs_c] at h2; cases h2
  · intro hx
    simp only [List.mem_cons, List.not_mem_nil, or_false] at hx
    rcases hx with rfl | rfl
    · exact ⟨by decide, by unfold wholeOne; rw [wRs_a]; decide⟩
    · exact ⟨by decide, by unfold wholeOne; rw [wRs_b]; decide⟩
theorem wRs_whole : wholeB wRs [wB] = true := by unfold wholeB; rw [wRs_b]; decide
end Go.Proofs.Ytjffghebcaklaaa
