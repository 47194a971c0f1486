/- Plain: rising lists of ids, and what is reached over Deps. -/
import Derived.Test.YtjffghebcaklaaaSorted
namespace Go.Proofs.Ytjffghebcaklaaa
open Go Go.RowKit Go.Lib Go.Sort
set_option linter.unusedVariables false
theorem idLt_irrefl (x : Id) : ¬ idLt x x := by unfold idLt; omega
theorem idLt_trans {x y z : Id} (h : idLt x y) (k : idLt y z) : idLt x z := by unfold idLt at *; omega
theorem idLt_total {x y : Id} (h : x ≠ y) : idLt x y ∨ idLt y x := by
  unfold idLt
  by_cases h0 : x.f0 = y.f0
  · by_cases h1 : x.f1 = y.f1
    · exact absurd (by cases x; cases y; simp_all) h
    · omega
  · omega
abbrev Rising (l : List Id) : Prop := l.Pairwise idLt
theorem Rising.nodup {l : List Id} (h : Rising l) : l.Nodup := List.Pairwise.imp (S := fun a b => a ≠ b) (fun {a b} h e => idLt_irrefl a (by rw [← e] at h; exact h)) h
/-- A rising list is told by what it holds. -/
theorem rising_ext : ∀ {a b : List Id}, Rising a → Rising b → (∀ x, x ∈ a ↔ x ∈ b) → a = b
  | [], [], _, _, _ => rfl
  | [], y :: b, _, _, h => by have := (h y).2 (List.mem_cons_self); cases this
  | x :: a, [], _, _, h => by have := (h x).1 (List.mem_cons_self); cases this
  | x :: a, y :: b, ha, hb, h => by
    obtain ⟨ha1, ha2⟩ := List.pairwise_cons.1 ha
    obtain ⟨hb1, hb2⟩ := List.pairwise_cons.1 hb
    have e : x = y := by
      rcases List.mem_cons.1 ((h x).1 List.mem_cons_self) with e | hx
      · exact e
      · rcases List.mem_cons.1 ((h y).2 List.mem_cons_self) with e | hy
        · exact e.symm
        · exact absurd (idLt_trans (ha1 y hy) (hb1 x hx)) (idLt_irrefl _)
    subst e
    congr 1
    refine rising_ext ha2 hb2 fun z => ?_
    constructor
    · intro hz
      rcases List.mem_cons.1 ((h z).1 (List.mem_cons_of_mem _ hz)) with e | hz'
      · exact absurd (ha1 z hz) (e ▸ idLt_irrefl _)
      · exact hz'
    · intro hz
      rcases List.mem_cons.1 ((h z).2 (List.mem_cons_of_mem _ hz)) with e | hz'
      · exact absurd (hb1 z hz) (e ▸ idLt_irrefl _)
      · exact hz'
theorem mem_dedup (x : Id) : ∀ l : List Id, x ∈ dedup l ↔ x ∈ l
  | [] => Iff.rfl
  | [y] => Iff.rfl
  | y :: z :: r => by
    have ih := mem_dedup x (z :: r)
    simp only [dedup]
    by_cases h : y = z
    · subst h
      rw [if_pos rfl, ih]
      simp
    · rw [if_neg h, List.mem_cons, ih, List.mem_cons (l := z :: r)]
theorem rising_dedup : ∀ l : List Id, l.Pairwise (fun a b => ¬ idLt b a) → Rising (dedup l)
  | [], _ => List.Pairwise.nil
  | [y], _ => by simp [dedup]
  | y :: z :: r, h => by
    obtain ⟨h1, h2⟩ := List.pairwise_cons.1 h
    have ih := rising_dedup (z :: r) h2
    simp only [dedup]
    by_cases e : y = z
    · rw [if_pos e]; exact ih
    · rw [if_neg e]
      refine List.pairwise_cons.2 ⟨fun u hu => ?_, ih⟩
      rw [mem_dedup] at hu
      have hyz : idLt y z := (idLt_total e).resolve_right (h1 z List.mem_cons_self)
      rcases List.mem_cons.1 hu with rfl | hu
      · exact hyz
      · have hzu := (List.pairwise_cons.1 h2).1 u hu
        by_cases ez : z = u
        · rw [← ez]; exact hyz
        · exact idLt_trans hyz ((idLt_total ez).resolve_right hzu)
theorem mem_sortIds (x : Id) (l : List Id) : x ∈ sortIds l ↔ x ∈ l := by
  unfold sortIds
  rw [mem_dedup]
  exact List.mem_mergeSort
theorem rising_sortIds (l : List Id) : Rising (sortIds l) := by
  unfold sortIds
  refine rising_dedup _ ?_
  have h := List.pairwise_mergeSort (le := fun x y => !(ltOf idCmp) y x) (fun a b c h1 h2 => ?_) (fun a b => ?_) l
  · exact h.imp fun {a b} h => by rw [idLt_cmp] at h; simpa using h
  · simp only [idLt_cmp, Bool.not_eq_true', decide_eq_false_iff_not] at *
    unfold idLt at *
    omega
  · simp only [idLt_cmp, Bool.or_eq_true, Bool.not_eq_true', decide_eq_false_iff_not]
    unfold idLt
    omega
theorem sortIds_of {a l : List Id} (ha : Rising a) (h : ∀ x, x ∈ a ↔ x ∈ l) : sortIds l = a :=
  rising_ext (rising_sortIds l) ha fun x => (mem_sortIds x l).trans (h x).symm
theorem sortIds_congr {k l : List Id} (h : ∀ x, x ∈ k ↔ x ∈ l) : sortIds k = sortIds l := sortIds_of (rising_sortIds l) (fun x => (mem_sortIds x l).trans (h x).symm)
theorem sortIds_length (l : List Id) : (sortIds l).length ≤ l.length := by
  unfold sortIds
  exact Nat.le_trans (dedup_length _) (by simp)
/-- An id put into a rising list. -/
def insId (x : Id) : List Id → List Id
  | [] => [x]
  | y :: l => if idLt x y then x :: y :: l else y :: insId x l
def putId (l : List Id) (x : Id) : List Id := if x ∈ l then l else insId x l
theorem mem_insId (x y : Id) : ∀ l : List Id, y ∈ insId x l ↔ y = x ∨ y ∈ l
  | [] => by simp [insId]
  | z :: l => by
    unfold insId
    split
    · simp
    · rw [List.mem_cons, mem_insId x y l, List.mem_cons]
      constructor <;> rintro (h | h | h) <;> simp [h]
theorem rising_insId (x : Id) : ∀ l : List Id, Rising l → x ∉ l → Rising (insId x l)
  | [], _, _ => by simp [insId]
  | z :: l, h, hx => by
    obtain ⟨h1, h2⟩ := List.pairwise_cons.1 h
    unfold insId
    split
    · rename_i hlt
      exact List.pairwise_cons.2 ⟨fun u hu => by rcases List.mem_cons.1 hu with rfl | hu; exact hlt; exact idLt_trans hlt (h1 u hu), h⟩
    · rename_i hlt
      have hne : x ≠ z := fun e => hx (e ▸ List.mem_cons_self)
      refine List.pairwise_cons.2 ⟨fun u hu => ?_, rising_insId x l h2 (fun e => hx (List.mem_cons_of_mem _ e))⟩
      rcases (mem_insId x u l).1 hu with rfl | hu
      · exact (idLt_total hne).resolve_left hlt
      · exact h1 u hu
theorem insId_length (x : Id) : ∀ l : List Id, (insId x l).length = l.length + 1
  | [] => rfl
  | z :: l => by unfold insId; split <;> simp [insId_length x l]
theorem mem_putId (x y : Id) (l : List Id) : y ∈ putId l x ↔ y ∈ l ∨ y = x := by
  unfold putId
  split
  · rename_i h
    exact ⟨.inl, fun h' => h'.elim id (fun e => e ▸ h)⟩
  · rw [mem_insId]; exact Or.comm
theorem rising_putId {l : List Id} (h : Rising l) (x : Id) : Rising (putId l x) := by
  unfold putId
  split
  · exact h
  · rename_i hx; exact rising_insId x l h hx
theorem putId_length (l : List Id) (x : Id) : l.length ≤ (putId l x).length ∧ (putId l x).length ≤ l.length + 1 := by
  unfold putId
  split
  · omega
  · rw [insId_length]; omega
theorem putId_sort {l : List Id} (h : Rising l) (x : Id) : putId l x = sortIds (l ++ [x]) :=
  (sortIds_of (rising_putId h x) (fun y => by rw [mem_putId]; simp)).symm
theorem foldPut_rising : ∀ (k l : List Id), Rising l → Rising (k.foldl putId l)
  | [], _, h => h
  | x :: k, l, h => foldPut_rising k _ (rising_putId h x)
theorem mem_foldPut (y : Id) : ∀ (k l : List Id), y ∈ k.foldl putId l ↔ y ∈ l ∨ y ∈ k
  | [], l => by simp
  | x :: k, l => by
    rw [List.foldl_cons, mem_foldPut y k, mem_putId, List.mem_cons, or_assoc]
theorem foldPut_sort (k l : List Id) (h : Rising l) : k.foldl putId l = sortIds (l ++ k) :=
  (sortIds_of (foldPut_rising k l h) (fun y => by rw [mem_foldPut]; simp)).symm
theorem foldPut_length : ∀ (k l : List Id), l.length ≤ (k.foldl putId l).length ∧ (k.foldl putId l).length ≤ l.length + k.length
  | [], l => by simp
  | x :: k, l => by
    have h1 := putId_length l x
    have h2 := foldPut_length k (putId l x)
    rw [List.foldl_cons, List.length_cons]
    omega
/-! ### What is reached -/
def depsOf (rs : List Rec) (x : Id) : List Id := ((rs.find? fun r => decide (r.f0 = x)).map (·.f2)).getD []
def hasRec (rs : List Rec) (x : Id) : Bool := (rs.find? fun r => decide (r.f0 = x)).isSome
theorem hasRec_iff (rs : List Rec) (x : Id) : hasRec rs x = true ↔ ∃ r ∈ rs, r.f0 = x := by
  unfold hasRec
  rw [List.find?_isSome]
  simp
theorem depsOf_none {rs : List Rec} {x : Id} (h : hasRec rs x = false) : depsOf rs x = [] := by
  unfold hasRec at h
  unfold depsOf
  cases hf : rs.find? fun r => decide (r.f0 = x) with
  | none => rfl
  | some r => rw [hf] at h; cases h
/-- Each id once. -/
def OnceIds (rs : List Rec) : Prop := (rs.map (·.f0)).Nodup
theorem depsOf_of {rs : List Rec} (hn : OnceIds rs) {r : Rec} (hr : r ∈ rs) : depsOf rs r.f0 = r.f2 := by
  unfold depsOf
  induction rs with
  | nil => cases hr
  | cons q rs ih =>
    unfold OnceIds at hn
    rw [List.map_cons, List.nodup_cons] at hn
    rw [List.find?_cons]
    rcases List.mem_cons.1 hr with rfl | hr
    · simp
    · have hne : ¬ q.f0 = r.f0 := fun e => hn.1 (e ▸ List.mem_map_of_mem hr)
      simp only [hne, decide_false]
      exact ih hn.2 hr
theorem mem_depsOf {rs : List Rec} {x y : Id} (h : y ∈ depsOf rs x) : ∃ r ∈ rs, r.f0 = x ∧ y ∈ r.f2 := by
  unfold depsOf at h
  cases hf : rs.find? fun r => decide (r.f0 = x) with
  | none => rw [hf] at h; cases h
  | some r =>
    rw [hf] at h
    exact ⟨r, List.mem_of_find?_eq_some hf, by simpa using List.find?_some hf, h⟩
inductive Rch (rs : List Rec) (l : List Id) : Id → Prop
  | base {x : Id} : x ∈ l → Rch rs l x
  | step {x y : Id} : Rch rs l x → y ∈ depsOf rs x → Rch rs l y
theorem Rch.mono {rs : List Rec} {k l : List Id} (h : ∀ x, x ∈ k → x ∈ l) {x : Id} (hx : Rch rs k x) : Rch rs l x := by
  induction hx with
  | base hx => exact .base (h _ hx)
  | step _ hy ih => exact .step ih hy
theorem Rch.one {rs : List Rec} {l : List Id} {x : Id} (hx : Rch rs l x) : ∃ a ∈ l, Rch rs [a] x := by
  induction hx with
  | base hx => exact ⟨_, hx, .base (by simp)⟩
  | step _ hy ih => obtain ⟨a, ha, h⟩ := ih; exact ⟨a, ha, .step h hy⟩
theorem Rch.trans {rs : List Rec} {l : List Id} {x y : Id} (hx : Rch rs l x) (hy : Rch rs [x] y) : Rch rs l y := by
  induction hy with
  | base h => rw [List.mem_singleton.1 h]; exact hx
  | step _ hd ih => exact .step ih hd
/-- A set that holds the roots and is closed holds all. -/
theorem Rch.closed {rs : List Rec} {l : List Id} {P : Id → Prop} (h0 : ∀ x ∈ l, P x) (h1 : ∀ x y, P x → y ∈ depsOf rs x → P y) {x : Id} (hx : Rch rs l x) : P x := by
  induction hx with
  | base hx => exact h0 _ hx
  | step _ hy ih => exact h1 _ _ ih hy
/-- All ids that there are. -/
def allIds (rs : List Rec) (l : List Id) : List Id := l ++ rs.flatMap (·.f2)
theorem Rch.all {rs : List Rec} {l : List Id} {x : Id} (hx : Rch rs l x) : x ∈ allIds rs l := by
  cases hx with
  | base hx => exact List.mem_append_left _ hx
  | step _ hy =>
    obtain ⟨r, hr, _, hd⟩ := mem_depsOf hy
    exact List.mem_append_right _ (List.mem_flatMap.2 ⟨r, hr, hd⟩)
theorem nodup_le {k l : List Id} (hk : k.Nodup) (h : ∀ x ∈ k, x ∈ l) : k.length ≤ l.length := by
  induction k generalizing l with
  | nil => simp
  | cons x k ih =>
    obtain ⟨h1, h2⟩ := List.nodup_cons.1 hk
    have := ih (l := l.erase x) h2 fun y hy => by
      have hne : y ≠ x := fun e => h1 (by rw [← e]; exact hy)
      rw [List.mem_erase_of_ne hne]
      exact h y (List.mem_cons_of_mem _ hy)
    rw [List.length_erase_of_mem (h x List.mem_cons_self)] at this
    have hp := List.length_pos_of_mem (h x List.mem_cons_self)
    rw [List.length_cons]
    omega
theorem nodup_lt {k l : List Id} (hk : k.Nodup) (h : ∀ x ∈ k, x ∈ l) {y : Id} (hy : y ∈ l) (hny : y ∉ k) : k.length < l.length := by
  have := nodup_le (k := y :: k) (l := l) (List.nodup_cons.2 ⟨hny, hk⟩) (fun x hx => by rcases List.mem_cons.1 hx with rfl | hx; exact hy; exact h x hx)
  simp only [List.length_cons] at this
  omega
/-! ### The reference's way: put all Deps till there are no more -/
def stepIds (rs : List Rec) (out : List Id) : List Id := out.foldl (fun more x => (depsOf rs x).foldl putId more) out
theorem stepFrom_spec (rs : List Rec) : ∀ (k l : List Id), Rising l → Rising (k.foldl (fun more x => (depsOf rs x).foldl putId more) l) ∧ ∀ y, y ∈ k.foldl (fun more x => (depsOf rs x).foldl putId more) l ↔ y ∈ l ∨ ∃ x ∈ k, y ∈ depsOf rs x
  | [], l, h => ⟨h, by simp⟩
  | x :: k, l, h => by
    obtain ⟨h1, h2⟩ := stepFrom_spec rs k _ (foldPut_rising (depsOf rs x) l h)
    refine ⟨h1, fun y => ?_⟩
    rw [List.foldl_cons, h2, mem_foldPut]
    simp [or_assoc]
theorem rising_step {rs : List Rec} {out : List Id} (h : Rising out) : Rising (stepIds rs out) := (stepFrom_spec rs out out h).1
theorem mem_step {rs : List Rec} {out : List Id} (h : Rising out) (y : Id) : y ∈ stepIds rs out ↔ y ∈ out ∨ ∃ x ∈ out, y ∈ depsOf rs x := (stepFrom_spec rs out out h).2 y
def closeIds (rs : List Rec) : Nat → List Id → List Id
  | 0, out => out
  | n + 1, out => if (stepIds rs out).length = out.length then out else closeIds rs n (stepIds rs out)
def reachIds (rs : List Rec) (l : List Id) : List Id := closeIds rs (allIds rs l).length (sortIds l)
theorem step_le {rs : List Rec} {out : List Id} (h : Rising out) : out.length ≤ (stepIds rs out).length := nodup_le h.nodup fun x hx => (mem_step h x).2 (.inl hx)
/-- Where a step adds nothing, nothing is open. -/
theorem step_same {rs : List Rec} {out : List Id} (h : Rising out) (he : (stepIds rs out).length = out.length) (x y : Id) (hx : x ∈ out) (hy : y ∈ depsOf rs x) : y ∈ out := by
  by_cases hm : y ∈ out
  · exact hm
  · have := nodup_lt h.nodup (fun z hz => (mem_step (rs := rs) h z).2 (.inl hz)) ((mem_step h y).2 (.inr ⟨x, hx, hy⟩)) hm
    omega
theorem closeIds_spec (rs : List Rec) (l : List Id) : ∀ (n : Nat) (out : List Id), Rising out → (∀ x ∈ l, x ∈ out) → (∀ x ∈ out, Rch rs l x) → (allIds rs l).length ≤ n + out.length →
    Rising (closeIds rs n out) ∧ ∀ x, x ∈ closeIds rs n out ↔ Rch rs l x
  | 0, out, h, h0, h1, hn => by
    refine ⟨h, fun x => ⟨h1 x, fun hx => ?_⟩⟩
    show x ∈ out
    by_cases hm : x ∈ out
    · exact hm
    · have := nodup_lt h.nodup (fun z hz => (h1 z hz).all) hx.all hm
      omega
  | n + 1, out, h, h0, h1, hn => by
    unfold closeIds
    split
    · rename_i he
      exact ⟨h, fun x => ⟨h1 x, fun hx => Rch.closed h0 (fun a b => step_same h he a b) hx⟩⟩
    · rename_i he
      have := step_le (rs := rs) h
      exact closeIds_spec rs l n _ (rising_step h) (fun x hx => (mem_step h x).2 (.inl (h0 x hx))) (fun x hx => by
        rcases (mem_step h x).1 hx with hx | ⟨z, hz, hx⟩
        · exact h1 x hx
        · exact .step (h1 z hz) hx) (by omega)
theorem reachIds_spec (rs : List Rec) (l : List Id) : Rising (reachIds rs l) ∧ ∀ x, x ∈ reachIds rs l ↔ Rch rs l x :=
  closeIds_spec rs l _ _ (rising_sortIds l) (fun x hx => (mem_sortIds x l).2 hx) (fun x hx => .base ((mem_sortIds x l).1 hx)) (by omega)
end Go.Proofs.Ytjffghebcaklaaa
