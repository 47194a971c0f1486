/- reach.open and reach.Closed. -/
import Derived.Test.YtjffghebcaklaaaWhole
namespace Go.Proofs.Ytjffghebcaklaaa
open Go Go.RowKit Go.Shelf Go.Lib Go.Sort Go.Proofs.YtjffghebcaklaaaW.PrintWords Go.Proofs.YtjffghebcaklaaaW.PrintLast Go.Proofs.YtjffghebcaklaaaW.PrintMore
set_option linter.unusedVariables false
set_option linter.unusedSimpArgs false
attribute [local go_sem] run_store_float
/-- What leads to what lacks. -/
inductive Opn (rs : List Rec) : Id → Prop
  | miss {x : Id} : x ∈ rs.flatMap (missOf rs) → Opn rs x
  | user {x : Id} {r : Rec} : Opn rs x → r ∈ rs → x ∈ r.f2 → Opn rs r.f0
def opnAll (rs : List Rec) : List Id := rs.flatMap (·.f2) ++ rs.map (·.f0)
theorem Opn.all {rs : List Rec} {x : Id} (h : Opn rs x) : x ∈ opnAll rs := by
  cases h with
  | miss h =>
    obtain ⟨r, hr, hx⟩ := List.mem_flatMap.1 h
    exact List.mem_append_left _ (List.mem_flatMap.2 ⟨r, hr, (List.mem_filter.1 hx).1⟩)
  | user _ hr _ => exact List.mem_append_right _ (List.mem_map_of_mem hr)
structure OpenInv (rs : List Rec) (seen left : List Id) (M : Nat) : Prop where
  nodup : seen.Nodup
  seen_ : ∀ x ∈ seen, Opn rs x
  left_ : ∀ x ∈ left, Opn rs x
  from_ : ∀ x ∈ rs.flatMap (missOf rs), x ∈ seen ∨ x ∈ left
  user_ : ∀ x ∈ seen, ∀ r ∈ rs, x ∈ r.f2 → r.f0 ∈ seen ∨ r.f0 ∈ left
  size_ : left.length ≤ M + rs.length * seen.length
theorem OpenInv.start (rs : List Rec) : OpenInv rs [] (gath rs (missOf rs)) (gath rs (missOf rs)).length := by
  refine ⟨by simp, by simp, fun x hx => ?_, fun x hx => ?_, by simp, by simp⟩
  · unfold gath at hx
    rw [mem_sortIds] at hx
    exact .miss hx
  · right
    unfold gath
    rw [mem_sortIds]
    exact hx
theorem OpenInv.done {rs : List Rec} {seen : List Id} {M : Nat} (h : OpenInv rs seen [] M) (x : Id) : x ∈ seen ↔ Opn rs x := by
  refine ⟨h.seen_ x, fun hx => ?_⟩
  induction hx with
  | miss hx => exact (h.from_ _ hx).resolve_right (by simp)
  | user _ hr hx ih => exact (h.user_ _ ih _ hr hx).resolve_right (by simp)
theorem mem_app_one {x y : Id} {l s : List Id} (h : y ∈ s ∨ y ∈ l ++ [x]) : (y ∈ s ∨ y = x) ∨ y ∈ l := by
  rcases h with h | h
  · exact .inl (.inl h)
  · rcases List.mem_append.1 h with h | h
    · exact .inr h
    · exact .inl (.inr (List.mem_singleton.1 h))
theorem OpenInv.old {rs : List Rec} {seen left : List Id} {M : Nat} {x : Id} (h : OpenInv rs seen (left ++ [x]) M) (hx : x ∈ seen) : OpenInv rs seen left M := by
  have k : ∀ {y : Id}, (y ∈ seen ∨ y ∈ left ++ [x]) → y ∈ seen ∨ y ∈ left := fun {y} hy => (mem_app_one hy).elim (fun h => .inl (h.elim id (fun e => e ▸ hx))) .inr
  exact ⟨h.nodup, h.seen_, fun y hy => h.left_ y (List.mem_append_left _ hy), fun y hy => k (h.from_ y hy), fun y hy r hr hyr => k (h.user_ y hy r hr hyr), by have := h.size_; rw [List.length_append] at this; simp at this; omega⟩
theorem mem_users (rs : List Rec) (x y : Id) : y ∈ gath rs (userOf x) ↔ ∃ r ∈ rs, x ∈ r.f2 ∧ r.f0 = y := by
  unfold gath
  rw [mem_sortIds, List.mem_flatMap]
  constructor
  · rintro ⟨r, hr, h⟩
    unfold userOf at h
    split at h
    · exact ⟨r, hr, by assumption, (List.mem_singleton.1 h).symm⟩
    · cases h
  · rintro ⟨r, hr, hx, rfl⟩
    exact ⟨r, hr, by unfold userOf; rw [if_pos hx]; simp⟩
theorem users_length (rs : List Rec) (x : Id) : (gath rs (userOf x)).length ≤ rs.length := by
  refine Nat.le_trans (sortIds_length _) ?_
  induction rs with
  | nil => simp
  | cons r rs ih =>
    rw [List.flatMap_cons, List.length_append, List.length_cons]
    have : (userOf x r).length ≤ 1 := by unfold userOf; split <;> simp
    omega
theorem OpenInv.new {rs : List Rec} {seen left : List Id} {M : Nat} {x : Id} (h : OpenInv rs seen (left ++ [x]) M) (hx : x ∉ seen) : OpenInv rs (seen ++ [x]) (left ++ gath rs (userOf x)) M := by
  have hox : Opn rs x := h.left_ x (by simp)
  have k : ∀ {y : Id}, (y ∈ seen ∨ y ∈ left ++ [x]) → y ∈ seen ++ [x] ∨ y ∈ left ++ gath rs (userOf x) := fun {y} hy => by
    rcases mem_app_one hy with (h | rfl) | h
    · exact .inl (List.mem_append_left _ h)
    · exact .inl (by simp)
    · exact .inr (List.mem_append_left _ h)
  refine ⟨?_, fun y hy => ?_, fun y hy => ?_, fun y hy => k (h.from_ y hy), fun y hy r hr hyr => ?_, ?_⟩
  · rw [List.nodup_append]
    exact ⟨h.nodup, by simp, fun a ha b hb e => hx (by rw [← List.mem_singleton.1 hb, ← e]; exact ha)⟩
  · rcases List.mem_append.1 hy with hy | hy
    · exact h.seen_ y hy
    · rw [List.mem_singleton.1 hy]; exact hox
  · rcases List.mem_append.1 hy with hy | hy
    · exact h.left_ y (List.mem_append_left _ hy)
    · obtain ⟨r, hr, hxr, rfl⟩ := (mem_users rs x y).1 hy
      exact .user hox hr hxr
  · rcases List.mem_append.1 hy with hy | hy
    · exact k (h.user_ y hy r hr hyr)
    · rw [List.mem_singleton.1 hy] at hyr
      exact .inr (List.mem_append_right _ ((mem_users rs x _).2 ⟨r, hr, hyr, rfl⟩))
  · have h1 := h.size_
    have h2 := users_length rs x
    simp only [List.length_append, List.length_singleton] at h1 ⊢
    rw [Nat.mul_add]
    omega
set_option maxRecDepth 100000 in
set_option maxHeartbeats 1600000 in
theorem open_calls {w : World} {p : Option Addr} {mb : Nat} {rs : List Rec} (hg : GraphP w p mb rs) (K : Nat) (hK : ∀ r ∈ rs, r.f2.length ≤ K) (hl : rs.length * K ≤ 1048576) (hk : K ≤ 1048576) (hrl : rs.length ≤ 1048576)
    (hb : (gath rs (missOf rs)).length + rs.length * ((opnAll rs).length + 1) ≤ 1048576) :
    Calls Try.prog 42 #[.pointer p] w fun e w' => ∃ sb mb' s, e = .returned (.pointer (some ⟨sb, 0, none⟩)) ∧ SetAt w' sb mb' s ∧ (∀ x, x ∈ s ↔ Opn rs x) ∧ Below w.heap.size w w' := by
  have hnew := set_new w none 0 [] ⟨rfl, by simp, fun h => absurd h (by simp)⟩ (by simp)
  have HG := Aside0.mk hg
  have HK := Aside0.mk hK
  clear hg hK
  go_enter Try.func42, Try.ntmps42
  go_wp2_with (first
    | (go_at_call 45; refine hnew.mono ?_; rintro e w1 ⟨sb, mb', rfl, hS1, hsb, hmb, hb1⟩)
    | (go_at_call 62; refine (missingP_calls (HG.out.below hb1 (Nat.le_refl _)) K HK.out hl hk).mono ?_; rintro e w2 ⟨A0, c0, rfl, hO2, hb2⟩))
  have hsl := (Array.getElem?_eq_some_iff.1 hS1.cell).1
  have hml := hS1.map.lt
  have HS2 := Aside0.mk (hS1.below hb2 hsl hml)
  have HB2 := Aside0.mk (hb1.trans (hb2.mono hb1.size))
  have HO2 := Aside0.mk hO2
  have hs12 := hb2.size
  have hs01 := hb1.size
  clear hS1 hb1 hb2 hO2 hnew
  go_loopw [4] (fun v wr => ∃ (A : Option Addr) (c : Nat) (left seen : List Id), v = .slice A left.length c ∧ w1.heap.size ≤ wr.heap.size ∧ Aside0 (OwnIds wr w1.heap.size A c left) ∧ Aside0 (SetAt wr sb mb' seen) ∧ Aside0 (Below w.heap.size w wr) ∧ Aside0 (OpenInv rs seen left (gath rs (missOf rs)).length))
    (fun v wr => ((opnAll rs).length - mapLen wr mb') * (rs.length + 1) + sliceLen v)
  case atStart => exact ⟨A0, c0, _, [], rfl, hs12, HO2, HS2, HB2, ⟨OpenInv.start rs⟩⟩
  case round =>
    obtain ⟨A, c, left, seen, rfl, hsz, hown, hS, hB, hI⟩ := hrel
    clear HO2 HS2 HB2
    have hseenN : seen.length ≤ (opnAll rs).length := nodup_le hI.out.nodup (fun x hx => (hI.out.seen_ x hx).all)
    have hleftN : left.length ≤ 1048576 := by
      have h1 := hI.out.size_
      have h2 : rs.length * seen.length ≤ rs.length * ((opnAll rs).length + 1) := Nat.mul_le_mul_left _ (by omega)
      omega
    rcases List.eq_nil_or_concat left with rfl | ⟨left', x, rfl⟩
    · simp only [List.length_nil]
      go_wp2
      go_ret
      exact ⟨sb, mb', seen, rfl, hS.out, hI.out.done, hB.out⟩
    · rw [List.concat_eq_append] at *
      have hlen : (left' ++ [x]).length = left'.length + 1 := by simp
      have hC' := hown.out.C (by omega)
      obtain ⟨ad, rfl, x0, x1⟩ := PRef.at_T37 hC' (left'.length : Int) (by omega) (by omega)
      have hrd : PRef.rd_T37 (left' ++ [x]) (left'.length : Int) = x := by simp [PRef.rd_T37]
      rw [hrd] at x0 x1
      simp only [Int.toNat_natCast] at x0 x1
      rw [hlen]
      have hll : left'.length ≤ 1048576 := by omega
      have hcap : left'.length ≤ c := by have := hown.out.le; omega
      have hownL : OwnIds wr w1.heap.size (some ad) c left' := by
        have := hown.out.take left'.length (by omega) (by omega)
        rwa [List.take_left] at this
      have HOL := Aside0.mk hownL
      have hrow := hown.out.lt
      clear hownL hC' hrd hlen hleftN
      have hS1 := hS.out.below ((Below.refl wr.heap.size wr).alloc (Nat.le_refl _) (.cells #[.int .i64 x.f0, .int .i64 x.f1] 37)) (Array.getElem?_eq_some_iff.1 hS.out.cell).1 hS.out.map.lt
      by_cases hx : x ∈ seen
      · have hcall := set_add_old hS1 x hx
        have HX := Aside0.mk hx
        clear hx hS1
        go_wp2_with (go_at_call 63; refine hcall.mono ?_; rintro e w3 ⟨rfl, hb3⟩)
        have hb13 : Below wr.heap.size wr w3 := ((Below.refl wr.heap.size wr).alloc (Nat.le_refl _) _).trans (hb3.mono (by simp))
        have hl3 := hS.out.len_eq
        have hS3 := hS.out.below hb13 (Array.getElem?_eq_some_iff.1 hS.out.cell).1 hS.out.map.lt
        have hs13 := hb13.size
        go_roundw
        case rel => exact ⟨some ad, c, left', seen, rfl, by omega, ⟨HOL.out.below hb13 (Nat.le_refl _)⟩, ⟨hS3⟩, ⟨hB.out.trans (hb13.mono hB.out.size)⟩, ⟨hI.out.old HX.out⟩⟩
        case measure => rw [hS3.len_eq, hl3]; simp only [sliceLen]; omega
      · have hcall := set_add_new hS1 x hx
        have hox : Opn rs x := hI.out.left_ x (by simp)
        have hlt : seen.length < (opnAll rs).length := nodup_lt hI.out.nodup (fun y hy => (hI.out.seen_ y hy).all) hox.all hx
        have HI2 := Aside0.mk (hI.out.new hx)
        have hul := users_length rs x
        have hbound : left'.length + (gath rs (userOf x)).length ≤ 8388608 := by
          have h2 : rs.length * (seen ++ [x]).length ≤ rs.length * ((opnAll rs).length + 1) := Nat.mul_le_mul_left _ (by simp; omega)
          omega
        have hmbW := hS.out.map.lt
        clear hx hS1 hox
        go_wp2_with (first
          | (go_at_call 63; refine hcall.mono ?_; rintro e w3 ⟨rfl, hS3, hg3⟩; have hne3 : wr.heap.size ≠ mb' := by { omega }; have hbx3 : IdBox w3 wr.heap.size x := (hg3.block wr.heap.size (by simp) (by simpa using hne3)).trans (heap_alloc_new wr _); have b0 := hbx3.c0; have b1 := hbx3.c1; have hs3 : wr.heap.size + 1 ≤ w3.heap.size := by { have := hg3.size; simpa using this }; have hB3 : Below w.heap.size w w3 := (hB.out.alloc hB.out.size _).grown hg3 (by { have := hB.out.size; simp; omega }) (fun k e => by { injection e with e; omega }))
          | (go_at_call 64; refine (usersP_calls (HG.out.below hB3 (Nat.le_refl _)) x hrl).mono ?_; rintro e w4 ⟨A3, c3, rfl, hO4, hb4⟩)
          | (at_builtin; refine wpList_append_ids ((HOL.out.same (w' := w3) (fun q hq => by { have hq1 := hrow q hq; exact (hg3.block q (by { simp; omega }) (fun e => by { injection e with e; omega })).trans (Below.heap_alloc _ _ _ hq1.2) })).below hb4 (Nat.le_refl _)) (hO4.C (by omega)) hbound (by have := hb4.size; omega) rfl (.tmp 26) (.tmp 29) rfl rfl rfl ?_; intro A6 c6 w6 hown6 hgrow6 hat6))
        have hs4 := hb4.size
        have hsl3 := (Array.getElem?_eq_some_iff.1 hS3.cell).1
        have hml3 := hS3.map.lt
        have hS4 := hS3.below hb4 hsl3 hml3
        have hS6 : SetAt w6 sb mb' (seen ++ [x]) := by
          have hh : ∀ i, i < w4.heap.size → i < w1.heap.size → w6.heap[i]? = w4.heap[i]? := fun i hi h1 => hgrow6.block i hi (fun e => by have := (hrow i e.symm).1; omega)
          exact ⟨(hh sb (by omega) hsl).trans hS4.cell, hS4.map.same (hh mb' (by omega) hml)⟩
        have hB6 : Below w.heap.size w w6 := (hB3.trans (hb4.mono hB3.size)).grown hgrow6 (Nat.le_trans hB3.size hb4.size) (fun k e => by have := (hrow k e).1; omega)
        have hl6 := hS6.len_eq
        have hlS := hS.out.len_eq
        have hs6 := hgrow6.size
        go_roundw
        case rel => exact ⟨A6, c6, left' ++ gath rs (userOf x), seen ++ [x], by simp, by omega, ⟨hown6⟩, ⟨hS6⟩, ⟨hB6⟩, HI2⟩
        case measure =>
          rw [hl6, hlS]
          simp only [sliceLen, List.length_append, List.length_singleton]
          have e : (opnAll rs).length - seen.length = ((opnAll rs).length - (seen.length + 1)) + 1 := by omega
          rw [e, Nat.add_mul]
          omega
theorem ids_length (rs : List Rec) : (gath rs fun r => [r.f0]).length ≤ rs.length := by
  refine Nat.le_trans (sortIds_length _) ?_
  induction rs with
  | nil => simp
  | cons r rs ih => simp only [List.flatMap_cons, List.length_append, List.length_cons, List.length_nil]; omega
theorem filter_take_snoc (s l : List Id) (x : Id) : (l ++ [x]).filter (fun y => !decide (y ∈ s)) = if x ∈ s then l.filter (fun y => !decide (y ∈ s)) else l.filter (fun y => !decide (y ∈ s)) ++ [x] := by
  rw [List.filter_append]
  by_cases h : x ∈ s <;> simp [h]
set_option maxRecDepth 100000 in
set_option maxHeartbeats 1600000 in
theorem closed_calls {w : World} {p : Option Addr} {mb : Nat} {rs : List Rec} (hg : GraphP w p mb rs) (K : Nat) (hK : ∀ r ∈ rs, r.f2.length ≤ K) (hl : rs.length * K ≤ 1048576) (hk : K ≤ 1048576) (hrl : rs.length ≤ 1048576)
    (hb : (gath rs (missOf rs)).length + rs.length * ((opnAll rs).length + 1) ≤ 1048576) :
    Calls Try.prog 11 #[.pointer p] w fun e w' => ∃ A c out, e = .returned (.slice A out.length c) ∧ OwnIds w' w.heap.size A c out ∧ out.length ≤ 1048576 ∧ Rising out ∧ (∀ x, x ∈ out ↔ hasRec rs x = true ∧ ¬ Opn rs x) ∧ Below w.heap.size w w' := by
  have hopen := open_calls hg K hK hl hk hrl hb
  have HG := Aside0.mk hg
  clear hg hK hb
  go_enter Try.func11, Try.ntmps11
  go_wp2_with (first
    | (go_at_call 42; refine hopen.mono ?_; rintro e w1 ⟨sb, mb', s, rfl, hS1, hs, hb1⟩)
    | (go_at_call 43; refine (idsP_calls (HG.out.below hb1 (Nat.le_refl _)) hrl).mono ?_; rintro e w2 ⟨A0, c0, rfl, hO2, hb2⟩))
  have hil : (gath rs fun r => [r.f0]).length ≤ rs.length := by
    exact ids_length rs
  have him : ∀ x, x ∈ (gath rs fun r => [r.f0]) ↔ hasRec rs x = true := by
    intro x
    unfold gath
    rw [mem_sortIds, hasRec_iff, List.mem_flatMap]
    constructor
    · rintro ⟨r, hr, h⟩; exact ⟨r, hr, (List.mem_singleton.1 h).symm⟩
    · rintro ⟨r, hr, rfl⟩; exact ⟨r, hr, by simp⟩
  have hir : Rising (gath rs fun r => [r.f0]) := rising_sortIds _
  have hC2 := hO2.C (by omega)
  generalize (gath rs fun r => [r.f0]) = ids at hil him hir hC2 hO2 ⊢
  have hsl := (Array.getElem?_eq_some_iff.1 hS1.cell).1
  have hml := hS1.map.lt
  have HS2 := Aside0.mk (hS1.below hb2 hsl hml)
  have hB2 := hb1.trans (hb2.mono hb1.size)
  have HB2 := Aside0.mk hB2
  have HC2 := Aside0.mk hC2
  have HIM := Aside0.mk him
  have HIR := Aside0.mk hir
  have HSS := Aside0.mk hs
  clear hS1 hb1 hb2 hO2 hopen hC2 hB2 him hir hs hsl hml
  go_loopw [4, 12] (fun v i wr => ∃ (k : Nat) (A : Option Addr) (c : Nat) (acc : List Id), k ≤ ids.length ∧ i = .int .i64 k ∧ v = .slice A acc.length c ∧ Aside0 (acc = (ids.take k).filter fun y => !decide (y ∈ s)) ∧ Aside0 (OwnIds wr w2.heap.size A c acc) ∧ Aside0 (Below w2.heap.size w2 wr)) (fun _ i _ => ids.length - (intOf i).toNat)
  case atStart => exact ⟨0, none, 0, [], Nat.zero_le _, rfl, rfl, ⟨by simp⟩, ⟨ownIds_nil _ _⟩, ⟨Below.refl _ _⟩⟩
  case round =>
    obtain ⟨k, A, c, acc, hk', rfl, rfl, hacc, hown, hB⟩ := hrel
    have hal : acc.length ≤ k := by rw [hacc.out]; exact Nat.le_trans (List.length_filter_le _ _) (by simp; omega)
    by_cases hlt : k < ids.length
    · obtain ⟨ad, rfl, x0, x1⟩ := PRef.at_T37 (cel_id.C (CKeep.below hB.out) HC2.out) (k : Int) (by omega) (by omega)
      have HT := Aside0.mk (take_succ_rd ids k hlt)
      generalize PRef.rd_T37 ids (k : Int) = x at x0 x1 HT
      simp only [Int.toNat_natCast] at x0 x1
      have hbx : Below w2.heap.size w2 (wr.alloc (.cells #[.int .i64 x.f0, .int .i64 x.f1] 37)) := hB.out.alloc hB.out.size _
      have hcall := set_has (HS2.out.below hbx (Array.getElem?_eq_some_iff.1 HS2.out.cell).1 HS2.out.map.lt) x
      have HBX := Aside0.mk hbx
      by_cases hh : x ∈ s
      · have hd : decide (x ∈ s) = true := by simp [hh]
        rw [hd] at hcall
        have HH := Aside0.mk hh
        clear hh hbx hd
        go_wp2_with (go_at_call 44; refine hcall.mono ?_; rintro e w3 ⟨rfl, hb3⟩)
        go_roundw
        case rel =>
          have hb4 := HBX.out.trans (hb3.mono HBX.out.size)
          have hb5 : Below wr.heap.size wr w3 := ((Below.refl wr.heap.size wr).alloc (Nat.le_refl _) _).trans (hb3.mono (by simp))
          exact ⟨k + 1, A, c, acc, by omega, by go_num, rfl, ⟨by rw [HT.out, filter_take_snoc, if_pos HH.out]; exact hacc.out⟩, ⟨hown.out.below hb5 (Nat.le_refl _)⟩, ⟨hb4⟩⟩
        case measure => simp [intOf]; omega
      · have hd : decide (x ∈ s) = false := by simp [hh]
        rw [hd] at hcall
        have HH := Aside0.mk hh
        clear hh hbx hd
        go_wp2_with (first
          | (go_at_call 44; refine hcall.mono ?_; rintro e w3 ⟨rfl, hb3⟩; have d0 := ((idBox_new wr x).below hb3 (Nat.le_refl _)).c0; have d1 := ((idBox_new wr x).below hb3 (Nat.le_refl _)).c1)
          | (at_builtin; refine wpList_append_ids ((hown.out.below (((Below.refl wr.heap.size wr).alloc (Nat.le_refl _) _).trans (hb3.mono (by simp))) (Nat.le_refl _)).alloc _) (one_C _ x) (by simp; omega) (by have := hb3.size; have := hB.out.size; simp at *; omega) rfl (.tmp 20) (.tmp 22) rfl rfl rfl ?_; intro A5 c5 w5 hown5 hgrow5 hat5))
        go_roundw
        case rel =>
          have hb4 := HBX.out.trans (hb3.mono HBX.out.size)
          have hlta := hown.out.lt
          exact ⟨k + 1, A5, c5, acc ++ [x], by omega, by go_num, by simp, ⟨by rw [HT.out, filter_take_snoc, if_neg HH.out, hacc.out]⟩, ⟨hown5⟩, ⟨(hb4.alloc hb4.size _).grown hgrow5 (by have := hb4.size; simp; omega) (fun k e => (hlta k e).1)⟩⟩
        case measure => simp [intOf]; omega
    · go_wp2
      go_ret
      obtain rfl : k = ids.length := by omega
      have e := hacc.out
      rw [List.take_length] at e
      refine ⟨A, c, acc, rfl, hown.out.base (fun q hq => Nat.le_trans HB2.out.size (hown.out.lt q hq).1), by omega, ?_, fun x => ?_, HB2.out.trans (hB.out.mono HB2.out.size)⟩
      · rw [e]; exact HIR.out.filter _
      · rw [e, List.mem_filter, HIM.out x]
        simp [HSS.out x]
end Go.Proofs.Ytjffghebcaklaaa
