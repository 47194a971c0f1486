/- The program's package edges: what a graph is in memory; who is in it. -/
import Derived.Test.YtjffghebcaklaaaMapR
import Derived.Test.YtjffghebcaklaaaRec
namespace Go.Proofs.Ytjffghebcaklaaa
open Go Go.RowKit Go.Lib Go.Sort Go.Proofs.YtjffghebcaklaaaW.PrintWords Go.Proofs.YtjffghebcaklaaaW.PrintLast Go.Proofs.YtjffghebcaklaaaW.PrintMore
set_option linter.unusedVariables false
set_option linter.unusedSimpArgs false
attribute [local go_sem] run_store_float
/-- v is the record r. -/
def RecV (w : World) (v : Value) (r : Rec) : Prop := ∃ A c A' c', v = .agg #[.int .i64 r.f0.f0, .int .i64 r.f0.f1, .int .i64 r.f1, .slice A r.f2.length c, .slice A' r.f3.length c'] ∧ r.f2.length ≤ c ∧ r.f3.length ≤ c' ∧ Kd.C kId w A r.f2.length r.f2 ∧ Kd.C kCmd w A' r.f3.length r.f3
theorem RecV.keep {w w' : World} {v : Value} {r : Rec} (h : RecV w v r) (hb : CKeep w w') : RecV w' v r := by
  obtain ⟨A, c, A', c', h1, h2, h3, h4, h5⟩ := h
  exact ⟨A, c, A', c', h1, h2, h3, cel_id.C hb h4, cel_cmd.C hb h5⟩
/-- The map in block mb holds the records rs, by their ids. -/
def RecsAt (w : World) (mb : Nat) (rs : List Rec) : Prop := ∃ m, MapAt w mb m ∧ m.map Prod.fst = rs.map (·.f0) ∧ ∀ p ∈ m, ∃ r ∈ rs, r.f0 = p.1 ∧ RecV w p.2 r
theorem RecsAt.keep {w w' : World} {mb : Nat} {rs : List Rec} (h : RecsAt w mb rs) (hb : CKeep w w') (hm : w'.heap[mb]? = w.heap[mb]?) : RecsAt w' mb rs := by
  obtain ⟨m, h1, h2, h3⟩ := h
  exact ⟨m, h1.same hm, h2, fun p hp => by obtain ⟨r, hr, e, hv⟩ := h3 p hp; exact ⟨r, hr, e, hv.keep hb⟩⟩
theorem RecsAt.lt {w : World} {mb : Nat} {rs : List Rec} (h : RecsAt w mb rs) : mb < w.heap.size := by
  obtain ⟨m, h1, _⟩ := h
  exact h1.lt
theorem RecsAt.below {w w' : World} {mb n : Nat} {rs : List Rec} (h : RecsAt w mb rs) (hb : Below n w w') (hn : w.heap.size ≤ n) : RecsAt w' mb rs :=
  h.keep (CKeep.below (hb.mono hn)) (hb.block mb (Nat.lt_of_lt_of_le h.lt hn))
theorem RecsAt.once {w : World} {mb : Nat} {rs : List Rec} (h : RecsAt w mb rs) : OnceIds rs := by
  obtain ⟨m, h1, h2, _⟩ := h
  unfold OnceIds
  rw [← h2]
  exact h1.nodup
theorem mget_some {m : List (Id × Value)} {x : Id} {v : Value} (h : mget m x = some v) : (x, v) ∈ m := by
  unfold mget at h
  obtain ⟨p, hp, rfl⟩ := Option.map_eq_some_iff.1 h
  have h1 := List.mem_of_find?_eq_some hp
  have h2 : x = p.1 := by simpa using List.find?_some hp
  rw [h2]
  exact h1
theorem mget_isSome (m : List (Id × Value)) (x : Id) : (mget m x).isSome = decide (x ∈ m.map Prod.fst) := by
  unfold mget
  rw [Option.isSome_map, Bool.eq_iff_iff, List.find?_isSome]
  simp only [decide_eq_true_eq, List.mem_map]
  constructor
  · rintro ⟨p, hp, rfl⟩; exact ⟨p, hp, rfl⟩
  · rintro ⟨p, hp, rfl⟩; exact ⟨p, hp, rfl⟩
theorem hasRec_mem (rs : List Rec) (x : Id) : hasRec rs x = decide (x ∈ rs.map (·.f0)) := by
  rw [Bool.eq_iff_iff, hasRec_iff]
  simp
def noRec : Value := .agg #[.int .i64 0, .int .i64 0, .int .i64 0, .slice none 0 0, .slice none 0 0]
theorem zeroRec : ∀ W : World, (zeroValue 49).run Try.prog W = .ok noRec W := fun W => by kernel_rfl
/-- What a look into the map tells. -/
theorem RecsAt.look {w : World} {mb : Nat} {rs : List Rec} (h : RecsAt w mb rs) (x : Id) (ok : Bool) :
    (hasRec rs x = true ∧ ∃ r v, r ∈ rs ∧ r.f0 = x ∧ RecV w v r ∧ (Instr.lookup 70 (.map (some mb)) (.agg #[.int .i64 x.f0, .int .i64 x.f1]) ok).run Try.prog w = .ok (if ok then .tuple #[v, .bool true] else v) w) ∨
    (hasRec rs x = false ∧ (Instr.lookup 70 (.map (some mb)) (.agg #[.int .i64 x.f0, .int .i64 x.f1]) ok).run Try.prog w = .ok (if ok then .tuple #[noRec, .bool false] else noRec) w) := by
  obtain ⟨m, h1, h2, h3⟩ := h
  have hl := h1.lookup (Try.underlying70) x zeroRec ok
  have hs := mget_isSome m x
  rw [h2, ← hasRec_mem] at hs
  cases hg : mget m x with
  | none =>
    rw [hg] at hs hl
    right
    exact ⟨hs.symm, hl⟩
  | some v =>
    rw [hg] at hs hl
    left
    obtain ⟨r, hr, e, hv⟩ := h3 _ (mget_some hg)
    exact ⟨hs.symm, r, v, hr, e, hv, hl⟩
theorem rec_store (v : Value) (r : Rec) (w : World) (h : RecV w v r) : ∃ A c A' c', v = .agg #[.int .i64 r.f0.f0, .int .i64 r.f0.f1, .int .i64 r.f1, .slice A r.f2.length c, .slice A' r.f3.length c'] := by
  obtain ⟨A, c, A', c', h1, _⟩ := h
  exact ⟨A, c, A', c', h1⟩
set_option maxRecDepth 100000 in
set_option maxHeartbeats 800000 in
theorem index_has {w : World} {mb : Nat} {rs : List Rec} (h : RecsAt w mb rs) (x : Id) :
    Calls Try.prog 40 #[.agg #[.map (some mb)], .agg #[.int .i64 x.f0, .int .i64 x.f1]] w fun e w' => e = .returned (.bool (hasRec rs x)) ∧ Below w.heap.size w w' := by
  have hb : Below w.heap.size w ((w.alloc (.cells #[.map (some mb)] 72)).alloc (.cells #[.int .i64 x.f0, .int .i64 x.f1] 37)) := ((Below.refl _ _).alloc (Nat.le_refl _) _).alloc (by simp) _
  rcases (h.below hb (Nat.le_refl _)).look x true with ⟨hh, r, v, hr, e, hv, hl⟩ | ⟨hh, hl⟩
  · obtain ⟨A, c, A', c', rfl, _⟩ := hv
    rw [if_pos rfl] at hl
    rw [hh]
    have HB := Aside0.mk hb
    clear hb hh h hr e
    go_enter Try.func40, Try.ntmps40
    go_wp2
    go_ret
    exact ⟨rfl, HB.out.trans ((Below.refl _ _).alloc (by simp; omega) _)⟩
  · rw [if_pos rfl] at hl
    unfold noRec at hl
    rw [hh]
    have HB := Aside0.mk hb
    clear hb hh h
    go_enter Try.func40, Try.ntmps40
    go_wp2
    go_ret
    exact ⟨rfl, HB.out.trans ((Below.refl _ _).alloc (by simp; omega) _)⟩
/-- The graph at g: its map in block mb. -/
structure GraphAt (w : World) (g mb : Nat) (rs : List Rec) : Prop where
  cell : ∃ n : Int, w.heap[g]? = some (.cells #[.map (some mb), .int .i64 n] 74 (0, 0))
  recs : RecsAt w mb rs
theorem GraphAt.lt {w : World} {g mb : Nat} {rs : List Rec} (h : GraphAt w g mb rs) : g < w.heap.size ∧ mb < w.heap.size := by
  obtain ⟨⟨n, h1⟩, h2⟩ := h
  exact ⟨(Array.getElem?_eq_some_iff.1 h1).1, h2.lt⟩
theorem GraphAt.below {w w' : World} {g mb n : Nat} {rs : List Rec} (h : GraphAt w g mb rs) (hb : Below n w w') (hn : w.heap.size ≤ n) : GraphAt w' g mb rs :=
  ⟨by obtain ⟨k, hk⟩ := h.cell; exact ⟨k, (hb.block g (Nat.lt_of_lt_of_le h.lt.1 hn)).trans hk⟩, h.recs.below hb hn⟩
theorem below_heap {w W : World} (h : W.heap = w.heap) (h1 : W.os = w.os := by rfl) (h2 : W.tape = w.tape := by rfl) (h3 : W.output = w.output := by rfl) : Below w.heap.size w W := ⟨h1, h2, h3, by rw [h]; exact Nat.le_refl _, fun i _ => by rw [h]⟩
set_option maxRecDepth 100000 in
set_option maxHeartbeats 800000 in
theorem graph_has {w : World} {g mb : Nat} {rs : List Rec} (h : GraphAt w g mb rs) (x : Id) :
    Calls Try.prog 47 #[.pointer (some ⟨g, 0, none⟩), .agg #[.int .i64 x.f0, .int .i64 x.f1]] w fun e w' => e = .returned (.bool (hasRec rs x)) ∧ Below w.heap.size w w' := by
  have hb : Below w.heap.size w (w.alloc (.cells #[.int .i64 x.f0, .int .i64 x.f1] 37)) := (Below.refl _ _).alloc (Nat.le_refl _) _
  have hg := h.below hb (Nat.le_refl _)
  have HR := Aside0.mk (fun n => hg.recs.below (pw_below_drewN (Below.refl _ _) n) (Nat.le_refl _))
  obtain ⟨n, hc⟩ := hg.cell
  have hc1 : (w.alloc (.cells #[.int .i64 x.f0, .int .i64 x.f1] 37)).cell? ⟨g, 0, none⟩ = some (.map (some mb)) := by rw [cell_of_row _ g 0 _ _ _ hc]; rfl
  have HB := Aside0.mk hb
  clear hb h hg hc
  go_enter Try.func47, Try.ntmps47
  go_wp2
  go_region_with (go_at_call 40; refine (index_has (HR.out _) x).mono ?_; rintro e w1 ⟨rfl, hb1⟩)
  all_goals
    go_wp2
    go_ret
    refine ⟨rfl, ?_⟩
    repeat (first | exact below_step (by repeat (first | exact HB.out | apply pw_below_drewN | apply below_drew1)) hb1 | apply pw_below_drewN | apply below_drew1)
end Go.Proofs.Ytjffghebcaklaaa
