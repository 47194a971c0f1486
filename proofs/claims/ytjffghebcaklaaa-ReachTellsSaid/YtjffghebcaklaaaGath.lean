/- What a graph gathers of its records: Ids, Missing, Users. -/
import Derived.Test.YtjffghebcaklaaaNew
import Derived.Test.YtjffghebcaklaaaHas
import Derived.Shelf.Abstract
import Derived.Maps.RangeWalk
namespace Go.Proofs.Ytjffghebcaklaaa
open Go Go.RowKit Go.Lib Go.Sort Go.Proofs.YtjffghebcaklaaaW.PrintWords Go.Proofs.YtjffghebcaklaaaW.PrintLast Go.Proofs.YtjffghebcaklaaaW.PrintMore
set_option linter.unusedVariables false
set_option linter.unusedSimpArgs false
attribute [local go_sem] run_store_float
/-- What is gathered where what(r) is taken of each record. -/
def gath (rs : List Rec) (what : Rec → List Id) : List Id := sortIds (rs.flatMap what)
/-- The record of an entry. -/
def whatAt (rs : List Rec) (what : Rec → List Id) (p : Id × Value) : List Id := ((rs.find? fun r => decide (r.f0 = p.1)).map what).getD []
theorem whatAt_of {rs : List Rec} (hn : OnceIds rs) (what : Rec → List Id) {r : Rec} (hr : r ∈ rs) (p : Id × Value) (hp : r.f0 = p.1) : whatAt rs what p = what r := by
  unfold whatAt
  induction rs with
  | nil => cases hr
  | cons q rs ih =>
    unfold OnceIds at hn
    rw [List.map_cons, List.nodup_cons] at hn
    rw [List.find?_cons]
    rcases List.mem_cons.1 hr with rfl | hr
    · simp [hp]
    · have hne : ¬ q.f0 = p.1 := fun e => hn.1 (by rw [e, ← hp]; exact List.mem_map_of_mem hr)
      simp only [hne, decide_false]
      exact ih hn.2 hr
theorem gath_mem {rs : List Rec} (hn : OnceIds rs) (what : Rec → List Id) {m : List (Id × Value)} (h1 : m.map Prod.fst = rs.map (·.f0)) (x : Id) : x ∈ m.flatMap (whatAt rs what) ↔ x ∈ rs.flatMap what := by
  simp only [List.mem_flatMap]
  constructor
  · rintro ⟨p, hp, hx⟩
    have : p.1 ∈ rs.map (·.f0) := by rw [← h1]; exact List.mem_map_of_mem hp
    obtain ⟨r, hr, e⟩ := List.mem_map.1 this
    exact ⟨r, hr, by rwa [whatAt_of hn what hr p e] at hx⟩
  · rintro ⟨r, hr, hx⟩
    have : r.f0 ∈ m.map Prod.fst := by rw [h1]; exact List.mem_map_of_mem hr
    obtain ⟨p, hp, e⟩ := List.mem_map.1 this
    exact ⟨p, hp, by rwa [whatAt_of hn what hr p e.symm]⟩
theorem flat_le (rs : List Rec) (what : Rec → List Id) (K : Nat) (hK : ∀ r ∈ rs, (what r).length ≤ K) : ∀ (m : List (Id × Value)), (m.flatMap (whatAt rs what)).length ≤ m.length * K
  | [] => by simp
  | p :: m => by
    have := flat_le rs what K hK m
    have h1 : (whatAt rs what p).length ≤ K := by
      unfold whatAt
      cases h : rs.find? fun r => decide (r.f0 = p.1) with
      | none => simp
      | some r => exact hK r (List.mem_of_find?_eq_some h)
    rw [List.flatMap_cons, List.length_append, List.length_cons, Nat.succ_mul]
    omega
set_option maxRecDepth 100000 in
set_option maxHeartbeats 1600000 in
theorem gathered_calls {w : World} {g mb : Nat} {rs : List Rec} (h : GraphAt w g mb rs) (fnum : Nat) (cap : Array Value) (what : Rec → List Id) (heg : Enters Try.prog fnum) (K : Nat) (hK : ∀ r ∈ rs, (what r).length ≤ K) (hKl : rs.length * K ≤ 1048576)
    (hf : ∀ r ∈ rs, ∀ W v, Below w.heap.size w W → RecV W v r → Calls Try.prog fnum (#[v] ++ cap) W fun e w' => ∃ A c, e = .returned (.slice A (what r).length c) ∧ Kd.C kId w' A (what r).length (what r) ∧ Below W.heap.size W w') :
    Calls Try.prog 65 #[.pointer (some ⟨g, 0, none⟩), .func (.func fnum) #[] cap] w fun e w' => ∃ A c, e = .returned (.slice A (gath rs what).length c) ∧ OwnIds w' w.heap.size A c (gath rs what) ∧ Below w.heap.size w w' := by
  have heg' : ∀ (args : Array Value) (w : World), (callFunc fnum args).run Try.prog w = .ok (.enter fnum args) w := heg
  obtain ⟨n, hg⟩ := h.cell
  obtain ⟨m, hm, hfst, hrec⟩ := h.recs
  obtain ⟨o, hrun, hR⟩ := hm.range (Try.underlying70)
  have hgc := cell_of_row _ g 0 _ _ _ hg
  have hlen : m.length = rs.length := by have := congrArg List.length hfst; simpa using this
  have hlt := h.lt
  have hon := h.recs.once
  have HR := Aside0.mk hR
  have HREC := Aside0.mk hrec
  have HF := Aside0.mk hf
  have HK := Aside0.mk hK
  have HFST := Aside0.mk hfst
  have HON := Aside0.mk hon
  have HM := Aside0.mk hm
  clear hR hrec hf hK hfst hon h hg hm
  go_enter Try.func65, Try.ntmps65
  go_wp2
  have hB0 : Below w.heap.size w (w.alloc o) := (Below.refl _ _).alloc (Nat.le_refl _) _
  have hsz0 : (w.alloc o).heap.size = w.heap.size + 1 := by simp
  generalize w.alloc o = W0 at HR hB0 hsz0 ⊢
  have HB0 := Aside0.mk hB0
  have HS0 := Aside0.mk hsz0
  clear hB0 hsz0 hrun hgc
  go_loopw [5] (fun v wr => ∃ (A : Option Addr) (c : Nat) (acc : List Id) (todo : List (Id × Value)), v = .slice A acc.length c ∧ Aside0 (OwnIds wr (w.heap.size + 1) A c acc) ∧ Aside0 (RangeAt wr w.heap.size mb todo) ∧ Aside0 (Below w.heap.size w wr) ∧
      acc.length + todo.length * K ≤ rs.length * K ∧ Aside0 ((∀ x, x ∈ rs.flatMap what ↔ x ∈ acc ∨ x ∈ todo.flatMap (whatAt rs what)) ∧ ∀ p ∈ todo, p ∈ m)) (fun _ wr => leftW wr w.heap.size mb)
  case atStart =>
    exact ⟨none, 0, [], m, rfl, ⟨ownIds_nil _ _⟩, HR, HB0, by simp [hlen], ⟨fun x => by rw [gath_mem HON.out what HFST.out]; simp, fun _ h => h⟩⟩
  case round =>
    obtain ⟨A, c, acc, todo, rfl, hown, hR, hB, hle, hG⟩ := hrel
    rcases hR.out.next with ⟨rfl, hrun⟩ | ⟨x, v, rest, w1, hperm, hrun, hR1, hent, hs1, hg1⟩
    · have hac : acc.length ≤ 1048576 := by omega
      have hsort := sorted_own A c acc wr (hown.out.C (by omega)) hac
      go_wp2_with (go_at_call 48; refine hsort.mono ?_; rintro e w3 ⟨B, d, rfl, hC3, hb3⟩)
      go_ret
      have e : sortIds acc = gath rs what := sortIds_congr fun x => by rw [hG.out.1]; simp
      rw [e] at hC3 ⊢
      exact ⟨_, _, rfl, hC3.base (fun q hq => Nat.le_trans hB.out.size (hC3.lt q hq).1), hB.out.trans (hb3.mono hB.out.size)⟩
    · have hmem : ((x, v) : Id × Value) ∈ m := hG.out.2 _ (hperm.mem_iff.2 List.mem_cons_self)
      obtain ⟨r, hr, hrx, hv⟩ := HREC.out _ hmem
      simp only at hrx
      subst hrx
      have hw : whatAt rs what (r.f0, v) = what r := whatAt_of HON.out what hr _ rfl
      have hlr := HK.out r hr
      have hB1 : Below w.heap.size w w1 := hB.out.grown hg1 hB.out.size (fun k e => by injection e with e; omega)
      have hv1 := hv.keep (CKeep.below hB1)
      obtain ⟨A3, c3, A4, c4, rfl, _⟩ := id hv1
      have hbx : Below w.heap.size w (w1.alloc (.cells #[.int .i64 r.f0.f0, .int .i64 r.f0.f1, .int .i64 r.f1, .slice A3 r.f2.length c3, .slice A4 r.f3.length c4] 49)) := hB1.alloc hB1.size _
      have hcall := HF.out r hr _ _ hbx (hv.keep (CKeep.below hbx))
      have hpl : todo.length = rest.length + 1 := by have := hperm.length_eq; simpa using this
      have hown1 : OwnIds w1 (w.heap.size + 1) A c acc := hown.out.kept hg1 (by
        rcases hown.out.form with ⟨rfl, _⟩ | ⟨g', cur, rfl, hge, _⟩
        · exact .inl rfl
        · exact .inr (by simp [rowOf]; omega))
      have HR1 := Aside0.mk hR1
      have HB1 := Aside0.mk hB1
      have HOW := Aside0.mk hown1
      have HPE := Aside0.mk hperm
      have HWH := Aside0.mk hw
      have hac : acc.length + (what r).length ≤ 8388608 := by
        have : todo.length * K = rest.length * K + K := by rw [hpl, Nat.succ_mul]
        omega
      have hrun' := hrun
      have HSZ := Aside0.mk (show w1.heap.size = wr.heap.size from hs1)
      have hge := HS0.out
      clear hperm hR1 hB1 hown1 hw hrun hs1 hg1 hbx hv1 hv hmem hge
      go_wp2_with (first
        | (go_at_fn fnum; refine hcall.mono ?_; rintro e w3 ⟨A1, c1, rfl, hC1, hb3⟩)
        | (at_builtin; refine wpList_append_ids (HOW.out.below ((Below.refl _ _).trans (((Below.refl w1.heap.size w1).alloc (Nat.le_refl _) _).trans (hb3.mono (by simp)))) (Nat.le_refl _)) hC1 hac (by have := hb3.size; have := HB1.out.size; simp at *; omega) rfl (.tmp 20) (.tmp 23) rfl rfl rfl ?_; intro A5 c5 w5 hown5 hgrow5 hat5))
      have hlta := HOW.out.lt
      have hb13 : Below w1.heap.size w1 w3 := ((Below.refl w1.heap.size w1).alloc (Nat.le_refl _) _).trans (hb3.mono (by simp))
      have hs13 := hb13.size
      have hB3 := HB1.out.trans (hb13.mono HB1.out.size)
      have hB5 : Below w.heap.size w w5 := hB3.grown hgrow5 hB3.size (fun k e => by have := (hlta k e).1; omega)
      have hblk : ∀ i, i < w1.heap.size → some i ≠ rowOf A → w5.heap[i]? = w1.heap[i]? := fun i hi hne => (hgrow5.block i (by omega) hne).trans (hb13.block i hi)
      have hrl := HR1.out.lt
      have hR5 := HR1.out.same (hblk w.heap.size hrl.1 (fun e => by have := (hlta _ e.symm).1; omega)) (hblk mb hrl.2 (fun e => by have := (hlta _ e.symm).1; omega))
      have hl1 := hR.out.left
      go_roundw
      case rel =>
        refine ⟨A5, c5, acc ++ what r, rest, by rw [List.length_append], ⟨hown5⟩, ⟨hR5⟩, ⟨hB5⟩, ?_, ⟨fun x => ?_, fun p hp => hG.out.2 p (HPE.out.mem_iff.2 (List.mem_cons_of_mem _ hp))⟩⟩
        · rw [List.length_append]
          have : todo.length * K = rest.length * K + K := by rw [hpl, Nat.succ_mul]
          omega
        · rw [hG.out.1 x, List.mem_append]
          have := (HPE.out.flatMap_right (whatAt rs what)).mem_iff (a := x)
          rw [this, List.flatMap_cons, HWH.out, List.mem_append, or_assoc]
      case measure =>
        rw [hR5.left, hl1]
        omega
end Go.Proofs.Ytjffghebcaklaaa
