/- reach.each: the iterator over what is reached. -/
import Derived.Test.YtjffghebcaklaaaGp
import Derived.Test.YtjffghebcaklaaaRf
import Derived.Shelf.RegionOpen
import Derived.TacticsInMore
import Derived.LoopNIn
import Derived.LoopIn
namespace Go.Proofs.Ytjffghebcaklaaa
open Go Go.RowKit Go.Shelf Go.Lib Go.Sort Go.Proofs.YtjffghebcaklaaaW.PrintWords Go.Proofs.YtjffghebcaklaaaW.PrintLast Go.Proofs.YtjffghebcaklaaaW.PrintMore
set_option linter.unusedVariables false
set_option linter.unusedSimpArgs false
attribute [local go_sem] run_store_float
theorem wide_fn (f : FuncId) : Fence.wide.fn f = True := rfl
theorem wide_depth : (Fence.wide.depth = none) = True := by simp [Fence.wide]
attribute [local go_sem] wide_fn wide_depth
theorem each_calls (p : Option Addr) (n c : Nat) (A : Option Addr) (w : World) :
    Calls Try.prog 46 #[.pointer p, .slice A n c] w fun e w' => e = .returned (.func (.func 68) #[] #[.pointer (some ⟨w.heap.size + 1, 0, none⟩), .pointer (some ⟨w.heap.size, 0, none⟩)]) ∧ w' = (w.alloc (.cells #[.pointer p] 28)).alloc (.cells #[.slice A n c] 23) := by
  have hmf : ∀ (fn : Fn) (first cap : Array Value) (w : World), (Instr.makeFunc fn first cap).run Try.prog w = .ok (.func fn first cap) w := fun _ _ _ _ => rfl
  go_enter Try.func46, Try.ntmps46
  go_wp2
  go_ret
  exact ⟨rfl, rfl⟩
/-- Where the iterator stands between two rounds. -/
structure EachInv (rs : List Rec) (l seen left : List Id) (D : Nat) : Prop where
  nodup : seen.Nodup
  seen_ : ∀ x ∈ seen, Rch rs l x
  left_ : ∀ x ∈ left, Rch rs l x
  from_ : ∀ x ∈ l, x ∈ seen ∨ x ∈ left
  deps_ : ∀ x ∈ seen, ∀ y ∈ depsOf rs x, y ∈ seen ∨ y ∈ left
  size_ : left.length ≤ l.length + D * seen.length
theorem EachInv.start (rs : List Rec) (l : List Id) (D : Nat) : EachInv rs l [] l D := ⟨by simp, by simp, fun x hx => .base hx, fun x hx => .inr hx, by simp, by simp⟩
theorem EachInv.done {rs : List Rec} {l seen : List Id} {D : Nat} (h : EachInv rs l seen [] D) (x : Id) : x ∈ seen ↔ Rch rs l x :=
  ⟨h.seen_ x, fun hx => Rch.closed (P := fun x => x ∈ seen) (fun x hx => (h.from_ x hx).resolve_right (by simp)) (fun x y hx hy => (h.deps_ x hx y hy).resolve_right (by simp)) hx⟩
theorem EachInv.old {rs : List Rec} {l seen left : List Id} {D : Nat} {x : Id} (h : EachInv rs l seen (left ++ [x]) D) (hx : x ∈ seen) : EachInv rs l seen left D :=
  ⟨h.nodup, h.seen_, fun y hy => h.left_ y (List.mem_append_left _ hy), fun y hy => by
    rcases h.from_ y hy with h1 | h1
    · exact .inl h1
    · rcases List.mem_append.1 h1 with h1 | h1
      · exact .inr h1
      · rw [List.mem_singleton.1 h1]; exact .inl hx, fun y hy z hz => by
    rcases h.deps_ y hy z hz with h1 | h1
    · exact .inl h1
    · rcases List.mem_append.1 h1 with h1 | h1
      · exact .inr h1
      · rw [List.mem_singleton.1 h1]; exact .inl hx, by have := h.size_; rw [List.length_append] at this; simp at this; omega⟩
theorem EachInv.new {rs : List Rec} {l seen left : List Id} {D : Nat} {x : Id} (h : EachInv rs l seen (left ++ [x]) D) (hx : x ∉ seen) (hD : (depsOf rs x).length ≤ D) : EachInv rs l (seen ++ [x]) (left ++ depsOf rs x) D := by
  have hrx : Rch rs l x := h.left_ x (by simp)
  refine ⟨?_, fun y hy => ?_, fun y hy => ?_, fun y hy => ?_, fun y hy z hz => ?_, ?_⟩
  · rw [List.nodup_append]
    exact ⟨h.nodup, by simp, fun a ha b hb e => hx (by rw [← List.mem_singleton.1 hb, ← e]; exact ha)⟩
  · rcases List.mem_append.1 hy with hy | hy
    · exact h.seen_ y hy
    · rw [List.mem_singleton.1 hy]; exact hrx
  · rcases List.mem_append.1 hy with hy | hy
    · exact h.left_ y (List.mem_append_left _ hy)
    · exact .step hrx hy
  · rcases h.from_ y hy with h1 | h1
    · exact .inl (List.mem_append_left _ h1)
    · rcases List.mem_append.1 h1 with h1 | h1
      · exact .inr (List.mem_append_left _ h1)
      · exact .inl (List.mem_append_right _ h1)
  · rcases List.mem_append.1 hy with hy | hy
    · rcases h.deps_ y hy z hz with h1 | h1
      · exact .inl (List.mem_append_left _ h1)
      · rcases List.mem_append.1 h1 with h1 | h1
        · exact .inr (List.mem_append_left _ h1)
        · exact .inl (List.mem_append_right _ h1)
    · rw [List.mem_singleton.1 hy] at hz
      exact .inr (List.mem_append_right _ hz)
  · have := h.size_
    simp only [List.length_append, List.length_singleton] at this ⊢
    rw [Nat.mul_add]
    omega
def sliceLen (v : Value) : Nat := match v with | .slice _ n _ => n | _ => 0
def mapLen (w : World) (b : Nat) : Nat := match w.heap[b]? with | some (.map es _) => es.size | _ => 0
theorem MapAt.len_eq {w : World} {b : Nat} {m : List (Id × Value)} (h : MapAt w b m) : mapLen w b = m.length := by
  obtain ⟨es, clock, hb, rfl, _⟩ := h
  unfold mapLen
  rw [hb]
  simp
theorem SetAt.len_eq {w : World} {sb mb : Nat} {s : List Id} (h : SetAt w sb mb s) : mapLen w mb = s.length := by
  rw [h.map.len_eq]
  simp [setM]
theorem ownIds_empty (w : World) (B : Nat) (hB : B ≤ w.heap.size) : OwnIds (w.alloc (.cells #[] 37)) B (some ⟨w.heap.size, 0, none⟩) 0 [] :=
  ⟨rfl, .inr ⟨w.heap.size, 0, #[], rfl, hB, heap_alloc_new w _, Nat.le_refl _, by decide, rfl, rfl⟩⟩
/-- A slice in a variable's box. -/
def SliceBox (w : World) (b : Nat) (A : Option Addr) (n c : Nat) : Prop := w.heap[b]? = some (.cells #[.slice A n c] 23 (0, 0))
theorem SliceBox.c0 {w : World} {b n c : Nat} {A : Option Addr} (h : SliceBox w b A n c) : w.cell? ⟨b, 0, none⟩ = some (.slice A n c) := cell_of_row w b 0 _ _ _ h
theorem SliceBox.lt {w : World} {b n c : Nat} {A : Option Addr} (h : SliceBox w b A n c) : b < w.heap.size := (Array.getElem?_eq_some_iff.1 h).1
theorem SliceBox.below {w w' : World} {b n c k : Nat} {A : Option Addr} (h : SliceBox w b A n c) (hb : Below k w w') (hn : w.heap.size ≤ k) : SliceBox w' b A n c := (hb.block b (Nat.lt_of_lt_of_le h.lt hn)).trans h
set_option maxRecDepth 100000 in
set_option maxHeartbeats 1600000 in
theorem each_seq {w w0 : World} {p : Option Addr} {mb : Nat} {rs : List Rec} (hg : GraphP w p mb rs) (hw0 : Below w.heap.size w w0) (bl bg : Nat) (A : Option Addr) (c : Nat) (l : List Id) (hbl : SliceBox w0 bl A l.length c) (hbg : PtrP w0 bg p) (hC : Kd.C kId w0 A l.length l)
    (D : Nat) (hD : ∀ r ∈ rs, r.f2.length ≤ D ∧ r.f3.length ≤ 1048576) (hb : l.length + D * ((allIds rs l).length + 1) ≤ 1048576) :
    SeqC Try.prog 68 #[.pointer (some ⟨bl, 0, none⟩), .pointer (some ⟨bg, 0, none⟩)] (fun x : Id => #[.agg #[.int .i64 x.f0, .int .i64 x.f1]]) (fun xs => xs.Nodup ∧ ∀ x, x ∈ xs ↔ Rch rs l x) (fun pre => pre.Nodup ∧ ∀ x ∈ pre, Rch rs l x) (allIds rs l).length (fun b => b < w.heap.size ∨ b = bl ∨ b = bg) w0 := by
  intro L J Jx C W hW hCC hJ hJx hY h0
  have HN := Aside0.mk (set_new W none 0 [] ⟨rfl, by simp, fun h => absurd h (by simp)⟩ (by simp))
  refine callsIn_of_wp Try.func68 rfl trivial ?_ rfl
  simp only [Try.ntmps68, List.size_toArray, List.length_cons, List.length_nil, Nat.reduceAdd, Nat.reduceSub, Array.replicate_succ, Array.replicate_zero, List.push_toArray, List.append_toArray, List.nil_append, List.cons_append]
  have HY := Aside0.mk hY
  have HJ := Aside0.mk (And.intro hJ hJx)
  have HCC := Aside0.mk hCC
  have H0 := Aside0.mk h0
  have HW := Aside0.mk hW
  have HV := Aside0.mk hw0
  have HG := Aside0.mk hg
  have HBL := Aside0.mk hbl
  have HBG := Aside0.mk hbg
  have HC := Aside0.mk hC
  have HD := Aside0.mk hD
  clear hY hJ hJx hCC h0 hW hg hbl hbg hC hD hw0
  have hlc : ∀ W', Below w0.heap.size w0 W' → Kd.C kId W' A l.length l := fun W' hb => cel_id.C (CKeep.below hb) HC.out
  have HLC := Aside0.mk hlc
  clear hlc
  gi_wp2_with (first
    | (gi_at_call 45; refine (callsIn_wide.2 HN.out).mono ?_; rintro e w1 ⟨sb, mb', rfl, hS1, hsb, hmb, hb1⟩; have hw1 := (HV.out.trans (HW.out.mono HV.out.size)).trans (hb1.mono (Nat.le_trans HV.out.size HW.out.size)); have hw10 := HW.out.trans (hb1.mono HW.out.size); have hbc := (HBL.out.below (hw10.alloc hw10.size (.cells #[] 37)) (Nat.le_refl _)).c0)
    | (gi_at_builtin; refine wpListIn_append_ids (ownIds_empty w1 W.heap.size hb1.size) (HLC.out _ (hw10.alloc hw10.size _)) (by simp; omega) (by have := hb1.size; simp; omega) rfl (.tmp 10) (.tmp 11) rfl rfl rfl ?_; intro A2 c2 w2 hown2 hgrow2 hat2))
  have hB12 : Below w1.heap.size w1 w2 := ((Below.refl w1.heap.size w1).alloc (Nat.le_refl _) _).grown hgrow2 (by simp) (fun k e => by simp [rowOf] at e; omega)
  have hBW2 : Below W.heap.size W w2 := hb1.trans (hB12.mono hb1.size)
  have hsl : sb < w1.heap.size := (Array.getElem?_eq_some_iff.1 hS1.cell).1
  have hml := hS1.map.lt
  have HS2 := Aside0.mk (hS1.below hB12 hsl hml)
  have HJ2 := Aside0.mk (HJ.out.1 _ _ _ _ H0.out (Keeps.below hBW2 (Nat.le_refl _)))
  have HCL := Aside0.mk (fun b hb => Nat.lt_of_lt_of_le (HCC.out b hb).2 hBW2.size)
  have HSEP := Aside0.mk (show ¬ C sb ∧ ¬ C mb' ∧ ∀ q, rowOf A2 = some q → ¬ C q ∧ q ≠ sb ∧ q ≠ mb' from by
    refine ⟨fun h => by have := (HCC.out _ h).2; omega, fun h => by have := (HCC.out _ h).2; omega, fun q hq => ?_⟩
    have hs := hb1.size
    have hge : w1.heap.size ≤ q := by
      rcases hat2 with e | e
      · rw [hq] at e; simp [rowOf] at e; omega
      · rw [hq] at e; simp at e; omega
    exact ⟨fun h => by have := (HCC.out _ h).2; omega, by omega, by omega⟩)
  have HC0 := Aside0.mk (fun b hb => (HCC.out b hb).1)
  have HB2 := Aside0.mk ((HV.out.trans (HW.out.mono HV.out.size)).trans (hBW2.mono (Nat.le_trans HV.out.size HW.out.size)))
  have HP2 := Aside0.mk ((HBG.out.below HW.out (Nat.le_refl _)).below hBW2 (Nat.le_refl _))
  have hwW : w.heap.size ≤ W.heap.size := Nat.le_trans HV.out.size HW.out.size
  have hbgW : bg < W.heap.size := Nat.lt_of_lt_of_le HBG.out.lt HW.out.size
  have HRL := Aside0.mk (show ∀ b, (b < w.heap.size ∨ b = bl ∨ b = bg) → b < W.heap.size from fun b hb => by have h1 := HBL.out.lt; have h2 := HW.out.size; omega)
  have hsz2 := hBW2.size
  have HO2 := Aside0.mk hown2
  clear hB12 hBW2 hS1 hb1 hw1 hw10 hbc hown2 hgrow2 hat2 HN H0 HCC hsl hml
  simp only [List.nil_append] at HO2
  gi_loopw [5] (fun v wr => ∃ (A' : Option Addr) (c' : Nat) (left seen : List Id) (C1 : Nat → Prop), v = .slice A' left.length c' ∧ W.heap.size ≤ wr.heap.size ∧ Aside0 (OwnIds wr W.heap.size A' c' left) ∧ Aside0 (SetAt wr sb mb' seen) ∧ Aside0 (J seen C1 wr) ∧ Aside0 (∀ b, C1 b → b < wr.heap.size) ∧
      Aside0 (¬ C1 sb ∧ ¬ C1 mb' ∧ ∀ q, rowOf A' = some q → ¬ C1 q ∧ q ≠ sb ∧ q ≠ mb') ∧ Aside0 (∀ b, C1 b → ¬ (b < w.heap.size ∨ b = bl ∨ b = bg)) ∧ Aside0 (Below w.heap.size w wr) ∧ Aside0 (PtrP wr bg p) ∧ Aside0 (EachInv rs l seen left D))
    (fun v wr => ((allIds rs l).length - mapLen wr mb') * (D + 1) + sliceLen v)
  case atStart => exact ⟨A2, c2, l, [], C, rfl, hsz2, HO2, HS2, HJ2, HCL, HSEP, HC0, HB2, HP2, ⟨EachInv.start rs l D⟩⟩
  case round =>
    obtain ⟨A', c', left, seen, C1, rfl, hsz, hown, hS, hJ1, hCL, hsep, hC0, hB, hP, hI⟩ := hrel
    clear HO2 HS2 HJ2 HCL HSEP HC0 HB2 HP2 hsz2
    have hseenN : seen.length ≤ (allIds rs l).length := nodup_le hI.out.nodup (fun x hx => (hI.out.seen_ x hx).all)
    have hleftN : left.length ≤ 1048576 := by
      have h1 := hI.out.size_
      have h2 : D * seen.length ≤ D * ((allIds rs l).length + 1) := Nat.mul_le_mul_left _ (by omega)
      omega
    rcases List.eq_nil_or_concat left with rfl | ⟨left', x, rfl⟩
    · simp only [List.length_nil]
      gi_wp2
      go_end0
      exact ⟨⟨_, rfl⟩, .inl ⟨seen, C1, ⟨hI.out.nodup, hI.out.done⟩, hJ1.out⟩⟩
    · rw [List.concat_eq_append] at *
      have hlen : (left' ++ [x]).length = left'.length + 1 := by simp
      have hC' := hown.out.C (by omega)
      obtain ⟨ad, rfl, x0, x1⟩ := PRef.at_T37 hC' (left'.length : Int) (by omega) (by omega)
      have hrd : PRef.rd_T37 (left' ++ [x]) (left'.length : Int) = x := by simp [PRef.rd_T37]
      rw [hrd] at x0 x1
      simp only [Int.toNat_natCast] at x0 x1
      rw [hlen]
      have hll : left'.length ≤ 1048576 := by omega
      have HHL := Aside0.mk hlen
      have hcap : left'.length ≤ c' := by have := hown.out.le; omega
      have hownL : OwnIds wr W.heap.size (some ad) c' left' := by
        have := hown.out.take left'.length (by omega) (by omega)
        rwa [List.take_left] at this
      have HOL := Aside0.mk hownL
      clear hownL
      clear hC' hrd hlen hleftN
      by_cases hx : x ∈ seen
      · have hS1 := hS.out.below ((Below.refl wr.heap.size wr).alloc (Nat.le_refl _) (.cells #[.int .i64 x.f0, .int .i64 x.f1] 37)) (Array.getElem?_eq_some_iff.1 hS.out.cell).1 hS.out.map.lt
        have hcall := set_add_old hS1 x hx
        have HX := Aside0.mk hx
        have HS1 := Aside0.mk hS1
        clear hx hS1
        gi_wp2_with (gi_at_call 63; refine (callsIn_wide.2 hcall).mono ?_; rintro e w3 ⟨rfl, hb3⟩)
        have hb13 : Below wr.heap.size wr w3 := ((Below.refl wr.heap.size wr).alloc (Nat.le_refl _) _).trans (hb3.mono (by simp))
        have hl3 := hS.out.len_eq
        have hS3 := hS.out.below hb13 (Array.getElem?_eq_some_iff.1 hS.out.cell).1 hS.out.map.lt
        have hs13 := hb13.size
        go_roundw
        case rel => exact ⟨some ad, c', left', seen, C1, rfl, by omega, ⟨HOL.out.below hb13 (Nat.le_refl _)⟩, ⟨hS3⟩, ⟨HJ.out.1 _ _ _ _ hJ1.out (Keeps.below hb13 (Nat.le_refl _))⟩, ⟨fun b hb => Nat.lt_of_lt_of_le (hCL.out b hb) hs13⟩, hsep, hC0, ⟨hB.out.trans (hb13.mono hB.out.size)⟩, ⟨hP.out.below hb13 (Nat.le_refl _)⟩, ⟨hI.out.old HX.out⟩⟩
        case measure => rw [hS3.len_eq, hl3]; simp only [sliceLen]; omega
      · have hS1 := hS.out.below ((Below.refl wr.heap.size wr).alloc (Nat.le_refl _) (.cells #[.int .i64 x.f0, .int .i64 x.f1] 37)) (Array.getElem?_eq_some_iff.1 hS.out.cell).1 hS.out.map.lt
        have hcall := set_add_new hS1 x hx
        have hxl : Rch rs l x := hI.out.left_ x (by simp)
        have hlt : seen.length < (allIds rs l).length := nodup_lt hI.out.nodup (fun y hy => (hI.out.seen_ y hy).all) hxl.all hx
        have HX := Aside0.mk hx
        have HXL := Aside0.mk hxl
        clear hx hS1 hxl
        gi_wp2_with (gi_at_call 63; refine (callsIn_wide.2 hcall).mono ?_; rintro e w3 ⟨rfl, hS3, hg3⟩; have hne3 : wr.heap.size ≠ mb' := by { have := hS.out.map.lt; omega }; have hbx3 : IdBox w3 wr.heap.size x := (hg3.block wr.heap.size (by simp) (by simpa using hne3)).trans (heap_alloc_new wr _); have b0 := hbx3.c0; have b1 := hbx3.c1; have hK3 : Keeps W.heap.size C1 wr w3 := (Keeps.below ((Below.refl wr.heap.size wr).alloc (Nat.le_refl _) _) (Nat.le_refl _)).trans (Keeps.grown hg3 (fun r e => by { injection e with e; subst e; exact ⟨hmb, hsep.out.2.1⟩ })); have hs3 : wr.heap.size + 1 ≤ w3.heap.size := by { have := hg3.size; simpa using this }; obtain ⟨fn, tmps, assign, body, hy, hR⟩ := HY.out seen x C1 w3 (HJ.out.1 _ _ _ _ hJ1.out hK3) (fun b hb => by { have := hCL.out b hb; omega }) hlt)
        have hrow := hown.out.lt
        have hmb3 := (hS.out.map.lt)
        refine hR.mono ?_
        rintro e W4 (⟨rfl, C2, hJ4, hm4⟩ | ⟨rfl, C2, hJ4, hm4⟩)
        · have hnew : ∀ b, C1 b → b < wr.heap.size := hCL.out
          have hkeep : ∀ b, b < w3.heap.size → ¬ C1 b → W4.heap[b]? = w3.heap[b]? := hm4.block
          have hB3 : Below w.heap.size w w3 := (hB.out.alloc hB.out.size _).grown hg3 (by have := hB.out.size; simp; omega) (fun k e => by injection e with e; omega)
          have hP3 : PtrP w3 bg p := (hg3.block bg (by simp; omega) (fun e => by injection e with e; omega)).trans (hP.out.below ((Below.refl wr.heap.size wr).alloc (Nat.le_refl _) _) (Nat.le_refl _))
          have hP4 : PtrP W4 bg p := (hkeep bg hP3.lt (fun h => hC0.out bg h (.inr (.inr rfl)))).trans hP3
          have hB4 : Below w.heap.size w W4 := ⟨hm4.os.trans hB3.os, hm4.tape.trans hB3.tape, hm4.output.trans hB3.output, Nat.le_trans hB3.size hm4.size, fun i hi => (hkeep i (Nat.lt_of_lt_of_le hi hB3.size) (fun h => hC0.out i h (.inl hi))).trans (hB3.block i hi)⟩
          have hs4 := hm4.size
          have hbx4 : IdBox W4 wr.heap.size x := (hkeep _ (by omega) (fun h => by have := hnew _ h; omega)).trans hbx3
          have d0 := hbx4.c0
          have d1 := hbx4.c1
          have hS4 : SetAt W4 sb mb' (seen ++ [x]) := ⟨(hkeep sb (Array.getElem?_eq_some_iff.1 hS3.cell).1 hsep.out.1).trans hS3.cell, hS3.map.same (hkeep mb' hS3.map.lt hsep.out.2.1)⟩
          have hO3 : OwnIds w3 W.heap.size (some ad) c' left' := HOL.out.same fun q hq => by
            have hq1 := hrow q hq
            have hq2 := hsep.out.2.2 q hq
            exact (hg3.block q (by simp; omega) (fun e => hq2.2.2 (by injection e))).trans (Below.heap_alloc _ _ _ hq1.2)
          have hO4 : OwnIds W4 W.heap.size (some ad) c' left' := hO3.same fun q hq => hkeep q (hO3.lt q hq).2 (hsep.out.2.2 q hq).1
          have hrec := record_calls (HG.out.below hB4 (Nat.le_refl _)) x (fun r hr => ⟨by
            have h1 := (HD.out r hr).1
            have h2 : D * 1 ≤ D * ((allIds rs l).length + 1) := Nat.mul_le_mul_left _ (by omega)
            omega, (HD.out r hr).2⟩)
          have hgc := hP4.c0
          have HP4 := Aside0.mk hP4
          have hdl : (depsOf rs x).length ≤ D := by
            cases hh : hasRec rs x with
            | false => rw [depsOf_none hh]; simp
            | true =>
              obtain ⟨r, hr, e⟩ := (hasRec_iff rs x).1 hh
              rw [← e, depsOf_of HG.out.once hr]
              exact (HD.out r hr).1
          have HI2 := Aside0.mk (hI.out.new HX.out hdl)
          have HDL := Aside0.mk hdl
          have hbound : left'.length + (depsOf rs x).length ≤ 1048576 := by
            have h1 := HI2.out.size_
            have h2 : D * (seen ++ [x]).length ≤ D * ((allIds rs l).length + 1) := Nat.mul_le_mul_left _ (by simp; omega)
            simp only [List.length_append] at h1 h2
            simp only [List.length_append] at *
            omega
          have HO4 := Aside0.mk hO4
          have HS4 := Aside0.mk hS4
          have HB4 := Aside0.mk hB4
          have HM4 := Aside0.mk hm4
          have HJ4 := Aside0.mk hJ4
          have HNC2 := Aside0.mk (fun b (hb : b < w3.heap.size) (hn : ¬ C1 b) (h : C2 b) => (hm4.new b h).elim hn (fun h => by omega))
          have hsb3 := (Array.getElem?_eq_some_iff.1 hS3.cell).1
          have hmb3' := hS3.map.lt
          clear hkeep hP3 hP4 hB3 hB4 hbx4 hS4 hO3 hO4 hm4 hJ4 hS3 hbx3 b0 b1 hg3 hK3 hcall hy hR hnew hdl
          gi_wp2_with (first
            | (gi_at_call 69; refine (callsIn_wide.2 hrec).mono ?_; rintro e w5 ⟨r, v, rfl, hrd, _, ⟨A3, c3, A4, c4, rfl, hl3, hl4, hC3, hC4⟩, hb5⟩; have HRD := Aside0.mk hrd; clear hrd)
            | (gi_at_builtin; refine wpListIn_append_ids (ys := r.f2) ((HO4.out.below hb5 (Nat.le_refl _)).below ((Below.refl w5.heap.size w5).alloc (Nat.le_refl _) (.cells #[.int .i64 r.f0.f0, .int .i64 r.f0.f1, .int .i64 r.f1, .slice A3 r.f2.length c3, .slice A4 r.f3.length c4] 49)) (Nat.le_refl _)) (cel_id.C (CKeep.below ((Below.refl w5.heap.size w5).alloc (Nat.le_refl _) _)) hC3) (by rw [HRD.out]; omega) (by have := hb5.size; simp; omega) rfl (.tmp 41) (.tmp 43) rfl rfl rfl ?_; intro A6 c6 w6 hown6 hgrow6 hat6))
          have hs5 := hb5.size
          have hb46 : Below W4.heap.size W4 (w5.alloc (.cells #[.int .i64 r.f0.f0, .int .i64 r.f0.f1, .int .i64 r.f1, .slice A3 r.f2.length c3, .slice A4 r.f3.length c4] 49)) := hb5.trans (((Below.refl w5.heap.size w5).alloc (Nat.le_refl _) _).mono hs5)
          have hrowC2 : ∀ q, rowOf (some ad) = some q → ¬ C2 q := fun q hq => HNC2.out q (by have := hrow q hq; omega) (hsep.out.2.2 q hq).1
          have hK6 : Keeps W.heap.size C2 W4 w6 := (Keeps.below hb46 (Nat.le_refl _)).trans (Keeps.grown hgrow6 (fun q hq => ⟨(hrow q hq).1, hrowC2 q hq⟩))
          have hs6 := hK6.size
          have hS6 : SetAt w6 sb mb' (seen ++ [x]) := by
            have h1 := (Array.getElem?_eq_some_iff.1 HS4.out.cell).1
            have h2 := HS4.out.map.lt
            have hh : ∀ i, i < W4.heap.size → (∀ q, rowOf (some ad) = some q → q ≠ i) → w6.heap[i]? = W4.heap[i]? := fun i hi hne =>
              (hgrow6.block i (Nat.lt_of_lt_of_le hi hb46.size) (fun e => hne i e.symm rfl)).trans (hb46.block i hi)
            exact ⟨(hh sb h1 (fun q hq => (hsep.out.2.2 q hq).2.1)).trans HS4.out.cell, HS4.out.map.same (hh mb' h2 (fun q hq => (hsep.out.2.2 q hq).2.2))⟩
          have hB6 : Below w.heap.size w w6 := (HB4.out.trans (hb46.mono HB4.out.size)).grown hgrow6 (Nat.le_trans HB4.out.size hb46.size) (fun k e => by have := (hrow k e).1; omega)
          have hP6 : PtrP w6 bg p := (hgrow6.block bg (Nat.lt_of_lt_of_le HP4.out.lt hb46.size) (fun e => by have := (hrow bg e.symm).1; omega)).trans (HP4.out.below hb46 (Nat.le_refl _))
          have hl6 := hS6.len_eq
          have hlS := hS.out.len_eq
          have hdl : r.f2.length ≤ D := by
            have := HI2.out.size_
            rw [HRD.out]
            exact HDL.out
          go_roundw
          case rel =>
            refine ⟨A6, c6, left' ++ r.f2, seen ++ [x], C2, by simp, by omega, ⟨hown6⟩, ⟨hS6⟩, ⟨HJ.out.1 _ _ _ _ HJ4.out hK6⟩, ⟨fun b hb => Nat.lt_of_lt_of_le (HM4.out.lt b hb) hs6⟩, ⟨HNC2.out sb (by omega) hsep.out.1, HNC2.out mb' (by omega) hsep.out.2.1, fun q hq => ?_⟩, ⟨fun b hb => (HM4.out.new b hb).elim (hC0.out b) (fun h hr => by have := HRL.out b hr; omega)⟩, ⟨hB6⟩, ⟨hP6⟩, ⟨by rw [HRD.out]; exact HI2.out⟩⟩
            rcases hat6 with e | e
            · rw [e] at hq
              exact ⟨hrowC2 q hq, (hsep.out.2.2 q hq).2⟩
            · rw [e] at hq
              injection hq with hq
              simp only [World.size_alloc] at hq
              have h1 := (Array.getElem?_eq_some_iff.1 HS4.out.cell).1
              have h2 := HS4.out.map.lt
              exact ⟨fun h => by have := HM4.out.lt q h; omega, by omega, by omega⟩
          case measure =>
            rw [hl6, hlS]
            simp only [sliceLen, List.length_append, List.length_singleton]
            have e : (allIds rs l).length - seen.length = ((allIds rs l).length - (seen.length + 1)) + 1 := by omega
            rw [e, Nat.add_mul]
            omega
        · gi_wp2
          refine bodyPost_ret (results_none rfl _ _ _) rfl ?_
          exact ⟨⟨_, rfl⟩, .inr ⟨seen ++ [x], C2, ⟨by
            rw [List.nodup_append]
            exact ⟨hI.out.nodup, by simp, fun a ha b hb e => HX.out (by rw [← List.mem_singleton.1 hb, ← e]; exact ha)⟩, fun y hy => by
            rcases List.mem_append.1 hy with hy | hy
            · exact hI.out.seen_ y hy
            · rw [List.mem_singleton.1 hy]; exact HXL.out⟩, hJ4⟩⟩
end Go.Proofs.Ytjffghebcaklaaa
