/- A range over a function whose iterator keeps memory of its own: what each side owns is told by sets of blocks. -/
import Derived.RangeFuncNested
import Derived.RangeFuncBound
import Derived.RangeFuncCalls
import Derived.RangeFuncLeaves
import Derived.Below
import Derived.Test.YtjffghebcaklaaaProg
namespace Go.Proofs.Ytjffghebcaklaaa
open Go Go.RowKit
set_option linter.unusedVariables false
/-- The iterator's word to its caller: what lay below B, and the caller's blocks C, lie as they lay. -/
structure Keeps (B : Nat) (C : Nat → Prop) (W W' : World) : Prop where
  os : W'.os = W.os
  tape : W'.tape = W.tape
  output : W'.output = W.output
  size : W.heap.size ≤ W'.heap.size
  block : ∀ b, b < W.heap.size → (b < B ∨ C b) → W'.heap[b]? = W.heap[b]?
/-- The caller's word to the iterator: its blocks were C, they are C' now (new ones came to them); nothing else has turned. -/
structure Mine (C C' : Nat → Prop) (W W' : World) : Prop where
  os : W'.os = W.os
  tape : W'.tape = W.tape
  output : W'.output = W.output
  size : W.heap.size ≤ W'.heap.size
  more : ∀ b, C b → C' b
  new : ∀ b, C' b → C b ∨ W.heap.size ≤ b
  lt : ∀ b, C' b → b < W'.heap.size
  block : ∀ b, b < W.heap.size → ¬ C b → W'.heap[b]? = W.heap[b]?
theorem Keeps.refl (B : Nat) (C : Nat → Prop) (W : World) : Keeps B C W W := ⟨rfl, rfl, rfl, Nat.le_refl _, fun _ _ _ => rfl⟩
theorem Keeps.trans {B : Nat} {C : Nat → Prop} {W1 W2 W3 : World} (h : Keeps B C W1 W2) (k : Keeps B C W2 W3) : Keeps B C W1 W3 :=
  ⟨k.os.trans h.os, k.tape.trans h.tape, k.output.trans h.output, Nat.le_trans h.size k.size, fun b hb hc => (k.block b (Nat.lt_of_lt_of_le hb h.size) hc).trans (h.block b hb hc)⟩
theorem Keeps.below {B n : Nat} {C : Nat → Prop} {W W' : World} (h : Below n W W') (hn : W.heap.size ≤ n) : Keeps B C W W' :=
  ⟨h.os, h.tape, h.output, h.size, fun b hb _ => h.block b (Nat.lt_of_lt_of_le hb hn)⟩
theorem Keeps.grown {B : Nat} {C : Nat → Prop} {W W' : World} {row : Option Nat} (h : W.grownBy W' row) (hr : ∀ r, row = some r → B ≤ r ∧ ¬ C r) : Keeps B C W W' :=
  ⟨h.os, h.tape, h.output, h.size, fun b hb hc => h.block b hb (fun e => by have := hr b e.symm; rcases hc with hc | hc; omega; exact this.2 hc)⟩
theorem Keeps.mono {B B' : Nat} {C C' : Nat → Prop} {W W' : World} (h : Keeps B C W W') (hb : B' ≤ B) (hc : ∀ b, C' b → b < W.heap.size → b < B ∨ C b) : Keeps B' C' W W' :=
  ⟨h.os, h.tape, h.output, h.size, fun b hl hx => h.block b hl (hx.elim (fun hx => .inl (by omega)) (fun hx => hc b hx hl))⟩
theorem Mine.refl {C : Nat → Prop} {W : World} (hlt : ∀ b, C b → b < W.heap.size) : Mine C C W W := ⟨rfl, rfl, rfl, Nat.le_refl _, fun _ h => h, fun _ h => .inl h, hlt, fun _ _ _ => rfl⟩
theorem Mine.trans {C1 C2 C3 : Nat → Prop} {W1 W2 W3 : World} (h : Mine C1 C2 W1 W2) (k : Mine C2 C3 W2 W3) : Mine C1 C3 W1 W3 :=
  ⟨k.os.trans h.os, k.tape.trans h.tape, k.output.trans h.output, Nat.le_trans h.size k.size, fun b hb => k.more b (h.more b hb),
   fun b hb => (k.new b hb).elim (fun hb => h.new b hb) (fun hb => .inr (Nat.le_trans h.size hb)), k.lt,
   fun b hb hc => (k.block b (Nat.lt_of_lt_of_le hb h.size) (fun e => (h.new b e).elim hc (fun hl => by omega))).trans (h.block b hb hc)⟩
theorem Mine.below {C : Nat → Prop} {n : Nat} {W W' : World} (hlt : ∀ b, C b → b < W.heap.size) (h : Below n W W') (hn : W.heap.size ≤ n) : Mine C C W W' :=
  ⟨h.os, h.tape, h.output, h.size, fun _ h => h, fun _ h => .inl h, fun b hb => Nat.lt_of_lt_of_le (hlt b hb) h.size, fun b hb _ => h.block b (Nat.lt_of_lt_of_le hb hn)⟩
/-- New blocks, one of which (or one of its own, that was turned) is the caller's from now on. -/
theorem Mine.grown {C : Nat → Prop} {W W' : World} {row : Option Nat} (hlt : ∀ b, C b → b < W.heap.size) (h : W.grownBy W' row) (hr : ∀ r, row = some r → C r ∨ W.heap.size ≤ r) (X : Nat → Prop) (hX : ∀ b, X b → (C b ∨ W.heap.size ≤ b) ∧ b < W'.heap.size) : Mine C (fun b => C b ∨ X b) W W' :=
  ⟨h.os, h.tape, h.output, h.size, fun _ h => .inl h, fun b hb => hb.elim .inl (fun hb => (hX b hb).1), fun b hb => hb.elim (fun hb => Nat.lt_of_lt_of_le (hlt b hb) h.size) (fun hb => (hX b hb).2),
   fun b hb hc => h.block b hb (fun e => (hr b e.symm).elim hc (fun hl => by omega))⟩
/-- What abides the iterator's steps. -/
def Abide (B : Nat) {β : Type} (J : β → (Nat → Prop) → World → Prop) : Prop := ∀ s C W W', J s C W → Keeps B C W W' → J s C W'
/-- The contract of an iterator. -/
def SeqC {α : Type} (P : Program) (g : Nat) (lb : Array Value) (encs : α → Array Value) (S Sp : List α → Prop) (N : Nat) (R : Nat → Prop) (w : World) : Prop :=
  ∀ (l : Nat) (J Jx : List α → (Nat → Prop) → World → Prop) (C : Nat → Prop) (W : World), Below w.heap.size w W → (∀ b, C b → ¬ R b ∧ b < W.heap.size) → Abide W.heap.size J → Abide W.heap.size Jx →
    (∀ pre x C1 W1, J pre C1 W1 → (∀ b, C1 b → b < W1.heap.size) → pre.length < N → YieldAt Fence.wide 0 P l (encs x) W1 fun e W' =>
      (e = .returned (.bool true) ∧ ∃ C', J (pre ++ [x]) C' W' ∧ Mine C1 C' W1 W') ∨ (e = .returned (.bool false) ∧ ∃ C', Jx (pre ++ [x]) C' W' ∧ Mine C1 C' W1 W')) →
    J [] C W →
    CallsIn Fence.wide 0 P g (#[.func (.yield l) #[] #[]] ++ lb) W fun e W' => (∃ v, e = .returned v) ∧ ((∃ xs C', S xs ∧ J xs C' W') ∨ (∃ pre C', Sp pre ∧ Jx pre C' W'))
/-- What is owed where a round's body is left. -/
def minePost {α : Type} (I : List α → (Nat → Prop) → World → Prop) (Ix : Code → List α → (Nat → Prop) → World → Prop) (xs : List α) (C : Nat → Prop) (W : World) : Exit → Act → World → Prop
  | .normal, _, W' => ∃ C', Mine C C' W W' ∧ I xs C' W'
  | .ret, _, W' => ∃ C', Mine C C' W W' ∧ Ix .ret xs C' W'
  | .exit id, _, W' => ∃ C', Mine C C' W W' ∧ Ix (.exit id) xs C' W'
  | .goto t, _, W' => ∃ C', Mine C C' W W' ∧ Ix (.goto t) xs C' W'
  | .panic _, _, _ => False
  | .outgrown, _, _ => False
theorem RoundIn.anyD {m m' : Nat} {P : Program} {l : Nat} {f : FuncId} {tmps : Array Value} {assign body : Code} {w : World} {R : Ending → World → Prop}
    (h : RoundIn Fence.wide m P l f tmps assign body w R) : RoundIn Fence.wide m' P l f tmps assign body w R := ⟨h.1, fun c cs _ => h.2 c cs (room_wide _)⟩
theorem callsIn_anyD {m m' : Nat} {P : Program} {f : FuncId} {args : Array Value} {w : World} {R : Ending → World → Prop} (h : CallsIn Fence.wide m P f args w R) : CallsIn Fence.wide m' P f args w R := callsIn_wide.2 (callsIn_wide.1 h)
variable {P : Program}
/-- The law: what the loop's body owes, round by round. -/
theorem wpIn_rangeFunc_mine {α : Type} {n : Nat} {g : Operand} {ps : Array Tmp} {assign body : Code} {Q : Exit → Act → World → Prop} {a : Act} {w : World}
    {gf : Nat} {lb : Array Value} (hg : a.eval g = .func (.func gf) #[] lb) (eg : ∀ args w, (callFunc gf args).run P w = .ok (.enter gf args) w)
    {encs : α → Array Value} {S Sp : List α → Prop} {N : Nat} {R : Nat → Prop} {w0 : World} (hseq : SeqC P gf lb encs S Sp N R w0) (hRlt : ∀ b, R b → b < w0.heap.size) (hb0 : Below w0.heap.size w0 w) (hps : ∀ x, (encs x).size = ps.size)
    (C0 : Nat → Prop) (hC0 : ∀ b, C0 b → ¬ R b ∧ b < w.heap.size)
    (I : List α → (Nat → Prop) → World → Prop) (Ix : Code → List α → (Nat → Prop) → World → Prop) (hI : Abide w.heap.size I) (hIx : ∀ c, Abide w.heap.size (Ix c)) (h0 : I [] C0 w)
    (hround : ∀ (l : Nat) (pre : List α) (x : α) (C : Nat → Prop) (W : World), I pre C W → (∀ b, C b → b < W.heap.size) → ¬ C l → w.heap.size ≤ l → l < W.heap.size → pre.length < N →
      assign.wpIn (Fence.wide.inRound l) n P (Exit.then (fun a₁ W1 => ∃ C1, Mine C C1 W W1 ∧ ∀ W2, Keeps l (fun b => b ≠ l) W1 W2 → W2.heap.size = W1.heap.size →
        body.wpIn (Fence.wide.inRound l) n P (minePost I Ix (pre ++ [x]) C1 W2) a₁ W2) (fun _ _ _ => False)) { tmps := (ps.zip (encs x)).foldl (fun t (p, v) => t.setIfInBounds p v) a.tmps, defers := [] } W)
    (hdone : ∀ (D : Nat) (xs : List α) (C : Nat → Prop) (W : World), w.heap.size ≤ D → ¬ C D → S xs → I xs C W → W.heap[D]? = some (.deferred (some [])) → Q .normal { a with defers := { target := .collected D, args := #[] } :: a.defers } W)
    (hstop : ∀ (D : Nat) (c : Code) (pre : List α) (C : Nat → Prop) (W : World), w.heap.size ≤ D → ¬ C D → Sp pre → Ix c pre C W → W.heap[D]? = some (.deferred (some [])) → c.wpIn Fence.wide n P Q { a with defers := { target := .collected D, args := #[] } :: a.defers } W) :
    (Code.rangeFunc g ps assign body).wpIn Fence.wide n P Q a w := by
  refine wpIn_rangeFunc ?_
  intro fn hfn
  obtain ⟨rec, hrec⟩ : ∃ rec : LoopState → Option Code → Loop, rec = fun st pe => { state := st, pending := pe, fn, tmps := a.tmps, params := ps, assign, body, defers := w.heap.size } := ⟨_, rfl⟩
  obtain ⟨W1, hW1⟩ : ∃ W1, (w.alloc (.deferred (some []))).alloc (.loop (rec .ready none)) = W1 := ⟨_, rfl⟩
  have hL1 : W1.heap[w.heap.size + 1]? = some (.loop (rec .ready none)) := by
    rw [← hW1]; have := World.alloc_heap_new (w.alloc (.deferred (some []))) (.loop (rec .ready none)); rwa [World.size_alloc] at this
  have hK1 : W1.heap[w.heap.size]? = some (.deferred (some [])) := by
    rw [← hW1]; exact (Below.heap_alloc _ _ _ (by simp)).trans (World.alloc_heap_new w _)
  have hbW : Below w.heap.size w W1 := by rw [← hW1]; exact ((Below.refl _ w).alloc (Nat.le_refl _) _).alloc (by simp) _
  have hs1 : W1.heap.size = w.heap.size + 2 := by rw [← hW1]; simp
  have hI1 : I [] C0 W1 := hI _ _ _ _ h0 (Keeps.below hbW (Nat.le_refl _))
  have hb1 : Below w0.heap.size w0 W1 := hb0.trans (hbW.mono hb0.size)
  refine ⟨w.heap.size + 1, [{ target := .collected w.heap.size, args := #[] }], W1, { target := .fn (.func gf) lb, args := #[.func (.yield (w.heap.size + 1)) #[] #[]] }, W1, gf,
    #[.func (.yield (w.heap.size + 1)) #[] #[]] ++ lb, W1, ?_, ?_, ?_, ?_, fun h => by simp [Fence.wide] at h, ?_⟩
  · rw [← hW1, hrec]; exact run_enterLoop_outer _ _ _ _ _
  · simp only [resolve, hg]
    simp [go_sem]
  · intro f' hf'; exact trivial
  · simp [invoke, go_sem, eg]
  · have hput : ∀ {W : World} (o : Obj) {C : Nat → Prop} {k : Nat}, w.heap.size ≤ k → ¬ C k → Keeps w.heap.size C W (W.putObj k o) := fun {W} o {C k} hk hC =>
      Keeps.grown (grownBy_putObj' W k o) (fun r e => by cases e; exact ⟨hk, hC⟩)
    refine (callsIn_anyD (hseq (w.heap.size + 1)
      (fun pre C W => ∃ Cu : Nat → Prop, (∀ b, C b ↔ Cu b ∨ b = w.heap.size ∨ b = w.heap.size + 1) ∧ ¬ Cu w.heap.size ∧ ¬ Cu (w.heap.size + 1) ∧ I pre Cu W ∧ W.heap[w.heap.size + 1]? = some (.loop (rec .ready none)) ∧ W.heap[w.heap.size]? = some (.deferred (some [])))
      (fun pre C W => ∃ c, ∃ Cu : Nat → Prop, (∀ b, C b ↔ Cu b ∨ b = w.heap.size ∨ b = w.heap.size + 1) ∧ ¬ Cu w.heap.size ∧ ¬ Cu (w.heap.size + 1) ∧ Ix c pre Cu W ∧ W.heap[w.heap.size + 1]? = some (.loop (rec .done (some c))) ∧ W.heap[w.heap.size]? = some (.deferred (some [])))
      (fun b => C0 b ∨ b = w.heap.size ∨ b = w.heap.size + 1)
      W1 hb1
      (fun b hb => by
        rcases hb with hb | rfl | rfl
        · exact ⟨(hC0 b hb).1, by have := (hC0 b hb).2; omega⟩
        · exact ⟨fun h => by have := hRlt _ h; have := hb0.size; omega, by omega⟩
        · exact ⟨fun h => by have := hRlt _ h; have := hb0.size; omega, by omega⟩)
      ?_ ?_ ?_ ⟨C0, fun _ => Iff.rfl, fun h => by have := (hC0 _ h).2; omega, fun h => by have := (hC0 _ h).2; omega, hI1, hL1, hK1⟩)).mono ?_
    · rintro pre C W W' ⟨Cu, hiff, hn1, hn2, hi, hl, hk⟩ hg
      have hlt := (Array.getElem?_eq_some_iff.1 hl).1
      have hlt2 := (Array.getElem?_eq_some_iff.1 hk).1
      exact ⟨Cu, hiff, hn1, hn2, hI _ _ _ _ hi (hg.mono (by omega) (fun b hb _ => .inr ((hiff b).2 (.inl hb)))), (hg.block _ hlt (.inr ((hiff _).2 (.inr (.inr rfl))))).trans hl, (hg.block _ hlt2 (.inr ((hiff _).2 (.inr (.inl rfl))))).trans hk⟩
    · rintro pre C W W' ⟨c, Cu, hiff, hn1, hn2, hi, hl, hk⟩ hg
      have hlt := (Array.getElem?_eq_some_iff.1 hl).1
      have hlt2 := (Array.getElem?_eq_some_iff.1 hk).1
      exact ⟨c, Cu, hiff, hn1, hn2, hIx _ _ _ _ _ hi (hg.mono (by omega) (fun b hb _ => .inr ((hiff b).2 (.inl hb)))), (hg.block _ hlt (.inr ((hiff _).2 (.inr (.inr rfl))))).trans hl, (hg.block _ hlt2 (.inr ((hiff _).2 (.inr (.inl rfl))))).trans hk⟩
    · rintro pre x C W ⟨Cu, hiff, hn1, hn2, hi, hl, hk⟩ hClt hlen
      have hlt : w.heap.size + 1 < W.heap.size := (Array.getElem?_eq_some_iff.1 hl).1
      have hy := run_yield (P := P) (args := encs x) hl (by rw [hrec]; exact hps x)
      rw [hrec] at hy
      refine ⟨fn, _, assign, body, hy, RoundIn.anyD (roundIn_of_wpIn (n := n) hfn (wpIn_mono (hround _ pre x Cu W hi (fun b hb => hClt b ((hiff b).2 (.inl hb))) hn2 (by omega) hlt hlen) ?_))⟩
      clear hy
      rintro e a1 Wa hp
      cases e with
      | normal =>
        obtain ⟨C1, hm, hbody⟩ := hp
        have hla := (hm.block _ hlt hn2).trans hl
        have hka := (hm.block _ (by omega) hn1).trans hk
        refine ⟨_, run_beginRound hla (by rw [hrec]), ?_⟩
        have hn1' : ¬ C1 w.heap.size := fun h => (hm.new _ h).elim hn1 (fun h => by omega)
        have hn2' : ¬ C1 (w.heap.size + 1) := fun h => (hm.new _ h).elim hn2 (fun h => by omega)
        have hlta : w.heap.size + 1 < Wa.heap.size := (Array.getElem?_eq_some_iff.1 hla).1
        have hl2 : (Wa.putObj (w.heap.size + 1) (.loop { rec .ready none with state := .busy })).heap[w.heap.size + 1]? = some (.loop { rec .ready none with state := .busy }) := World.putObj_heap_same hlta
        have hk2 : (Wa.putObj (w.heap.size + 1) (.loop { rec .ready none with state := .busy })).heap[w.heap.size]? = some (.deferred (some [])) := (World.putObj_heap_other (by omega)).trans hka
        have hkeep : Keeps (w.heap.size + 1) (fun b => b ≠ w.heap.size + 1) Wa (Wa.putObj (w.heap.size + 1) (.loop { rec .ready none with state := .busy })) :=
          Keeps.grown (grownBy_putObj' Wa _ _) (fun r e => by cases e; exact ⟨Nat.le_refl _, fun h => h rfl⟩)
        refine wpIn_mono (hbody _ hkeep World.putObj_size) ?_
        have hmine : ∀ {C2 : Nat → Prop} {W3 : World} (o : Obj), Mine C1 C2 (Wa.putObj (w.heap.size + 1) (.loop { rec .ready none with state := .busy })) W3 → Mine C (fun b => C2 b ∨ b = w.heap.size ∨ b = w.heap.size + 1) W (W3.putObj (w.heap.size + 1) o) := by
          intro C2 W3 o h3
          have hsz := h3.size
          rw [World.putObj_size] at hsz
          refine ⟨h3.os.trans hm.os, h3.tape.trans hm.tape, h3.output.trans hm.output, by rw [World.putObj_size]; exact Nat.le_trans hm.size hsz, fun b hb => ?_, fun b hb => ?_, fun b hb => ?_, fun b hb hc => ?_⟩
          · rcases (hiff b).1 hb with hb | hb
            · exact .inl (h3.more b (hm.more b hb))
            · exact .inr hb
          · rcases hb with hb | hb
            · rcases h3.new b hb with hb | hb
              · rcases hm.new b hb with hb | hb
                · exact .inl ((hiff b).2 (.inl hb))
                · exact .inr hb
              · exact .inr (by rw [World.putObj_size] at hb; exact Nat.le_trans hm.size hb)
            · exact .inl ((hiff b).2 (.inr hb))
          · rw [World.putObj_size]
            rcases hb with hb | rfl | rfl
            · exact h3.lt b hb
            · omega
            · omega
          · have hne : b ≠ w.heap.size + 1 := fun e => hc ((hiff b).2 (.inr (.inr e)))
            have hcu : ¬ Cu b := fun e => hc ((hiff b).2 (.inl e))
            have hc1 : ¬ C1 b := fun e => (hm.new b e).elim hcu (fun e => by omega)
            refine (World.putObj_heap_other hne).trans ((h3.block b (by rw [World.putObj_size]; exact Nat.lt_of_lt_of_le hb hm.size) hc1).trans ((World.putObj_heap_other hne).trans (hm.block b hb hcu)))
        have fin : ∀ (jump : Option Code) (C2 : Nat → Prop) (W3 : World), Mine C1 C2 (Wa.putObj (w.heap.size + 1) (.loop { rec .ready none with state := .busy })) W3 →
            (Instr.endRound (w.heap.size + 1) jump).run P W3 = .ok (.bool jump.isNone) (W3.putObj (w.heap.size + 1) (.loop (rec (if jump.isNone then .ready else .done) jump))) ∧
            (W3.putObj (w.heap.size + 1) (.loop (rec (if jump.isNone then .ready else .done) jump))).heap[w.heap.size + 1]? = some (.loop (rec (if jump.isNone then .ready else .done) jump)) ∧
            (W3.putObj (w.heap.size + 1) (.loop (rec (if jump.isNone then .ready else .done) jump))).heap[w.heap.size]? = some (.deferred (some [])) ∧ ¬ C2 w.heap.size ∧ ¬ C2 (w.heap.size + 1) := fun jump C2 W3 hk3 => by
          have hl3 := (hk3.block _ (by rw [World.putObj_size]; exact hlta) hn2').trans hl2
          have := run_endRound (P := P) jump hl3
          rw [hrec] at this ⊢
          exact ⟨this, World.putObj_heap_same (Array.getElem?_eq_some_iff.1 hl3).1, (World.putObj_heap_other (by omega)).trans ((hk3.block _ (by rw [World.putObj_size]; omega) hn1').trans hk2),
            fun h => (hk3.new _ h).elim hn1' (fun h => by rw [World.putObj_size] at h; omega), fun h => (hk3.new _ h).elim hn2' (fun h => by rw [World.putObj_size] at h; omega)⟩
        rintro e a3 W3 hp
        cases e with
        | normal =>
          obtain ⟨C2, hk3, hi3⟩ := hp
          obtain ⟨hr, hl4, hk4, hn5, hn6⟩ := fin none C2 W3 hk3
          exact ⟨_, _, hr, .inl ⟨rfl, _, ⟨C2, fun _ => Iff.rfl, hn5, hn6, hI _ _ _ _ hi3 (hput _ (by omega) hn6), hl4, hk4⟩, hmine _ hk3⟩⟩
        | ret =>
          obtain ⟨C2, hk3, hi3⟩ := hp
          obtain ⟨hr, hl4, hk4, hn5, hn6⟩ := fin (some .ret) C2 W3 hk3
          exact ⟨_, _, hr, .inr ⟨rfl, _, ⟨.ret, C2, fun _ => Iff.rfl, hn5, hn6, hIx _ _ _ _ _ hi3 (hput _ (by omega) hn6), hl4, hk4⟩, hmine _ hk3⟩⟩
        | exit id =>
          obtain ⟨C2, hk3, hi3⟩ := hp
          obtain ⟨hr, hl4, hk4, hn5, hn6⟩ := fin (some (.exit id)) C2 W3 hk3
          exact ⟨_, _, hr, .inr ⟨rfl, _, ⟨.exit id, C2, fun _ => Iff.rfl, hn5, hn6, hIx _ _ _ _ _ hi3 (hput _ (by omega) hn6), hl4, hk4⟩, hmine _ hk3⟩⟩
        | goto t =>
          obtain ⟨C2, hk3, hi3⟩ := hp
          obtain ⟨hr, hl4, hk4, hn5, hn6⟩ := fin (some (.goto t)) C2 W3 hk3
          exact ⟨_, _, hr, .inr ⟨rfl, _, ⟨.goto t, C2, fun _ => Iff.rfl, hn5, hn6, hIx _ _ _ _ _ hi3 (hput _ (by omega) hn6), hl4, hk4⟩, hmine _ hk3⟩⟩
        | panic ch => exact hp.elim
        | outgrown => exact hp.elim
      | ret => exact hp.elim
      | exit id => exact hp.elim
      | goto t => exact hp.elim
      | panic ch => exact hp.elim
      | outgrown => exact hp.elim
    · rintro e W2 ⟨⟨v, rfl⟩, (⟨xs, C', hS, Cu, hiff, hn1, hn2, hi, hl, hk⟩ | ⟨pre, C', hSp, c, Cu, hiff, hn1, hn2, hi, hl, hk⟩)⟩
      · exact ⟨none, _, by have := run_endLoop (P := P) hl (by rw [hrec]; simp); rw [hrec] at this; exact this, hdone _ xs Cu _ (Nat.le_refl _) hn1 hS (hI _ _ _ _ hi (hput _ (by omega) hn2)) ((World.putObj_heap_other (by omega)).trans hk)⟩
      · exact ⟨some c, _, by have := run_endLoop (P := P) hl (by rw [hrec]; simp); rw [hrec] at this; exact this, hstop _ c pre Cu _ (Nat.le_refl _) hn1 hSp (hIx _ _ _ _ _ hi (hput _ (by omega) hn2)) ((World.putObj_heap_other (by omega)).trans hk)⟩
end Go.Proofs.Ytjffghebcaklaaa
