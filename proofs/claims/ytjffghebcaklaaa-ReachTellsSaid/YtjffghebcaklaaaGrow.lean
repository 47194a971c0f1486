/- A call that makes new blocks and draws, and does nothing else. -/
import Derived.Test.YtjffghebcaklaaaPRefx
import Derived.Sort.Grow
namespace Go.Proofs.YtjffghebcaklaaaW.PrintWords
open Go Go.RowKit Go.Sort
def GW (W w' : World) : Prop := ∃ q os', w' = grow (W.drewN q) os'
theorem GW.refl (W : World) : GW W W := ⟨0, #[], by simp [grow]; rfl⟩
theorem gw_alloc {W w : World} (h : GW W w) (o : Obj) : GW W (w.alloc o) := by
  obtain ⟨q, os, rfl⟩ := h
  exact ⟨q, os ++ #[o], by rw [alloc_eq_grow, grow_grow]⟩
theorem gw_drewN {W w : World} (h : GW W w) (n : Nat) : GW W (w.drewN n) := by
  obtain ⟨q, os, rfl⟩ := h
  exact ⟨q + n, os, by rw [← World.drewN_drewN]; rfl⟩
theorem gw_drew1 {W w : World} (h : GW W w) : GW W w.drew := gw_drewN h 1
theorem gw_size {W w : World} (h : GW W w) : W.heap.size ≤ w.heap.size := by
  obtain ⟨q, os, rfl⟩ := h
  simp [grow, World.drewN]
theorem gw_step {W w w2 : World} (h : GW W w) (k : GW w w2) : GW W w2 := by
  obtain ⟨q, os, rfl⟩ := h
  obtain ⟨q', os', rfl⟩ := k
  exact ⟨q + q', os ++ os', by rw [← World.drewN_drewN, ← grow_grow]; rfl⟩
theorem gw_below {W w : World} (h : GW W w) : Below W.heap.size W w := by
  obtain ⟨q, os, rfl⟩ := h
  refine ⟨rfl, rfl, rfl, by simp [grow, World.drewN], fun i hi => ?_⟩
  show (W.heap ++ os)[i]? = W.heap[i]?
  rw [Array.getElem?_append_left hi]
theorem gw_of {W w : World} (h : Below W.heap.size W w) (hd : W.drawn ≤ w.drawn) : GW W w := by
  refine ⟨w.drawn - W.drawn, w.heap.extract W.heap.size w.heap.size, ?_⟩
  have hh : W.heap ++ w.heap.extract W.heap.size w.heap.size = w.heap := by
    apply Array.ext_getElem?
    intro i
    by_cases hi : i < W.heap.size
    · rw [Array.getElem?_append_left hi, h.block i hi]
    · rw [Array.getElem?_append_right (by omega), Array.getElem?_extract]
      have hs := h.size
      by_cases h2 : i < w.heap.size
      · rw [if_pos (by omega)]; congr 1; omega
      · rw [if_neg (by omega), Array.getElem?_eq_none (by omega)]
  have h1 := h.os
  have h2 := h.tape
  have h3 := h.output
  cases w; cases W
  simp only [grow, World.drewN] at *
  subst h1 h2 h3
  rw [hh]
  congr 1
  omega
theorem gw_drawn {W w : World} (h : GW W w) : W.drawn ≤ w.drawn := by
  obtain ⟨q, os, rfl⟩ := h
  simp [grow, World.drewN]
theorem gw_set {W w : World} {g j : Nat} {v : Value} (h : GW W w) (hg : W.heap.size ≤ g) : GW W (w.setCell ⟨g, j, none⟩ v) :=
  gw_of (below_set (gw_below h) hg) (show W.drawn ≤ w.drawn from gw_drawn h)
theorem blk_belowG {W w : World} {g : Nat} {o : Obj} (h : W.heap[g]? = some o) (hb : GW W w) : w.heap[g]? = some o := blk_below h (gw_below hb)
section
variable {P : Program} {ops : Array Oper} {rest : List Oper} {o : Oper} {a : Act} {Q : Exit → Act → World → Prop}
theorem box_eventG {W : World} (hgd : o.guard = none) {N : Tmp} (_hd : o.dst = some N) {cs : Array Value} {t : TypeId}
    (hrun : (execOp a.eval o).run P W = .ok (.value (.pointer (some ⟨W.heap.size, 0, none⟩))) (W.alloc (.cells cs t (0, 0))))
    (h : ∀ g, g = W.heap.size → ∀ w1, w1.heap[g]? = some (.cells cs t (0, 0)) → GW W w1 → wpList P ops Q rest (a.put o.dst (.pointer (some ⟨g, 0, none⟩))) w1) : wpList P ops Q (o :: rest) a W :=
  Kd.event_run hgd hrun (h _ rfl _ (blk_new W _) (gw_alloc (GW.refl _) _))
end
section
variable {P : Program} {ops : Array Oper} {o : Oper} {a : Act} {Kc : Act → World → Prop} {Q : Exit → Act → World → Prop} {α : Type}
theorem Kd.R_lit_stepG (d : Kd α) {w0 W : World} (base e : Nat) (hw : Region.wanted o (yielded ops a.tmps) = true) {N : Tmp} (_hd : o.dst = some N) {xs : List α} {inner : List Value} {ok okp : Nat → Prop}
    (hrun : (execOp a.eval o).run P W = .ok (.value (.slice (some ⟨W.heap.size, 0, none⟩) xs.length xs.length)) (W.alloc (.cells inner.toArray e)))
    (hrep : Reps (d.M W base okp) d.sz xs inner) (hok : ∀ k, okp k → ok k) (hfresh : ok W.heap.size) (HB : GW w0 W) (hbase : base ≤ W.heap.size) (hm : xs.length ≤ 9223372036854775807)
    (h : ∀ v1 w1, d.R e w1 base ok v1 xs → GW w0 w1 → W.grownBy w1 none → (∃ b, v1.ownBlock = some b ∧ W.heap.size ≤ b) → Kc (a.put o.dst v1) w1) : if Region.wanted o (yielded ops a.tmps) = true then Oper.wp P o a W Kc Q else Kc (a.put o.dst undef) W := by
  refine event_step hw hrun (h _ _ ⟨fun k hk => ?_, inner, ?_, ?_⟩ (gw_alloc HB _) (World.grownBy_alloc W _ none) ⟨W.heap.size, by simp [Value.ownBlock], Nat.le_refl _⟩)
  · have : W.heap.size = k := by simpa [Value.ownBlock] using hk
    subst this
    exact hfresh
  · have h2 := World.ownsRow_lit (base := base) (e := e) (size := d.sz) W inner.toArray xs.length hbase (by simpa [maxLen] using hm) (by simpa using hrep.1)
    simpa using h2
  · refine hrep.imp_ (fun p c hp => d.M_mono (fun k hk => ⟨hok k hk.1, fun he => ?_⟩) (Kd.M_below (d.M_bound hp) (below_alloc (Below.refl _ _) _)))
    have h3 : k = W.heap.size := by simpa [Value.ownBlock] using he
    have := hk.2.2.1
    omega
end
end Go.Proofs.YtjffghebcaklaaaW.PrintWords
