/- The program's record.Copy: the same record in new memory. -/
import Derived.Test.YtjffghebcaklaaaSet
import Derived.Laws.CopyOwn
import Derived.Deep.DeepCutAuto
namespace Go.Proofs.Ytjffghebcaklaaa
open Go Go.RowKit Go.Proofs.YtjffghebcaklaaaW.PrintWords Go.Proofs.YtjffghebcaklaaaW.PrintLast Go.Proofs.YtjffghebcaklaaaW.PrintMore
set_option linter.unusedVariables false
set_option linter.unusedSimpArgs false
attribute [local go_sem] run_store_float
theorem run_make_rowN {P : Program} (t e : TypeId) (z : Value) (sz bytes : Nat) (ht : P.underlying t = some (.slice e)) (hinfo : (P.info? e).map (fun i => (i.zero, i.size, i.bytes)) = some (some z, sz, bytes))
    (n : Nat) (hbytes : bytes * n ≤ 281474976710656) (h63 : n ≤ 9223372036854775807) (w : World) :
    (Instr.makeSlice t (.int .i64 (n : Int)) (.int .i64 (n : Int))).run P w = .ok (.slice (some ⟨w.heap.size, 0, none⟩) n n) (w.alloc (.cells (madeCells z.cells (n * sz)) e)) := by
  obtain ⟨i, hi, hzz⟩ := Option.map_eq_some_iff.1 hinfo
  simp only [Prod.mk.injEq] at hzz
  obtain ⟨hz0, hz1, hz2⟩ := hzz
  have hb : (i.bytes : Int) * (n : Int) ≤ 281474976710656 := by
    have h : ((i.bytes * n : Nat) : Int) ≤ 281474976710656 := by rw [hz2]; omega
    rwa [Int.natCast_mul] at h
  have hr := run_make (P := P) w t e i z ht hi hz0 .i64 .i64 n n (by omega) (by omega) hb (by omega)
  simp only [Int.toNat_natCast] at hr
  rw [hz1] at hr
  exact hr
theorem run_copy_full {P : Program} (w : World) (dT sT ty elem : TypeId) (k : Nat) (g n c : Nat) (a : Option Addr) (sc : Nat) (cur : Array Value) (t : TypeId) (cs : List Value)
    (hu : P.underlying dT = some (.slice elem)) (hs : (P.info? elem).map (·.size) = some k) (hk : 0 < k) (hlen : cs.length = n * k) (hcur : cur.size = cs.length)
    (hg : w.heap[g]? = some (.cells cur t (0, 0))) (hsrc : 0 < n → ∃ ad, a = some ad ∧ ∀ j v, cs[j]? = some v → w.cell? (ad.add j) = some v) (h1 : ∀ v ∈ cs, v.oneCell' = true) :
    ∃ w', (Builtin.copy_ #[dT, sT] ty #[.slice (some ⟨g, 0, none⟩) n c, .slice a n sc]).run P w = .ok (.int .i64 n) w' ∧ w'.heap[g]? = some (.cells cs.toArray t (0, 0)) ∧ Turned w w' g := by
  cases hq : P.info? elem with
  | none => simp [hq] at hs
  | some i =>
    have hi : i.size = k := by simpa [hq] using hs
    rcases Nat.eq_zero_or_pos n with h0 | h0
    · subst h0
      obtain rfl : cs = [] := List.eq_nil_of_length_eq_zero (by simpa using hlen)
      obtain rfl : cur = #[] := Array.eq_empty_of_size_eq_zero (by simpa using hcur)
      refine ⟨w, ?_, by simpa using hg, rfl, rfl, fun _ _ => rfl⟩
      cases a <;> simp [Builtin.copy_, run_underlying hu, Builtin.lenOf, Builtin.firstCells, sizeOf, typeInfo, hq, hi, storeCells, loadCells, loadCellsFrom, goInt]
    · obtain ⟨ad, rfl, hsr⟩ := hsrc h0
      have hl := run_loadCells_list (P := P) w ad cs hsr
      have hst := run_storeCells_at P g 0 t cs 0 cur w hg (by omega) h1
      have hdrop : List.drop (0 + 0 + cs.length) cur.toList = [] := List.drop_eq_nil_of_le (by simp [hcur])
      rw [hdrop] at hst
      simp only [Nat.add_zero, List.take_zero, List.nil_append, List.append_nil] at hst
      rw [hlen] at hl
      refine ⟨w.setRow g cs.toArray, ?_, setRow_heap w g _ _ t _ hg, rfl, by simp [World.setRow], fun j hj => setRow_other w g j _ hj⟩
      simp [Builtin.copy_, run_underlying hu, Builtin.lenOf, Builtin.firstCells, sizeOf, typeInfo, hq, hi, hl, hst, goInt]
/-- A list's cells, one element behind the other. -/
theorem flat_get {α : Type} (enc : α → List Value) (k : Nat) (hk : 0 < k) (he : ∀ x, (enc x).length = k) : ∀ (xs : List α) (j : Nat), (xs.flatMap enc)[j]? = (xs[j / k]?).bind fun x => (enc x)[j % k]?
  | [], j => by simp
  | x :: xs, j => by
    rw [List.flatMap_cons]
    by_cases h : j < k
    · rw [List.getElem?_append_left (by rw [he]; exact h), Nat.div_eq_of_lt h, Nat.mod_eq_of_lt h]
      simp
    · obtain ⟨m, rfl⟩ : ∃ m, j = m + k := ⟨j - k, by omega⟩
      rw [List.getElem?_append_right (by rw [he]; omega), he, Nat.add_sub_cancel, flat_get enc k hk he xs m, Nat.add_div_right _ hk, Nat.add_mod_right]
      simp
theorem flat_length {α : Type} (enc : α → List Value) (k : Nat) (he : ∀ x, (enc x).length = k) : ∀ (xs : List α), (xs.flatMap enc).length = xs.length * k
  | [] => by simp
  | x :: xs => by rw [List.flatMap_cons, List.length_append, he, flat_length enc k he xs, List.length_cons, Nat.succ_mul]; omega
/-- A kind whose elements are plain: their cells are a function of them. -/
structure Flat {α : Type} (d : Kd α) (enc : α → List Value) : Prop where
  pos : 0 < d.sz
  len : ∀ x, (enc x).length = d.sz
  one : ∀ x, ∀ v ∈ enc x, v.oneCell' = true
  open_ : ∀ {w : World} {x : α} {cs : List Value}, d.K w x cs → cs = enc x
  mk_ : ∀ (w : World) (x : α), d.K w x (enc x)
theorem Flat.cells {α : Type} {d : Kd α} {enc : α → List Value} (F : Flat d enc) {w : World} {A : Option Addr} {n : Nat} {xs : List α} (h : d.C w A n xs) (hn : 0 < n) :
    ∃ ad, A = some ad ∧ ∀ j v, (xs.flatMap enc)[j]? = some v → w.cell? (ad.add j) = some v := by
  obtain ⟨ad, e, hc⟩ := h.2.2 hn
  refine ⟨ad, e, fun j v hj => ?_⟩
  rw [flat_get enc d.sz F.pos F.len] at hj
  obtain ⟨x, hx, hv⟩ := Option.bind_eq_some_iff.1 hj
  obtain ⟨c, hs, hr, hcell⟩ := hc (j / d.sz) x hx
  obtain rfl := F.open_ hr
  have := hcell (j % d.sz) v hv
  rwa [show j / d.sz * d.sz + j % d.sz = j from by rw [Nat.mul_comm]; exact Nat.div_add_mod j d.sz] at this
theorem add_zero_at (g j : Nat) : (⟨g, 0, none⟩ : Addr).add j = ⟨g, j, none⟩ := by
  unfold Addr.add
  split
  · rename_i h; rw [h]
  · simp
theorem Flat.block {α : Type} {d : Kd α} {enc : α → List Value} (F : Flat d enc) {w : World} {g t : Nat} {xs : List α} (h : w.heap[g]? = some (.cells (xs.flatMap enc).toArray t (0, 0))) (hl : xs.length ≤ 9223372036854775807) :
    d.C w (some ⟨g, 0, none⟩) xs.length xs := by
  refine ⟨rfl, hl, fun hn => ⟨_, rfl, fun j x hj => ⟨enc x, F.len x, F.mk_ w x, fun i u hu => ?_⟩⟩⟩
  have hi : i < d.sz := by rw [← F.len x]; exact (List.getElem?_eq_some_iff.1 hu).1
  rw [add_zero_at, cell_of_row w g _ _ t _ h]
  simp only [List.getElem?_toArray]
  rw [flat_get enc d.sz F.pos F.len, Nat.mul_comm, Nat.mul_add_div F.pos, Nat.div_eq_of_lt hi, Nat.add_zero, Nat.mul_add_mod, Nat.mod_eq_of_lt hi, hj]
  exact hu
def encId (x : Id) : List Value := [.int .i64 x.f0, .int .i64 x.f1]
def encCmd (x : Cmd) : List Value := [.int .i64 x.f0, .string x.f1, .float .f64 x.f2]
theorem flat_id : Flat kId encId := ⟨by decide, fun _ => rfl, fun x v hv => by simp [encId] at hv; rcases hv with rfl | rfl <;> rfl, fun h => PRef.k37_open h, fun w x => PRef.k37_mk w x⟩
theorem flat_cmd : Flat kCmd encCmd := ⟨by decide, fun _ => rfl, fun x v hv => by simp [encCmd] at hv; rcases hv with rfl | rfl | rfl <;> rfl, fun h => PRef.k115_open h, fun w x => PRef.k115_mk w x⟩
theorem turned_below {B b : Nat} {w w1 : World} (h : Turned w w1 b) (hb : B ≤ b) : Below B w w1 := by
  obtain ⟨h1, h2, h3⟩ := h
  exact ⟨by rw [h1], by rw [h1], by rw [h1], by rw [h2]; exact Nat.le_refl _, fun i hi => h3 i (by omega)⟩
theorem set5 (w : World) (b : Nat) (t : TypeId) (z0 z1 z2 z3 z4 v0 v1 v2 v3 v4 : Value) (h : w.heap[b]? = some (.cells #[z0, z1, z2, z3, z4] t (0, 0))) :
    (((((w.setCell ⟨b, 0, none⟩ v0).setCell ⟨b, 1, none⟩ v1).setCell ⟨b, 2, none⟩ v2).setCell ⟨b, 3, none⟩ v3).setCell ⟨b, 4, none⟩ v4).heap[b]? = some (.cells #[v0, v1, v2, v3, v4] t (0, 0)) ∧
      Turned w (((((w.setCell ⟨b, 0, none⟩ v0).setCell ⟨b, 1, none⟩ v1).setCell ⟨b, 2, none⟩ v2).setCell ⟨b, 3, none⟩ v3).setCell ⟨b, 4, none⟩ v4) b := by
  have one : ∀ (W : World) (j : Nat) (u : Value), Turned W (W.setCell ⟨b, j, none⟩ u) b := fun W j u => ⟨rfl, by simp [World.setCell], fun i hi => Below.heap_setCell W ⟨b, j, none⟩ u i hi⟩
  have two : ∀ {W W1 W2 : World}, Turned W W1 b → Turned W1 W2 b → Turned W W2 b := fun {W W1 W2} h k => ⟨by rw [k.1, h.1], k.2.1.trans h.2.1, fun i hi => (k.2.2 i hi).trans (h.2.2 i hi)⟩
  have st : ∀ (W : World) (j : Nat) (u : Value) (cs : Array Value), W.heap[b]? = some (.cells cs t (0, 0)) → (W.setCell ⟨b, j, none⟩ u).heap[b]? = some (.cells (cs.setIfInBounds j u) t (0, 0)) := fun W j u cs hc => by
    simp [World.setCell, Array.getElem?_modify, hc]
  exact ⟨st _ 4 _ _ (st _ 3 _ _ (st _ 2 _ _ (st _ 1 _ _ (st _ 0 _ _ h)))), two (two (two (two (one _ _ _) (one _ _ _)) (one _ _ _)) (one _ _ _)) (one _ _ _)⟩
theorem at_new {w : World} {n : Nat} (h : n = w.heap.size) (o : Obj) : (w.alloc o).heap[n]? = some o := by rw [h]; exact heap_alloc_new w o
theorem at_old {w : World} {n : Nat} {o : Obj} (h : w.heap[n]? = some o) (o' : Obj) : (w.alloc o').heap[n]? = some o := (Below.heap_alloc w o' n (Array.getElem?_eq_some_iff.1 h).1).trans h
theorem heap5 (w : World) (o0 o1 o2 o3 o4 : Obj) : (((((w.alloc o0).alloc o1).alloc o2).alloc o3).alloc o4).drew.heap[w.heap.size]? = some o0 ∧ (((((w.alloc o0).alloc o1).alloc o2).alloc o3).alloc o4).drew.heap[w.heap.size + 1]? = some o1 ∧
    (((((w.alloc o0).alloc o1).alloc o2).alloc o3).alloc o4).drew.heap[w.heap.size + 2]? = some o2 ∧ (((((w.alloc o0).alloc o1).alloc o2).alloc o3).alloc o4).drew.heap[w.heap.size + 3]? = some o3 ∧ (((((w.alloc o0).alloc o1).alloc o2).alloc o3).alloc o4).drew.heap[w.heap.size + 4]? = some o4 :=
  ⟨at_old (at_old (at_old (at_old (at_new rfl o0) o1) o2) o3) o4, at_old (at_old (at_old (at_new (by simp) o1) o2) o3) o4, at_old (at_old (at_new (by simp) o2) o3) o4, at_old (at_new (by simp) o3) o4, at_new (by simp) o4⟩
set_option maxRecDepth 100000 in
set_option maxHeartbeats 1600000 in
theorem recCopy (r : Rec) (A A' : Option Addr) (c c' : Nat) (w : World) (hC : Kd.C kId w A r.f2.length r.f2) (hC' : Kd.C kCmd w A' r.f3.length r.f3) (hl : r.f2.length ≤ 1048576) (hl' : r.f3.length ≤ 1048576) :
    Calls Try.prog 41 #[.agg #[.int .i64 r.f0.f0, .int .i64 r.f0.f1, .int .i64 r.f1, .slice A r.f2.length c, .slice A' r.f3.length c']] w fun e w' => ∃ B B' d d', e = .returned (.agg #[.int .i64 r.f0.f0, .int .i64 r.f0.f1, .int .i64 r.f1, .slice B r.f2.length d, .slice B' r.f3.length d']) ∧ r.f2.length ≤ d ∧ r.f3.length ≤ d' ∧ Kd.C kId w' B r.f2.length r.f2 ∧ Kd.C kCmd w' B' r.f3.length r.f3 ∧ Below w.heap.size w w' ∧ ∃ g1 g2 : Nat, B = some ⟨g1, 0, none⟩ ∧ B' = some ⟨g2, 0, none⟩ ∧ w.heap.size ≤ g1 ∧ w.heap.size ≤ g2 := by
  have hmk1 := fun W => run_make_rowN (P := Try.prog) 23 37 (.agg #[.int .i64 0, .int .i64 0]) 2 16 Try.underlying23 PRef.info37 r.f2.length (by omega) (by omega) W
  have hmk2 := fun W => run_make_rowN (P := Try.prog) 47 115 (.agg #[.int .i64 0, .string ⟨#[]⟩, .float .f64 0]) 3 32 Try.underlying47 (by kernel_rfl) r.f3.length (by omega) (by omega) W
  go_enter Try.func41, Try.ntmps41
  go_upto_region 1 with fail
  go_cut [3] (fun s3 wx => ∃ g1 g2 b3 : Nat, s3 = .pointer (some ⟨b3, 0, none⟩) ∧ Aside0 (w.heap.size + 2 ≤ g1 ∧ w.heap.size + 2 ≤ g2 ∧ w.heap.size + 2 ≤ b3 ∧ g1 ≠ g2 ∧ g1 ≠ b3 ∧ g2 ≠ b3) ∧
    Aside0 (wx.heap[w.heap.size]? = some (.cells #[.int .i64 r.f0.f0, .int .i64 r.f0.f1, .int .i64 r.f1, .slice A r.f2.length c, .slice A' r.f3.length c'] 49 (0, 0))) ∧
    Aside0 (∃ z0 z1 z2 z3 z4, wx.heap[w.heap.size + 1]? = some (.cells #[z0, z1, z2, z3, z4] 49 (0, 0))) ∧
    Aside0 (wx.heap[b3]? = some (.cells #[.int .i64 r.f0.f0, .int .i64 r.f0.f1, .int .i64 r.f1, .slice (some ⟨g1, 0, none⟩) r.f2.length r.f2.length, .slice (some ⟨g2, 0, none⟩) r.f3.length r.f3.length] 49 (0, 0))) ∧
    Aside0 (wx.heap[g1]? = some (.cells (madeCells #[.int .i64 0, .int .i64 0] (r.f2.length * 2)) 37 (0, 0))) ∧
    Aside0 (wx.heap[g2]? = some (.cells (madeCells #[.int .i64 0, .string ⟨#[]⟩, .float .f64 0] (r.f3.length * 3)) 115 (0, 0))) ∧ Aside0 (Below w.heap.size w wx))
  case first =>
    go_region
    all_goals
      go_wp2_with fail
      go_meet
    all_goals
      first
      | (exact ⟨w.heap.size + 2, w.heap.size + 3, w.heap.size + 4, rfl, ⟨by omega⟩, ⟨(heap5 _ _ _ _ _ _).1⟩, ⟨.int .i64 0, .int .i64 0, .int .i64 0, .slice none 0 0, .slice none 0 0, (heap5 _ _ _ _ _ _).2.1⟩, ⟨(heap5 _ _ _ _ _ _).2.2.2.2⟩, ⟨(heap5 _ _ _ _ _ _).2.2.1⟩, ⟨(heap5 _ _ _ _ _ _).2.2.2.1⟩, ⟨below_drew1 (below_alloc (below_alloc (below_alloc (below_alloc (below_alloc (Below.refl _ _) _) _) _) _) _)⟩⟩)
      | (exact ⟨w.heap.size + 2, w.heap.size + 4, w.heap.size + 3, rfl, ⟨by omega⟩, ⟨(heap5 _ _ _ _ _ _).1⟩, ⟨.int .i64 0, .int .i64 0, .int .i64 0, .slice none 0 0, .slice none 0 0, (heap5 _ _ _ _ _ _).2.1⟩, ⟨(heap5 _ _ _ _ _ _).2.2.2.1⟩, ⟨(heap5 _ _ _ _ _ _).2.2.1⟩, ⟨(heap5 _ _ _ _ _ _).2.2.2.2⟩, ⟨below_drew1 (below_alloc (below_alloc (below_alloc (below_alloc (below_alloc (Below.refl _ _) _) _) _) _) _)⟩⟩)
      | (exact ⟨w.heap.size + 3, w.heap.size + 2, w.heap.size + 4, rfl, ⟨by omega⟩, ⟨(heap5 _ _ _ _ _ _).1⟩, ⟨.int .i64 0, .int .i64 0, .int .i64 0, .slice none 0 0, .slice none 0 0, (heap5 _ _ _ _ _ _).2.1⟩, ⟨(heap5 _ _ _ _ _ _).2.2.2.2⟩, ⟨(heap5 _ _ _ _ _ _).2.2.2.1⟩, ⟨(heap5 _ _ _ _ _ _).2.2.1⟩, ⟨below_drew1 (below_alloc (below_alloc (below_alloc (below_alloc (below_alloc (Below.refl _ _) _) _) _) _) _)⟩⟩)
      | (exact ⟨w.heap.size + 3, w.heap.size + 4, w.heap.size + 2, rfl, ⟨by omega⟩, ⟨(heap5 _ _ _ _ _ _).1⟩, ⟨.int .i64 0, .int .i64 0, .int .i64 0, .slice none 0 0, .slice none 0 0, (heap5 _ _ _ _ _ _).2.1⟩, ⟨(heap5 _ _ _ _ _ _).2.2.1⟩, ⟨(heap5 _ _ _ _ _ _).2.2.2.1⟩, ⟨(heap5 _ _ _ _ _ _).2.2.2.2⟩, ⟨below_drew1 (below_alloc (below_alloc (below_alloc (below_alloc (below_alloc (Below.refl _ _) _) _) _) _) _)⟩⟩)
      | (exact ⟨w.heap.size + 4, w.heap.size + 2, w.heap.size + 3, rfl, ⟨by omega⟩, ⟨(heap5 _ _ _ _ _ _).1⟩, ⟨.int .i64 0, .int .i64 0, .int .i64 0, .slice none 0 0, .slice none 0 0, (heap5 _ _ _ _ _ _).2.1⟩, ⟨(heap5 _ _ _ _ _ _).2.2.2.1⟩, ⟨(heap5 _ _ _ _ _ _).2.2.2.2⟩, ⟨(heap5 _ _ _ _ _ _).2.2.1⟩, ⟨below_drew1 (below_alloc (below_alloc (below_alloc (below_alloc (below_alloc (Below.refl _ _) _) _) _) _) _)⟩⟩)
      | (exact ⟨w.heap.size + 4, w.heap.size + 3, w.heap.size + 2, rfl, ⟨by omega⟩, ⟨(heap5 _ _ _ _ _ _).1⟩, ⟨.int .i64 0, .int .i64 0, .int .i64 0, .slice none 0 0, .slice none 0 0, (heap5 _ _ _ _ _ _).2.1⟩, ⟨(heap5 _ _ _ _ _ _).2.2.1⟩, ⟨(heap5 _ _ _ _ _ _).2.2.2.2⟩, ⟨(heap5 _ _ _ _ _ _).2.2.2.1⟩, ⟨below_drew1 (below_alloc (below_alloc (below_alloc (below_alloc (below_alloc (Below.refl _ _) _) _) _) _) _)⟩⟩)
  case rest =>
    obtain ⟨g1, g2, b3, rfl, hne, hbox, hres, hrec, hg1, hg2, hB⟩ := hcut
    have hl1 := flat_length encId 2 (fun _ => rfl) r.f2
    have hl2 := flat_length encCmd 3 (fun _ => rfl) r.f3
    obtain ⟨w1, hcp1, hw1, ht1⟩ := run_copy_full (P := Try.prog) wc 23 23 3 37 2 g1 r.f2.length r.f2.length A c _ _ (r.f2.flatMap encId) Try.underlying23 (by kernel_rfl) (by omega) hl1 (by rw [size_madeCells, hl1]) hg1.out
      (fun hn => flat_id.cells (cel_id.C (CKeep.below hB.out) hC) hn) (fun v hv => by obtain ⟨x, _, hx⟩ := List.mem_flatMap.1 hv; exact flat_id.one x v hx)
    have hg2' : w1.heap[g2]? = _ := (ht1.2.2 g2 (Ne.symm hne.out.2.2.2.1)).trans hg2.out
    have hK1 : CKeep w w1 := by
      intro a v hv
      have h1 := CKeep.below hB.out a v hv
      have hlt := World.block_lt_of_cell? w a hv
      have := hne.out
      exact (World.cell?_of_block (ht1.2.2 a.block (by omega))).trans h1
    obtain ⟨w2, hcp2, hw2, ht2⟩ := run_copy_full (P := Try.prog) w1 47 47 3 115 3 g2 r.f3.length r.f3.length A' c' _ _ (r.f3.flatMap encCmd) Try.underlying47 (by kernel_rfl) (by omega) hl2 (by rw [size_madeCells, hl2]) hg2'
      (fun hn => flat_cmd.cells (cel_cmd.C hK1 hC') hn) (fun v hv => by obtain ⟨x, _, hx⟩ := List.mem_flatMap.1 hv; exact flat_cmd.one x v hx)
    have hbx := fun (j : Nat) => cell_of_row wc w.heap.size j _ _ _ hbox.out
    have hbx1 := fun (j : Nat) => cell_of_row w1 w.heap.size j _ _ _ ((ht1.2.2 w.heap.size (by have := hne.out; omega)).trans hbox.out)
    have hrc := fun (j : Nat) => cell_of_row wc b3 j _ _ _ hrec.out
    have hrec1 := (ht1.2.2 b3 (Ne.symm hne.out.2.2.2.2.1)).trans hrec.out
    have hrc1 := fun (j : Nat) => cell_of_row w1 b3 j _ _ _ hrec1
    have hrec2 := (ht2.2.2 b3 (Ne.symm hne.out.2.2.2.2.2)).trans hrec1
    have hrc2 := fun (j : Nat) => cell_of_row w2 b3 j _ _ _ hrec2
    obtain ⟨z0, z1, z2, z3, z4, hres0⟩ := hres.out
    have hres2 := (ht2.2.2 (w.heap.size + 1) (by have := hne.out; omega)).trans ((ht1.2.2 (w.heap.size + 1) (by have := hne.out; omega)).trans hres0)
    have x2 := hbx 3
    have x31 := hbx1 4
    have r2 := hrc 3
    have r31 := hrc1 4
    have fz : ∀ j, w2.frozen? ⟨w.heap.size + 1, j, none⟩ = false := fun j => by simp [World.frozen?, hres2]
    have hsz2 := (Array.getElem?_eq_some_iff.1 hres2).1
    have q0 := hrc2 0
    have q1 := hrc2 1
    have q2 := hrc2 2
    have q3 := hrc2 3
    have q4 := hrc2 4
    have y0 := cell_of_row w2 (w.heap.size + 1) 0 _ _ _ hres2
    have y1 := cell_of_row w2 (w.heap.size + 1) 1 _ _ _ hres2
    have y2 := cell_of_row w2 (w.heap.size + 1) 2 _ _ _ hres2
    have y3 := cell_of_row w2 (w.heap.size + 1) 3 _ _ _ hres2
    have y4 := cell_of_row w2 (w.heap.size + 1) 4 _ _ _ hres2
    clear hbx hbx1 hrc hrc1 hrc2 hmk1 hmk2
    have HS := Aside0.mk (set5 w2 (w.heap.size + 1) 49 z0 z1 z2 z3 z4 (.int .i64 r.f0.f0) (.int .i64 r.f0.f1) (.int .i64 r.f1) (.slice (some ⟨g1, 0, none⟩) r.f2.length r.f2.length) (.slice (some ⟨g2, 0, none⟩) r.f3.length r.f3.length) hres2)
    have Hw1 := Aside0.mk hw1
    have Hw2 := Aside0.mk hw2
    have Ht1 := Aside0.mk ht1
    have Ht2 := Aside0.mk ht2
    clear hw1 hw2 ht1 ht2 hrec1 hrec2 hl1 hl2 hg2' hC hC' hK1
    go_wp2
    generalize (((((w2.setCell ⟨w.heap.size + 1, 0, none⟩ (.int .i64 r.f0.f0)).setCell ⟨w.heap.size + 1, 1, none⟩ (.int .i64 r.f0.f1)).setCell ⟨w.heap.size + 1, 2, none⟩ (.int .i64 r.f1)).setCell ⟨w.heap.size + 1, 3, none⟩ (.slice (some ⟨g1, 0, none⟩) r.f2.length r.f2.length)).setCell ⟨w.heap.size + 1, 4, none⟩ (.slice (some ⟨g2, 0, none⟩) r.f3.length r.f3.length)) = W5 at HS ⊢
    have hne' := hne.out
    have e1 : W5.heap[g1]? = some (.cells (r.f2.flatMap encId).toArray 37 (0, 0)) := (HS.out.2.2.2 g1 (by omega)).trans ((Ht2.out.2.2 g1 (by omega)).trans Hw1.out)
    have e2 : W5.heap[g2]? = some (.cells (r.f3.flatMap encCmd).toArray 115 (0, 0)) := (HS.out.2.2.2 g2 (by omega)).trans Hw2.out
    have hBB : Below w.heap.size w W5 := ((hB.out.trans (turned_below Ht1.out (by omega))).trans (turned_below Ht2.out (by omega))).trans (turned_below HS.out.2 (by omega))
    refine bodyPost_ret (results_cell_row rfl _ _ (w.heap.size + 1) 49 #[.int .i64 r.f0.f0, .int .i64 r.f0.f1, .int .i64 r.f1, .slice (some ⟨g1, 0, none⟩) r.f2.length r.f2.length, .slice (some ⟨g2, 0, none⟩) r.f3.length r.f3.length] (0, 0) _ rfl HS.out.1 Try.underlying49 rfl (by kernel_rfl)) rfl ?_
    exact ⟨_, _, _, _, rfl, Nat.le_refl _, Nat.le_refl _, flat_id.block e1 (by omega), flat_cmd.block e2 (by omega), hBB, g1, g2, rfl, rfl, by omega, by omega⟩
end Go.Proofs.Ytjffghebcaklaaa
