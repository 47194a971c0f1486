/- Maps whose keys are ids: what a map's block holds as a list of pairs, and what each operation does to it. -/
import Derived.Test.YtjffghebcaklaaaPlain1
import Derived.WalkSpells
import Derived.WalkLawsBesides
import Derived.Lib.Hide
import Derived.Maps.Own
namespace Go.Proofs.Ytjffghebcaklaaa
open Go Go.RowKit Go.Proofs.YtjffghebcaklaaaW.PrintWords Go.Proofs.YtjffghebcaklaaaW.PrintLast Go.Proofs.YtjffghebcaklaaaW.PrintMore
set_option linter.unusedVariables false
set_option linter.unusedSimpArgs false
def idV (x : Id) : Value := .agg #[.int .i64 x.f0, .int .i64 x.f1]
theorem idV_inj {x y : Id} (h : idV x = idV y) : x = y := by
  cases x; cases y; simp [idV] at h; simp [h]
theorem eq_id (x y : Id) (w : World) : (Op.equal 37 (idV x) (idV y)).run Try.prog w = .ok (decide (x = y)) w := by
  rw [← id_beq]
  exact PRef.eqA37 9998 w x.f0 y.f0 x.f1 y.f1
theorem checkKey_id (e : Bool) (x : Id) (w : World) : (Instr.checkKey e 10000 37 (idV x)).run Try.prog w = .ok () w := by kernel_rfl
/-- An entry of such a map. -/
structure Ent where
  id : Id
  val : Value
  born : Nat
def Ent.me (e : Ent) : MapEntry := { key := idV e.id, val := e.val, born := e.born }
/-- The first entry at a key, and its place. -/
def findE (x : Id) : List Ent → Nat → Option (Nat × Value)
  | [], _ => none
  | e :: es, i => if x = e.id then some (i, e.val) else findE x es (i + 1)
theorem run_findAsking (x : Id) (w : World) : ∀ (es : List Ent) (i : Nat), (Instr.findAsking 37 (idV x) (es.map Ent.me) i).run Try.prog w = .ok (findE x es i) w
  | [], i => rfl
  | e :: es, i => by
    have h := eq_id x e.id w
    simp only [List.map_cons, Instr.findAsking, Sem.run_bind, findE]
    show ((Op.equal 37 (idV x) (idV e.id)).run Try.prog w).andThen _ = _
    rw [h]
    by_cases hx : x = e.id
    · simp [hx, Sem.run_pure, Ent.me]
    · simp [hx, run_findAsking x w es (i + 1)]
theorem run_findKey (x : Id) (es : List Ent) (w : World) : (Instr.findKey 37 (idV x) (es.map Ent.me)).run Try.prog w = .ok (findE x es 0) w := by
  obtain ⟨fs, hu⟩ : ∃ fs, Try.prog.underlying 37 = some (.struct fs) := ⟨_, Try.underlying37⟩
  have ha := run_findAsking x w es 0
  unfold Instr.findKey
  simp only [Sem.run_bind, run_underlying hu]
  cases es with
  | nil => rfl
  | cons e es =>
    rw [← ha]
    simp [Instr.findNow, Instr.sameNow]
/-- Block b of w is a map that holds just these pairs, each key once. -/
def MapAt (w : World) (b : Nat) (m : List (Id × Value)) : Prop :=
  ∃ (es : List Ent) (clock : Nat), w.heap[b]? = some (.map (es.map Ent.me).toArray clock) ∧ es.map (fun e => (e.id, e.val)) = m ∧ (m.map Prod.fst).Nodup ∧ (es.map Ent.born).Nodup ∧ ∀ e ∈ es, e.born < clock
def mget (m : List (Id × Value)) (x : Id) : Option Value := (m.find? fun p => decide (x = p.1)).map Prod.snd
def mput (m : List (Id × Value)) (x : Id) (v : Value) : List (Id × Value) := if (mget m x).isSome then m.map fun p => if x = p.1 then (p.1, v) else p else m ++ [(x, v)]
def mdel (m : List (Id × Value)) (x : Id) : List (Id × Value) := m.filter fun p => decide (x ≠ p.1)
theorem findE_mget (x : Id) : ∀ (es : List Ent) (i : Nat), (findE x es i).map Prod.snd = mget (es.map fun e => (e.id, e.val)) x
  | [], _ => rfl
  | e :: es, i => by
    unfold findE mget
    by_cases h : x = e.id
    · simp [h]
    · simp only [h, if_false, List.map_cons, List.find?_cons, decide_false]
      exact findE_mget x es (i + 1)
theorem MapAt.lookup {w : World} {b : Nat} {m : List (Id × Value)} (h : MapAt w b m) {t e : TypeId} (ht : Try.prog.underlying t = some (.map 37 e)) (x : Id) {z : Value} (hz : ∀ W : World, (zeroValue e).run Try.prog W = .ok z W) (ok : Bool) :
    (Instr.lookup t (.map (some b)) (idV x) ok).run Try.prog w = .ok (if ok then .tuple #[(mget m x).getD z, .bool (mget m x).isSome] else (mget m x).getD z) w := by
  obtain ⟨es, clock, hb, hm, _⟩ := h
  have hf := findE_mget x es 0
  rw [hm] at hf
  unfold Instr.lookup
  simp only [Sem.run_bind, run_underlying ht, Result.andThen_ok]
  simp only [getObj, Sem.run, hb, Sem.run_bind, Result.andThen_ok, Sem.run_pure, checkKey_id, run_findKey]
  cases hr : findE x es 0 with
  | none => rw [hr] at hf; simp only [Option.map_none] at hf; simp [← hf, hz]
  | some r => rw [hr] at hf; simp only [Option.map_some] at hf; simp [← hf]
/-- The block is no row of cells. -/
theorem MapAt.noCells {w : World} {b : Nat} {m : List (Id × Value)} (h : MapAt w b m) (o : Nat) : w.cell? ⟨b, o, none⟩ = none := by
  obtain ⟨es, clock, hb, _⟩ := h
  simp [World.cell?, hb]
theorem MapAt.lt {w : World} {b : Nat} {m : List (Id × Value)} (h : MapAt w b m) : b < w.heap.size := by
  obtain ⟨es, clock, hb, _⟩ := h
  exact (Array.getElem?_eq_some_iff.1 hb).1
theorem MapAt.same {w w' : World} {b : Nat} {m : List (Id × Value)} (h : MapAt w b m) (hb : w'.heap[b]? = w.heap[b]?) : MapAt w' b m := by
  obtain ⟨es, clock, hh, r⟩ := h
  exact ⟨es, clock, hb.trans hh, r⟩
theorem MapAt.nodup {w : World} {b : Nat} {m : List (Id × Value)} (h : MapAt w b m) : (m.map Prod.fst).Nodup := by
  obtain ⟨es, clock, hb, hm, hn, _⟩ := h
  exact hn
theorem mapAt_made (w : World) : MapAt (w.alloc (.map #[] 0)) w.heap.size [] :=
  ⟨[], 0, heap_alloc_new w _, rfl, by simp, by simp, by simp⟩
/-- w' is w but for the block b. -/
def Turned (w w' : World) (b : Nat) : Prop := w' = { w with heap := w'.heap } ∧ w'.heap.size = w.heap.size ∧ ∀ i, i ≠ b → w'.heap[i]? = w.heap[i]?
theorem MapAt.len {w : World} {b : Nat} {m : List (Id × Value)} (h : MapAt w b m) {t e ty : TypeId} (ht : Try.prog.underlying t = some (.map 37 e)) :
    (Builtin.len_ #[t] ty #[.map (some b)]).run Try.prog w = .ok (.int .i64 m.length) w := by
  obtain ⟨es, clock, hb, rfl, _⟩ := h
  simp [Builtin.len_, Sem.run_bind, run_underlying ht, getObj, Sem.run, hb, Sem.run_pure, goInt]
theorem findE_some {x : Id} : ∀ {es : List Ent} {i : Nat} {r : Nat × Value}, findE x es i = some r → ∃ j e, r = (i + j, e.val) ∧ es[j]? = some e ∧ e.id = x
  | [], _, _, h => by simp [findE] at h
  | e :: es, i, r, h => by
    unfold findE at h
    by_cases hx : x = e.id
    · simp [hx] at h
      exact ⟨0, e, h.symm, rfl, hx.symm⟩
    · simp [hx] at h
      obtain ⟨j, e', h1, h2, h3⟩ := findE_some h
      exact ⟨j + 1, e', by rw [h1]; congr 1; omega, h2, h3⟩
theorem sameBits_id (x : Id) : Instr.sameBits 10000 (idV x) (idV x) = true := by
  simp [idV, Instr.sameBits]
/-- What becomes of an entry's list when the entry j gets the value v. -/
theorem map_modify (v : Value) (x : Id) : ∀ (es : List Ent) (j : Nat), (∃ e, es[j]? = some e ∧ e.id = x) → (es.map fun e => e.id).Nodup →
    (es.map Ent.me).toArray.modify j (fun e => { e with key := idV x, val := v }) = ((es.map fun e => if e.id = x then { e with val := v } else e).map Ent.me).toArray := by
  intro es j ⟨e, hj, hx⟩ hn
  apply Array.ext'
  simp only [Array.toList_modify]
  apply List.ext_getElem?
  intro i
  simp only [List.getElem?_modify, List.getElem?_map]
  by_cases hij : j = i
  · subst hij
    simp [hj, hx, Ent.me]
  · simp only [hij, if_false]
    cases hi : es[i]? with
    | none => simp
    | some e' =>
      have hne : e'.id ≠ x := by
        intro h
        have h1 : (es.map fun e => e.id)[i]? = some x := by simp [hi, h]
        have h2 : (es.map fun e => e.id)[j]? = some x := by simp [hj, hx]
        obtain ⟨hi1, hi2⟩ := List.getElem?_eq_some_iff.1 h1
        obtain ⟨hj1, hj2⟩ := List.getElem?_eq_some_iff.1 h2
        exact hij ((List.getElem_inj hn).1 (hj2.trans hi2.symm))
      simp [hne, Ent.me]
theorem MapAt.update {w : World} {b : Nat} {m : List (Id × Value)} (h : MapAt w b m) {t e : TypeId} (ht : Try.prog.underlying t = some (.map 37 e)) (x : Id) (v : Value) :
    ∃ w', (Instr.mapUpdate t (.map (some b)) (idV x) v).run Try.prog w = .ok () w' ∧ MapAt w' b (mput m x v) ∧ Turned w w' b := by
  obtain ⟨es, clock, hb, hm, hn, hbn, hbl⟩ := h
  have hlt := (Array.getElem?_eq_some_iff.1 hb).1
  have hf := findE_mget x es 0
  rw [hm] at hf
  have hrun : ∀ r, findE x es 0 = r → (Instr.mapUpdate t (.map (some b)) (idV x) v).run Try.prog w = (match r with
      | some (i, _) => (do let key ← Instr.keyThatStays ((((es.map Ent.me).toArray[i]?).map (·.key)).getD (idV x)) (idV x); setObj b (.map ((es.map Ent.me).toArray.modify i fun e => { e with key, val := v }) clock) : Sem Unit)
      | none => setObj b (.map ((es.map Ent.me).toArray.push { key := idV x, val := v, born := clock }) (clock + 1)) : Sem Unit).run Try.prog w := by
    intro r hr
    unfold Instr.mapUpdate
    simp only [Sem.run_bind, run_underlying ht, Result.andThen_ok]
    simp only [getObj, Sem.run, hb, Sem.run_bind, Result.andThen_ok, checkKey_id, run_findKey, hr]
    rcases r with _ | ⟨i, u⟩ <;> simp [Sem.run_bind]
  have hset : ∀ o, (setObj b o : Sem Unit).run Try.prog w = .ok () { w with heap := w.heap.setIfInBounds b o } := by
    intro o
    simp [setObj, Sem.run, hb]
  have hturn : ∀ o, Turned w { w with heap := w.heap.setIfInBounds b o } b := fun o => ⟨rfl, by simp, fun i hi => by simp [Array.getElem?_setIfInBounds, Ne.symm hi]⟩
  have hnid : (es.map fun e => e.id).Nodup := by
    have : (es.map fun e => e.id) = m.map Prod.fst := by rw [← hm]; simp
    rw [this]; exact hn
  cases hr : findE x es 0 with
  | none =>
    rw [hr] at hf
    have hg : mget m x = none := hf.symm
    refine ⟨_, (hrun _ hr).trans (hset _), ⟨es ++ [⟨x, v, clock⟩], clock + 1, ?_, ?_, ?_, ?_, ?_⟩, hturn _⟩
    · simp [Array.getElem?_setIfInBounds, hlt, Ent.me]
    · simp only [mput, hg]; simp [← hm]
    · have hx : x ∉ m.map Prod.fst := by
        intro hx
        obtain ⟨p, hp, rfl⟩ := List.mem_map.1 hx
        have : (m.find? fun q => decide (p.1 = q.1)).isSome := by rw [List.find?_isSome]; exact ⟨p, hp, by simp⟩
        unfold mget at hg
        rw [Option.map_eq_none_iff] at hg
        rw [hg] at this
        cases this
      simp only [mput, hg, Option.isSome_none, Bool.false_eq_true, if_false, List.map_append, List.map_cons, List.map_nil]
      rw [List.nodup_append]
      exact ⟨hn, by simp, by rintro a ha c hc rfl; simp at hc; exact hx (hc ▸ ha)⟩
    · rw [List.map_append, List.nodup_append]
      refine ⟨hbn, by simp, ?_⟩
      rintro a ha c hc rfl
      obtain ⟨e1, he1, rfl⟩ := List.mem_map.1 ha
      simp at hc
      have := hbl e1 he1
      omega
    · intro e1 he1
      rcases List.mem_append.1 he1 with h1 | h1
      · have := hbl e1 h1; omega
      · simp at h1; subst h1; simp
  | some r =>
    obtain ⟨j, e1, rfl, hj, hx⟩ := findE_some hr
    rw [hr] at hf
    have hg : mget m x = some e1.val := hf.symm
    have hkey : (((es.map Ent.me).toArray[0 + j]?).map (·.key)).getD (idV x) = idV x := by
      simp [hj, Ent.me, hx]
    refine ⟨_, (hrun _ hr).trans (?_ : _ = Result.ok () { w with heap := w.heap.setIfInBounds b (.map ((es.map fun e => if e.id = x then { e with val := v } else e).map Ent.me).toArray clock) }), ⟨es.map fun e => if e.id = x then { e with val := v } else e, clock, ?_, ?_, ?_, ?_, ?_⟩, hturn _⟩
    · simp only [Sem.run_bind, hkey]
      unfold Instr.keyThatStays
      rw [sameBits_id]
      simp only [if_true, Sem.run_pure, Result.andThen_ok]
      rw [map_modify v x es (0 + j) ⟨e1, by simpa using hj, hx⟩ hnid]
      exact hset _
    · simp [Array.getElem?_setIfInBounds, hlt]
    · have hmp : mput m x v = m.map fun p => if x = p.1 then (p.1, v) else p := by simp only [mput, hg]; rfl
      rw [hmp, ← hm, List.map_map, List.map_map]
      refine List.map_congr_left fun e _ => ?_
      by_cases he : e.id = x
      · simp [he]
      · simp [he, Ne.symm he]
    · have : (mput m x v).map Prod.fst = m.map Prod.fst := by
        simp only [mput, hg, Option.isSome_some, if_true, List.map_map]
        refine List.map_congr_left fun p _ => ?_
        by_cases hp : x = p.1 <;> simp [hp]
      rw [this]; exact hn
    · have : (es.map fun e => if e.id = x then { e with val := v } else e).map Ent.born = es.map Ent.born := by
        rw [List.map_map]
        refine List.map_congr_left fun p _ => ?_
        by_cases hp : p.id = x <;> simp [hp]
      rw [this]; exact hbn
    · intro e2 he2
      obtain ⟨e3, he3, rfl⟩ := List.mem_map.1 he2
      have := hbl e3 he3
      by_cases hp : e3.id = x <;> simp [hp] <;> exact this
end Go.Proofs.Ytjffghebcaklaaa
