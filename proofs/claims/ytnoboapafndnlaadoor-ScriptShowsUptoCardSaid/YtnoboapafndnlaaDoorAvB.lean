/- Abstract values: new blocks, stores, loads. -/
import Derived.Test.YtnoboapafndnlaaDoorAvA
namespace Go.Proofs.YtnoboapafndnlaaDoor
open Go.RowKit
set_option linter.unusedSimpArgs false
set_option linter.unusedVariables false

variable {T : Tbl} {G G' : Gh} {h : AH} {w w' : World}
theorem Sim.fresh (S : Sim T G h w) : ∀ p ∈ h.objs, p.1 < w.heap.size := fun p hp => (S.obj p hp).lt
theorem Sim.nofrz (S : Sim T G h w) {b : Nat} (hb : w.heap.size ≤ b) (o : Nat) : G.frz b o = none := by
  cases e : G.frz b o with
  | none => rfl
  | some u => have := S.frzlt e; omega
theorem cell_alloc_lt (w : World) (ob : Obj) {a : Addr} (ha : a.block < w.heap.size) : (w.alloc ob).cell? a = w.cell? a := World.cell?_alloc_old w ob a (Nat.ne_of_lt ha)
theorem Sim.alloc0 (S : Sim T G h w) (o : Obj) : Sim T G h (w.alloc o) :=
  S.grow ((Below.refl _ _).alloc (Nat.le_refl _) o) (Gle.refl G) S.fin (fun _ _ _ e => .inl e) (fun b j u e => by
    have := S.frzlt e
    rw [cell_alloc_lt w o (a := ⟨b, j, none⟩) this]
    exact S.frz b j u e)
/-- a new object -/
theorem Sim.alloc (S : Sim T G h w) (ob : Ob) (vs : Array Value) (e : TypeId) (fz : Nat × Nat) (hk : ∀ r ∈ ob.rows, r.length = ob.k) (hf : ob.rows.length ≤ ob.c) (hm : ob.c ≤ maxLen)
    (hs : vs.size = ob.c * ob.k) (hz : ∀ o, o < vs.size → (decide (fz.1 ≤ o) && decide (o < fz.2)) = false)
    (hc : ∀ (i : Nat) (r : List AV) (j : Nat) (a : AV), ob.rows[i]? = some r → r[j]? = some a → a.one = true ∧ ∃ v, vs[i * ob.k + j]? = some v ∧ VR G a v) :
    Sim T G ⟨(w.heap.size, ob) :: h.objs, h.live⟩ (w.alloc (.cells vs e fz)) := by
  have S' := S.alloc0 (.cells vs e fz)
  refine ⟨S'.below, S'.glob, S'.frz, S'.fin, fun p hp => ?_, ?_, S'.liv, S'.tdis, fun t ht g hg hm' => ?_, S'.lnd⟩
  · rcases List.mem_cons.1 hp with rfl | hp
    · exact ⟨S.below.size, S.nofrz (Nat.le_refl _), hk, hf, hm, vs, e, fz, heap_alloc_new w _, hs, hz, hc⟩
    · exact S'.obj p hp
  · refine List.nodup_cons.2 ⟨fun hmem => ?_, S.nd⟩
    obtain ⟨p, hp, e⟩ := List.mem_map.1 hmem
    have := S.fresh p hp
    omega
  · rcases List.mem_cons.1 hm' with e | hm'
    · have := (S.liv t ht).lt hg
      dsimp only at e
      omega
    · exact S.todis t ht g hg hm'
/-- a new block whose cells are frozen at once -/
def Gh.ice (G : Gh) (b : Nat) (vs : Array Value) : Gh := { G with frz := fun b' o => if b' = b then vs[o]? else G.frz b' o }
theorem Sim.gle_ice (S : Sim T G h w) (vs : Array Value) : Gle G (G.ice w.heap.size vs) :=
  ⟨rfl, fun b o u e => by have := S.frzlt e; show (if b = w.heap.size then _ else _) = _; rw [if_neg (by omega)]; exact e,
   fun b o u e => by
    have e' : (if b = w.heap.size then vs[o]? else G.frz b o) = some u := e
    by_cases hb : b = w.heap.size
    · exact .inr (by rw [hb]; exact S.below.size)
    · rw [if_neg hb] at e'; exact .inl e', fun _ _ e => e⟩
theorem Sim.ice (S : Sim T G h w) (vs : Array Value) (e : TypeId) (fz : Nat × Nat) : Sim T (G.ice w.heap.size vs) h (w.alloc (.cells vs e fz)) := by
  refine S.grow ((Below.refl _ _).alloc (Nat.le_refl _) _) (S.gle_ice vs) S.fin (fun b o u hu => ?_) (fun b o u hu => ?_)
  · have hu' : (if b = w.heap.size then vs[o]? else G.frz b o) = some u := hu
    by_cases hb : b = w.heap.size
    · exact .inr (by omega)
    · rw [if_neg hb] at hu'; exact .inl hu'
  · have hu' : (if b = w.heap.size then vs[o]? else G.frz b o) = some u := hu
    by_cases hb : b = w.heap.size
    · subst hb
      rw [if_pos rfl] at hu'
      rw [cell_of_row _ _ _ vs e fz (heap_alloc_new w _)]
      exact hu'
    · rw [if_neg hb] at hu'
      have := S.frzlt hu'
      rw [cell_alloc_lt w _ (a := ⟨b, o, none⟩) this]
      exact S.frz b o u hu'

/-- look up, put -/
def getO (b : Nat) : List (Nat × Ob) → Option Ob
  | [] => none
  | p :: r => if (p.1 == b) = true then some p.2 else getO b r
def setO (b : Nat) (ob : Ob) : List (Nat × Ob) → List (Nat × Ob)
  | [] => []
  | p :: r => if (p.1 == b) = true then (b, ob) :: r else p :: setO b ob r
theorem getO_mem {b : Nat} {ob : Ob} : ∀ {l : List (Nat × Ob)}, getO b l = some ob → (b, ob) ∈ l
  | p :: r, e => by
    unfold getO at e
    split at e
    · rename_i hb
      injection e with e
      have : p.1 = b := by simpa using hb
      rw [← this, ← e]
      exact List.mem_cons_self ..
    · exact List.mem_cons_of_mem _ (getO_mem e)
theorem setO_keys {b : Nat} {ob : Ob} : ∀ (l : List (Nat × Ob)), (setO b ob l).map Prod.fst = l.map Prod.fst
  | [] => rfl
  | p :: r => by
    unfold setO
    split
    · rename_i hb
      have : p.1 = b := by simpa using hb
      simp [this]
    · simp [setO_keys r]
theorem setO_mem {b : Nat} {ob : Ob} {q : Nat × Ob} : ∀ {l : List (Nat × Ob)}, (l.map Prod.fst).Nodup → q ∈ setO b ob l → q = (b, ob) ∨ (q ∈ l ∧ q.1 ≠ b)
  | p :: r, hn, hq => by
    unfold setO at hq
    simp only [List.map_cons, List.nodup_cons] at hn
    split at hq
    · rename_i hb
      have hb : p.1 = b := by simpa using hb
      rcases List.mem_cons.1 hq with rfl | hq
      · exact .inl rfl
      · refine .inr ⟨List.mem_cons_of_mem _ hq, fun e => hn.1 ?_⟩
        rw [hb, ← e]
        exact List.mem_map_of_mem hq
    · rename_i hb
      rcases List.mem_cons.1 hq with rfl | hq
      · exact .inr ⟨List.mem_cons_self .., by simpa using hb⟩
      · rcases setO_mem hn.2 hq with h1 | ⟨h1, h2⟩
        · exact .inl h1
        · exact .inr ⟨List.mem_cons_of_mem _ h1, h2⟩

/-- only block b was written -/
structure Wrote (b : Nat) (w w' : World) : Prop where
  os : w'.os = w.os
  tape : w'.tape = w.tape
  output : w'.output = w.output
  size : w'.heap.size = w.heap.size
  block : ∀ b', b' ≠ b → w'.heap[b']? = w.heap[b']?
theorem Wrote.below {b : Nat} {w w' : World} (h : Wrote b w w') {B : Nat} (hB : B ≤ b) : Below B w w' := ⟨h.os, h.tape, h.output, by rw [h.size]; exact Nat.le_refl _, fun k hk => h.block k (by omega)⟩
theorem Wrote.cell {b : Nat} {w w' : World} (h : Wrote b w w') {b' o : Nat} (hb : b' ≠ b) : w'.cell? ⟨b', o, none⟩ = w.cell? ⟨b', o, none⟩ := World.cell?_of_block (w := w) (a := ⟨b', o, none⟩) (h.block b' hb)
theorem Sim.write (S : Sim T G h w) {b : Nat} {ob ob' : Ob} (hg : getO b h.objs = some ob) (hw : Wrote b w w') (hob : ObR G w' b ob') : Sim T G ⟨setO b ob' h.objs, h.live⟩ w' := by
  have hin := getO_mem hg
  have hO := S.obj _ hin
  refine ⟨S.below.trans (hw.below hO.low), S.glob, fun b' o u e => ?_, S.fin, fun p hp => ?_, ?_, fun t ht => ?_, S.tdis, fun t ht g hg' => ?_, S.lnd⟩
  · have hne : b' ≠ b := fun e' => by rw [e', hO.free o] at e; cases e
    rw [hw.cell hne]
    exact S.frz b' o u e
  · rcases setO_mem S.nd hp with rfl | ⟨hp, hne⟩
    · exact hob
    · exact (S.obj p hp).world (hw.block _ hne)
  · rw [setO_keys]; exact S.nd
  · refine (S.liv t ht).world (fun g hg' => hw.block g (fun e => ?_))
    exact S.todis t ht g hg' (by rw [e]; exact List.mem_map_of_mem hin)
  · rw [setO_keys]; exact S.todis t ht g hg'

theorem setCells_wrote (b : Nat) : ∀ (xs : List Value) (o : Nat) (w : World), Wrote b w (w.setCells b o xs)
  | [], o, w => ⟨rfl, rfl, rfl, rfl, fun _ _ => rfl⟩
  | x :: xs, o, w => by
    have h := setCells_wrote b xs (o + 1) (w.setCell ⟨b, o, none⟩ x)
    exact ⟨h.os.trans rfl, h.tape.trans rfl, h.output.trans rfl, h.size.trans (by simp), fun b' hb => (h.block b' hb).trans (Below.heap_setCell _ _ _ _ hb)⟩
theorem setCells_heap (b : Nat) : ∀ (xs : List Value) (o : Nat) (w : World) (vs : Array Value) (e : TypeId) (fz : Nat × Nat), w.heap[b]? = some (.cells vs e fz) →
    ∃ vs' : Array Value, (w.setCells b o xs).heap[b]? = some (.cells vs' e fz) ∧ vs'.size = vs.size ∧ ∀ j, j < vs.size → vs'[j]? = if o ≤ j ∧ j < o + xs.length then xs[j - o]? else vs[j]?
  | [], o, w, vs, e, fz, hh => ⟨vs, hh, rfl, fun j hj => by rw [if_neg (by simp only [List.length_nil]; omega)]⟩
  | x :: xs, o, w, vs, e, fz, hh => by
    have h1 : (w.setCell ⟨b, o, none⟩ x).heap[b]? = some (.cells (vs.setIfInBounds o x) e fz) := by
      simp [World.setCell, Array.getElem?_modify, hh]
    obtain ⟨vs', h2, h3, h4⟩ := setCells_heap b xs (o + 1) _ _ e fz h1
    refine ⟨vs', h2, by simpa using h3, fun j hj => ?_⟩
    rw [h4 j (by simpa using hj)]
    by_cases c1 : o + 1 ≤ j ∧ j < o + 1 + xs.length
    · rw [if_pos c1, if_pos (by simp; omega)]
      have : j - o = (j - (o + 1)) + 1 := by omega
      rw [this, List.getElem?_cons_succ]
    · rw [if_neg c1]
      by_cases c2 : j = o
      · subst c2
        rw [if_pos (by simp), Nat.sub_self, List.getElem?_cons_zero]
        simp [hj]
      · rw [if_neg (by simp; omega), Array.getElem?_setIfInBounds_ne (by omega)]

/-- type facts: does it lie in several cells, and in how many -/
def tyI (P : Program) (t : TypeId) : Option (Bool × Nat) :=
  match P.underlying t, P.info? t with
  | some d, some i => if d.isRow = true ∨ i.size = 1 then some (d.isRow, i.size) else none
  | _, _ => none
theorem tyI_inv {P : Program} {t n : Nat} {r : Bool} (h : tyI P t = some (r, n)) : ∃ d i, P.underlying t = some d ∧ P.info? t = some i ∧ d.isRow = r ∧ i.size = n ∧ (r = false → n = 1) := by
  unfold tyI at h
  split at h
  · rename_i d i hd hi
    split at h
    · rename_i hc
      simp only [Option.some.injEq, Prod.mk.injEq] at h
      obtain ⟨rfl, rfl⟩ := h
      exact ⟨d, i, hd, hi, rfl, rfl, fun hr => hc.resolve_left (by simp [hr])⟩
    · cases h
  · cases h
/-- a value out of cells -/
def ofCells (r : Bool) (cs : List Value) : Value := if r then .agg cs.toArray else cs.headD Go.undef
theorem run_isAgg {P : Program} {t : TypeId} {d : TypeDesc} (hu : P.underlying t = some d) (w : World) : (isAgg t).run P w = .ok d.isRow w := by
  unfold isAgg
  rw [Sem.run_bind, run_underlying hu w]
  cases d <;> rfl
theorem run_sizeOf {P : Program} {t : TypeId} {i : TypeInfo} (hi : P.info? t = some i) (w : World) : (sizeOf t).run P w = .ok i.size w := by
  simp [sizeOf, typeInfo, hi]
theorem run_load_av {P : Program} {t n b o : Nat} {r : Bool} (ht : tyI P t = some (r, n)) {cs : List Value} (hn : cs.length = n) (hc : w.rangeAt b o cs) :
    (Instr.loadAt t (.pointer (some ⟨b, o, none⟩))).run P w = .ok (ofCells r cs) w := by
  obtain ⟨d, i, hu, hi, hr, hs, h1⟩ := tyI_inv ht
  cases r with
  | true =>
    rw [run_loadAt_mid w b o t cs d hc hu hr (by rw [hi]; simp [hs, hn])]
    rfl
  | false =>
    have h1 := h1 rfl
    obtain ⟨v, rfl⟩ : ∃ v, cs = [v] := by
      match cs, hn with
      | [v], _ => exact ⟨v, rfl⟩
      | [], e => simp at e; omega
      | _ :: _ :: _, e => simp at e; omega
    have hv := hc 0 v rfl
    rw [Nat.add_zero] at hv
    simp [Instr.loadAt, Instr.sureAddr, loadVar, run_isAgg hu, hr, hv, ofCells]
theorem run_store_av {P : Program} {t n b o : Nat} {r : Bool} (ht : tyI P t = some (r, n)) {v : Value} {cs : List Value} (hv : v.cells.toList = cs) (hn : cs.length = n) (h1 : ∀ u ∈ cs, u.oneCell' = true) {vs : Array Value} {e : TypeId} {fz : Nat × Nat}
    (hh : w.heap[b]? = some (.cells vs e fz)) (hz : ∀ o, o < vs.size → (decide (fz.1 ≤ o) && decide (o < fz.2)) = false) (hfit : o + n ≤ vs.size) :
    (Instr.storeAt t (.pointer (some ⟨b, o, none⟩)) v).run P w = .ok () (w.setCells b o cs) := by
  obtain ⟨d, i, hu, hi, hr, hs, _⟩ := tyI_inv ht
  have hsz : v.cells.size = i.size := by rw [hs, ← hn, ← hv]; simp
  simp only [Instr.storeAt, Instr.sureAddr, storeVar, Sem.run_bind, Sem.run_pure, Result.andThen_ok, run_sizeOf hi, hsz, ne_eq, not_true_eq_false, if_false, hv]
  refine run_storeCells_cells b o cs 0 w (fun j hj => ?_) (fun j hj => ?_) h1
  · rw [cell_of_row _ _ _ vs e fz hh]
    rw [Nat.add_zero, Array.getElem?_eq_getElem (by omega)]
    rfl
  · have := hz (o + j) (by omega)
    simp only [World.frozen?, hh, Nat.add_zero]
    exact this
end Go.Proofs.YtnoboapafndnlaaDoor
