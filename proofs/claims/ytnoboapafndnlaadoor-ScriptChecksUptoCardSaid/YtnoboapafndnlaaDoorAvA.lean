/- Abstract values: what a value of the machine stands for, whatever the memory's addresses; what an abstract heap says of the memory. -/
import Derived.Deep.MidRow
import Derived.Deep.Quiet
import Derived.Below
import Derived.Laws.IdiomCopy
namespace Go.Proofs.YtnoboapafndnlaaDoor
open Go.RowKit
set_option linter.unusedSimpArgs false
set_option linter.unusedVariables false

/-- data: numbers, truths, texts, slices of rows of cells -/
inductive D where
  | int (k : IntKind) (n : Int)
  | bool (b : Bool)
  | str (s : List UInt8)
  | slc (k : Nat) (rows : List (List D))
  deriving Inhabited
/-- abstract values -/
inductive AV where
  | d (x : D)
  | own (t k : Nat) (rows : List (List D))
  | nils
  | ptr (b k i o : Nat)
  | elt (k : Nat) (rows : List (List D)) (i o : Nat)
  | arr (b k n c : Nat)
  | fn (f : FuncId) (cap : List AV)
  | nilf
  | nilp
  | agg (l : List AV)
  | tup (l : List AV)
  | ifc (t : TypeId) (v : AV)
  | nili
  | cnd (g : Bool) (a : AV)
  | undef
  | any
  deriving Inhabited
/-- an abstract object: rows of k cells; room for c rows -/
structure Ob where
  k : Nat
  c : Nat
  rows : List (List AV)
/-- the abstract heap: objects that may be written; slices that may be appended to -/
structure AH where
  objs : List (Nat × Ob)
  live : List Nat
/-- cells that are never written again -/
abbrev Frz := Nat → Nat → Option Value

inductive VD (F : Frz) : D → Value → Prop where
  | int (k : IntKind) (n : Int) : VD F (.int k n) (.int k n)
  | bool (b : Bool) : VD F (.bool b) (.bool b)
  | str (s : ByteArray) (h : s.size ≤ maxLen) : VD F (.str s.data.toList) (.string s)
  | slc0 (k : Nat) (A : Option Addr) (c : Nat) (h : A = none → c = 0) (hm : c ≤ maxLen) : VD F (.slc k []) (.slice A 0 c)
  | slc (k : Nat) (rows : List (List D)) (b off c : Nat) (val : Nat → Nat → Value) (h0 : 0 < rows.length) (hc : rows.length ≤ c) (hm : c ≤ maxLen)
      (hk : ∀ r ∈ rows, r.length = k)
      (hf : ∀ (i : Nat) (r : List D) (j : Nat) (x : D), rows[i]? = some r → r[j]? = some x → F b (off + (i * k + j)) = some (val i j))
      (hv : ∀ (i : Nat) (r : List D) (j : Nat) (x : D), rows[i]? = some r → r[j]? = some x → VD F x (val i j)) : VD F (.slc k rows) (.slice (some ⟨b, off, none⟩) rows.length c)

theorem VD.mono {F F' : Frz} (hF : ∀ b o u, F b o = some u → F' b o = some u) {x : D} {v : Value} (h : VD F x v) : VD F' x v := by
  induction h with
  | int k n => exact .int k n
  | bool b => exact .bool b
  | str s h => exact .str s h
  | slc0 k A c h hm => exact .slc0 k A c h hm
  | slc k rows b off c val h0 hc hm hk hf hv ih => exact .slc k rows b off c val h0 hc hm hk (fun i r j x h1 h2 => hF _ _ _ (hf i r j x h1 h2)) ih
section
variable {F : Frz} {v : Value} {k : IntKind} {n : Int} {b : Bool} {s : List UInt8} {kk : Nat} {rows : List (List D)}
theorem VD.int_inv (h : VD F (.int k n) v) : v = .int k n := by cases h; rfl
theorem VD.bool_inv (h : VD F (.bool b) v) : v = .bool b := by cases h; rfl
theorem VD.str_inv (h : VD F (.str s) v) : ∃ t : ByteArray, v = .string t ∧ t.data.toList = s ∧ t.size ≤ maxLen := by cases h with | str t h => exact ⟨t, rfl, rfl, h⟩
theorem VD.slc_inv (h : VD F (.slc kk rows) v) : ∃ A c, v = .slice A rows.length c ∧ rows.length ≤ c ∧ c ≤ maxLen ∧ (A = none → c = 0) ∧ (∀ r ∈ rows, r.length = kk) ∧
    (0 < rows.length → ∃ b off, ∃ val : Nat → Nat → Value, A = some ⟨b, off, none⟩ ∧ ∀ (i : Nat) (r : List D) (j : Nat) (x : D), rows[i]? = some r → r[j]? = some x → F b (off + (i * kk + j)) = some (val i j) ∧ VD F x (val i j)) := by
  cases h with
  | slc0 _ A c h hm => exact ⟨A, c, rfl, by simp, hm, h, by simp, by simp⟩
  | slc _ _ b off c val h0 hc hm hk hf hv => exact ⟨_, c, rfl, hc, hm, by simp, hk, fun _ => ⟨b, off, val, rfl, fun i r j x h1 h2 => ⟨hf i r j x h1 h2, hv i r j x h1 h2⟩⟩⟩
theorem VD.one {x : D} (h : VD F x v) : v.oneCell' = true := by cases h <;> rfl
end
theorem VD.bstr {F : Frz} (s : List UInt8) (h : s.length ≤ maxLen) : VD F (.str s) (.string ⟨s.toArray⟩) := by
  have := VD.str (F := F) (⟨s.toArray⟩ : ByteArray) (by simpa [ByteArray.size] using h)
  simpa using this

/-- what is known besides: where the run began; what is frozen; the slices behind the tokens -/
structure Gh where
  base : World
  frz : Frz
  tok : Nat → Option (Nat × Value)
  nt : Nat

inductive VR (G : Gh) : AV → Value → Prop where
  | d {x : D} {v : Value} (h : VD G.frz x v) : VR G (.d x) v
  | own {t k : Nat} {rows : List (List D)} {v : Value} (h : VD G.frz (.slc k rows) v) (ht : G.tok t = some (k, v)) : VR G (.own t k rows) v
  | nils : VR G .nils (.slice none 0 0)
  | ptr (b k i o : Nat) : VR G (.ptr b k i o) (.pointer (some ⟨b, i * k + o, none⟩))
  | elt (k : Nat) (rows : List (List D)) (i o b off : Nat) (val : Nat → Value) (r : List D) (hr : rows[i]? = some r)
      (hf : ∀ (j : Nat) (x : D), r[j]? = some x → G.frz b (off + j) = some (val j)) (hv : ∀ (j : Nat) (x : D), r[j]? = some x → VD G.frz x (val j)) : VR G (.elt k rows i o) (.pointer (some ⟨b, off + o, none⟩))
  | arr (b k n c : Nat) : VR G (.arr b k n c) (.slice (some ⟨b, 0, none⟩) n c)
  | fn (f : FuncId) (cap : List AV) (vs : List Value) (hl : vs.length = cap.length) (h : ∀ (i : Nat) (a : AV) (v : Value), cap[i]? = some a → vs[i]? = some v → VR G a v) : VR G (.fn f cap) (.func (.func f) #[] vs.toArray)
  | nilf : VR G .nilf .nilFunc
  | nilp : VR G .nilp (.pointer none)
  | agg (l : List AV) (vs : List Value) (hl : vs.length = l.length) (h : ∀ (i : Nat) (a : AV) (v : Value), l[i]? = some a → vs[i]? = some v → VR G a v) : VR G (.agg l) (.agg vs.toArray)
  | tup (l : List AV) (vs : List Value) (hl : vs.length = l.length) (h : ∀ (i : Nat) (a : AV) (v : Value), l[i]? = some a → vs[i]? = some v → VR G a v) : VR G (.tup l) (.tuple vs.toArray)
  | ifc (t : TypeId) {a : AV} {v : Value} (h : VR G a v) : VR G (.ifc t a) (.iface t v)
  | nili : VR G .nili .nilIface
  | cndT {a : AV} {v : Value} (h : VR G a v) : VR G (.cnd true a) v
  | cndF (a : AV) : VR G (.cnd false a) Go.undef
  | undef : VR G .undef Go.undef
  | any (v : Value) : VR G .any v

structure Gle (G G' : Gh) : Prop where
  base : G'.base = G.base
  frz : ∀ b o u, G.frz b o = some u → G'.frz b o = some u
  new : ∀ b o u, G'.frz b o = some u → G.frz b o = some u ∨ G.base.heap.size ≤ b
  tok : ∀ t x, G.tok t = some x → G'.tok t = some x
theorem Gle.refl (G : Gh) : Gle G G := ⟨rfl, fun _ _ _ h => h, fun _ _ _ h => .inl h, fun _ _ h => h⟩
theorem Gle.trans {G G' G'' : Gh} (h : Gle G G') (k : Gle G' G'') : Gle G G'' :=
  ⟨k.base.trans h.base, fun b o u e => k.frz _ _ _ (h.frz _ _ _ e), fun b o u e => (k.new b o u e).elim (fun e => h.new b o u e) (fun e => .inr (by rw [← h.base]; exact e)), fun t x e => k.tok _ _ (h.tok _ _ e)⟩
theorem VR.mono2 {G G' : Gh} (hF : ∀ b o u, G.frz b o = some u → G'.frz b o = some u) (hT : ∀ t x, G.tok t = some x → G'.tok t = some x) {a : AV} {v : Value} (h : VR G a v) : VR G' a v := by
  induction h with
  | d h => exact .d (h.mono hF)
  | own h ht => exact .own (h.mono hF) (hT _ _ ht)
  | nils => exact .nils
  | ptr b k i o => exact .ptr b k i o
  | elt k rows i o b off val r hr hf hv => exact .elt k rows i o b off val r hr (fun j x hx => hF _ _ _ (hf j x hx)) (fun j x hx => (hv j x hx).mono hF)
  | arr b k n c => exact .arr b k n c
  | fn f cap vs hl h ih => exact .fn f cap vs hl ih
  | nilf => exact .nilf
  | nilp => exact .nilp
  | agg l vs hl h ih => exact .agg l vs hl ih
  | tup l vs hl h ih => exact .tup l vs hl ih
  | ifc t h ih => exact .ifc t ih
  | nili => exact .nili
  | cndT h ih => exact .cndT ih
  | cndF a => exact .cndF a
  | undef => exact .undef
  | any v => exact .any v
theorem VR.mono {G G' : Gh} (hG : Gle G G') {a : AV} {v : Value} (h : VR G a v) : VR G' a v := h.mono2 hG.frz hG.tok
/-- values of one cell -/
def AV.one : AV → Bool
  | .agg _ | .tup _ | .cnd .. | .undef | .any => false
  | _ => true
theorem VR.one {G : Gh} {a : AV} {v : Value} (h : VR G a v) (ha : a.one = true) : v.oneCell' = true := by
  cases h with
  | d h => exact h.one
  | own h _ => exact h.one
  | agg | tup | cndT | cndF | undef | any => simp [AV.one] at ha
  | _ => rfl

/-- an object as it lies in memory -/
structure ObR (G : Gh) (w : World) (b : Nat) (ob : Ob) : Prop where
  low : G.base.heap.size ≤ b
  free : ∀ o, G.frz b o = none
  lenk : ∀ r ∈ ob.rows, r.length = ob.k
  fits : ob.rows.length ≤ ob.c
  cmax : ob.c ≤ maxLen
  mem : ∃ (vs : Array Value) (e : TypeId) (fz : Nat × Nat), w.heap[b]? = some (.cells vs e fz) ∧ vs.size = ob.c * ob.k ∧ (∀ o, o < vs.size → (decide (fz.1 ≤ o) && decide (o < fz.2)) = false) ∧
    ∀ (i : Nat) (r : List AV) (j : Nat) (a : AV), ob.rows[i]? = some r → r[j]? = some a → a.one = true ∧ ∃ v, vs[i * ob.k + j]? = some v ∧ VR G a v
/-- the slice behind a live token -/
structure TokR (G : Gh) (w : World) (t : Nat) : Prop where
  mem : ∃ k n c A, G.tok t = some (k, .slice A n c) ∧ n ≤ c ∧ c ≤ maxLen ∧ 0 < k ∧ (A = none → n = 0 ∧ c = 0) ∧
    ∀ a, A = some a → ∃ (g : Nat) (vs : Array Value) (e : TypeId) (fz : Nat × Nat), a = ⟨g, 0, none⟩ ∧ G.base.heap.size ≤ g ∧ w.heap[g]? = some (.cells vs e fz) ∧ vs.size = c * k ∧
      (∀ o, o < vs.size → (decide (fz.1 ≤ o) && decide (o < fz.2)) = false) ∧ ∀ o, n * k ≤ o → G.frz g o = none
def tokBlk (G : Gh) (t : Nat) : Option Nat :=
  match G.tok t with
  | some (_, .slice (some a) _ _) => some a.block
  | _ => none
/-- the tables of a program: what its package variables hold -/
abbrev Tbl := Nat → List D
structure Sim (T : Tbl) (G : Gh) (h : AH) (w : World) : Prop where
  below : Below G.base.heap.size G.base w
  glob : ∀ g j x, (T g)[j]? = some x → ∃ u, G.frz g j = some u ∧ VD G.frz x u
  frz : ∀ b o u, G.frz b o = some u → w.cell? ⟨b, o, none⟩ = some u
  fin : ∀ t, G.nt ≤ t → G.tok t = none
  obj : ∀ p ∈ h.objs, ObR G w p.1 p.2
  nd : (h.objs.map Prod.fst).Nodup
  liv : ∀ t ∈ h.live, TokR G w t
  tdis : h.live.Pairwise fun t t' => ∀ g, tokBlk G t = some g → tokBlk G t' = some g → False
  todis : ∀ t ∈ h.live, ∀ g, tokBlk G t = some g → g ∉ h.objs.map Prod.fst
  lnd : h.live.Nodup

theorem Sim.frzlt {T : Tbl} {G : Gh} {h : AH} {w : World} (S : Sim T G h w) {b o : Nat} {u : Value} (e : G.frz b o = some u) : b < w.heap.size := by
  have := S.frz b o u e
  exact World.block_lt_of_cell? (w := w) (a := ⟨b, o, none⟩) this
theorem ObR.lt {G : Gh} {w : World} {b : Nat} {ob : Ob} (h : ObR G w b ob) : b < w.heap.size := by
  obtain ⟨vs, e, fz, hh, _⟩ := h.mem
  rcases Nat.lt_or_ge b w.heap.size with h' | h'
  · exact h'
  · rw [Array.getElem?_eq_none h'] at hh; cases hh
theorem TokR.lt {G : Gh} {w : World} {t g : Nat} (h : TokR G w t) (hg : tokBlk G t = some g) : g < w.heap.size := by
  obtain ⟨k, n, c, A, e, _, _, _, _, hA⟩ := h.mem
  unfold tokBlk at hg
  rw [e] at hg
  cases A with
  | none => cases hg
  | some a =>
    injection hg with hg
    obtain ⟨g', vs, e', fz, rfl, _, hh, _⟩ := hA a rfl
    subst hg
    rcases Nat.lt_or_ge g' w.heap.size with h' | h'
    · exact h'
    · rw [Array.getElem?_eq_none h'] at hh; cases hh
theorem ObR.world {G : Gh} {w w' : World} {b : Nat} {ob : Ob} (h : ObR G w b ob) (e : w'.heap[b]? = w.heap[b]?) : ObR G w' b ob :=
  ⟨h.low, h.free, h.lenk, h.fits, h.cmax, by obtain ⟨vs, ty, fz, hh, r⟩ := h.mem; exact ⟨vs, ty, fz, e.trans hh, r⟩⟩
theorem TokR.world {G : Gh} {w w' : World} {t : Nat} (h : TokR G w t) (e : ∀ g, tokBlk G t = some g → w'.heap[g]? = w.heap[g]?) : TokR G w' t := by
  obtain ⟨k, n, c, A, ht, h1, h2, h3, h4, h5⟩ := h.mem
  refine ⟨k, n, c, A, ht, h1, h2, h3, h4, fun a ha => ?_⟩
  obtain ⟨g, vs, ty, fz, rfl, h6, h7, h8⟩ := h5 a ha
  exact ⟨g, vs, ty, fz, rfl, h6, (e g (by unfold tokBlk; rw [ht, ha])).trans h7, h8⟩
theorem ObR.mono {G G' : Gh} (hG : Gle G G') {w : World} {b : Nat} {ob : Ob} (h : ObR G w b ob) (hf : ∀ o, G'.frz b o = none) : ObR G' w b ob :=
  ⟨by rw [hG.base]; exact h.low, hf, h.lenk, h.fits, h.cmax, by
    obtain ⟨vs, ty, fz, hh, h1, h2, h3⟩ := h.mem
    exact ⟨vs, ty, fz, hh, h1, h2, fun i r j a hr ha => by obtain ⟨o, v, e, hv⟩ := h3 i r j a hr ha; exact ⟨o, v, e, hv.mono hG⟩⟩⟩
theorem TokR.mono {G G' : Gh} (hG : Gle G G') {w : World} {t : Nat} (h : TokR G w t) (hf : ∀ g, tokBlk G t = some g → ∀ o, G.frz g o = none → G'.frz g o = none) : TokR G' w t := by
  obtain ⟨k, n, c, A, ht, h1, h2, h3, h4, h5⟩ := h.mem
  refine ⟨k, n, c, A, hG.tok _ _ ht, h1, h2, h3, h4, fun a ha => ?_⟩
  obtain ⟨g, vs, ty, fz, rfl, h6, h7, h8, h9, h10⟩ := h5 a ha
  exact ⟨g, vs, ty, fz, rfl, by rw [hG.base]; exact h6, h7, h8, h9, fun o ho => hf g (by unfold tokBlk; rw [ht, ha]) o (h10 o ho)⟩
theorem tokBlk_mono {G G' : Gh} (hG : Gle G G') {w : World} {t : Nat} (h : TokR G w t) : tokBlk G' t = tokBlk G t := by
  obtain ⟨k, n, c, A, ht, _⟩ := h.mem
  unfold tokBlk
  rw [ht, hG.tok _ _ ht]

/-- the memory has grown: what was there is there; new cells may be frozen, in new blocks -/
theorem Sim.grow {T : Tbl} {G G' : Gh} {h : AH} {w w' : World} (S : Sim T G h w) (hb : Below w.heap.size w w') (hG : Gle G G') (hfin : ∀ t, G'.nt ≤ t → G'.tok t = none)
    (hn : ∀ b o u, G'.frz b o = some u → G.frz b o = some u ∨ w.heap.size ≤ b) (hc : ∀ b o u, G'.frz b o = some u → w'.cell? ⟨b, o, none⟩ = some u) : Sim T G' h w' := by
  have hfz : ∀ b, b < w.heap.size → ∀ o, G.frz b o = none → G'.frz b o = none := fun b hb o h0 => by
    cases hh : G'.frz b o with
    | none => rfl
    | some u => rcases hn b o u hh with h1 | h1; exact (by rw [h0] at h1; cases h1); omega
  refine ⟨?_, fun g j x hx => ?_, hc, hfin, fun p hp => ?_, S.nd, fun t ht => ?_, ?_, ?_, S.lnd⟩
  · rw [hG.base]; exact S.below.trans (hb.mono S.below.size)
  · obtain ⟨u, h1, h2⟩ := S.glob g j x hx
    exact ⟨u, hG.frz _ _ _ h1, h2.mono hG.frz⟩
  · have := S.obj p hp
    exact (this.mono hG (fun o => hfz _ this.lt o (this.free o))).world (hb.block _ this.lt)
  · have := S.liv t ht
    refine (this.mono hG (fun g hg o ho => hfz g (this.lt hg) o ho)).world (fun g hg => hb.block _ ?_)
    rw [tokBlk_mono hG this] at hg
    exact this.lt hg
  · refine S.tdis.imp_of_mem (fun {t t'} ht ht' hd g h1 h2 => hd g ?_ ?_)
    · rw [← tokBlk_mono hG (S.liv t ht)]; exact h1
    · rw [← tokBlk_mono hG (S.liv t' ht')]; exact h2
  · intro t ht g hg
    rw [tokBlk_mono hG (S.liv t ht)] at hg
    exact S.todis t ht g hg
/-- a draw -/
theorem Sim.drew {T : Tbl} {G : Gh} {h : AH} {w : World} (S : Sim T G h w) : Sim T G h w.drew :=
  S.grow (Below.refl _ _).drew (Gle.refl G) S.fin (fun _ _ _ e => .inl e) (fun b o u e => S.frz b o u e)
/-- less is known -/
theorem Sim.drop {T : Tbl} {G : Gh} {h h' : AH} {w : World} (S : Sim T G h w) (ho : h'.objs.Sublist h.objs) (hl : h'.live.Sublist h.live) : Sim T G h' w :=
  ⟨S.below, S.glob, S.frz, S.fin, fun p hp => S.obj p (ho.subset hp), S.nd.sublist (ho.map _), fun t ht => S.liv t (hl.subset ht), S.tdis.sublist hl,
    fun t ht g hg hm => S.todis t (hl.subset ht) g hg ((ho.map _).subset hm), S.lnd.sublist hl⟩
theorem VR.of_len {G : Gh} {l : List AV} {vs : List Value} (hl : vs.length = l.length) {i : Nat} {a : AV} (ha : l[i]? = some a) : ∃ v, vs[i]? = some v :=
  ⟨vs[i]'(by rw [hl]; exact (List.getElem?_eq_some_iff.1 ha).1), by rw [List.getElem?_eq_getElem]⟩
end Go.Proofs.YtnoboapafndnlaaDoor
