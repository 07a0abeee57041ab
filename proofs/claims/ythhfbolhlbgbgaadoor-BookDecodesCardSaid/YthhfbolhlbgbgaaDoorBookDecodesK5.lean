/- Texts that the law BookDecodes rests on, packed. -/
import Derived.Test.YthhfbolhlbgbgaaDoorRows
import Derived.WalkKit
import Derived.WalkLawsBesides
import Derived.WalkSpells
import Derived.Lib.Hide
import Derived.Lib.Strings
import Derived.Lib.IndexBytes
import Derived.Below
import Derived.Deep.Draws
import Derived.Deep.QuietTactic
import Derived.BigQuiet
import Derived.ProofKit
import Derived.OpenShut
import Derived.ShutString
import Derived.ChangeOld
import Derived.JoinedCond
import Derived.SizedLaws
import Derived.Maps.AppendAt
import Derived.Lib.ConvBytes
import Derived.Laws.Cells
import Derived.Test.YthhfbolhlbgbgaaDoorBookDecodesK0
import Derived.Lib.SplitLaws
import Derived.Lib.Bytealg
import Derived.Test.YthhfbolhlbgbgaaDoorShelf
import Derived.Test.YthhfbolhlbgbgaaDoorBookDecodesK2
import Derived.Test.YthhfbolhlbgbgaaDoorBookDecodesK1
import Derived.Test.YthhfbolhlbgbgaaDoorBookDecodesK4
namespace Go.Proofs.YthhfbolhlbgbgaaDoor
open Go.RowKit

theorem ret_int {k : IntKind} {a b : Int} (h : a = b) : Ending.returned (.int k a) = .returned (.int k b) := by rw [h]
theorem ret_bool {a b : Bool} (h : a = b) : Ending.returned (.bool a) = .returned (.bool b) := by rw [h]

/-- the bytes of a text -/
def bs (s : ByteArray) : List UInt8 := s.data.toList
theorem bs_len (s : ByteArray) : (bs s).length = s.size := (Lib.size_eq s).symm
theorem bs_get (s : ByteArray) (k : Nat) (h : k < s.size) : (bs s)[k]? = some s[k] := Lib.data_getElem? s k h
end Go.Proofs.YthhfbolhlbgbgaaDoor

namespace Go.Proofs.YthhfbolhlbgbgaaDoor
open Go.RowKit Go.ChangeShapes Go.WideShapes Go.ChangeAt
set_option linter.unusedVariables false

theorem own : ownKnob Tryd.prog.godebug = none := by kernel_rfl
theorem laidOut : laidOutB Tryd.prog = true := by kernel_rfl

section
variable {H : Type} {enc : TypeId × Value → H} {P : Program} {W W' : World}
theorem trodAll_below (hl : laidOutB P = true) (hb : Below W.heap.size W W') : ∀ {ts : List TypeId} {vs : List Value} {ds : List (DataW H)} {ps : List MemPlace},
    (∀ t ∈ ts, P.readableRec t = true ∧ t < P.types.size) → DataW.TrodAll enc P W 0 (fun _ => true) true ts vs ds ps →
    DataW.TrodAll enc P W' 0 (fun b => decide (b < W.heap.size)) true ts vs ds ps
  | [], [], [], _, _, h => h
  | t :: ts, v :: vs, d :: ds, ps, ht, h => by
    have hlt := DataW.TrodAll.lt h
    obtain ⟨p, q, h1, h2, rfl⟩ := h
    exact ⟨p, q, Below.trod hl (ht t (by simp)).1 (ht t (by simp)).2 h1 hb (fun x hx => hlt x (by simp [hx])), trodAll_below hl hb (fun u hu => ht u (by simp [hu])) h2, rfl⟩
  | [], _ :: _, _, _, _, h => h.elim
  | [], [], _ :: _, _, _, h => h.elim
  | _ :: _, [], _, _, _, h => h.elim
  | _ :: _, _ :: _, [], _, _, h => h.elim

/-- every text, slice and map in a datum has its reach -/
def Small (P : Program) (t : TypeId) (d : DataW H) : Prop := ∀ n ∈ d.weights P t, n ≤ 140737488355328
theorem smalls {ts us : List TypeId} {ds gs : List (DataW H)} (h : (DataW.weightsEach P (ts ++ us) (ds ++ gs)).all (· ≤ reachBytes) = true) (j : Nat) (t : TypeId) (d : DataW H) (ht : ts[j]? = some t) (hd : ds[j]? = some d) : Small P t d := by
  intro n hn
  have h1 : (ts ++ us)[j]? = some t := by rw [List.getElem?_append_left (List.getElem?_eq_some_iff.1 ht).1]; exact ht
  have h2 : (ds ++ gs)[j]? = some d := by rw [List.getElem?_append_left (List.getElem?_eq_some_iff.1 hd).1]; exact hd
  have := List.all_eq_true.1 h n (DataW.weights_mem_each h1 h2 n hn)
  have h3 : reachBytes < 2 ^ 47 := reachBytes_lt
  simp at this
  omega
theorem Small.part {t : TypeId} {fs : Array Field} {ds : List (DataW H)} (hu : P.underlying t = some (.struct fs)) (h : Small P t (.agg ds)) {j : Nat} {f : Field} {d : DataW H} (hf : fs[j]? = some f) (hd : ds[j]? = some d) : Small P f.type d := by
  intro n hn
  refine h n ?_
  simp only [DataW.weights, hu]
  exact DataW.weights_mem_each (t := f.type) (j := j) (by rw [List.getElem?_map]; simp [hf]) hd n hn
theorem Small.row {t e : TypeId} {elems spare : List (DataW H)} (hu : P.underlying t = some (.slice e)) (h : Small P t (.slice elems spare)) : (elems.length + spare.length) * P.bytesOf e ≤ 140737488355328 :=
  h _ (by simp [DataW.weights, hu])
theorem Small.elem {t e : TypeId} {elems spare : List (DataW H)} (hu : P.underlying t = some (.slice e)) (h : Small P t (.slice elems spare)) {d : DataW H} (hd : d ∈ elems) : Small P e d := by
  intro n hn
  refine h n ?_
  simp only [DataW.weights, hu, List.mem_cons, List.mem_append]
  refine .inr (.inl ?_)
  clear h
  induction elems with
  | nil => cases hd
  | cons x r ih =>
    simp only [DataW.weightsAll, List.mem_append]
    rcases List.mem_cons.1 hd with e | e
    · subst e; exact .inl hn
    · exact .inr (ih e)
theorem Small.text {t : TypeId} {l : List UInt8} (h : Small P t (.lit (.string l) : DataW H)) : l.length ≤ 140737488355328 := h _ (by simp [DataW.weights])

theorem law_post (hl : laidOutB P = true) {f : Func} {s : ChangeSpec} {tb : TypeId} {args : Array Value} {ds gs : List (DataW H)} {before : List MemPlace}
    (hvars : s.vars = []) (hres : f.resultTypes = #[tb]) (htb : P.underlying tb = some .bool) (hpar : ∀ t ∈ f.params.toList, P.readableRec t = true ∧ t < P.types.size)
    (hW : DataW.Whole enc P f.params.toList s.vars false W args.toList ds gs before)
    (h1 : (s.fn H (ds ++ gs)).results = [.lit (.bool true)]) (h2 : (s.fn H (ds ++ gs)).args = ds) (h3 : (s.fn H (ds ++ gs)).vars = [])
    (hb : Below W.heap.size W W') : s.post enc P f false true false false W args (.bool true) W' := by
  have hW' := hW
  obtain ⟨p, q, hA, hV, rfl, _, _⟩ := hW
  refine ⟨ds, gs, p ++ q, [], p, [], hW', ?_, ?_, ?_, hb.frame _, fun h => by cases h⟩
  · rw [h1, hres]
    exact trodAll_mk1 (shut_bool htb _)
  · rw [h2]; exact trodAll_below hl hb hpar hA
  · rw [h3, hvars]; rfl
end
end Go.Proofs.YthhfbolhlbgbgaaDoor

namespace Go.Proofs.YthhfbolhlbgbgaaDoor
open Go.RowKit
set_option linter.unusedSimpArgs false
set_option linter.unusedVariables false

/-- the blocks of D hold what they held -/
def Keeps (D : Nat → Prop) (w w' : World) : Prop := ∀ b, D b → w'.heap[b]? = w.heap[b]?
theorem Keeps.refl (D : Nat → Prop) (w : World) : Keeps D w w := fun _ _ => rfl
theorem Keeps.trans {D : Nat → Prop} {a b c : World} (h : Keeps D a b) (k : Keeps D b c) : Keeps D a c := fun x hx => (k x hx).trans (h x hx)
theorem Keeps.mono {D D' : Nat → Prop} {a b : World} (h : Keeps D a b) (k : ∀ x, D' x → D x) : Keeps D' a b := fun x hx => h x (k x hx)
theorem Keeps.cell {D : Nat → Prop} {w w' : World} (h : Keeps D w w') {p : Addr} (hp : D p.block) : w'.cell? p = w.cell? p := World.cell?_of_block (h _ hp)
theorem Keeps.of_below {B : Nat} {w w' : World} (h : Below B w w') : Keeps (· < B) w w' := fun b hb => h.block b hb
theorem Keeps.alloc {D : Nat → Prop} {w : World} (h : ∀ b, D b → b < w.heap.size) (o : Obj) : Keeps D w (w.alloc o) := fun b hb => Below.heap_alloc w o b (h b hb)

theorem Keeps.setCell {D : Nat → Prop} {w : World} {p : Addr} (h : ∀ b, D b → b ≠ p.block) (v : Value) : Keeps D w (w.setCell p v) := fun b hb => Below.heap_setCell w p v b (h b hb)
theorem Keeps.al' {D : Nat → Prop} {w0 w : World} (h : Keeps D w0 w) (hD : ∀ b, D b → b < w.heap.size) (o : Obj) : Keeps D w0 (w.alloc o) := h.trans (Keeps.alloc hD o)
theorem Keeps.st' {D : Nat → Prop} {w0 w : World} {p : Addr} (h : Keeps D w0 w) (hD : ∀ b, D b → b ≠ p.block) (v : Value) : Keeps D w0 (w.setCell p v) := h.trans (Keeps.setCell hD v)
theorem Keeps.dr' {D : Nat → Prop} {w0 w : World} (h : Keeps D w0 w) : Keeps D w0 w.drew := h
theorem Keeps.drN' {D : Nat → Prop} {w0 w : World} {n : Nat} (h : Keeps D w0 w) : Keeps D w0 (w.drewN n) := h
theorem Keeps.bl' {D : Nat → Prop} {w0 w w' : World} {B : Nat} (h : Keeps D w0 w) (hb : Below B w w') (hD : ∀ b, D b → b < B) : Keeps D w0 w' := h.trans ((Keeps.of_below hb).mono hD)
theorem below_drewN {B : Nat} {a w : World} (h : Below B a w) (n : Nat) : Below B a (w.drewN n) := ⟨h.os, h.tape, h.output, h.size, h.block⟩
theorem bcell {B : Nat} {W w1 : World} (hb : Below B W w1) : (∀ b o, b < B → w1.cell? ⟨b, o, none⟩ = W.cell? ⟨b, o, none⟩) ∧ (∀ b o, b < B → w1.frozen? ⟨b, o, none⟩ = W.frozen? ⟨b, o, none⟩) :=
  ⟨fun b o h => hb.cell (p := ⟨b, o, none⟩) h, fun b o h => hb.frozen (p := ⟨b, o, none⟩) h⟩

/-- a block of the caller's own behind a call -/
theorem own_at {B : Nat} {W w1 : World} (hb : Below B W w1) {b : Nat} (h : b < B) (hB : B ≤ W.heap.size := by first | exact Nat.le_refl _ | (simp; done) | (simp; omega)) :
    (∀ o, w1.cell? ⟨b, o, none⟩ = W.cell? ⟨b, o, none⟩) ∧ (∀ o, w1.frozen? ⟨b, o, none⟩ = W.frozen? ⟨b, o, none⟩) ∧ b < w1.heap.size :=
  ⟨fun o => hb.cell (p := ⟨b, o, none⟩) h, fun o => hb.frozen (p := ⟨b, o, none⟩) h, by have := hb.size; omega⟩

/-- a slice value (its address A, n elements of k cells) reads the cells xs, out of blocks of D -/
def Sl (w : World) (D : Nat → Prop) (k : Nat) (A : Option Addr) (n : Nat) (xs : List Value) : Prop :=
  xs.length = n * k ∧ (0 < n → ∃ b off, A = some ⟨b, off, none⟩ ∧ D b ∧ ∀ j u, xs[j]? = some u → w.cell? ⟨b, off + j, none⟩ = some u)

section
variable {w w' : World} {D D' : Nat → Prop} {k n : Nat} {A : Option Addr} {xs : List Value}
theorem Sl.keep (h : Sl w D k A n xs) (hk : Keeps D w w') : Sl w' D k A n xs :=
  ⟨h.1, fun hn => by
    obtain ⟨b, off, e, hb, hc⟩ := h.2 hn
    exact ⟨b, off, e, hb, fun j u hu => (hk.cell (p := ⟨b, off + j, none⟩) hb).trans (hc j u hu)⟩⟩
theorem Sl.mono (h : Sl w D k A n xs) (hD : ∀ b, D b → D' b) : Sl w D' k A n xs :=
  ⟨h.1, fun hn => by
    obtain ⟨b, off, e, hb, hc⟩ := h.2 hn
    exact ⟨b, off, e, hD b hb, hc⟩⟩
theorem Sl.nil (w : World) (D : Nat → Prop) (k : Nat) (A : Option Addr) : Sl w D k A 0 [] := ⟨by simp, fun h => absurd h (by omega)⟩
theorem Sl.len (h : Sl w D k A n xs) : xs.length = n * k := h.1
theorem Sl.at_ (h : Sl w D k A n xs) {i : Nat} (hi : i < n) : ∃ b off, A = some ⟨b, off, none⟩ ∧ D b ∧ ∀ j, j < k → ∃ u, xs[i * k + j]? = some u ∧ w.cell? ⟨b, off + (i * k + j), none⟩ = some u := by
  obtain ⟨b, off, e, hb, hc⟩ := h.2 (by omega)
  refine ⟨b, off, e, hb, fun j hj => ?_⟩
  have hl : i * k + j < xs.length := by
    rw [h.1]
    calc i * k + j < i * k + k := by omega
      _ = (i + 1) * k := by rw [Nat.succ_mul]
      _ ≤ n * k := Nat.mul_le_mul_right _ (by omega)
  exact ⟨xs[i * k + j], List.getElem?_eq_getElem hl, hc _ _ (List.getElem?_eq_getElem hl)⟩
theorem Sl.cells (h : Sl w D k A n xs) {j : Nat} {u : Value} (hu : xs[j]? = some u) : ∃ b off, A = some ⟨b, off, none⟩ ∧ D b ∧ w.cell? ⟨b, off + j, none⟩ = some u := by
  have hn : 0 < n := by
    rcases Nat.eq_zero_or_pos n with h0 | h0
    · have := h.1; subst h0; have : xs = [] := List.eq_nil_of_length_eq_zero (by simpa using this); subst this; simp at hu
    · exact h0
  obtain ⟨b, off, e, hb, hc⟩ := h.2 hn
  exact ⟨b, off, e, hb, hc j u hu⟩
/-- what the call owns reads -/
theorem Sl.of_own {base : Nat} {e : TypeId} {c : Nat} (h : w.ownsRow base e k (.slice A n c) n xs) : Sl w (fun b => base ≤ b ∧ b < w.heap.size) k A n xs := by
  refine ⟨h.1, fun hn => ?_⟩
  rcases h.2 with ⟨hv, h0⟩ | ⟨g, cap, cur, hv, hb, hh, _⟩
  · omega
  · injection hv with hA
    subst hA
    have hlt := h.lt g rfl
    refine ⟨g, 0, rfl, ⟨hb, hlt.2⟩, fun j u hu => ?_⟩
    have := h.cells (g := g) rfl j u hu
    simpa [Addr.add, Nat.zero_add] using (by
      by_cases hj : j = 0
      · subst hj; simpa [Addr.add] using this
      · simpa [Addr.add, hj] using this : w.cell? ⟨g, 0 + j, none⟩ = some u)
/-- the value that owns a row is a slice -/
theorem own_form {base : Nat} {e : TypeId} {v : Value} (h : w.ownsRow base e k v n xs) : ∃ A c, v = .slice A n c ∧ n ≤ c ∧ c ≤ maxLen := by
  rcases h.2 with ⟨hv, h0⟩ | ⟨g, cap, cur, hv, hb, hh, hnc, hcm, _⟩
  · exact ⟨none, 0, by rw [hv, h0], by omega, by decide⟩
  · exact ⟨_, _, hv, hnc, hcm⟩
/-- a new block of one element -/
theorem Sl.new (w : World) (cs : Array Value) (e : TypeId) (k : Nat) (hk : cs.size = k) : Sl (w.alloc (.cells cs e)) (fun b => b = w.heap.size) k (some ⟨w.heap.size, 0, none⟩) 1 cs.toList := by
  refine ⟨by simp [hk], fun _ => ⟨_, _, rfl, rfl, fun j u hu => ?_⟩⟩
  have : (w.alloc (.cells cs e)).heap[w.heap.size]? = some (.cells cs e (0, 0)) := heap_alloc_new w _
  rw [Nat.zero_add, cell_of_row _ _ _ cs e (0, 0) this]
  simpa using hu
end

/-- blocks that are there and are not v's own -/
def Off (w : World) (v : Value) (b : Nat) : Prop := b < w.heap.size ∧ some b ≠ v.ownBlock
/-- what an append leaves -/
structure Grew (w w' : World) (v v' : Value) : Prop where
  by_ : w.grownBy w' v.ownBlock
  at_ : v'.ownBlock = v.ownBlock ∨ v'.ownBlock = some w.heap.size
theorem Grew.off {w w' : World} {v v' : Value} (h : Grew w w' v v') {b : Nat} (hb : Off w v b) : Off w' v' b :=
  ⟨Nat.lt_of_lt_of_le hb.1 h.by_.size, by rcases h.at_ with e | e <;> rw [e]; exact hb.2; intro h'; injection h' with h'; have := hb.1; omega⟩
theorem Grew.keeps {w w' : World} {v v' : Value} (h : Grew w w' v v') : Keeps (Off w v) w w' := fun b hb => h.by_.block b hb.1 hb.2
theorem Grew.below {w0 w w' : World} {v v' : Value} {B base : Nat} {e : TypeId} {k n : Nat} {xs : List Value} (h : Grew w w' v v') (hb : Below B w0 w) (hB : B ≤ base) (hB' : B ≤ w.heap.size) (ho : w.ownsRow base e k v n xs) : Below B w0 w' :=
  hb.grown h.by_ hB' (fun k hk => Nat.le_trans hB (ho.lt k hk).1)

theorem own_base {w : World} {base base' : Nat} {e : TypeId} {k n : Nat} {v : Value} {xs : List Value} (hb : base ≤ base') (h : w.ownsRow base' e k v n xs) : w.ownsRow base e k v n xs := by
  refine ⟨h.1, ?_⟩
  rcases h.2 with h2 | ⟨g, cap, cur, hv, hg, r⟩
  · exact .inl h2
  · exact .inr ⟨g, cap, cur, hv, Nat.le_trans hb hg, r⟩
/-- a step of the walk by a law on the operation, whatever guards it -/
theorem wpList_by {P : Program} {ops : Array Oper} {Q : Exit → Act → World → Prop} {a : Act} {w : World} {rest : List Oper} {o : Oper} (hw : Region.wanted o (yielded ops a.tmps) = true)
    (h : ∀ K : Act → World → Prop, (∀ a w, wpList P ops Q rest a w → K a w) → o.wp P a w K Q) : wpList P ops Q (o :: rest) a w :=
  wpList_step fun K hK => by rw [if_pos hw]; exact h K hK
/-- an element type, of which slices are appended to -/
structure Elem (P : Program) (t e size bytes : Nat) : Prop where
  ht : P.underlying t = some (.slice e)
  hi : (P.info? e).map (fun i => (i.zero.map (fun z => z.cells.size), i.size, i.bytes)) = some (some size, size, bytes)
  pos : 0 < size

section
variable {P : Program} {t e size bytes : Nat}
theorem run_append_sl (E : Elem P t e size bytes) (ty : TypeId) {w : World} {base : Nat} {v : Value} {n : Nat} {xs : List Value} (hown : w.ownsRow base e size v n xs)
    {D : Nat → Prop} {A : Option Addr} {m c : Nat} {news : List Value} (hr : Sl w D size A m news) (h1 : ∀ u ∈ news, u.oneCell' = true) (hA : A = none → c = 0)
    (h63 : n + m ≤ maxLen) (hbytes : (n + m) * bytes ≤ 140737488355328) (hbase : base ≤ w.heap.size) :
    ∃ A' c' w', (Builtin.append_ #[t, t] ty #[v, .slice A m c]).run P w = .ok (.slice A' (n + m) c') w' ∧ w'.ownsRow base e size (.slice A' (n + m) c') (n + m) (xs ++ news) ∧ Grew w w' v (.slice A' (n + m) c') ∧ Below base w w' := by
  suffices hx : ∃ v' w', (Builtin.append_ #[t, t] ty #[v, .slice A m c]).run P w = .ok v' w' ∧ w'.ownsRow base e size v' (n + m) (xs ++ news) ∧ Grew w w' v v' by
    obtain ⟨v', w', h1, h2, h3⟩ := hx
    obtain ⟨A', c', rfl, _, _⟩ := own_form h2
    exact ⟨A', c', w', h1, h2, h3, h3.below (Below.refl base w) (Nat.le_refl _) hbase hown⟩
  obtain ⟨i, hi, hz⟩ := Option.map_eq_some_iff.1 E.hi
  simp only [Prod.mk.injEq, Option.map_eq_some_iff] at hz
  obtain ⟨⟨z, hz, hzs⟩, hs, hb⟩ := hz
  rcases A with _ | ad
  · have hm : m = 0 := by
      rcases Nat.eq_zero_or_pos m with h0 | h0
      · exact h0
      · obtain ⟨_, _, h, _⟩ := hr.2 h0
        cases h
    subst hm
    have hn : news = [] := List.eq_nil_of_length_eq_zero (by simpa using hr.1)
    subst hn
    refine ⟨v, w, ?_, by simpa using hown, ⟨World.grownBy.refl w _, .inl rfl⟩⟩
    rcases hown.2 with ⟨rfl, rfl⟩ | ⟨g, cap, cur, rfl, _, _, hnc, _⟩
    · simp [Builtin.append_, run_underlying E.ht, sizeOf, typeInfo, hi, Builtin.lenOf, Builtin.firstCells]
    · simp [Builtin.append_, run_underlying E.ht, sizeOf, typeInfo, hi, Builtin.lenOf, Builtin.firstCells, hnc, storeCells]
  · have hcells : ∀ j u, news[j]? = some u → w.cell? (ad.add j) = some u := by
      intro j u hu
      obtain ⟨b, off, e', _, hc⟩ := hr.cells hu
      injection e' with e'
      subst e'
      by_cases hj : j = 0
      · subst hj; simpa [Addr.add] using hc
      · simpa [Addr.add, hj] using hc
    obtain ⟨v', w', hrun, h2, h3, _, h5⟩ := run_append_own_at (P := P) w base t ty e i z size bytes E.ht hi hz hs hb hzs E.pos v n xs hown ad m c news hr.1 hcells h1 h63 hbytes hbase
    exact ⟨v', w', hrun, h2, ⟨h3, h5⟩⟩

theorem wp_append_sl (E : Elem P t e size bytes) {o : Oper} {a : Act} {K : Act → World → Prop} {Q : Exit → Act → World → Prop} {w : World} (s x : Operand)
    (ho : o.op = .call { callee := .builtin .append, args := #[s, x], argTypes := #[t, t] })
    {base : Nat} {v : Value} {n : Nat} {xs : List Value} (hs : a.eval s = v) (hown : w.ownsRow base e size v n xs)
    {D : Nat → Prop} {A : Option Addr} {m c : Nat} {news : List Value} (hx : a.eval x = .slice A m c) (hr : Sl w D size A m news) (h1 : ∀ u ∈ news, u.oneCell' = true) (hA : A = none → c = 0)
    (h63 : n + m ≤ maxLen) (hbytes : (n + m) * bytes ≤ 140737488355328) (hbase : base ≤ w.heap.size)
    (h : ∀ A' c' w', w'.ownsRow base e size (.slice A' (n + m) c') (n + m) (xs ++ news) → Grew w w' v (.slice A' (n + m) c') → Below base w w' → K (a.put o.dst (.slice A' (n + m) c')) w') : o.wp P a w K Q := by
  obtain ⟨A', c', w', hrun, h2, h3, h4⟩ := run_append_sl (P := P) E o.type hown hr h1 hA h63 hbytes hbase
  unfold Oper.wp execOp
  simp only [ho, resolve, invoke, builtin, Sem.run_bind, Sem.run_pure, Result.andThen_ok, List.map_toArray, List.map_cons, List.map_nil, hs, hx, hrun]
  exact h A' c' w' h2 h3 h4

theorem step_append_sl (E : Elem P t e size bytes) {ops : Array Oper} {o : Oper} {a : Act} {K : Act → World → Prop} {Q : Exit → Act → World → Prop} {w : World} {F : Prop} (hgd : Region.wanted o (yielded ops a.tmps) = true) (s x : Operand)
    (ho : o.op = .call { callee := .builtin .append, args := #[s, x], argTypes := #[t, t] })
    {base : Nat} {v : Value} {n : Nat} {xs : List Value} (hs : a.eval s = v) (hown : w.ownsRow base e size v n xs)
    {D : Nat → Prop} {A : Option Addr} {m c : Nat} {news : List Value} (hx : a.eval x = .slice A m c) (hr : Sl w D size A m news) (h1 : ∀ u ∈ news, u.oneCell' = true) (hA : A = none → c = 0)
    (h63 : n + m ≤ maxLen) (hbytes : (n + m) * bytes ≤ 140737488355328) (hbase : base ≤ w.heap.size)
    (h : ∀ A' c' w', w'.ownsRow base e size (.slice A' (n + m) c') (n + m) (xs ++ news) → Grew w w' v (.slice A' (n + m) c') → Below base w w' → K (a.put o.dst (.slice A' (n + m) c')) w') :
    if Region.wanted o (yielded ops a.tmps) = true then Oper.wp P o a w K Q else F := by
  rw [if_pos hgd]
  exact wp_append_sl E s x ho hs hown hx hr h1 hA h63 hbytes hbase h

theorem wpList_append_sl (E : Elem P t e size bytes) {ops : Array Oper} {rest : List Oper} {o : Oper} {a : Act} {Q : Exit → Act → World → Prop} {w : World} (hgd : Region.wanted o (yielded ops a.tmps) = true) (s x : Operand)
    (ho : o.op = .call { callee := .builtin .append, args := #[s, x], argTypes := #[t, t] })
    {base : Nat} {v : Value} {n : Nat} {xs : List Value} (hs : a.eval s = v) (hown : w.ownsRow base e size v n xs)
    {D : Nat → Prop} {A : Option Addr} {m c : Nat} {news : List Value} (hx : a.eval x = .slice A m c) (hr : Sl w D size A m news) (h1 : ∀ u ∈ news, u.oneCell' = true) (hA : A = none → c = 0)
    (h63 : n + m ≤ maxLen) (hbytes : (n + m) * bytes ≤ 140737488355328) (hbase : base ≤ w.heap.size)
    (h : ∀ A' c' w', w'.ownsRow base e size (.slice A' (n + m) c') (n + m) (xs ++ news) → Grew w w' v (.slice A' (n + m) c') → Below base w w' → wpList P ops Q rest (a.put o.dst (.slice A' (n + m) c')) w') : wpList P ops Q (o :: rest) a w :=
  wpList_by hgd fun _ hK => wp_append_sl E s x ho hs hown hx hr h1 hA h63 hbytes hbase fun A' c' w' h2 h3 h4 => hK _ _ (h A' c' w' h2 h3 h4)
/-- append onto nil: a copy -/
theorem step_copy_sl (E : Elem P t e size bytes) {ops : Array Oper} {o : Oper} {a : Act} {K : Act → World → Prop} {Q : Exit → Act → World → Prop} {w : World} {F : Prop} (hgd : Region.wanted o (yielded ops a.tmps) = true) (s x : Operand)
    (ho : o.op = .call { callee := .builtin .append, args := #[s, x], argTypes := #[t, t] }) (hs : a.eval s = .slice none 0 0) (base : Nat)
    {D : Nat → Prop} {A : Option Addr} {m c : Nat} {news : List Value} (hx : a.eval x = .slice A m c) (hr : Sl w D size A m news) (h1 : ∀ u ∈ news, u.oneCell' = true) (hA : A = none → c = 0)
    (h63 : m ≤ maxLen) (hbytes : m * bytes ≤ 140737488355328) (hbase : base ≤ w.heap.size)
    (h : ∀ A' c' w', w'.ownsRow base e size (.slice A' m c') m news → Below base w w' → K (a.put o.dst (.slice A' m c')) w') :
    if Region.wanted o (yielded ops a.tmps) = true then Oper.wp P o a w K Q else F :=
  step_append_sl E hgd s x ho hs (World.ownsRow_nil w w.heap.size e size) hx hr h1 hA (by omega) (by rw [Nat.zero_add]; exact hbytes) (Nat.le_refl _) fun A' c' w' h2 _ h4 => by
    rw [Nat.zero_add] at h2 ⊢
    refine h A' c' w' ?_ (h4.mono hbase)
    rw [List.nil_append] at h2
    exact own_base hbase h2
theorem wpList_copy_sl (E : Elem P t e size bytes) {ops : Array Oper} {rest : List Oper} {o : Oper} {a : Act} {Q : Exit → Act → World → Prop} {w : World} (hgd : Region.wanted o (yielded ops a.tmps) = true) (s x : Operand)
    (ho : o.op = .call { callee := .builtin .append, args := #[s, x], argTypes := #[t, t] }) (hs : a.eval s = .slice none 0 0) (base : Nat)
    {D : Nat → Prop} {A : Option Addr} {m c : Nat} {news : List Value} (hx : a.eval x = .slice A m c) (hr : Sl w D size A m news) (h1 : ∀ u ∈ news, u.oneCell' = true) (hA : A = none → c = 0)
    (h63 : m ≤ maxLen) (hbytes : m * bytes ≤ 140737488355328) (hbase : base ≤ w.heap.size)
    (h : ∀ A' c' w', w'.ownsRow base e size (.slice A' m c') m news → Below base w w' → wpList P ops Q rest (a.put o.dst (.slice A' m c')) w') : wpList P ops Q (o :: rest) a w :=
  wpList_append_sl E hgd s x ho hs (World.ownsRow_nil w w.heap.size e size) hx hr h1 hA (by omega) (by rw [Nat.zero_add]; exact hbytes) (Nat.le_refl _) fun A' c' w' h2 _ h4 => by
    rw [Nat.zero_add] at h2 ⊢
    refine h A' c' w' ?_ (h4.mono hbase)
    rw [List.nil_append] at h2
    exact own_base hbase h2
end

/-- a block fresh since w -/
def New (w w' : World) (b : Nat) : Prop := w.heap.size ≤ b ∧ b < w'.heap.size
/-- what all readings share: kept with their blocks, weakened with their blocks -/
structure IsRep {α : Type} (R : World → (Nat → Prop) → Value → α → Prop) : Prop where
  keep : ∀ {w w' : World} {D : Nat → Prop} {v : Value} {x : α}, R w D v x → Keeps D w w' → R w' D v x
  mono : ∀ {w : World} {D D' : Nat → Prop} {v : Value} {x : α}, R w D v x → (∀ b, D b → D' b) → R w D' v x
theorem IsRep.to {α : Type} {R : World → (Nat → Prop) → Value → α → Prop} (I : IsRep R) {w w' : World} {D D' : Nat → Prop} {v : Value} {x : α} (h : R w D v x) (k : Keeps D w w') (m : ∀ b, D b → D' b) : R w' D' v x :=
  I.mono (I.keep h k) m
end Go.Proofs.YthhfbolhlbgbgaaDoor

namespace Go.Proofs.YthhfbolhlbgbgaaDoor
open Go.RowKit
set_option linter.unusedSimpArgs false
set_option linter.unusedVariables false
/-- how a thing lies in cells -/
structure Flat (α : Type) where
  k : Nat
  enc : α → List Value
  len : ∀ x, (enc x).length = k
  one : ∀ x, ∀ u ∈ enc x, u.oneCell' = true
  pos : 0 < k

section
variable {α : Type} (E : Flat α)
theorem Flat.length (l : List α) : (l.flatMap E.enc).length = l.length * E.k := by
  induction l with
  | nil => simp
  | cons x l ih => rw [List.flatMap_cons, List.length_append, ih, E.len, List.length_cons, Nat.succ_mul, Nat.add_comm]
theorem Flat.ones (l : List α) : ∀ u ∈ l.flatMap E.enc, u.oneCell' = true := by
  intro u hu
  obtain ⟨x, _, hx⟩ := List.mem_flatMap.1 hu
  exact E.one x u hx
theorem Flat.at_ (l : List α) {i : Nat} {x : α} (hx : l[i]? = some x) {j : Nat} (hj : j < E.k) : (l.flatMap E.enc)[i * E.k + j]? = (E.enc x)[j]? := by
  induction l generalizing i with
  | nil => simp at hx
  | cons y l ih =>
    rw [List.flatMap_cons]
    cases i with
    | zero =>
      simp only [List.getElem?_cons_zero, Option.some.injEq] at hx
      subst hx
      rw [Nat.zero_mul, Nat.zero_add, List.getElem?_append_left (by rw [E.len]; exact hj)]
    | succ i =>
      rw [List.getElem?_cons_succ] at hx
      rw [List.getElem?_append_right (by rw [E.len, Nat.succ_mul]; omega), E.len]
      rw [show (i + 1) * E.k + j - E.k = i * E.k + j by rw [Nat.succ_mul]; omega]
      exact ih hx
end

/-- a slice of flat things reads -/
def RF {α : Type} (E : Flat α) (w : World) (D : Nat → Prop) (v : Value) (l : List α) : Prop :=
  ∃ A c, v = .slice A l.length c ∧ l.length ≤ c ∧ c ≤ maxLen ∧ (A = none → c = 0) ∧ Sl w D E.k A l.length (l.flatMap E.enc)
section
variable {α : Type} {E : Flat α} {w w' : World} {D D' : Nat → Prop} {v : Value} {l : List α} {A : Option Addr} {n c : Nat}
theorem RF.keep (h : RF E w D v l) (hk : Keeps D w w') : RF E w' D v l := by
  obtain ⟨A, c, h1, h2, h3, h4, h5⟩ := h
  exact ⟨A, c, h1, h2, h3, h4, h5.keep hk⟩
theorem RF.mono (h : RF E w D v l) (hk : ∀ b, D b → D' b) : RF E w D' v l := by
  obtain ⟨A, c, h1, h2, h3, h4, h5⟩ := h
  exact ⟨A, c, h1, h2, h3, h4, h5.mono hk⟩
theorem RF.is : IsRep (RF E) := ⟨fun h k => RF.keep h k, fun h k => RF.mono h k⟩
theorem RF.ex (h : RF E w D v l) : ∃ A c, v = .slice A l.length c ∧ RF E w D (.slice A l.length c) l := by
  have h' := h
  obtain ⟨A, c, rfl, _⟩ := h
  exact ⟨A, c, rfl, h'⟩
theorem RF.bound (h : RF E w D v l) : l.length ≤ maxLen := by
  obtain ⟨A, c, rfl, h1, h2, _⟩ := h
  omega
theorem RF.cap (h : RF E w D (.slice A n c) l) : n = l.length ∧ l.length ≤ c ∧ c ≤ maxLen ∧ (A = none → c = 0) := by
  obtain ⟨A', c0, h1, h2, h3, h4, h5⟩ := h
  injection h1 with e1 e2 e3
  subst e1 e3
  exact ⟨e2, h2, h3, h4⟩
theorem RF.sl (h : RF E w D (.slice A n c) l) : Sl w D E.k A n (l.flatMap E.enc) := by
  obtain ⟨A', c0, h1, h2, h3, h4, h5⟩ := h
  injection h1 with e1 e2 e3
  subst e1 e2
  exact h5
theorem RF.nil : RF E w D (.slice none 0 0) [] := ⟨none, 0, rfl, by simp, by decide, fun _ => rfl, Sl.nil _ _ _ _⟩
theorem RF.of_own {base : Nat} {e : TypeId} (hn : n = l.length) (h : w.ownsRow base e E.k v n (l.flatMap E.enc)) : RF E w (fun b => base ≤ b ∧ b < w.heap.size) v l := by
  subst hn
  obtain ⟨A, c, rfl, h1, h2⟩ := own_form h
  refine ⟨A, c, rfl, h1, h2, ?_, Sl.of_own h⟩
  intro hA
  rcases h.2 with ⟨hv, _⟩ | ⟨g, cap, cur, hv, _⟩
  · injection hv
  · injection hv with h1; rw [hA] at h1; cases h1
/-- the cells of an element -/
theorem RF.at_ (h : RF E w D (.slice A n c) l) {i : Nat} (hi : i < n) : ∃ b off x, A = some ⟨b, off, none⟩ ∧ D b ∧ l[i]? = some x ∧ ∀ j u, (E.enc x)[j]? = some u → w.cell? ⟨b, off + (i * E.k + j), none⟩ = some u := by
  have hl := h.cap.1
  have hx : l[i]? = some l[i] := List.getElem?_eq_getElem (by omega)
  obtain ⟨b, off, e, hb, hc⟩ := h.sl.2 (by omega)
  refine ⟨b, off, l[i], e, hb, hx, fun j u hu => hc _ u ?_⟩
  have hj : j < E.k := by rw [← E.len l[i]]; exact (List.getElem?_eq_some_iff.1 hu).1
  rw [E.at_ l hx hj]
  exact hu
end
end Go.Proofs.YthhfbolhlbgbgaaDoor

namespace Go.Proofs.YthhfbolhlbgbgaaDoor
open Go.RowKit
set_option linter.unusedSimpArgs false
set_option linter.unusedVariables false

/-- a byte as a cell -/
def bv (b : UInt8) : Value := .int .u8 b.toNat
/-- the text of bytes -/
def mk (l : List UInt8) : ByteArray := ⟨l.toArray⟩
theorem mk_bs (s : ByteArray) : mk (bs s) = s := Lib.mk_data s
theorem bs_mk (l : List UInt8) : bs (mk l) = l := by simp [bs, mk]
theorem mk_size (l : List UInt8) : (mk l).size = l.length := by simp [mk, ByteArray.size]
theorem bs_inj {s t : ByteArray} (h : bs s = bs t) : s = t := by rw [← mk_bs s, ← mk_bs t, h]
theorem toList_inj {a b : ByteArray} (h : a.toList = b.toList) : a = b := bs_inj (by simpa [bs, ByteArray.toList_eq] using h)
theorem text_ne {a b : ByteArray} (h : a ≠ b) : (a.toList == b.toList) = false := beq_false_of_ne fun e => h (toList_inj e)

theorem foldl_push (l : List UInt8) : ∀ acc : ByteArray, (l.map fun b => (b.toNat : Int)).foldl (fun r n => r.push (UInt8.ofNat n.toNat)) acc = mk (bs acc ++ l) := by
  induction l with
  | nil => intro acc; simp [mk_bs]
  | cons b l ih =>
    intro acc
    simp only [List.map_cons, List.foldl_cons, Int.toNat_natCast, ih]
    congr 1
    simp [bs, ByteArray.push]

theorem run_string_of {P : Program} {w : World} {D : Nat → Prop} {A : Option Addr} {c : Nat} {l : List UInt8} (src dst e : TypeId)
    (hs : P.underlying src = some (.slice e)) (he : P.underlying e = some (.int .u8)) (hd : P.underlying dst = some .string) {n : Nat} (h : Sl w D 1 A n (l.map bv)) :
    (convert src dst (.slice A n c)).run P w = .ok (.string (mk l)) w := by
  have hl : l.length = n := by simpa using h.1
  subst hl
  rw [run_convert_bytes_string w src dst e A l.length c hs he hd]
  rcases A with _ | a
  · have : l = [] := by
      rcases l with _ | ⟨x, l⟩
      · rfl
      · obtain ⟨_, _, e', _⟩ := h.2 (by simp)
        cases e'
    subst this
    simp [Conv.bytesToString, mk]
    rfl
  · have hload : (loadCells a l.length).run P w = .ok ((l.map fun b => (b.toNat : Int)).map (Value.int .u8)).toArray w := by
      have := run_loadCells_list (P := P) (w := w) a (l.map bv) (fun j v hv => by
        obtain ⟨b, off, e', _, hc⟩ := h.cells hv
        injection e' with e'
        subst e'
        by_cases hj : j = 0
        · subst hj; simpa [Addr.add] using hc
        · simpa [Addr.add, hj] using hc)
      have e : (l.map fun b => (b.toNat : Int)).map (Value.int .u8) = l.map bv := by rw [List.map_map]; rfl
      rw [e]
      simpa using this
    rw [run_bytesToString w a l.length c _ hload, foldl_push]
    simp [bs, ByteArray.empty, ByteArray.emptyWithCapacity]
    rfl

/-- 'string(b)' -/
theorem wpList_string_of {P : Program} {ops : Array Oper} {rest : List Oper} {o : Oper} {a : Act} {Q : Exit → Act → World → Prop} {w : World} (hgd : Region.wanted o (yielded ops a.tmps) = true) (x : Operand) (src dst e : TypeId)
    (ho : o.op = .convert src dst x) (hs : P.underlying src = some (.slice e)) (he : P.underlying e = some (.int .u8)) (hd : P.underlying dst = some .string)
    {D : Nat → Prop} {A : Option Addr} {n c : Nat} {l : List UInt8} (hx : a.eval x = .slice A n c) (h : Sl w D 1 A n (l.map bv))
    (k : wpList P ops Q rest (a.put o.dst (.string (mk l))) w) : wpList P ops Q (o :: rest) a w :=
  wpList_by hgd fun _ hK => by
    unfold Oper.wp execOp
    simp only [ho, hx, Sem.run_bind, run_string_of (c := c) src dst e hs he hd h, Result.andThen_ok]
    exact hK _ _ k

/-- '[]byte(s)': the bytes lie in a new block, may be written, and nothing else has turned -/
structure Fresh (w w' : World) (s : ByteArray) : Prop where
  below : Below w.heap.size w w'
  size : w'.heap.size = w.heap.size + 1
  cell : ∀ (j : Nat) (hj : j < s.size), w'.cell? ⟨w.heap.size, j, none⟩ = some (bv s[j])
  free : ∀ (j : Nat), j < s.size → w'.frozen? ⟨w.heap.size, j, none⟩ = false

theorem fresh_bytes (w : World) (e : TypeId) (s : ByteArray) : Fresh w (Lib.bytesWorld w e s) s where
  below := by
    refine ⟨?_, ?_, ?_, ?_, fun k hk => Lib.bytesWorld_at_old w e s k hk⟩
    · simp only [Lib.bytesWorld, World.freeze]; split <;> rfl
    · simp only [Lib.bytesWorld, World.freeze]; split <;> rfl
    · simp only [Lib.bytesWorld, World.freeze]; split <;> rfl
    · rw [Lib.bytesWorld_size]; omega
  size := Lib.bytesWorld_size w e s
  cell := fun j hj => by
    rw [Lib.bytesWorld_cell w e s j hj]
    have := bs_get s j hj
    unfold bs at this
    simp [bv, List.getD, this]
  free := fun j hj => by
    simp only [World.frozen?, Lib.bytesWorld_at_new]
    have : s.size ≤ (Lib.bytesCells w e s).size := by
      simp only [Lib.bytesCells, Array.size_append, Array.size_map]
      exact Nat.le_add_right s.data.size _
    simp
    omega

theorem wpList_bytes_of {P : Program} {ops : Array Oper} {rest : List Oper} {o : Oper} {a : Act} {Q : Exit → Act → World → Prop} {w : World} (hgd : Region.wanted o (yielded ops a.tmps) = true) (x : Operand) (src dst e : TypeId)
    (ho : o.op = .convert src dst x) (hs : P.underlying src = some .string) (hd : P.underlying dst = some (.slice e)) (he : P.underlying e = some (.int .u8))
    {s : ByteArray} (hx : a.eval x = .string s)
    (k : ∀ c w', Fresh w w' s → wpList P ops Q rest (a.put o.dst (.slice (some ⟨w.heap.size, 0, none⟩) s.size c)) w') : wpList P ops Q (o :: rest) a w :=
  wpList_by hgd fun _ hK => by
    unfold Oper.wp execOp
    simp only [ho, hx, Sem.run_bind, Lib.run_convert_string_bytes w src dst e s hs hd he, Result.andThen_ok]
    exact hK _ _ (k _ _ (fresh_bytes w e s))

/-- cells of one block as a slice that reads -/
theorem Sl.of_cells {w : World} {D : Nat → Prop} {b off n : Nat} {xs : List Value} (hD : D b) (hn : xs.length = n) (h : ∀ j u, xs[j]? = some u → w.cell? ⟨b, off + j, none⟩ = some u) : Sl w D 1 (some ⟨b, off, none⟩) n xs :=
  ⟨by omega, fun _ => ⟨b, off, rfl, hD, h⟩⟩
end Go.Proofs.YthhfbolhlbgbgaaDoor

namespace Go.Proofs.YthhfbolhlbgbgaaDoor
open Go.RowKit Go.ChangeShapes Go.WideShapes Go.ChangeAt
set_option linter.unusedSimpArgs false
set_option linter.unusedVariables false
section
variable {H : Type} {enc : TypeId × Value → H} {P : Program} {W : World}
theorem add_add' (a : Addr) (i j : Nat) : (a.add i).add j = a.add (i + j) := by
  unfold Addr.add
  by_cases hi : i = 0 <;> by_cases hj : j = 0 <;> simp [hi, hj, Nat.add_assoc]
theorem add_plain (b off j : Nat) : (⟨b, off, none⟩ : Addr).add j = ⟨b, off + j, none⟩ := by
  unfold Addr.add
  split
  · subst_vars; simp
  · rfl

theorem open_flat {α : Type} (E : Flat α) {t e : TypeId} {B : Nat} {OK : α → Prop} (ht : P.underlying t = some (.slice e)) (hc : P.cellsOf e = E.k) (hB : P.bytesOf e = B)
    (hdec : ∀ (fuel : Nat) (cs : List Value) (x : DataW H × List MemPlace), DataW.trod enc P W 0 (fun _ => true) true fuel e cs = some x → Small P e x.1 → ∃ a, cs = E.enc a ∧ OK a)
    {fuel : Nat} {v : Value} {y : DataW H × List MemPlace} (h : DataW.trod enc P W 0 (fun _ => true) true fuel t [v] = some y) (hs : Small P t y.1) :
    ∃ l : List α, RF E W (· < W.heap.size) v l ∧ l.length * B ≤ 140737488355328 ∧ ∀ a ∈ l, OK a := by
  rcases DataW.trod_slice ht h with ⟨hv, hx⟩ | ⟨a, len, cap, elems, rest, n, _, hv, hx, _, hl, hm, hlen, hel, _, _⟩
  · injection hv with hv
    subst hv
    exact ⟨[], RF.nil, by simp, by simp⟩
  · injection hv with hv
    subst hv
    rw [hx] at hs
    have hr := Small.row ht hs
    rw [hB] at hr
    simp only [List.length_map] at hr
    have hone : ∀ i, i < len → ∃ x : α, OK x ∧ ∀ j u, (E.enc x)[j]? = some u → W.cell? (a.add (i * E.k + j)) = some u := by
      intro i hi
      have hi' : i < elems.length := by omega
      have hb := hel i hi
      rw [List.getElem?_eq_getElem hi', Option.bind_eq_some_iff] at hb
      obtain ⟨cs, hcs, htr⟩ := hb
      obtain ⟨x, rfl, ok⟩ := hdec _ _ _ htr (Small.elem ht hs (List.mem_map.2 ⟨elems[i], List.getElem_mem hi', rfl⟩))
      refine ⟨x, ok, fun j u hu => ?_⟩
      obtain ⟨_, _, hat⟩ := World.cells?_some hcs
      have hj : j < E.k := by rw [← E.len x]; exact (List.getElem?_eq_some_iff.1 hu).1
      have := hat j (by rw [hc]; exact hj)
      rw [add_add', hc] at this
      rw [this, hu]
    obtain ⟨l, hll, hlx⟩ : ∃ l : List α, l.length = len ∧ ∀ (i : Nat) (x : α), l[i]? = some x → OK x ∧ ∀ j u, (E.enc x)[j]? = some u → W.cell? (a.add (i * E.k + j)) = some u := by
      refine ⟨List.ofFn fun i : Fin len => Classical.choose (hone i.1 i.2), by simp, fun i x hx => ?_⟩
      have hi : i < len := by have := (List.getElem?_eq_some_iff.1 hx).1; simpa using this
      rw [List.getElem?_ofFn] at hx
      simp only [hi, dite_true, Option.some.injEq] at hx
      subst hx
      exact Classical.choose_spec (hone i hi)
    refine ⟨l, ⟨some a, cap, by rw [hll], by omega, hm, by simp, ⟨E.length l, fun hp => ?_⟩⟩, ?_, ?_⟩
    · have hp' : 0 < l.length := hp
      have hx0 : l[0]? = some l[0] := List.getElem?_eq_getElem hp'
      have hu0 : (E.enc l[0])[0]? = some ((E.enc l[0])[0]'(by rw [E.len]; exact E.pos)) := List.getElem?_eq_getElem _
      have h0 := (hlx 0 _ hx0).2 0 _ hu0
      rw [Nat.zero_mul, Nat.zero_add] at h0
      have hsp := World.cell?_spot h0
      have hbl := World.block_lt_of_cell? W _ h0
      obtain ⟨b, off, sp⟩ := a
      simp [Addr.add] at hsp hbl
      subst hsp
      refine ⟨b, off, rfl, hbl, fun j u hu => ?_⟩
      have hjl : j < l.length * E.k := by rw [← E.length l]; exact (List.getElem?_eq_some_iff.1 hu).1
      have hdm : j = (j / E.k) * E.k + j % E.k := by rw [Nat.mul_comm]; exact (Nat.div_add_mod j E.k).symm
      have hi : j / E.k < l.length := Nat.div_lt_of_lt_mul (by rw [Nat.mul_comm]; exact hjl)
      have hr' : j % E.k < E.k := Nat.mod_lt _ E.pos
      have hxi : l[j / E.k]? = some l[j / E.k] := List.getElem?_eq_getElem hi
      have hat := E.at_ l hxi hr'
      rw [← hdm, hu] at hat
      have := (hlx _ _ hxi).2 _ u hat.symm
      rw [← hdm, add_plain] at this
      exact this
    · rw [hll]
      have : len * B ≤ (elems.length + rest.length) * B := Nat.mul_le_mul_right _ (by omega)
      omega
    · intro x hx
      obtain ⟨i, hi, rfl⟩ := List.mem_iff_getElem.1 hx
      exact (hlx i _ (List.getElem?_eq_getElem hi)).1
theorem open_flatT {α : Type} (E : Flat α) {t e : TypeId} {OK : α → Prop} {Q Qe : DataW H → Prop} {N : Nat} (ht : P.underlying t = some (.slice e)) (hc : P.cellsOf e = E.k) (hQe : ∀ elems rest d, Q (.slice elems rest) → d ∈ elems → Qe d) (hQl : ∀ elems rest, Q (.slice elems rest) → elems.length ≤ N)
    (hdec : ∀ (fuel : Nat) (cs : List Value) (x : DataW H × List MemPlace), DataW.trod enc P W 0 (fun _ => true) true fuel e cs = some x → Qe x.1 → ∃ a, cs = E.enc a ∧ OK a)
    {fuel : Nat} {cs : List Value} {y : DataW H × List MemPlace} (h : DataW.trod enc P W 0 (fun _ => true) true fuel t cs = some y) (hs : Q y.1) :
    ∃ (v : Value) (l : List α), cs = [v] ∧ RF E W (· < W.heap.size) v l ∧ l.length ≤ N ∧ ∀ a ∈ l, OK a := by
  rcases DataW.trod_slice ht h with ⟨hv, hx⟩ | ⟨a, len, cap, elems, rest, n, _, hv, hx, _, hl, hm, hlen, hel, _, _⟩
  · exact ⟨.slice none 0 0, [], hv, RF.nil, by simp, by simp⟩
  · rw [hx] at hs
    have hr := hQl _ _ hs
    simp only [List.length_map] at hr
    have hone : ∀ i, i < len → ∃ x : α, OK x ∧ ∀ j u, (E.enc x)[j]? = some u → W.cell? (a.add (i * E.k + j)) = some u := by
      intro i hi
      have hi' : i < elems.length := by omega
      have hb := hel i hi
      rw [List.getElem?_eq_getElem hi', Option.bind_eq_some_iff] at hb
      obtain ⟨cs, hcs, htr⟩ := hb
      obtain ⟨x, rfl, ok⟩ := hdec _ _ _ htr (hQe _ _ _ hs (List.mem_map.2 ⟨elems[i], List.getElem_mem hi', rfl⟩))
      refine ⟨x, ok, fun j u hu => ?_⟩
      obtain ⟨_, _, hat⟩ := World.cells?_some hcs
      have hj : j < E.k := by rw [← E.len x]; exact (List.getElem?_eq_some_iff.1 hu).1
      have := hat j (by rw [hc]; exact hj)
      rw [add_add', hc] at this
      rw [this, hu]
    obtain ⟨l, hll, hlx⟩ : ∃ l : List α, l.length = len ∧ ∀ (i : Nat) (x : α), l[i]? = some x → OK x ∧ ∀ j u, (E.enc x)[j]? = some u → W.cell? (a.add (i * E.k + j)) = some u := by
      refine ⟨List.ofFn fun i : Fin len => Classical.choose (hone i.1 i.2), by simp, fun i x hx => ?_⟩
      have hi : i < len := by have := (List.getElem?_eq_some_iff.1 hx).1; simpa using this
      rw [List.getElem?_ofFn] at hx
      simp only [hi, dite_true, Option.some.injEq] at hx
      subst hx
      exact Classical.choose_spec (hone i hi)
    refine ⟨.slice (some a) len cap, l, hv, ⟨some a, cap, by rw [hll], by omega, hm, by simp, ⟨E.length l, fun hp => ?_⟩⟩, ?_, ?_⟩
    · have hp' : 0 < l.length := hp
      have hx0 : l[0]? = some l[0] := List.getElem?_eq_getElem hp'
      have hu0 : (E.enc l[0])[0]? = some ((E.enc l[0])[0]'(by rw [E.len]; exact E.pos)) := List.getElem?_eq_getElem _
      have h0 := (hlx 0 _ hx0).2 0 _ hu0
      rw [Nat.zero_mul, Nat.zero_add] at h0
      have hsp := World.cell?_spot h0
      have hbl := World.block_lt_of_cell? W _ h0
      obtain ⟨b, off, sp⟩ := a
      simp [Addr.add] at hsp hbl
      subst hsp
      refine ⟨b, off, rfl, hbl, fun j u hu => ?_⟩
      have hjl : j < l.length * E.k := by rw [← E.length l]; exact (List.getElem?_eq_some_iff.1 hu).1
      have hdm : j = (j / E.k) * E.k + j % E.k := by rw [Nat.mul_comm]; exact (Nat.div_add_mod j E.k).symm
      have hi : j / E.k < l.length := Nat.div_lt_of_lt_mul (by rw [Nat.mul_comm]; exact hjl)
      have hr' : j % E.k < E.k := Nat.mod_lt _ E.pos
      have hxi : l[j / E.k]? = some l[j / E.k] := List.getElem?_eq_getElem hi
      have hat := E.at_ l hxi hr'
      rw [← hdm, hu] at hat
      have := (hlx _ _ hxi).2 _ u hat.symm
      rw [← hdm, add_plain] at this
      exact this
    · rw [hll]; omega
    · intro x hx
      obtain ⟨i, hi, rfl⟩ := List.mem_iff_getElem.1 hx
      exact (hlx i _ (List.getElem?_eq_getElem hi)).1
end
end Go.Proofs.YthhfbolhlbgbgaaDoor

namespace Go.Proofs.YthhfbolhlbgbgaaDoor
open Go.RowKit
set_option linter.unusedSimpArgs false
set_option linter.unusedVariables false
open Go.ChangeShapes Go.WideShapes Go.ChangeAt
def strF : Flat ByteArray := ⟨1, fun s => [.string s], fun _ => rfl, fun x u hu => by
  rw [List.mem_singleton] at hu
  subst hu
  rfl, by decide⟩
theorem el_str : Elem Tryd.prog 74 9 strF.k 16 := ⟨Tryd.underlying74, by kernel_rfl, by decide⟩
theorem str_cell {w : World} {D : Nat → Prop} {A : Option Addr} {n c : Nat} {l : List ByteArray} (h : RF strF w D (.slice A n c) l) {i : Nat} (hi : i < n) :
    ∃ b off x, A = some ⟨b, off, none⟩ ∧ D b ∧ l[i]? = some x ∧ w.cell? ⟨b, off + i, none⟩ = some (.string x) := by
  obtain ⟨b, off, x, e, hb, hx, hc⟩ := h.at_ hi
  refine ⟨b, off, x, e, hb, hx, ?_⟩
  have := hc 0 _ rfl
  simpa [strF] using this

theorem trod_strs {H : Type} {enc : TypeId × Value → H} {W : World} {fuel : Nat} {v : Value} {y : DataW H × List MemPlace} (h : DataW.trod enc Tryd.prog W 0 (fun _ => true) true fuel 74 [v] = some y) (hs : Small Tryd.prog 74 y.1) :
    ∃ l : List ByteArray, RF strF W (· < W.heap.size) v l ∧ l.length * 16 ≤ 140737488355328 ∧ ∀ s ∈ l, s.size ≤ 140737488355328 :=
  open_flat (B := 16) (OK := fun s : ByteArray => s.size ≤ 140737488355328) strF Tryd.underlying74 (by kernel_rfl) (by kernel_rfl) (fun fuel cs x h hs => by
    obtain ⟨s, e1, hx, _⟩ := DataW.trod_string Tryd.underlying9 h
    rw [hx] at hs
    have := Small.text hs
    refine ⟨s, e1, ?_⟩
    rw [Lib.size_eq]
    exact this) h hs
end Go.Proofs.YthhfbolhlbgbgaaDoor

namespace Go.Proofs.YthhfbolhlbgbgaaDoor
open Go.RowKit
set_option linter.unusedSimpArgs false
set_option linter.unusedVariables false
theorem alnum_yes {c : UInt8} (h : (97 ≤ (c.toNat : Int) ∧ (c.toNat : Int) ≤ 122) ∨ (65 ≤ (c.toNat : Int) ∧ (c.toNat : Int) ≤ 90) ∨ (48 ≤ (c.toNat : Int) ∧ (c.toNat : Int) ≤ 57)) : atomB c = true := by
  have : alnumB c = true := by unfold alnumB; simp; omega
  unfold atomB; rw [this]; rfl
theorem alnum_no {c : UInt8} (h : ¬ ((97 ≤ (c.toNat : Int) ∧ (c.toNat : Int) ≤ 122) ∨ (65 ≤ (c.toNat : Int) ∧ (c.toNat : Int) ≤ 90) ∨ (48 ≤ (c.toNat : Int) ∧ (c.toNat : Int) ≤ 57))) : atomB c = decide (0 ≤ Lib.indexByte marksL c) := by
  have : alnumB c = false := by
    cases ha : alnumB c
    · rfl
    · exfalso; unfold alnumB at ha; simp at ha; omega
  unfold atomB; rw [this]; rfl
theorem indexByte_mem (c : UInt8) : ∀ l : List UInt8, 0 ≤ Lib.indexByte l c ↔ c ∈ l
  | [] => by simp [Lib.indexByte]
  | b :: l => by
    have ih := indexByte_mem c l
    have hge := Lib.indexByte_ge l c
    by_cases h : b = c
    · subst h; simp [Lib.indexByte]
    · have h' : (b == c) = false := by simpa using h
      simp only [Lib.indexByte, h', List.mem_cons]
      by_cases hm : Lib.indexByte l c = -1
      · rw [hm]
        have : c ∉ l := by rw [← ih]; omega
        simp [this, Ne.symm h]
      · have h2 : (Lib.indexByte l c == -1) = false := by simpa using hm
        simp only [h2]
        have : c ∈ l := by rw [← ih]; omega
        simp [this]
        omega
/-- dots and atoms, from a place on; did a dot stand last? -/
def dottedB (s : ByteArray) : Bool := dotGo true (bs s)
def pieceOk (l : List UInt8) : Bool := !l.isEmpty && l.all atomB
theorem dotGo_plain : ∀ (d : Bool) (l : List UInt8), 46 ∉ l → dotGo d l = ((!d || !l.isEmpty) && l.all atomB)
  | d, [], _ => by simp [dotGo]
  | d, c :: r, h => by
    have h1 : c ≠ 46 := fun e => h (by simp [e])
    have ih := dotGo_plain false r (fun e => h (by simp [e]))
    simp [dotGo, h1, ih]
theorem dotGo_cut : ∀ (d : Bool) (a b : List UInt8), 46 ∉ a → dotGo d (a ++ 46 :: b) = ((!d || !a.isEmpty) && a.all atomB && dotGo true b)
  | d, [], b, _ => by simp [dotGo]
  | d, c :: a, b, h => by
    have h1 : c ≠ 46 := fun e => h (by simp [e])
    have ih := dotGo_cut false a b (fun e => h (by simp [e]))
    simp [dotGo, h1, ih, Bool.and_assoc]
theorem index_dot : ∀ l : List UInt8, (Lib.index l [46] = -1 ∧ 46 ∉ l) ∨ ∃ a b, l = a ++ 46 :: b ∧ 46 ∉ a ∧ Lib.index l [46] = a.length
  | [] => .inl ⟨by simp [Lib.index], by simp⟩
  | c :: l => by
    by_cases h : c = 46
    · subst h
      exact .inr ⟨[], l, rfl, by simp, by simp [Lib.index, List.isPrefixOf]⟩
    · have hp : ([46] : List UInt8).isPrefixOf (c :: l) = false := by simp [List.isPrefixOf, Ne.symm h]
      rcases index_dot l with ⟨h1, h2⟩ | ⟨a, b, h1, h2, h3⟩
      · exact .inl ⟨by simp [Lib.index, hp, h1], by simp [h2, Ne.symm h]⟩
      · refine .inr ⟨c :: a, b, by rw [h1]; rfl, by simp [h2, Ne.symm h], ?_⟩
        have h4 : (Lib.index l [46] == -1) = false := by rw [h3]; exact beq_false_of_ne (by omega)
        simp only [Lib.index, hp, h4, h3]
        simp
theorem split_ok : ∀ (k : Nat) (l : List UInt8), l.count 46 ≤ k → (Lib.splitK [46] 0 k l).all pieceOk = dotGo true l
  | 0, l, h => by
    have h0 : 46 ∉ l := List.count_eq_zero.1 (by omega)
    rw [dotGo_plain _ _ h0]
    simp [Lib.splitK, pieceOk]
  | k + 1, l, h => by
    rcases index_dot l with ⟨h1, h2⟩ | ⟨a, b, h1, h2, h3⟩
    · rw [dotGo_plain _ _ h2]
      simp [Lib.splitK, h1, pieceOk]
    · have h4 : (Lib.index l [46] == -1) = false := by rw [h3]; exact beq_false_of_ne (by omega)
      have hc : b.count 46 ≤ k := by rw [h1, List.count_append, List.count_cons] at h; simp at h; omega
      have ih := split_ok k b hc
      rw [Lib.splitK, if_neg (by rw [h4]; decide), h3, List.all_cons]
      simp only [Int.toNat_natCast, Nat.add_zero, List.length_singleton]
      have e1 : l.take a.length = a := by rw [h1, List.take_left]
      have e2 : l.drop (a.length + 1) = b := by
        rw [h1, ← List.drop_drop, List.drop_left]; rfl
      rw [e1, e2, ih, h1, dotGo_cut _ _ _ h2]
      simp [pieceOk]
def dotSep : ByteArray := ⟨#[46]⟩
def splitL (s : ByteArray) : List ByteArray := Lib.splitB dotSep 0 (Lib.countB s dotSep) s
theorem splitL_len (s : ByteArray) : (splitL s).length = Lib.countB s dotSep + 1 := Lib.splitB_all dotSep (by decide) 0 _ s rfl
theorem splitL_all (s : ByteArray) : (splitL s).all (fun x => pieceOk (bs x)) = dottedB s := by
  have h : ((splitL s).map (·.data.toList)).all pieceOk = dottedB s := by
    rw [splitL, Lib.splitB_data]
    exact split_ok _ _ (by
      have : Lib.countB s dotSep = Lib.count s.data.toList [46] := rfl
      rw [this, Lib.count_one]
      exact Nat.le_refl _)
  rw [← h, List.all_map]
  rfl
theorem splitB_small (sep : ByteArray) : ∀ (k : Nat) (s x : ByteArray), x ∈ Lib.splitB sep 0 k s → x.size ≤ s.size
  | 0, s, x, h => by simp [Lib.splitB] at h; rw [h]; exact Nat.le_refl _
  | k + 1, s, x, h => by
    rw [Lib.splitB] at h
    split at h
    · simp at h; rw [h]; exact Nat.le_refl _
    · rcases List.mem_cons.1 h with h | h
      · rw [h, ByteArray.size_extract]; omega
      · have := splitB_small sep k _ x h
        rw [ByteArray.size_extract] at this
        omega
theorem countB_small (s : ByteArray) : Lib.countB s dotSep ≤ s.size := Lib.countB_le dotSep (by decide) s.size s (Nat.le_refl _)
end Go.Proofs.YthhfbolhlbgbgaaDoor

namespace Go.Proofs.YthhfbolhlbgbgaaDoor
open Go.RowKit
set_option linter.unusedSimpArgs false
set_option linter.unusedVariables false
/-- the library's word on long texts is some number -/
def Lib0 (w : World) : Prop := 0 < w.heap.size ∧ ∃ m : Int, w.cell? ⟨0, 0, none⟩ = some (.int .i64 m)
theorem Lib0.below {w w' : World} (h : Lib0 w) (hb : Below w.heap.size w w') : Lib0 w' := by
  obtain ⟨h1, m, h2⟩ := h
  exact ⟨Nat.lt_of_lt_of_le h1 hb.size, m, (hb.cell (p := ⟨0, 0, none⟩) h1).trans h2⟩
theorem Lib0.to {w w' : World} {B : Nat} (h : Lib0 w) (hb : Below B w w') (hB : w.heap.size ≤ B) : Lib0 w' := h.below (hb.mono hB)
theorem Lib0.drewN {w : World} (h : Lib0 w) (d : Nat) : Lib0 (w.drewN d) := h
theorem Lib0.open_ {w : World} (h : w.ShapedOpen Tryd.prog) : Lib0 w := by
  obtain ⟨m, hm⟩ := Tryd.laysM144.s1_3 w h
  exact ⟨World.block_lt_of_cell? w ⟨0, 0, none⟩ hm, m, hm⟩
end Go.Proofs.YthhfbolhlbgbgaaDoor

namespace Go.Proofs.YthhfbolhlbgbgaaDoor
open Go.RowKit
set_option linter.unusedSimpArgs false
set_option linter.unusedVariables false
theorem RF.of_row {w : World} {g : Nat} {l : List ByteArray} {e : TypeId} {fr : Nat × Nat} (h : w.heap[g]? = some (.cells (l.map Value.string).toArray e fr)) (n : Nat) (hn : l.length = n) (hm : n ≤ maxLen) :
    RF strF w (· < w.heap.size) (.slice (some ⟨g, 0, none⟩) n n) l := by
  have e' : l.flatMap strF.enc = l.map Value.string := by
    clear h hn
    induction l with
    | nil => rfl
    | cons z r ih => simp only [List.map_cons, List.flatMap_cons, ih]; rfl
  refine ⟨some ⟨g, 0, none⟩, n, by simp [hn], by simp [hn], hm, by simp, ?_, fun _ => ⟨g, 0, rfl, (Array.getElem?_eq_some_iff.1 h).1, fun j u hu => ?_⟩⟩
  · rw [e']
    simp [strF]
  · rw [e'] at hu
    rw [Nat.zero_add, cell_of_row _ _ _ _ e fr h]
    simpa using hu
theorem Split_any (s : ByteArray) (w : World) (hs : s.size < 4294967281) (h0 : Lib0 w) :
    Calls Tryd.prog 140 #[.string s, .string dotSep] w fun e w' => ∃ v', e = .returned v' ∧ RF strF w' (· < w'.heap.size) v' (splitL s) ∧ Below w.heap.size w w' := by
  obtain ⟨_, m, hm⟩ := h0
  refine (Tryd.strings_Split s dotSep m w hs hm (by decide)).mono ?_
  rintro e w' ⟨rfl, rfl⟩
  refine ⟨_, rfl, RF.of_row (fr := (0, 0)) (heap_alloc_new w _) _ (splitL_len s) ?_, (Below.refl _ _).alloc (Nat.le_refl _) _⟩
  have := countB_small s
  unfold maxLen
  omega
end Go.Proofs.YthhfbolhlbgbgaaDoor

namespace Go.Proofs.YthhfbolhlbgbgaaDoor
open Go.RowKit
set_option linter.unusedSimpArgs false
set_option linter.unusedVariables false

def okByte (b : UInt8) : Bool := 33 ≤ b.toNat && b.toNat ≤ 126
def nameFault (s : ByteArray) : Int := if s.size < 1 ∨ 12 < s.size then 1 else if (bs s).all okByte then 0 else 3

theorem all_of {s : ByteArray} {p : UInt8 → Bool} (h : ∀ (j : Nat) (hj : j < s.size), p s[j] = true) : (bs s).all p = true := by
  rw [List.all_eq_true]
  intro b hb
  obtain ⟨j, hj, rfl⟩ := List.mem_iff_getElem.1 hb
  exact h j (by simpa [bs_len] using hj)
theorem not_all_of {s : ByteArray} {p : UInt8 → Bool} {j : Nat} (hj : j < s.size) (h : p s[j] = false) : (bs s).all p = false := by
  rw [List.all_eq_false]
  exact ⟨s[j], List.mem_of_getElem? (bs_get s j hj), by simp [h]⟩

theorem In_any (n lo hi : Int) (w : World) :
    Calls Tryd.prog 56 #[.int .i64 n, .int .i64 lo, .int .i64 hi] w fun e w' => e = .returned (.bool (decide (lo ≤ n) && decide (n ≤ hi))) ∧ w = w' := by
  go_enter Tryd.func56, Tryd.ntmps56
  go_wp2
  all_goals go_ret
  all_goals refine ⟨ret_bool ?_, rfl⟩
  all_goals simp <;> omega

theorem In_yes (n lo hi : Int) (w : World) (h1 : lo ≤ n) (h2 : n ≤ hi) :
    Calls Tryd.prog 56 #[.int .i64 n, .int .i64 lo, .int .i64 hi] w fun e w' => e = .returned (.bool true) ∧ w = w' :=
  (In_any n lo hi w).mono fun _ _ ⟨h, k⟩ => ⟨by rw [h]; simp [h1, h2], k⟩
theorem In_no (n lo hi : Int) (w : World) (h : n < lo ∨ hi < n) :
    Calls Tryd.prog 56 #[.int .i64 n, .int .i64 lo, .int .i64 hi] w fun e w' => e = .returned (.bool false) ∧ w = w' :=
  (In_any n lo hi w).mono fun _ _ ⟨h', k⟩ => ⟨by rw [h']; congr 1; congr 1; simp; omega, k⟩

theorem Name_any (s : ByteArray) (w : World) (hs : s.size ≤ maxLen) :
    Calls Tryd.prog 99 #[.string s] w fun e w' => e = .returned (.int .i64 (nameFault s)) ∧ w = w' := by
  unfold maxLen at hs
  by_cases h0 : s.size < 1 ∨ 12 < s.size
  · have hf : Hid (nameFault s = 1) := Lib.hid (if_pos h0)
    rcases h0 with h0 | h0
    all_goals
      go_enter Tryd.func99, Tryd.ntmps99
      go_wp2
      go_ret
      exact ⟨ret_int hf.out.symm, rfl⟩
  · have h1 : 1 ≤ s.size := by omega
    have h2 : s.size ≤ 12 := by omega
    have hf : Hid (nameFault s = if (bs s).all okByte then 0 else 3) := Lib.hid (if_neg h0)
    clear h0
    go_enter Tryd.func99, Tryd.ntmps99
    go_wp2
    go_loop [14] (fun i => ∃ k : Nat, k ≤ s.size ∧ i = .int .i64 k ∧ ∀ (j : Nat) (hj : j < s.size), j < k → okByte s[j] = true) (fun i => s.size - (intOf i).toNat)
    case atStart => exact ⟨0, Nat.zero_le _, rfl, fun _ _ h => absurd h (by omega)⟩
    case round =>
      obtain ⟨k, hk, rfl, hg⟩ := hrel
      have HG := Lib.hid hg
      clear hg
      by_cases hlt : k < s.size
      · by_cases hb : okByte s[k] = true
        · have hb1 : 33 ≤ (s[k].toNat : Int) := by simp [okByte] at hb; omega
          have hb2 : (s[k].toNat : Int) ≤ 126 := by simp [okByte] at hb; omega
          go_wp2
          go_round
          case rel => exact ⟨k + 1, by omega, by go_num, fun j hj h => if e : j = k then by subst e; exact hb else HG.out j hj (by omega)⟩
          case measure => simp [intOf]; omega
        · have hb' : okByte s[k] = false := by simpa using hb
          have hb1 : (s[k].toNat : Int) < 33 ∨ 126 < (s[k].toNat : Int) := by simp [okByte] at hb; omega
          have HB := Lib.hid hb'
          clear hb hb'
          rcases hb1 with hb1 | hb1
          all_goals
            go_wp2
            go_ret
            exact ⟨ret_int (by rw [hf.out, if_neg (by rw [not_all_of hlt HB.out]; decide)]), rfl⟩
      · go_wp2
        go_ret
        exact ⟨ret_int (by rw [hf.out, if_pos (all_of fun j hj => HG.out j hj (by omega))]), rfl⟩
end Go.Proofs.YthhfbolhlbgbgaaDoor

namespace Go.Proofs.YthhfbolhlbgbgaaDoor
open Go.RowKit
set_option linter.unusedSimpArgs false
set_option linter.unusedVariables false
set_option maxRecDepth 20000 in
theorem atom_any (c : UInt8) (w : World) : Calls Tryd.prog 141 #[.int .u8 c.toNat] w fun e w' => e = .returned (.bool (atomB c)) ∧ w = w' := by
  have hu : (c.toNat : Int) < 256 := by have := c.toNat_lt; omega
  have hcu : ((c.toNat : Int).toNat.toUInt8) = c := by simp
  have HI := Lib.hid (fun wx => by have h := Tryd.strings_IndexByte (mk marksL) (c.toNat : Int) wx; rw [hcu] at h; exact h)
  clear hcu
  have hc : (c.toNat : Int) < 48 ∨ (48 ≤ (c.toNat : Int) ∧ (c.toNat : Int) ≤ 57) ∨ (58 ≤ (c.toNat : Int) ∧ (c.toNat : Int) < 65) ∨ (65 ≤ (c.toNat : Int) ∧ (c.toNat : Int) ≤ 90) ∨ (91 ≤ (c.toNat : Int) ∧ (c.toNat : Int) ≤ 96) ∨ (97 ≤ (c.toNat : Int) ∧ (c.toNat : Int) ≤ 122) ∨ 122 < (c.toNat : Int) := by omega
  rcases hc with h | ⟨h, h'⟩ | ⟨h, h'⟩ | ⟨h, h'⟩ | ⟨h, h'⟩ | ⟨h, h'⟩ | h
  all_goals first | have HB := Lib.hid (alnum_yes (c := c) (by omega)) | have HB := Lib.hid (alnum_no (c := c) (by omega))
  all_goals
    go_enter Tryd.func141, Tryd.ntmps141
    go_wp2_with (go_at_call 156; refine (HI.out _).mono ?_; rintro e w' ⟨rfl, rfl⟩)
    go_ret
    refine ⟨?_, rfl⟩
    rw [HB.out]
    first
    | rfl
    | (have e1 : decide ((c.toNat : Int) ≤ 57) = false := by (rw [decide_eq_false_iff_not]; omega)
       first
       | (simp only [e1, Bool.false_or]; rfl)
       | (have e2 : decide ((c.toNat : Int) ≤ 90) = false := by (rw [decide_eq_false_iff_not]; omega)
          first
          | (simp only [e1, e2, Bool.false_or, Bool.or_false]; rfl)
          | (have e3 : decide ((c.toNat : Int) ≤ 122) = false := by (rw [decide_eq_false_iff_not]; omega)
             simp only [e1, e2, e3, Bool.false_or, Bool.or_false]; rfl)))
theorem getD_get {l : List UInt8} {k : Nat} (h : k < l.length) : l.getD k 0 = l[k] := by simp [List.getD, List.getElem?_eq_getElem h]
theorem marks_cell (w : World) (k : Nat) (hk : k < 19) : (w.alloc (.cells #[.int .u8 33, .int .u8 35, .int .u8 36, .int .u8 37, .int .u8 38, .int .u8 39, .int .u8 42, .int .u8 43, .int .u8 45, .int .u8 47, .int .u8 61, .int .u8 63, .int .u8 94, .int .u8 95, .int .u8 123, .int .u8 124, .int .u8 125, .int .u8 126, .int .u8 96] 5)).cell? ⟨w.heap.size, k, none⟩ = some (.int .u8 ((marksL.getD k 0).toNat : Int)) := by
  rw [cell_of_row _ _ _ _ 5 (0, 0) (heap_alloc_new w _)]
  have : ∀ k, k < 19 → (#[Value.int .u8 33, .int .u8 35, .int .u8 36, .int .u8 37, .int .u8 38, .int .u8 39, .int .u8 42, .int .u8 43, .int .u8 45, .int .u8 47, .int .u8 61, .int .u8 63, .int .u8 94, .int .u8 95, .int .u8 123, .int .u8 124, .int .u8 125, .int .u8 126, .int .u8 96] : Array Value)[k]? = some (.int .u8 ((marksL.getD k 0).toNat : Int)) := by
    intro k hk
    obtain rfl | rfl | rfl | rfl | rfl | rfl | rfl | rfl | rfl | rfl | rfl | rfl | rfl | rfl | rfl | rfl | rfl | rfl | rfl : k = 0 ∨ k = 1 ∨ k = 2 ∨ k = 3 ∨ k = 4 ∨ k = 5 ∨ k = 6 ∨ k = 7 ∨ k = 8 ∨ k = 9 ∨ k = 10 ∨ k = 11 ∨ k = 12 ∨ k = 13 ∨ k = 14 ∨ k = 15 ∨ k = 16 ∨ k = 17 ∨ k = 18 := by omega
    all_goals rfl
  exact this k hk
set_option maxRecDepth 20000 in
theorem atomByte_any (c : UInt8) (w : World) : Calls Tryd.prog 142 #[.int .u8 c.toNat] w fun e w' => e = .returned (.bool (atomB c)) ∧ Below w.heap.size w w' := by
  have hu : (c.toNat : Int) < 256 := by have := c.toNat_lt; omega
  by_cases ha : (97 ≤ (c.toNat : Int) ∧ (c.toNat : Int) ≤ 122) ∨ (65 ≤ (c.toNat : Int) ∧ (c.toNat : Int) ≤ 90) ∨ (48 ≤ (c.toNat : Int) ∧ (c.toNat : Int) ≤ 57)
  · have HB := Lib.hid (alnum_yes (c := c) ha)
    rcases ha with ⟨h, h'⟩ | ⟨h, h'⟩ | ⟨h, h'⟩
    all_goals
      go_enter Tryd.func142, Tryd.ntmps142
      go_wp2_with (go_at_call 56; first | (refine (In_yes _ _ _ _ ?_ ?_).mono ?_; omega; omega; rintro e w' ⟨rfl, rfl⟩) | (refine (In_no _ _ _ _ ?_).mono ?_; omega; rintro e w' ⟨rfl, rfl⟩))
      go_ret
      exact ⟨by rw [HB.out]; rfl, Below.refl _ _⟩
  · have HB := Lib.hid (alnum_no (c := c) ha)
    have HN1 : (c.toNat : Int) < 97 ∨ 122 < (c.toNat : Int) := by omega
    have HN2 : (c.toNat : Int) < 65 ∨ 90 < (c.toNat : Int) := by omega
    have HN3 : (c.toNat : Int) < 48 ∨ 57 < (c.toNat : Int) := by omega
    have H1 := Lib.hid HN1
    have H2 := Lib.hid HN2
    have H3 := Lib.hid HN3
    clear HN1 HN2 HN3 ha
    have HM := Lib.hid (marks_cell w)
    go_enter Tryd.func142, Tryd.ntmps142
    go_wp2_with (go_at_call 56; refine (In_no _ _ _ _ ?_).mono ?_; (first | exact H1.out | exact H2.out | exact H3.out); rintro e w' ⟨rfl, rfl⟩)
    go_loop [4] (fun i => ∃ k : Nat, k ≤ 19 ∧ i = .int .i64 k ∧ ∀ j, j < k → marksL.getD j 0 ≠ c) (fun i => 19 - (intOf i).toNat)
    case atStart => exact ⟨0, by omega, rfl, fun j hj => by omega⟩
    case round =>
      obtain ⟨k, hk, rfl, hn⟩ := hrel
      have HN := Lib.hid hn
      clear hn
      by_cases hlt : k < 19
      · have hc := HM.out k hlt
        obtain ⟨d, hd⟩ : ∃ d, d = marksL.getD k 0 := ⟨_, rfl⟩
        rw [← hd] at hc
        have HD := Lib.hid hd
        clear hd
        have i0 : (0 : Int) ≤ k := by omega
        have i1 : (k : Int) < 19 := by omega
        by_cases he : d = c
        · subst he
          have HF : Hid (decide (0 ≤ Lib.indexByte marksL d) = true) := Lib.hid (by
            rw [decide_eq_true_eq, indexByte_mem, HD.out]
            have hk' : k < marksL.length := hlt
            rw [getD_get hk']
            exact List.getElem_mem hk')
          go_wp2_with fail
          go_ret
          exact ⟨by rw [HB.out, HF.out]; rfl, (Below.refl _ _).alloc (Nat.le_refl _) _⟩
        · have HE := Lib.hid he
          have i2 : ((d.toNat : Int) == (c.toNat : Int)) = false := beq_false_of_ne fun h => he (UInt8.toNat_inj.1 (by omega))
          clear he
          go_wp2_with fail
          go_round
          case rel =>
            refine ⟨k + 1, by omega, by go_num, fun j hj => ?_⟩
            by_cases e : j = k
            · subst e
              rw [← HD.out]
              exact HE.out
            · exact HN.out j (by omega)
          case measure => simp [intOf]; omega
      · obtain rfl : k = 19 := by omega
        have HF : Hid (decide (0 ≤ Lib.indexByte marksL c) = false) := Lib.hid (by
          rw [decide_eq_false_iff_not, indexByte_mem]
          intro hm
          obtain ⟨j, hj, e⟩ := List.mem_iff_getElem.1 hm
          refine HN.out j hj ?_
          rw [getD_get hj, e])
        go_wp2_with fail
        go_ret
        exact ⟨by rw [HB.out, HF.out]; rfl, (Below.refl _ _).alloc (Nat.le_refl _) _⟩
end Go.Proofs.YthhfbolhlbgbgaaDoor

namespace Go.Proofs.YthhfbolhlbgbgaaDoor
open Go.RowKit
set_option linter.unusedSimpArgs false
set_option linter.unusedVariables false
theorem ne46 {l : UInt8} (h : l ≠ 46) : (l.toNat : Int) ≠ 46 := fun e => h (UInt8.toNat_inj.1 (by have : (46 : UInt8).toNat = 46 := rfl; omega))
set_option maxRecDepth 20000 in
theorem dotted_any (s : ByteArray) (w : World) (hs : s.size ≤ 1048576) (h0 : Lib0 w) : Calls Tryd.prog 121 #[.string s] w fun e w' => e = .returned (.bool (dottedB s)) ∧ Below w.heap.size w w' := by
  have HS := Lib.hid (splitL_all s)
  have HZ := Lib.hid (fun x (hx : x ∈ splitL s) => splitB_small dotSep _ s x hx)
  have HC := Lib.hid (fun wx h => Split_any s wx (by omega) h)
  obtain ⟨L, hL⟩ : ∃ L, L = splitL s := ⟨_, rfl⟩
  rw [← hL] at HS HC HZ
  have HL := Lib.hid hL
  have H0 := Lib.hid h0
  clear hL h0
  go_enter Tryd.func121, Tryd.ntmps121
  go_wp2_with fail
  refine (HC.out _ H0.out).mono ?_
  rintro e w1 ⟨v, rfl, hr, hb⟩
  obtain ⟨A, c, rfl, hr⟩ := hr.ex
  have hm := hr.bound
  unfold maxLen at hm
  have H := Lib.hid hr
  have HB := Lib.hid hb
  clear hr hb
  go_wp2_with fail
  go_loop [9] (fun i => ∃ k : Nat, k ≤ L.length ∧ i = .int .i64 k ∧ ∀ (j : Nat) x, j < k → L[j]? = some x → pieceOk (bs x) = true) (fun i => L.length - (intOf i).toNat)
  case atStart => exact ⟨0, by omega, rfl, fun j x hj => by omega⟩
  case round =>
    obtain ⟨k, hk, rfl, hg⟩ := hrel
    have HG := Lib.hid hg
    clear hg
    by_cases hlt : k < L.length
    · obtain ⟨b, off, x, rfl, _, hx, hc⟩ := str_cell H.out hlt
      have hxs := HZ.out x (List.mem_of_getElem? hx)
      have HX := Lib.hid hx
      have HBAD : Hid (pieceOk (bs x) = false → dottedB s = false) := Lib.hid (fun h => by
        rw [← HS.out, List.all_eq_false]
        exact ⟨x, List.mem_of_getElem? HX.out, by simp [h]⟩)
      clear hx
      by_cases hz : x.size = 0
      · have HV : Hid (dottedB s = false) := Lib.hid (HBAD.out (by
          have : bs x = [] := List.eq_nil_of_length_eq_zero (by rw [bs_len]; exact hz)
          rw [this]; rfl))
        have hx0 : x = ByteArray.empty := by
          apply bs_inj
          have : bs x = [] := List.eq_nil_of_length_eq_zero (by rw [bs_len]; exact hz)
          rw [this]; rfl
        subst hx0
        clear hz hxs
        go_wp2_with fail
        go_ret
        exact ⟨by rw [HV.out]; rfl, HB.out⟩
      · have i1 : x.toList.isEmpty = false := by
          rw [ByteArray.toList_eq]
          cases he : x.data.toList with
          | nil => exfalso; apply hz; rw [← bs_len]; unfold bs; rw [he]; rfl
          | cons a b => rfl
        have HNE : Hid ((bs x).isEmpty = false) := Lib.hid (by rw [ByteArray.toList_eq] at i1; exact i1)
        have i2 : ¬ x.toList = [] := by intro h; rw [h] at i1; cases i1
        clear hz
        go_wp2_with fail
        go_loop [17] (fun i => ∃ q : Nat, q ≤ x.size ∧ i = .int .i64 q ∧ ∀ (j : Nat) (hj : j < x.size), j < q → atomB x[j] = true) (fun i => x.size - (intOf i).toNat)
        case atStart => exact ⟨0, by omega, rfl, fun j x hj => by omega⟩
        case round =>
          obtain ⟨q, hq, rfl, hat⟩ := hrel
          have HA := Lib.hid hat
          clear hat
          by_cases hlq : q < x.size
          · have HAT := Lib.hid (fun wx => atom_any x[q] wx)
            cases ha : atomB x[q]
            · rw [ha] at HAT
              have HV : Hid (dottedB s = false) := Lib.hid (HBAD.out (by
                unfold pieceOk
                rw [HNE.out]
                have : (bs x).all atomB = false := by
                  rw [List.all_eq_false]
                  exact ⟨x[q], List.mem_of_getElem? (bs_get x q hlq), by simp [ha]⟩
                rw [this]; rfl))
              clear ha
              go_wp2_with (go_at_call 141; refine (HAT.out _).mono ?_; rintro e w' ⟨rfl, rfl⟩)
              go_ret
              exact ⟨by rw [HV.out]; rfl, HB.out⟩
            · rw [ha] at HAT
              have HH := Lib.hid ha
              clear ha
              go_wp2_with (go_at_call 141; refine (HAT.out _).mono ?_; rintro e w' ⟨rfl, rfl⟩)
              go_round
              case rel =>
                refine ⟨q + 1, by omega, by go_num, fun j hj hjq => ?_⟩
                by_cases e : j = q
                · subst e; exact HH.out
                · exact HA.out j hj (by omega)
              case measure => simp [intOf]; omega
          · obtain rfl : q = x.size := by omega
            have HP : Hid (pieceOk (bs x) = true) := Lib.hid (by
              unfold pieceOk
              rw [HNE.out]
              have : (bs x).all atomB = true := by
                rw [List.all_eq_true]
                intro b hb
                obtain ⟨j, hj, e⟩ := List.mem_iff_getElem.1 hb
                have hj' : j < x.size := by rw [← bs_len]; exact hj
                have := HA.out j hj' hj'
                rw [← e]
                have e2 := bs_get x j hj'
                rw [List.getElem?_eq_getElem hj] at e2
                injection e2 with e2
              rw [this]; rfl)
            go_wp2_with fail
            go_round
            case rel =>
              refine ⟨k + 1, by omega, by go_num, fun j y hj hy => ?_⟩
              by_cases e : j = k
              · subst e
                rw [HX.out] at hy
                injection hy with hy
                subst hy
                exact HP.out
              · exact HG.out j y (by omega) hy
            case measure => simp [intOf]; omega
    · obtain rfl : k = L.length := by omega
      have HV : Hid (dottedB s = true) := Lib.hid (by
        rw [← HS.out, List.all_eq_true]
        intro x hx
        obtain ⟨j, hj, e⟩ := List.mem_iff_getElem.1 hx
        exact HG.out j x hj (by rw [List.getElem?_eq_getElem hj, e]))
      go_wp2_with fail
      go_ret
      exact ⟨by rw [HV.out]; rfl, HB.out⟩
theorem dotGo_at (s : ByteArray) (d : Bool) (k : Nat) (h : k < s.size) : dotGo d ((bs s).drop k) = if s[k] = 46 then !d && dotGo true ((bs s).drop (k + 1)) else atomB s[k] && dotGo false ((bs s).drop (k + 1)) := by
  have hk : k < (bs s).length := by rw [bs_len]; exact h
  have e := bs_get s k h
  rw [List.getElem?_eq_getElem hk] at e
  injection e with e
  rw [List.drop_eq_getElem_cons hk, e]
  rfl
set_option maxRecDepth 20000 in
theorem dottedMay_any (s : ByteArray) (w : World) (hs : s.size ≤ maxLen) : Calls Tryd.prog 122 #[.string s] w fun e w' => e = .returned (.bool (dottedB s)) ∧ Below w.heap.size w w' := by
  unfold maxLen at hs
  have hbl := Lib.hid (bs_len s)
  go_enter Tryd.func122, Tryd.ntmps122
  go_wp2_with fail
  go_loopw [3, 4] (fun v i wr => ∃ (k : Nat) (l : UInt8), k ≤ s.size ∧ i = .int .i64 k ∧ v = .int .u8 l.toNat ∧ dottedB s = dotGo (decide (l = 46)) ((bs s).drop k) ∧ Below w.heap.size w wr) (fun _ i _ => s.size - (intOf i).toNat)
  case atStart => exact ⟨0, 46, by omega, rfl, rfl, by rfl, Below.refl _ _⟩
  case round =>
    obtain ⟨k, l, hk, rfl, rfl, hd, hb⟩ := hrel
    have HD := Lib.hid hd
    have HB := Lib.hid hb
    clear hd hb
    have hl := l.toNat_lt
    by_cases hlt : k < s.size
    · have HS := Lib.hid (dotGo_at s (decide (l = 46)) k hlt)
      by_cases he : s[k] = 46
      · have i1 : ((s[k].toNat : Int) == 46) = true := by rw [he]; rfl
        by_cases hl46 : l = 46
        · subst hl46
          have HV : Hid (dottedB s = false) := Lib.hid (by rw [HD.out, HS.out, if_pos he]; rfl)
          clear he
          go_wp2_with fail
          go_ret
          exact ⟨by rw [HV.out]; rfl, HB.out⟩
        · have HV : Hid (dottedB s = dotGo (decide (s[k] = 46)) ((bs s).drop (k + 1))) := Lib.hid (by rw [HD.out, HS.out, if_pos he, he]; simp [hl46])
          have i2 : ((l.toNat : Int) == 46) = false := beq_false_of_ne (ne46 hl46)
          have i3 : ((s[k].toNat : Int) != 46) = false := by rw [he]; rfl
          have i4 : (s[k].toNat : Int) = 46 := by rw [he]; rfl
          clear he hl46
          go_wp2_with fail
          go_roundw
          case rel => exact ⟨k + 1, s[k], by omega, by go_num, by first | rfl | rw [i4], HV.out, HB.out⟩
          case measure => simp [intOf]; omega
      · have i1 : ((s[k].toNat : Int) == 46) = false := beq_false_of_ne (ne46 he)
        have i3 : ((s[k].toNat : Int) != 46) = true := by simp only [bne, i1]; rfl
        have i4 : ¬ (s[k].toNat : Int) = 46 := by simpa using i1
        have HAT := Lib.hid (fun wx => atomByte_any s[k] wx)
        cases ha : atomB s[k]
        · rw [ha] at HAT
          have HV : Hid (dottedB s = false) := Lib.hid (by rw [HD.out, HS.out, if_neg he, ha]; rfl)
          clear he ha
          go_wp2_with (go_at_call 142; refine (HAT.out _).mono ?_; rintro e w1 ⟨rfl, hb1⟩)
          go_ret
          exact ⟨by rw [HV.out]; rfl, HB.out.trans (hb1.mono HB.out.size)⟩
        · rw [ha] at HAT
          have HV : Hid (dottedB s = dotGo (decide (s[k] = 46)) ((bs s).drop (k + 1))) := Lib.hid (by rw [HD.out, HS.out, if_neg he, ha]; simp [he])
          clear he ha
          go_wp2_with (go_at_call 142; refine (HAT.out _).mono ?_; rintro e w1 ⟨rfl, hb1⟩)
          go_roundw
          case rel => exact ⟨k + 1, s[k], by omega, by go_num, rfl, HV.out, HB.out.trans (hb1.mono HB.out.size)⟩
          case measure => simp [intOf]; omega
    · obtain rfl : k = s.size := by omega
      have HV : Hid (dottedB s = !decide (l = 46)) := Lib.hid (by rw [HD.out, List.drop_eq_nil_of_le (by rw [hbl.out]; omega)]; rfl)
      by_cases hl46 : l = 46
      · subst hl46
        go_wp2_with fail
        go_ret
        exact ⟨by rw [HV.out]; rfl, HB.out⟩
      · have i2 : ((l.toNat : Int) != 46) = true := by
          have : ((l.toNat : Int) == 46) = false := beq_false_of_ne (ne46 hl46)
          simp only [bne, this]; rfl
        have HW : Hid (dottedB s = true) := Lib.hid (by rw [HV.out]; simp [hl46])
        clear hl46
        go_wp2_with fail
        go_ret
        exact ⟨by rw [HW.out]; rfl, HB.out⟩
end Go.Proofs.YthhfbolhlbgbgaaDoor

namespace Go.Proofs.YthhfbolhlbgbgaaDoor
open Go.RowKit
set_option linter.unusedSimpArgs false
set_option linter.unusedVariables false
structure Adr where
  l : ByteArray
  d : ByteArray
def Adr.val (a : Adr) : Value := .agg #[.string a.l, .string a.d]
def addrE (a : Adr) : Int := if dottedB a.l = false ∨ dottedB a.d = false then 3 else if 99 < a.l.size + a.d.size then 1 else 0
structure AdrOk (a : Adr) : Prop where
  hl : a.l.size ≤ 1048576
  hd : a.d.size ≤ 1048576
theorem addrE_l {a : Adr} (h : dottedB a.l = false) : addrE a = 3 := if_pos (.inl h)
theorem addrE_d {a : Adr} (h : dottedB a.d = false) : addrE a = 3 := if_pos (.inr h)
theorem addrE_big {a : Adr} (h1 : dottedB a.l = true) (h2 : dottedB a.d = true) (h : 99 < a.l.size + a.d.size) : addrE a = 1 := by unfold addrE; rw [if_neg (by rw [h1, h2]; decide), if_pos h]
theorem addrE_ok {a : Adr} (h1 : dottedB a.l = true) (h2 : dottedB a.d = true) (h : ¬ 99 < a.l.size + a.d.size) : addrE a = 0 := by unfold addrE; rw [if_neg (by rw [h1, h2]; decide), if_neg h]
set_option maxRecDepth 20000 in
theorem whoCheck_any (a : Adr) (w : World) (hz : a.l.size ≤ 1048576 ∧ a.d.size ≤ 1048576) (h0 : Lib0 w) : Calls Tryd.prog 87 #[a.val] w fun e w' => e = .returned (.int .i64 (addrE a)) ∧ Below w.heap.size w w' := by
  have m1 := hz.1
  have m2 := hz.2
  clear hz
  have H0 := Lib.hid h0
  clear h0
  have tok : True := trivial
  cases h1 : dottedB a.l
  · have HF := Lib.hid (addrE_l h1)
    have H1 := Lib.hid h1
    clear h1
    obtain ⟨l, d⟩ := a
    unfold Adr.val
    dsimp only at *
    go_enter Tryd.func87, Tryd.ntmps87
    go_wp2_with (first | (go_at_call 121; clear tok; refine (dotted_any l _ ?_ ?_).mono ?_; omega; exact Lib0.below H0.out (Below.alloc (Below.refl _ _) (Nat.le_refl _) _); rintro e w1 ⟨rfl, hb1⟩; rw [H1.out]; obtain ⟨k1a, k1b, k1c⟩ := own_at hb1 (b := w.heap.size) (by first | omega | (simp; done) | (simp; omega)); have z2 := hb1.size; (try simp only [World.size_alloc, World.size_setCell] at z2)))
    go_ret
    refine ⟨by rw [HF.out]; rfl, ?_⟩
    (repeat (first | with_reducible exact hb1 | with_reducible refine Below.trans ?_ (Below.mono hb1 ?_) | with_reducible exact Below.refl _ _ | with_reducible refine Below.setCell ?_ ?_ _ | with_reducible refine Below.alloc ?_ ?_ _ | with_reducible refine Below.drew ?_ | with_reducible refine below_drewN ?_ _))
    all_goals (first | omega | (simp; done) | (simp; omega) | (dsimp only [World.drew] at *; omega))

  cases h2 : dottedB a.d
  · have HF := Lib.hid (addrE_d h2)
    have H1 := Lib.hid h1
    have H2 := Lib.hid h2
    clear h1 h2
    obtain ⟨l, d⟩ := a
    unfold Adr.val
    dsimp only at *
    go_enter Tryd.func87, Tryd.ntmps87
    go_wp2_with (first | (go_at_call 121; clear tok; refine (dotted_any l _ ?_ ?_).mono ?_; omega; exact Lib0.below H0.out (Below.alloc (Below.refl _ _) (Nat.le_refl _) _); rintro e w1 ⟨rfl, hb1⟩; rw [H1.out]; obtain ⟨k3a, k3b, k3c⟩ := own_at hb1 (b := w.heap.size) (by first | omega | (simp; done) | (simp; omega)); have z4 := hb1.size; (try simp only [World.size_alloc, World.size_setCell] at z4)) | (go_at_call 121; refine (dotted_any d _ ?_ ?_).mono ?_; omega; exact Lib0.below (Lib0.below H0.out (Below.alloc (Below.refl _ _) (Nat.le_refl _) _)) hb1; rintro e w2 ⟨rfl, hb2⟩; rw [H2.out]; obtain ⟨k5a, k5b, k5c⟩ := own_at hb2 (b := w.heap.size) (by first | omega | (simp; done) | (simp; omega)); have z6 := hb2.size; (try simp only [World.size_alloc, World.size_setCell] at z6)))
    go_ret
    refine ⟨by rw [HF.out]; rfl, ?_⟩
    (repeat (first | with_reducible exact hb2 | with_reducible refine Below.trans ?_ (Below.mono hb2 ?_) | with_reducible exact hb1 | with_reducible refine Below.trans ?_ (Below.mono hb1 ?_) | with_reducible exact Below.refl _ _ | with_reducible refine Below.setCell ?_ ?_ _ | with_reducible refine Below.alloc ?_ ?_ _ | with_reducible refine Below.drew ?_ | with_reducible refine below_drewN ?_ _))
    all_goals (first | omega | (simp; done) | (simp; omega) | (dsimp only [World.drew] at *; omega))

  by_cases h3 : 99 < a.l.size + a.d.size
  · have HF := Lib.hid (addrE_big h1 h2 h3)
    have H1 := Lib.hid h1
    have H2 := Lib.hid h2
    clear h1 h2
    obtain ⟨l, d⟩ := a
    unfold Adr.val
    dsimp only at *
    have i1 : (100 : Int) < (l.size : Int) + 1 + d.size := by omega
    go_enter Tryd.func87, Tryd.ntmps87
    go_wp2_with (first | (go_at_call 121; clear tok; refine (dotted_any l _ ?_ ?_).mono ?_; omega; exact Lib0.below H0.out (Below.alloc (Below.refl _ _) (Nat.le_refl _) _); rintro e w1 ⟨rfl, hb1⟩; rw [H1.out]; obtain ⟨k7a, k7b, k7c⟩ := own_at hb1 (b := w.heap.size) (by first | omega | (simp; done) | (simp; omega)); have z8 := hb1.size; (try simp only [World.size_alloc, World.size_setCell] at z8)) | (go_at_call 121; refine (dotted_any d _ ?_ ?_).mono ?_; omega; exact Lib0.below (Lib0.below H0.out (Below.alloc (Below.refl _ _) (Nat.le_refl _) _)) hb1; rintro e w2 ⟨rfl, hb2⟩; rw [H2.out]; obtain ⟨k9a, k9b, k9c⟩ := own_at hb2 (b := w.heap.size) (by first | omega | (simp; done) | (simp; omega)); have z10 := hb2.size; (try simp only [World.size_alloc, World.size_setCell] at z10)))
    go_ret
    refine ⟨by rw [HF.out]; rfl, ?_⟩
    (repeat (first | with_reducible exact hb2 | with_reducible refine Below.trans ?_ (Below.mono hb2 ?_) | with_reducible exact hb1 | with_reducible refine Below.trans ?_ (Below.mono hb1 ?_) | with_reducible exact Below.refl _ _ | with_reducible refine Below.setCell ?_ ?_ _ | with_reducible refine Below.alloc ?_ ?_ _ | with_reducible refine Below.drew ?_ | with_reducible refine below_drewN ?_ _))
    all_goals (first | omega | (simp; done) | (simp; omega) | (dsimp only [World.drew] at *; omega))

  · have HF := Lib.hid (addrE_ok h1 h2 h3)
    have H1 := Lib.hid h1
    have H2 := Lib.hid h2
    clear h1 h2
    obtain ⟨l, d⟩ := a
    unfold Adr.val
    dsimp only at *
    have i1 : ¬ ((100 : Int) < (l.size : Int) + 1 + d.size) := by omega
    clear h3
    go_enter Tryd.func87, Tryd.ntmps87
    go_wp2_with (first | (go_at_call 121; clear tok; refine (dotted_any l _ ?_ ?_).mono ?_; omega; exact Lib0.below H0.out (Below.alloc (Below.refl _ _) (Nat.le_refl _) _); rintro e w1 ⟨rfl, hb1⟩; rw [H1.out]; obtain ⟨k11a, k11b, k11c⟩ := own_at hb1 (b := w.heap.size) (by first | omega | (simp; done) | (simp; omega)); have z12 := hb1.size; (try simp only [World.size_alloc, World.size_setCell] at z12)) | (go_at_call 121; refine (dotted_any d _ ?_ ?_).mono ?_; omega; exact Lib0.below (Lib0.below H0.out (Below.alloc (Below.refl _ _) (Nat.le_refl _) _)) hb1; rintro e w2 ⟨rfl, hb2⟩; rw [H2.out]; obtain ⟨k13a, k13b, k13c⟩ := own_at hb2 (b := w.heap.size) (by first | omega | (simp; done) | (simp; omega)); have z14 := hb2.size; (try simp only [World.size_alloc, World.size_setCell] at z14)))
    go_ret
    refine ⟨by rw [HF.out]; rfl, ?_⟩
    (repeat (first | with_reducible exact hb2 | with_reducible refine Below.trans ?_ (Below.mono hb2 ?_) | with_reducible exact hb1 | with_reducible refine Below.trans ?_ (Below.mono hb1 ?_) | with_reducible exact Below.refl _ _ | with_reducible refine Below.setCell ?_ ?_ _ | with_reducible refine Below.alloc ?_ ?_ _ | with_reducible refine Below.drew ?_ | with_reducible refine below_drewN ?_ _))
    all_goals (first | omega | (simp; done) | (simp; omega) | (dsimp only [World.drew] at *; omega))

set_option maxRecDepth 20000 in
theorem addrFault_any (a : Adr) (w : World) (hz : a.l.size ≤ 1048576 ∧ a.d.size ≤ 1048576) : Calls Tryd.prog 88 #[a.val] w fun e w' => e = .returned (.int .i64 (addrE a)) ∧ Below w.heap.size w w' := by
  have m1 := hz.1
  have m2 := hz.2
  clear hz
  have tok : True := trivial
  cases h1 : dottedB a.l
  · have HF := Lib.hid (addrE_l h1)
    have H1 := Lib.hid h1
    clear h1
    obtain ⟨l, d⟩ := a
    unfold Adr.val
    dsimp only at *
    go_enter Tryd.func88, Tryd.ntmps88
    go_wp2_with (first | (go_at_call 122; clear tok; refine (dottedMay_any l _ ?_).mono ?_; (unfold maxLen; omega); rintro e w1 ⟨rfl, hb1⟩; rw [H1.out]; obtain ⟨k15a, k15b, k15c⟩ := own_at hb1 (b := w.heap.size) (by first | omega | (simp; done) | (simp; omega)); have z16 := hb1.size; (try simp only [World.size_alloc, World.size_setCell] at z16)))
    go_ret
    refine ⟨by rw [HF.out]; rfl, ?_⟩
    (repeat (first | with_reducible exact hb1 | with_reducible refine Below.trans ?_ (Below.mono hb1 ?_) | with_reducible exact Below.refl _ _ | with_reducible refine Below.setCell ?_ ?_ _ | with_reducible refine Below.alloc ?_ ?_ _ | with_reducible refine Below.drew ?_ | with_reducible refine below_drewN ?_ _))
    all_goals (first | omega | (simp; done) | (simp; omega) | (dsimp only [World.drew] at *; omega))

  cases h2 : dottedB a.d
  · have HF := Lib.hid (addrE_d h2)
    have H1 := Lib.hid h1
    have H2 := Lib.hid h2
    clear h1 h2
    obtain ⟨l, d⟩ := a
    unfold Adr.val
    dsimp only at *
    go_enter Tryd.func88, Tryd.ntmps88
    go_wp2_with (first | (go_at_call 122; clear tok; refine (dottedMay_any l _ ?_).mono ?_; (unfold maxLen; omega); rintro e w1 ⟨rfl, hb1⟩; rw [H1.out]; obtain ⟨k17a, k17b, k17c⟩ := own_at hb1 (b := w.heap.size) (by first | omega | (simp; done) | (simp; omega)); have z18 := hb1.size; (try simp only [World.size_alloc, World.size_setCell] at z18)) | (go_at_call 122; refine (dottedMay_any d _ ?_).mono ?_; (unfold maxLen; omega); rintro e w2 ⟨rfl, hb2⟩; rw [H2.out]; obtain ⟨k19a, k19b, k19c⟩ := own_at hb2 (b := w.heap.size) (by first | omega | (simp; done) | (simp; omega)); have z20 := hb2.size; (try simp only [World.size_alloc, World.size_setCell] at z20)))
    go_ret
    refine ⟨by rw [HF.out]; rfl, ?_⟩
    (repeat (first | with_reducible exact hb2 | with_reducible refine Below.trans ?_ (Below.mono hb2 ?_) | with_reducible exact hb1 | with_reducible refine Below.trans ?_ (Below.mono hb1 ?_) | with_reducible exact Below.refl _ _ | with_reducible refine Below.setCell ?_ ?_ _ | with_reducible refine Below.alloc ?_ ?_ _ | with_reducible refine Below.drew ?_ | with_reducible refine below_drewN ?_ _))
    all_goals (first | omega | (simp; done) | (simp; omega) | (dsimp only [World.drew] at *; omega))

  by_cases h3 : 99 < a.l.size + a.d.size
  · have HF := Lib.hid (addrE_big h1 h2 h3)
    have H1 := Lib.hid h1
    have H2 := Lib.hid h2
    clear h1 h2
    obtain ⟨l, d⟩ := a
    unfold Adr.val
    dsimp only at *
    have i1 : (99 : Int) < (l.size : Int) + d.size := by omega
    go_enter Tryd.func88, Tryd.ntmps88
    go_wp2_with (first | (go_at_call 122; clear tok; refine (dottedMay_any l _ ?_).mono ?_; (unfold maxLen; omega); rintro e w1 ⟨rfl, hb1⟩; rw [H1.out]; obtain ⟨k21a, k21b, k21c⟩ := own_at hb1 (b := w.heap.size) (by first | omega | (simp; done) | (simp; omega)); have z22 := hb1.size; (try simp only [World.size_alloc, World.size_setCell] at z22)) | (go_at_call 122; refine (dottedMay_any d _ ?_).mono ?_; (unfold maxLen; omega); rintro e w2 ⟨rfl, hb2⟩; rw [H2.out]; obtain ⟨k23a, k23b, k23c⟩ := own_at hb2 (b := w.heap.size) (by first | omega | (simp; done) | (simp; omega)); have z24 := hb2.size; (try simp only [World.size_alloc, World.size_setCell] at z24)))
    go_ret
    refine ⟨by rw [HF.out]; rfl, ?_⟩
    (repeat (first | with_reducible exact hb2 | with_reducible refine Below.trans ?_ (Below.mono hb2 ?_) | with_reducible exact hb1 | with_reducible refine Below.trans ?_ (Below.mono hb1 ?_) | with_reducible exact Below.refl _ _ | with_reducible refine Below.setCell ?_ ?_ _ | with_reducible refine Below.alloc ?_ ?_ _ | with_reducible refine Below.drew ?_ | with_reducible refine below_drewN ?_ _))
    all_goals (first | omega | (simp; done) | (simp; omega) | (dsimp only [World.drew] at *; omega))

  · have HF := Lib.hid (addrE_ok h1 h2 h3)
    have H1 := Lib.hid h1
    have H2 := Lib.hid h2
    clear h1 h2
    obtain ⟨l, d⟩ := a
    unfold Adr.val
    dsimp only at *
    have i1 : ¬ ((99 : Int) < (l.size : Int) + d.size) := by omega
    clear h3
    go_enter Tryd.func88, Tryd.ntmps88
    go_wp2_with (first | (go_at_call 122; clear tok; refine (dottedMay_any l _ ?_).mono ?_; (unfold maxLen; omega); rintro e w1 ⟨rfl, hb1⟩; rw [H1.out]; obtain ⟨k25a, k25b, k25c⟩ := own_at hb1 (b := w.heap.size) (by first | omega | (simp; done) | (simp; omega)); have z26 := hb1.size; (try simp only [World.size_alloc, World.size_setCell] at z26)) | (go_at_call 122; refine (dottedMay_any d _ ?_).mono ?_; (unfold maxLen; omega); rintro e w2 ⟨rfl, hb2⟩; rw [H2.out]; obtain ⟨k27a, k27b, k27c⟩ := own_at hb2 (b := w.heap.size) (by first | omega | (simp; done) | (simp; omega)); have z28 := hb2.size; (try simp only [World.size_alloc, World.size_setCell] at z28)))
    go_ret
    refine ⟨by rw [HF.out]; rfl, ?_⟩
    (repeat (first | with_reducible exact hb2 | with_reducible refine Below.trans ?_ (Below.mono hb2 ?_) | with_reducible exact hb1 | with_reducible refine Below.trans ?_ (Below.mono hb1 ?_) | with_reducible exact Below.refl _ _ | with_reducible refine Below.setCell ?_ ?_ _ | with_reducible refine Below.alloc ?_ ?_ _ | with_reducible refine Below.drew ?_ | with_reducible refine below_drewN ?_ _))
    all_goals (first | omega | (simp; done) | (simp; omega) | (dsimp only [World.drew] at *; omega))

end Go.Proofs.YthhfbolhlbgbgaaDoor

namespace Go.Proofs.YthhfbolhlbgbgaaDoor
open Go.RowKit
set_option linter.unusedSimpArgs false
set_option linter.unusedVariables false
set_option linter.unusedVariables false
/-- the library's word on long texts -/
def LibT (T : Tbl) : Prop := ∃ m : Int, (T 0)[0]? = some (.int .i64 m)
theorem LibT.lib0 {T : Tbl} (h : LibT T) {F : Frz} {w : World} (hF : ∀ b o u, F b o = some u → w.cell? ⟨b, o, none⟩ = some u) (hT : ∀ g j x, (T g)[j]? = some x → ∃ u, F g j = some u ∧ VD F x u) : Lib0 w := by
  obtain ⟨m, hm⟩ := h
  obtain ⟨u, h1, h2⟩ := tbl_cell hF hT hm
  obtain rfl := h2.int_inv
  exact ⟨World.block_lt_of_cell? w ⟨0, 0, none⟩ h1, m, h1⟩
theorem atom_p (T : Tbl) (c : UInt8) : PC Tryd.prog T 141 [.d (.int .u8 c.toNat)] (.d (.bool (atomB c))) := PC.old Tryd.call141 fun F w vs hF hT R => by
  obtain ⟨v, rfl, hv⟩ := slr1 R
  obtain rfl := hv.int_inv
  refine (atom_any c w).mono ?_
  rintro e w' ⟨rfl, rfl⟩
  exact ⟨_, rfl, Below.refl _ _, .bool _⟩
theorem atomByte_p (T : Tbl) (c : UInt8) : PC Tryd.prog T 142 [.d (.int .u8 c.toNat)] (.d (.bool (atomB c))) := PC.old Tryd.call142 fun F w vs hF hT R => by
  obtain ⟨v, rfl, hv⟩ := slr1 R
  obtain rfl := hv.int_inv
  refine (atomByte_any c w).mono ?_
  rintro e w' ⟨rfl, hb⟩
  exact ⟨_, rfl, hb, .bool _⟩
theorem adr_vs {G : Gh} {l d : Tx} {vs : Array Value} (R : SlR G [.agg [.d (.str l), .d (.str d)]] vs) : ∃ a : Adr, vs = #[a.val] ∧ a.l.data.toList = l ∧ a.d.data.toList = d := by
  obtain ⟨v, rfl, hv⟩ := slr1 R
  obtain ⟨us, rfl, hu⟩ := hv.agg_inv
  obtain ⟨x, y, rfl, hx, hy⟩ := slr2 hu
  obtain ⟨p, rfl, h1, _⟩ := hx.str_inv
  obtain ⟨q, rfl, h2, _⟩ := hy.str_inv
  exact ⟨⟨p, q⟩, rfl, h1, h2⟩
theorem adrE_of {a : Adr} {l d : Tx} (h1 : a.l.data.toList = l) (h2 : a.d.data.toList = d) : addrE a = adrE l d := by
  subst h1 h2
  simp only [addrE, adrE, dottedB, bs, size_data]
  congr
theorem whoCheck_p (T : Tbl) (hL : LibT T) (l d : Tx) (h1 : l.length ≤ 1048576) (h2 : d.length ≤ 1048576) : PC Tryd.prog T 87 [.agg [.d (.str l), .d (.str d)]] (.d (.int .i64 (adrE l d))) := PC.old Tryd.call87 fun F w vs hF hT R => by
  obtain ⟨a, rfl, e1, e2⟩ := adr_vs R
  refine (whoCheck_any a w ⟨by rw [← size_data, e1]; exact h1, by rw [← size_data, e2]; exact h2⟩ (hL.lib0 hF hT)).mono ?_
  rintro e w' ⟨rfl, hb⟩
  exact ⟨_, rfl, hb, by rw [adrE_of e1 e2]; exact .int _ _⟩
theorem addrFault_p (T : Tbl) (l d : Tx) (h1 : l.length ≤ 1048576) (h2 : d.length ≤ 1048576) : PC Tryd.prog T 88 [.agg [.d (.str l), .d (.str d)]] (.d (.int .i64 (adrE l d))) := PC.old Tryd.call88 fun F w vs hF hT R => by
  obtain ⟨a, rfl, e1, e2⟩ := adr_vs R
  refine (addrFault_any a w ⟨by rw [← size_data, e1]; exact h1, by rw [← size_data, e2]; exact h2⟩).mono ?_
  rintro e w' ⟨rfl, hb⟩
  exact ⟨_, rfl, hb, by rw [adrE_of e1 e2]; exact .int _ _⟩
end Go.Proofs.YthhfbolhlbgbgaaDoor

namespace Go.Proofs.YthhfbolhlbgbgaaDoor
set_option linter.unusedSimpArgs false
set_option linter.unusedVariables false
theorem byte_is (c d : UInt8) : ((c.toNat : Int) = (d.toNat : Int)) ↔ c = d := ⟨fun h => UInt8.toNat_inj.1 (by omega), fun h => by rw [h]⟩
theorem drop_cons {s : Tx} {j : Nat} (h : j < s.length) : s.drop j = s.getD j 0 :: s.drop (j + 1) := by
  rw [List.drop_eq_getElem_cons h]
  simp [List.getD, List.getElem?_eq_getElem h]
theorem drop_none {s : Tx} {j : Nat} (h : s.length ≤ j) : s.drop j = [] := List.drop_eq_nil_of_le h
theorem blk_of {c : UInt8} (h : (c.toNat : Int) = 32 ∨ (c.toNat : Int) = 9) : blkB c = true := by
  rcases h with h | h
  · rw [(byte_is c 32).1 h]; rfl
  · rw [(byte_is c 9).1 h]; rfl
theorem blk_no {c : UInt8} (h : ¬ ((c.toNat : Int) = 32 ∨ (c.toNat : Int) = 9)) : blkB c = false := by
  cases e : blkB c with
  | false => rfl
  | true =>
    exfalso
    simp only [blkB, Bool.or_eq_true, beq_iff_eq] at e
    rcases e with rfl | rfl
    · exact h (.inl rfl)
    · exact h (.inr rfl)
theorem runB_eq (c : UInt8) : runB c = (atomB c || decide ((c.toNat : Int) = 46)) := by
  unfold runB
  congr 1
  rw [Bool.eq_iff_iff, beq_iff_eq, decide_eq_true_eq]
  exact (byte_is c 46).symm
theorem sk_step {s : Tx} {j : Nat} (h : j < s.length) (hb : blkB (s.getD j 0) = true) : skipS (s.drop j) = skipS (s.drop (j + 1)) := by rw [drop_cons h, skip_cons hb]
theorem sk_end {s : Tx} {j : Nat} (h : j < s.length → blkB (s.getD j 0) = false) : skipS (s.drop j) = s.drop j := by
  rcases Nat.lt_or_ge j s.length with hj | hj
  · rw [drop_cons hj, skip_stay (h hj)]
  · rw [drop_none hj]; rfl
theorem run_step {s : Tx} {j : Nat} (h : j < s.length) (hb : runB (s.getD j 0) = true) : runS (s.drop j) = s.getD j 0 :: runS (s.drop (j + 1)) ∧ offS (s.drop j) = offS (s.drop (j + 1)) := by
  rw [drop_cons h, runS_cons hb]
  refine ⟨rfl, ?_⟩
  unfold offS; rw [List.dropWhile_cons, if_pos hb]
theorem run_end {s : Tx} {j : Nat} (h : j < s.length → runB (s.getD j 0) = false) : runS (s.drop j) = [] ∧ offS (s.drop j) = s.drop j := by
  rcases Nat.lt_or_ge j s.length with hj | hj
  · rw [drop_cons hj, runS_no (h hj), offS_no (h hj)]; exact ⟨rfl, rfl⟩
  · rw [drop_none hj]; exact ⟨rfl, rfl⟩
theorem take_step {s : Tx} {i j : Nat} (h : j < s.length) (hi : i ≤ j) (Z : Tx) : (s.take j).drop i ++ s.getD j 0 :: Z = (s.take (j + 1)).drop i ++ Z := by
  have : s.take (j + 1) = s.take j ++ [s.getD j 0] := by
    rw [List.take_add_one]; simp [List.getD, List.getElem?_eq_getElem h]
  rw [this, List.drop_append_of_le_length (by simp; omega)]
  simp
theorem head_is {s : Tx} {j n : Nat} (c : UInt8) (hc : c.toNat = n) (hn : 0 < n) (h : (((s.drop j).headD 0).toNat : Int) = (n : Int)) : j < s.length ∧ s.drop j = c :: s.drop (j + 1) := by
  rcases Nat.lt_or_ge j s.length with hj | hj
  · refine ⟨hj, ?_⟩
    rw [drop_cons hj] at h ⊢
    simp only [List.headD_cons] at h
    have : s.getD j 0 = c := UInt8.toNat_inj.1 (by omega)
    rw [this]
  · rw [drop_none hj] at h; simp at h; omega
theorem head_no {s : Tx} {j n : Nat} {c : UInt8} (hc : c.toNat = n) (h : ¬ (((s.drop j).headD 0).toNat : Int) = (n : Int)) : (s.drop j).head? ≠ some c := by
  intro e
  cases e2 : s.drop j with
  | nil => rw [e2] at e; simp at e
  | cons x r => rw [e2] at e h; simp at e; subst e; simp at h; omega
theorem quo_end {r : Tx} : quoS (34 :: r) = some r := by cases r <;> simp [quoS]
theorem quo_esc {c : UInt8} {r : Tx} : quoS (92 :: c :: r) = quoS r := by simp [quoS]
theorem quo_esc1 : quoS [92] = none := by simp [quoS]
theorem quo_step {c : UInt8} {r : Tx} (h1 : c ≠ 34) (h2 : c ≠ 92) : quoS (c :: r) = quoS r := by cases r <;> simp [quoS, h1, h2]
/-- the reader of a list -/
def wob (b : Nat) (s : Tx) (i : Nat) : Nat × Ob := (b, ⟨2, 1, [[.d (.str s), .d (.int .i64 i)]]⟩)
attribute [go_sem] wob
def errV : AV := .ifc 26 (.d (.int .i64 3))
set_option maxRecDepth 4000 in
set_option maxHeartbeats 1000000 in
theorem skip_c (T : Tbl) (b : Nat) (s : Tx) (i : Nat) (F : List (Nat × Ob)) (L : List Nat) (hi : i ≤ s.length) (hs : s.length ≤ 4096) : AC Tryd.prog T 129 [.ptr b 2 0 0] (⟨wob b s i :: F, L⟩) (fun x h => ∃ j, i ≤ j ∧ j ≤ s.length ∧ s.drop j = skipS (s.drop i) ∧ x = .ret (.tup []) ∧ h = ⟨wob b s j :: F, L⟩) := by
  refine ⟨Tryd.call129, ACalls.enterS Tryd.func129 rfl Tryd.ntmps129 rfl fun hb => ?_⟩
  simp only [go_sem, Tryd.results129]
  refine AWp.block ?_
  refine AWp.loopS [true] [] (fun n lc hc => ∃ (j : Nat), n = s.length - j ∧ EqS lc [] ∧ EqS hc (⟨wob b s j :: F, L⟩) ∧ (i ≤ j) ∧ (j ≤ s.length) ∧ (skipS (s.drop j) = skipS (s.drop i))) rfl ?_ ?_
  · refine ⟨_, i, rfl, ?_, ?_, ?_, ?_, ?_⟩
    · (try simp only [go_sem, wob]) <;> first | exact ⟨rfl⟩ | (constructor; simp; done)
    · (try simp only [go_sem, wob]) <;> first | exact ⟨rfl⟩ | (constructor; simp; done)
    all_goals (first | omega | rfl | (simp; done) | (simp; omega) | assumption)
  · rintro _ _ _ ⟨j, rfl, ⟨rfl⟩, ⟨rfl⟩, h1, h2, h3⟩
    simp only [go_sem]
    refine AWp.seq fun K1 hK1 => ?_
    refine AWp.ds true [0, 1, 2, 3, 4, 5, 6, 7, 8, 9, 10, 11, 12, 13, 14, 15, 16, 17, 18, 19, 20, 21, 22, 23, 24, 25, 26, 27, 28, 29, 30, 31, 32, 33] rfl (by kernel_rfl) fun K2 hK2 => ?_
    try simp only [go_sem, wob]
    (repeat (with_reducible refine And.intro ?_ ?_; (first | omega | (intro _; omega) | decide | (exact nfB) | (intro _; exact nfB) | (intro hg; refine ⟨hg, ?_⟩; omega) | (simp; done) | (simp; omega) | (intro hg; simp at hg; done) | (intro hg; simp at hg ⊢; first | omega | exact hg | grind))))
    refine hK2 _ _ ?_
    try clear hK2 K2
    refine AWp.mask [true, false, false, false, false, false, false, false, false, false, false, false, false, false, false, false, false, false, false, false, false, false, false, false, false, false, false, false, false, false, false, false, false, false, true] rfl ?_
    simp only [go_sem]
    refine AWp.cond _ rfl (fun hc0 => ?_) (fun hc0 => ?_)
    · skip
      try simp only [decide_eq_true_eq, decide_eq_false_iff_not, Bool.not_eq_true', Bool.not_eq_false', Bool.and_eq_true, Bool.or_eq_true, Bool.and_eq_false_iff, Bool.or_eq_false_iff, Int.not_lt, Int.not_le, beq_iff_eq, beq_eq_false_iff_ne, ne_eq, Bool.not_eq_true, Bool.not_eq_false] at hc0
      refine AWp.skip ?_
      refine thenQ_n ?_
      refine hK1 _ _ ?_
      try clear hK1 K1
      refine AWp.block ?_
      refine AWp.rk fun K3 hK3 => ?_
      try simp only [go_sem, wob]
      (repeat (with_reducible refine And.intro ?_ ?_; (first | omega | (intro _; omega) | decide | (exact nfB) | (intro _; exact nfB) | (intro hg; refine ⟨hg, ?_⟩; omega) | (simp; done) | (simp; omega) | (intro hg; simp at hg; done) | (intro hg; simp at hg ⊢; first | omega | exact hg | grind))))
      refine hK3 _ _ ?_
      try clear hK3 K3
      refine blkQ_n (thenQ_n ?_)
      refine EndS.mk [true] [] [] [] [b] [] rfl ?_ ?_
      · (try simp only [go_sem, wob]) <;> try rfl
      refine .e ⟨_, ?_, j + 1, rfl, ?_, ?_, ?_, ?_, ?_⟩
      · first | omega | (simp; omega) | (grind)
      · (try simp only [go_sem, wob]) <;> first | exact ⟨rfl⟩ | (constructor; simp; done)
      · (try simp only [go_sem, wob]) <;> first | exact ⟨rfl⟩ | (constructor; simp [wob]; done)
      · omega
      · omega
      · rw [← sk_step (by omega) (blk_of (by simpa using hc0.2))]; exact h3
    · skip
      try simp only [decide_eq_true_eq, decide_eq_false_iff_not, Bool.not_eq_true', Bool.not_eq_false', Bool.and_eq_true, Bool.or_eq_true, Bool.and_eq_false_iff, Bool.or_eq_false_iff, Int.not_lt, Int.not_le, beq_iff_eq, beq_eq_false_iff_ne, ne_eq, Bool.not_eq_true, Bool.not_eq_false] at hc0
      refine AWp.exit ?_
      refine thenQ_e (thenQ_e (blkQ_e ?_))
      apply endW_n [] [] [b] [] (by (try simp only [go_sem, wob]); rfl)
      · refine ⟨j, h1, h2, ?_, rfl, ?_⟩
        · rw [← h3, sk_end (fun hj => blk_no (fun hb => ?_))]
          rcases hc0 with hc0 | hc0
          · omega
          · omega
        · simp only [go_sem, wob]
      · simp only [LeA, LeL]
set_option maxRecDepth 4000 in
set_option maxHeartbeats 1000000 in
theorem next_c (T : Tbl) (b : Nat) (s : Tx) (i : Nat) (F : List (Nat × Ob)) (L : List Nat) (hi : i ≤ s.length) (hs : s.length ≤ 4096) : AC Tryd.prog T 131 [.ptr b 2 0 0] (⟨wob b s i :: F, L⟩) (fun x h => x = .ret (.d (.int .u8 ((s.drop i).headD 0).toNat)) ∧ h = ⟨wob b s i :: F, L⟩) := by
  refine ⟨Tryd.call131, ACalls.enterS Tryd.func131 rfl Tryd.ntmps131 rfl fun hb => ?_⟩
  simp only [go_sem, Tryd.results131]
  refine AWp.rs fun K1 hK1 => ?_
  try simp only [go_sem, wob]
  (repeat (with_reducible refine And.intro ?_ ?_; (first | omega | (intro _; omega) | decide | (exact nfB) | (intro _; exact nfB) | (intro hg; refine ⟨hg, ?_⟩; omega) | (simp; done) | (simp; omega) | (intro hg; simp at hg; done) | (intro hg; simp at hg ⊢; first | omega | exact hg | grind))))
  refine hK1 _ _ ?_
  try clear hK1 K1
  refine AWp.seq fun K2 hK2 => ?_
  refine AWp.ds true [0, 1, 2, 3, 4, 5, 6, 7, 8, 9] rfl (by kernel_rfl) fun K3 hK3 => ?_
  try simp only [go_sem, wob]
  (repeat (with_reducible refine And.intro ?_ ?_; (first | omega | (intro _; omega) | decide | (exact nfB) | (intro _; exact nfB) | (intro hg; refine ⟨hg, ?_⟩; omega) | (simp; done) | (simp; omega) | (intro hg; simp at hg; done) | (intro hg; simp at hg ⊢; first | omega | exact hg | grind))))
  refine hK3 _ _ ?_
  try clear hK3 K3
  refine AWp.mask [true, false, false, false, false, false, false, false, false, false, false, true] rfl ?_
  simp only [go_sem]
  refine AWp.cond _ rfl (fun hc0 => ?_) (fun hc0 => ?_)
  · skip
    try simp only [decide_eq_true_eq, decide_eq_false_iff_not, Bool.not_eq_true', Bool.not_eq_false', Bool.and_eq_true, Bool.or_eq_true, Bool.and_eq_false_iff, Bool.or_eq_false_iff, Int.not_lt, Int.not_le, beq_iff_eq, beq_eq_false_iff_ne, ne_eq, Bool.not_eq_true, Bool.not_eq_false] at hc0
    refine AWp.rs fun K4 hK4 => ?_
    try simp only [go_sem, wob]
    (repeat (with_reducible refine And.intro ?_ ?_; (first | omega | (intro _; omega) | decide | (exact nfB) | (intro _; exact nfB) | (intro hg; refine ⟨hg, ?_⟩; omega) | (simp; done) | (simp; omega) | (intro hg; simp at hg; done) | (intro hg; simp at hg ⊢; first | omega | exact hg | grind))))
    refine hK4 _ _ ?_
    try clear hK4 K4
    refine AWp.ret ?_
    try simp only [thenQ, blkQ]
    apply endW_r [] [] [b] [] (by (try simp only [go_sem, wob]); rfl)
    · refine ⟨rfl, ?_⟩
      simp only [go_sem, wob]
    · rw [drop_none (by omega)]; simp [LeA, LeD]
  · skip
    try simp only [decide_eq_true_eq, decide_eq_false_iff_not, Bool.not_eq_true', Bool.not_eq_false', Bool.and_eq_true, Bool.or_eq_true, Bool.and_eq_false_iff, Bool.or_eq_false_iff, Int.not_lt, Int.not_le, beq_iff_eq, beq_eq_false_iff_ne, ne_eq, Bool.not_eq_true, Bool.not_eq_false] at hc0
    refine AWp.skip ?_
    refine thenQ_n ?_
    refine hK2 _ _ ?_
    try clear hK2 K2
    refine AWp.ds true [0, 1, 2, 3, 4, 5, 6, 7, 8, 9] rfl (by kernel_rfl) fun K5 hK5 => ?_
    try simp only [go_sem, wob]
    (repeat (with_reducible refine And.intro ?_ ?_; (first | omega | (intro _; omega) | decide | (exact nfB) | (intro _; exact nfB) | (intro hg; refine ⟨hg, ?_⟩; omega) | (simp; done) | (simp; omega) | (intro hg; simp at hg; done) | (intro hg; simp at hg ⊢; first | omega | exact hg | grind))))
    refine hK5 _ _ ?_
    try clear hK5 K5
    refine AWp.mask [false, true] rfl ?_
    simp only [go_sem]
    refine AWp.ret ?_
    try simp only [thenQ, blkQ]
    apply endW_r [] [] [b] [] (by (try simp only [go_sem, wob]); rfl)
    · refine ⟨rfl, ?_⟩
      simp only [go_sem, wob]
    · rw [drop_cons (by omega)]; simp [LeA, LeD]
set_option maxRecDepth 4000 in
set_option maxHeartbeats 1000000 in
theorem run_c (T : Tbl) (b : Nat) (s : Tx) (i : Nat) (F : List (Nat × Ob)) (L : List Nat) (hi : i ≤ s.length) (hs : s.length ≤ 4096) : AC Tryd.prog T 146 [.ptr b 2 0 0] (⟨wob b s i :: F, L⟩) (fun x h => ∃ j, i ≤ j ∧ j ≤ s.length ∧ s.drop j = offS (s.drop i) ∧ x = .ret (.d (.str (runS (s.drop i)))) ∧ h = ⟨wob b s j :: F, L⟩) := by
  refine ⟨Tryd.call146, ACalls.enterS Tryd.func146 rfl Tryd.ntmps146 rfl fun hb => ?_⟩
  simp only [go_sem, Tryd.results146]
  refine AWp.rs fun K1 hK1 => ?_
  try simp only [go_sem, wob]
  (repeat (with_reducible refine And.intro ?_ ?_; (first | omega | (intro _; omega) | decide | (exact nfB) | (intro _; exact nfB) | (intro hg; refine ⟨hg, ?_⟩; omega) | (simp; done) | (simp; omega) | (intro hg; simp at hg; done) | (intro hg; simp at hg ⊢; first | omega | exact hg | grind))))
  refine hK1 _ _ ?_
  try clear hK1 K1
  refine AWp.rs fun K2 hK2 => ?_
  try simp only [go_sem, wob]
  (repeat (with_reducible refine And.intro ?_ ?_; (first | omega | (intro _; omega) | decide | (exact nfB) | (intro _; exact nfB) | (intro hg; refine ⟨hg, ?_⟩; omega) | (simp; done) | (simp; omega) | (intro hg; simp at hg; done) | (intro hg; simp at hg ⊢; first | omega | exact hg | grind))))
  refine hK2 _ _ ?_
  try clear hK2 K2
  refine AWp.mask [true, false, true] rfl ?_
  simp only [go_sem]
  refine AWp.seq fun K3 hK3 => ?_
  refine AWp.block ?_
  refine AWp.loopS [true, true] [] (fun n lc hc => ∃ (j : Nat), n = s.length - j ∧ EqS lc [] ∧ EqS hc (⟨wob b s j :: F, L⟩) ∧ (i ≤ j) ∧ (j ≤ s.length) ∧ (offS (s.drop j) = offS (s.drop i)) ∧ ((s.take j).drop i ++ runS (s.drop j) = runS (s.drop i))) rfl ?_ ?_
  · refine ⟨_, i, rfl, ?_, ?_, ?_, ?_, ?_, ?_⟩
    · (try simp only [go_sem, wob]) <;> first | exact ⟨rfl⟩ | (constructor; simp; done)
    · (try simp only [go_sem, wob]) <;> first | exact ⟨rfl⟩ | (constructor; simp; done)
    all_goals (first | omega | rfl | (simp; done))
  · rintro _ _ _ ⟨j, rfl, ⟨rfl⟩, ⟨rfl⟩, h1, h2, h3, h4⟩
    simp only [go_sem]
    refine AWp.seq fun K4 hK4 => ?_
    refine AWp.ds true [0, 1, 2, 3, 4, 5, 6, 7, 8, 9, 10, 11, 12, 13, 14, 15, 16, 17, 18, 19, 20, 21, 22, 23, 24, 25, 26, 27, 28, 29, 30, 31, 32, 33] rfl (by kernel_rfl) fun K5 hK5 => ?_
    try simp only [go_sem, wob]
    (repeat (with_reducible refine And.intro ?_ ?_; (first | omega | (intro _; omega) | decide | (exact nfB) | (intro _; exact nfB) | (intro hg; refine ⟨hg, ?_⟩; omega) | (simp; done) | (simp; omega) | (intro hg; simp at hg; done) | (intro hg; simp at hg ⊢; first | omega | exact hg | grind))))
    refine DW.pcgr rfl rfl rfl rfl rfl (fun hg => atom_p T _) (fun hg => by (try simp only [go_sem, wob]) <;> first | exact hg | (exfalso; simp at hg; done) | (simpa using hg) | grind) rfl rfl ?_
    try simp only [go_sem, wob]
    (repeat (with_reducible refine And.intro ?_ ?_; (first | omega | (intro _; omega) | decide | (exact nfB) | (intro _; exact nfB) | (intro hg; refine ⟨hg, ?_⟩; omega) | (simp; done) | (simp; omega) | (intro hg; simp at hg; done) | (intro hg; simp at hg ⊢; first | omega | exact hg | grind))))
    refine hK5 _ _ ?_
    try clear hK5 K5
    refine AWp.mask [true, true, false, false, false, false, false, false, false, false, false, false, false, false, false, false, false, false, false, false, false, false, false, false, false, false, false, false, false, false, false, false, false, false, false, true] rfl ?_
    simp only [go_sem]
    refine AWp.cond _ rfl (fun hc0 => ?_) (fun hc0 => ?_)
    · skip
      try simp only [decide_eq_true_eq, decide_eq_false_iff_not, Bool.not_eq_true', Bool.not_eq_false', Bool.and_eq_true, Bool.or_eq_true, Bool.and_eq_false_iff, Bool.or_eq_false_iff, Int.not_lt, Int.not_le, beq_iff_eq, beq_eq_false_iff_ne, ne_eq, Bool.not_eq_true, Bool.not_eq_false] at hc0
      have hrb : ∀ h, runB (s.getD j 0) = true := fun (h : (atomB (s.getD j 0) = true ∨ ((s.getD j 0).toNat : Int) = 46)) => by rw [runB_eq]; simpa using h
      refine AWp.skip ?_
      refine thenQ_n ?_
      refine hK4 _ _ ?_
      try clear hK4 K4
      refine AWp.block ?_
      refine AWp.rk fun K6 hK6 => ?_
      try simp only [go_sem, wob]
      (repeat (with_reducible refine And.intro ?_ ?_; (first | omega | (intro _; omega) | decide | (exact nfB) | (intro _; exact nfB) | (intro hg; refine ⟨hg, ?_⟩; omega) | (simp; done) | (simp; omega) | (intro hg; simp at hg; done) | (intro hg; simp at hg ⊢; first | omega | exact hg | grind))))
      refine hK6 _ _ ?_
      try clear hK6 K6
      refine blkQ_n (thenQ_n ?_)
      refine EndS.mk [true, true] [] [] [] [b] [] rfl ?_ ?_
      · (try simp only [go_sem, wob]) <;> try rfl
      refine .e ⟨_, ?_, j + 1, rfl, ?_, ?_, ?_, ?_, ?_, ?_⟩
      · first | omega | (simp; omega) | (grind)
      · (try simp only [go_sem, wob]) <;> first | exact ⟨rfl⟩ | (constructor; simp; done)
      · (try simp only [go_sem, wob]) <;> first | exact ⟨rfl⟩ | (constructor; simp [wob]; done)
      · omega
      · omega
      · rw [← (run_step (by omega) (hrb hc0.2)).2]; exact h3
      · rw [(run_step (by omega) (hrb hc0.2)).1, take_step (by omega) h1] at h4; exact h4
    · skip
      try simp only [decide_eq_true_eq, decide_eq_false_iff_not, Bool.not_eq_true', Bool.not_eq_false', Bool.and_eq_true, Bool.or_eq_true, Bool.and_eq_false_iff, Bool.or_eq_false_iff, Int.not_lt, Int.not_le, beq_iff_eq, beq_eq_false_iff_ne, ne_eq, Bool.not_eq_true, Bool.not_eq_false] at hc0
      have he := run_end (s := s) (j := j) (fun hj => by
        rw [runB_eq]
        rcases hc0 with hc0 | hc0
        · omega
        · simpa using hc0)
      refine AWp.exit ?_
      refine thenQ_e (thenQ_e (blkQ_e (thenQ_n ?_)))
      refine hK3 _ _ ?_
      try clear hK3 K3
      refine AWp.ds true [0, 1, 2, 3, 4, 5, 6, 7, 8, 9, 10] rfl (by kernel_rfl) fun K7 hK7 => ?_
      try simp only [go_sem, wob]
      (repeat (with_reducible refine And.intro ?_ ?_; (first | omega | (intro _; omega) | decide | (exact nfB) | (intro _; exact nfB) | (intro hg; refine ⟨hg, ?_⟩; omega) | (simp; done) | (simp; omega) | (intro hg; simp at hg; done) | (intro hg; simp at hg ⊢; first | omega | exact hg | grind))))
      refine hK7 _ _ ?_
      try clear hK7 K7
      refine AWp.mask [false, true] rfl ?_
      simp only [go_sem]
      refine AWp.ret ?_
      try simp only [thenQ, blkQ]
      apply endW_r [] [] [b] [] (by (try simp only [go_sem, wob]); rfl)
      · refine ⟨j, h1, h2, ?_, rfl, ?_⟩
        · rw [← h3, he.2]
        · simp only [go_sem, wob]
      · rw [he.1, List.append_nil] at h4; rw [← h4]; simp [LeA, LeD]
set_option maxRecDepth 4000 in
set_option maxHeartbeats 1000000 in
theorem must_c (T : Tbl) (ok : Bool) (h : AH) : AC Tryd.prog T 130 [.d (.bool ok)] (h) (fun x h' => (ok = false ∧ x = .pan errV ∧ h' = h) ∨ (ok = true ∧ x = .ret (.tup []) ∧ h' = h)) := by
  refine ⟨Tryd.call130, ACalls.enterS Tryd.func130 rfl Tryd.ntmps130 rfl fun hb => ?_⟩
  simp only [go_sem, Tryd.results130]
  refine AWp.rs fun K1 hK1 => ?_
  try simp only [go_sem]
  (repeat (with_reducible refine And.intro ?_ ?_; (first | omega | (intro _; omega) | decide | (exact nfB) | (intro _; exact nfB) | (intro hg; refine ⟨hg, ?_⟩; omega) | (simp; done) | (simp; omega) | (intro hg; simp at hg; done) | (intro hg; simp at hg ⊢; first | omega | exact hg | grind))))
  refine hK1 _ _ ?_
  try clear hK1 K1
  refine AWp.cond _ rfl (fun hc0 => ?_) (fun hc0 => ?_)
  · skip
    try simp only [decide_eq_true_eq, decide_eq_false_iff_not, Bool.not_eq_true', Bool.not_eq_false', Bool.and_eq_true, Bool.or_eq_true, Bool.and_eq_false_iff, Bool.or_eq_false_iff, Int.not_lt, Int.not_le, beq_iff_eq, beq_eq_false_iff_ne, ne_eq, Bool.not_eq_true, Bool.not_eq_false] at hc0
    refine AWp.rk fun K2 hK2 => ?_
    try simp only [go_sem]
    (repeat (with_reducible refine And.intro ?_ ?_; (first | omega | (intro _; omega) | decide | (exact nfB) | (intro _; exact nfB) | (intro hg; refine ⟨hg, ?_⟩; omega) | (simp; done) | (simp; omega) | (intro hg; simp at hg; done) | (intro hg; simp at hg ⊢; first | omega | exact hg | grind))))
    refine DW.panic rfl rfl rfl ?_
    intro _
    refine endW_p [] [] [] [] ?_
    exact .inl ⟨by simpa using hc0, rfl, rfl⟩
  · skip
    try simp only [decide_eq_true_eq, decide_eq_false_iff_not, Bool.not_eq_true', Bool.not_eq_false', Bool.and_eq_true, Bool.or_eq_true, Bool.and_eq_false_iff, Bool.or_eq_false_iff, Int.not_lt, Int.not_le, beq_iff_eq, beq_eq_false_iff_ne, ne_eq, Bool.not_eq_true, Bool.not_eq_false] at hc0
    refine AWp.skip ?_
    apply endW_n [] [] [] [] (by (try simp only [go_sem]); rfl)
    · exact .inr ⟨by simpa using hc0, rfl, rfl⟩
    · simp only [LeA, LeL]
set_option maxRecDepth 4000 in
set_option maxHeartbeats 1000000 in
theorem quoted_c (T : Tbl) (b : Nat) (s : Tx) (i : Nat) (F : List (Nat × Ob)) (L : List Nat) (hi : i < s.length) (hs : s.length ≤ 4096) : AC Tryd.prog T 144 [.ptr b 2 0 0] (⟨wob b s i :: F, L⟩) (fun x h => (quoS (s.drop (i + 1)) = none ∧ x = .pan errV ∧ ∃ j, h = ⟨wob b s j :: F, L⟩) ∨ ∃ j, i < j ∧ j ≤ s.length ∧ quoS (s.drop (i + 1)) = some (s.drop j) ∧ x = .ret (.tup []) ∧ h = ⟨wob b s j :: F, L⟩) := by
  refine ⟨Tryd.call144, ACalls.enterS Tryd.func144 rfl Tryd.ntmps144 rfl fun hb => ?_⟩
  simp only [go_sem, Tryd.results144]
  refine AWp.seq fun K1 hK1 => ?_
  refine AWp.rs fun K2 hK2 => ?_
  try simp only [go_sem, wob]
  (repeat (with_reducible refine And.intro ?_ ?_; (first | omega | (intro _; omega) | decide | (exact nfB) | (intro _; exact nfB) | (intro hg; refine ⟨hg, ?_⟩; omega) | (simp; done) | (simp; omega) | (intro hg; simp at hg; done) | (intro hg; simp at hg ⊢; first | omega | exact hg | grind))))
  refine hK2 _ _ ?_
  try clear hK2 K2
  refine AWp.mask [true] rfl ?_
  simp only [go_sem]
  refine AWp.block ?_
  refine AWp.loopS [true] [] (fun n lc hc => ∃ (j : Nat), n = s.length - j ∧ EqS lc [] ∧ EqS hc (⟨wob b s j :: F, L⟩) ∧ (i < j) ∧ (j ≤ s.length) ∧ (quoS (s.drop j) = quoS (s.drop (i + 1)))) rfl ?_ ?_
  · refine ⟨_, i + 1, rfl, ?_, ?_, ?_, ?_, ?_⟩
    · (try simp only [go_sem, wob]) <;> first | exact ⟨rfl⟩ | (constructor; simp; done)
    · (try simp only [go_sem, wob]) <;> first | exact ⟨rfl⟩ | (constructor; simp [wob]; done)
    all_goals (first | omega | rfl | (simp; done) | (simp; omega) | assumption)
  · rintro _ _ _ ⟨j, rfl, ⟨rfl⟩, ⟨rfl⟩, h1, h2, h3⟩
    simp only [go_sem]
    refine AWp.seq fun K3 hK3 => ?_
    refine AWp.rs fun K4 hK4 => ?_
    try simp only [go_sem, wob]
    (repeat (with_reducible refine And.intro ?_ ?_; (first | omega | (intro _; omega) | decide | (exact nfB) | (intro _; exact nfB) | (intro hg; refine ⟨hg, ?_⟩; omega) | (simp; done) | (simp; omega) | (intro hg; simp at hg; done) | (intro hg; simp at hg ⊢; first | omega | exact hg | grind))))
    refine DW.acp [b] [] rfl rfl rfl rfl (by (try simp only [go_sem, wob]); rfl) rfl (next_c T b s j _ _ (by omega) hs) ?_
    rintro _ _ ⟨rfl, rfl⟩
    try simp only [go_sem, wob]
    (repeat (with_reducible refine And.intro ?_ ?_; (first | omega | (intro _; omega) | decide | (exact nfB) | (intro _; exact nfB) | (intro hg; refine ⟨hg, ?_⟩; omega) | (simp; done) | (simp; omega) | (intro hg; simp at hg; done) | (intro hg; simp at hg ⊢; first | omega | exact hg | grind))))
    refine hK4 _ _ ?_
    try clear hK4 K4
    refine AWp.cond _ rfl (fun hc0 => ?_) (fun hc0 => ?_)
    · skip
      try simp only [decide_eq_true_eq, decide_eq_false_iff_not, Bool.not_eq_true', Bool.not_eq_false', Bool.and_eq_true, Bool.or_eq_true, Bool.and_eq_false_iff, Bool.or_eq_false_iff, Int.not_lt, Int.not_le, beq_iff_eq, beq_eq_false_iff_ne, ne_eq, Bool.not_eq_true, Bool.not_eq_false] at hc0
      have hn34 := head_no (c := 34) rfl hc0
      refine AWp.skip ?_
      refine thenQ_n ?_
      refine hK3 _ _ ?_
      try clear hK3 K3
      refine AWp.seq fun K5 hK5 => ?_
      refine AWp.block ?_
      refine AWp.seq fun K6 hK6 => ?_
      refine AWp.rs fun K7 hK7 => ?_
      try simp only [go_sem, wob]
      (repeat (with_reducible refine And.intro ?_ ?_; (first | omega | (intro _; omega) | decide | (exact nfB) | (intro _; exact nfB) | (intro hg; refine ⟨hg, ?_⟩; omega) | (simp; done) | (simp; omega) | (intro hg; simp at hg; done) | (intro hg; simp at hg ⊢; first | omega | exact hg | grind))))
      refine DW.acp [b] [] rfl rfl rfl rfl (by (try simp only [go_sem, wob]); rfl) rfl (next_c T b s j _ _ (by omega) hs) ?_
      rintro _ _ ⟨rfl, rfl⟩
      try simp only [go_sem, wob]
      (repeat (with_reducible refine And.intro ?_ ?_; (first | omega | (intro _; omega) | decide | (exact nfB) | (intro _; exact nfB) | (intro hg; refine ⟨hg, ?_⟩; omega) | (simp; done) | (simp; omega) | (intro hg; simp at hg; done) | (intro hg; simp at hg ⊢; first | omega | exact hg | grind))))
      refine hK7 _ _ ?_
      try clear hK7 K7
      refine AWp.mask [true, false, false, false, false, false, true] rfl ?_
      simp only [go_sem]
      refine AWp.cond _ rfl (fun hc1 => ?_) (fun hc1 => ?_)
      · skip
        try simp only [decide_eq_true_eq, decide_eq_false_iff_not, Bool.not_eq_true', Bool.not_eq_false', Bool.and_eq_true, Bool.or_eq_true, Bool.and_eq_false_iff, Bool.or_eq_false_iff, Int.not_lt, Int.not_le, beq_iff_eq, beq_eq_false_iff_ne, ne_eq, Bool.not_eq_true, Bool.not_eq_false] at hc1
        obtain ⟨hj, hd⟩ := head_is 92 rfl (by decide) hc1
        have hst : quoS (s.drop (j + 1 + 1)) = quoS (s.drop j) ∨ s.length ≤ j + 1 := by
          rcases Nat.lt_or_ge (j + 1) s.length with h | h
          · left; rw [hd, drop_cons h, quo_esc]
          · exact .inr h
        refine AWp.rk fun K8 hK8 => ?_
        try simp only [go_sem, wob]
        (repeat (with_reducible refine And.intro ?_ ?_; (first | omega | (intro _; omega) | decide | (exact nfB) | (intro _; exact nfB) | (intro hg; refine ⟨hg, ?_⟩; omega) | (simp; done) | (simp; omega) | (intro hg; simp at hg; done) | (intro hg; simp at hg ⊢; first | omega | exact hg | grind))))
        refine hK8 _ _ ?_
        try clear hK8 K8
        refine thenQ_n ?_
        refine hK6 _ _ ?_
        try clear hK6 K6
        refine AWp.mask [true] rfl ?_
        simp only [go_sem]
        refine AWp.dk false [0, 1, 2, 3, 4, 5, 6, 7, 8, 9, 10] rfl (by kernel_rfl) fun K9 hK9 => ?_
        try simp only [go_sem, wob]
        (repeat (with_reducible refine And.intro ?_ ?_; (first | omega | (intro _; omega) | decide | (exact nfB) | (intro _; exact nfB) | (intro hg; refine ⟨hg, ?_⟩; omega) | (simp; done) | (simp; omega) | (intro hg; simp at hg; done) | (intro hg; simp at hg ⊢; first | omega | exact hg | grind))))
        refine DW.acp [] [] rfl rfl rfl rfl (by (try simp only [go_sem, wob]); rfl) rfl (must_c T _ _) ?_
        rintro _ _ (⟨hm10, rfl, rfl⟩ | ⟨hm10, rfl, rfl⟩)
        · skip
          intro _
          try simp only [thenQ, blkQ]
          refine endW_p [] [] [b] [] ?_
          simp only [decide_eq_true_eq, decide_eq_false_iff_not, Bool.not_eq_true', Bool.not_eq_false', Bool.and_eq_true, Bool.or_eq_true, Bool.and_eq_false_iff, Bool.or_eq_false_iff, Int.not_lt, Int.not_le, beq_iff_eq, beq_eq_false_iff_ne, ne_eq, Bool.not_eq_true, Bool.not_eq_false] at hm10
          first | exact .inl ⟨by rw [← h3, hd, drop_none (by omega)]; exact quo_esc1, rfl, j + 1, by simp [go_sem, wob]⟩ | exact .inl ⟨by rw [← h3, drop_none (by omega)]; rfl, rfl, j, by simp only [go_sem, wob]⟩
        simp only [decide_eq_true_eq, decide_eq_false_iff_not, Bool.not_eq_true', Bool.not_eq_false', Bool.and_eq_true, Bool.or_eq_true, Bool.and_eq_false_iff, Bool.or_eq_false_iff, Int.not_lt, Int.not_le, beq_iff_eq, beq_eq_false_iff_ne, ne_eq, Bool.not_eq_true, Bool.not_eq_false] at hm10
        try simp only [go_sem, wob]
        (repeat (with_reducible refine And.intro ?_ ?_; (first | omega | (intro _; omega) | decide | (exact nfB) | (intro _; exact nfB) | (intro hg; refine ⟨hg, ?_⟩; omega) | (simp; done) | (simp; omega) | (intro hg; simp at hg; done) | (intro hg; simp at hg ⊢; first | omega | exact hg | grind))))
        refine hK9 _ _ ?_
        try clear hK9 K9
        refine blkQ_n (thenQ_n ?_)
        refine hK5 _ _ ?_
        try clear hK5 K5
        refine AWp.mask [true] rfl ?_
        simp only [go_sem]
        refine AWp.rk fun K11 hK11 => ?_
        try simp only [go_sem, wob]
        (repeat (with_reducible refine And.intro ?_ ?_; (first | omega | (intro _; omega) | decide | (exact nfB) | (intro _; exact nfB) | (intro hg; refine ⟨hg, ?_⟩; omega) | (simp; done) | (simp; omega) | (intro hg; simp at hg; done) | (intro hg; simp at hg ⊢; first | omega | exact hg | grind))))
        refine hK11 _ _ ?_
        try clear hK11 K11
        refine thenQ_n ?_
        refine EndS.mk [true] [] [] [] [b] [] rfl ?_ ?_
        · (try simp only [go_sem, wob]) <;> try rfl
        refine .e ⟨_, ?_, j + 1 + 1, rfl, ?_, ?_, ?_, ?_, ?_⟩
        · first | omega | (simp; omega) | (grind)
        · (try simp only [go_sem, wob]) <;> first | exact ⟨rfl⟩ | (constructor; simp; done)
        · (try simp only [go_sem, wob]) <;> first | exact ⟨rfl⟩ | (constructor; simp [wob]; done)
        · omega
        · omega
        · rcases hst with e | e <;> first | omega | (rw [e]; exact h3)
      · skip
        try simp only [decide_eq_true_eq, decide_eq_false_iff_not, Bool.not_eq_true', Bool.not_eq_false', Bool.and_eq_true, Bool.or_eq_true, Bool.and_eq_false_iff, Bool.or_eq_false_iff, Int.not_lt, Int.not_le, beq_iff_eq, beq_eq_false_iff_ne, ne_eq, Bool.not_eq_true, Bool.not_eq_false] at hc1
        have hn92 := head_no (c := 92) rfl hc1
        have hst : s.length ≤ j ∨ quoS (s.drop (j + 1)) = quoS (s.drop j) := by
          rcases Nat.lt_or_ge j s.length with h | h
          · right
            rw [drop_cons h] at hn34 hn92 ⊢
            simp at hn34 hn92
            exact (quo_step hn34 hn92).symm
          · exact .inl h
        refine AWp.skip ?_
        refine thenQ_n ?_
        refine hK6 _ _ ?_
        try clear hK6 K6
        refine AWp.dk false [0, 1, 2, 3, 4, 5, 6, 7, 8, 9, 10] rfl (by kernel_rfl) fun K12 hK12 => ?_
        try simp only [go_sem, wob]
        (repeat (with_reducible refine And.intro ?_ ?_; (first | omega | (intro _; omega) | decide | (exact nfB) | (intro _; exact nfB) | (intro hg; refine ⟨hg, ?_⟩; omega) | (simp; done) | (simp; omega) | (intro hg; simp at hg; done) | (intro hg; simp at hg ⊢; first | omega | exact hg | grind))))
        refine DW.acp [] [] rfl rfl rfl rfl (by (try simp only [go_sem, wob]); rfl) rfl (must_c T _ _) ?_
        rintro _ _ (⟨hm13, rfl, rfl⟩ | ⟨hm13, rfl, rfl⟩)
        · skip
          intro _
          try simp only [thenQ, blkQ]
          refine endW_p [] [] [b] [] ?_
          simp only [decide_eq_true_eq, decide_eq_false_iff_not, Bool.not_eq_true', Bool.not_eq_false', Bool.and_eq_true, Bool.or_eq_true, Bool.and_eq_false_iff, Bool.or_eq_false_iff, Int.not_lt, Int.not_le, beq_iff_eq, beq_eq_false_iff_ne, ne_eq, Bool.not_eq_true, Bool.not_eq_false] at hm13
          first | exact .inl ⟨by rw [← h3, hd, drop_none (by omega)]; exact quo_esc1, rfl, j + 1, by simp [go_sem, wob]⟩ | exact .inl ⟨by rw [← h3, drop_none (by omega)]; rfl, rfl, j, by simp only [go_sem, wob]⟩
        simp only [decide_eq_true_eq, decide_eq_false_iff_not, Bool.not_eq_true', Bool.not_eq_false', Bool.and_eq_true, Bool.or_eq_true, Bool.and_eq_false_iff, Bool.or_eq_false_iff, Int.not_lt, Int.not_le, beq_iff_eq, beq_eq_false_iff_ne, ne_eq, Bool.not_eq_true, Bool.not_eq_false] at hm13
        try simp only [go_sem, wob]
        (repeat (with_reducible refine And.intro ?_ ?_; (first | omega | (intro _; omega) | decide | (exact nfB) | (intro _; exact nfB) | (intro hg; refine ⟨hg, ?_⟩; omega) | (simp; done) | (simp; omega) | (intro hg; simp at hg; done) | (intro hg; simp at hg ⊢; first | omega | exact hg | grind))))
        refine hK12 _ _ ?_
        try clear hK12 K12
        refine blkQ_n (thenQ_n ?_)
        refine hK5 _ _ ?_
        try clear hK5 K5
        refine AWp.mask [true] rfl ?_
        simp only [go_sem]
        refine AWp.rk fun K14 hK14 => ?_
        try simp only [go_sem, wob]
        (repeat (with_reducible refine And.intro ?_ ?_; (first | omega | (intro _; omega) | decide | (exact nfB) | (intro _; exact nfB) | (intro hg; refine ⟨hg, ?_⟩; omega) | (simp; done) | (simp; omega) | (intro hg; simp at hg; done) | (intro hg; simp at hg ⊢; first | omega | exact hg | grind))))
        refine hK14 _ _ ?_
        try clear hK14 K14
        refine thenQ_n ?_
        refine EndS.mk [true] [] [] [] [b] [] rfl ?_ ?_
        · (try simp only [go_sem, wob]) <;> try rfl
        refine .e ⟨_, ?_, j + 1, rfl, ?_, ?_, ?_, ?_, ?_⟩
        · first | omega | (simp; omega) | (grind)
        · (try simp only [go_sem, wob]) <;> first | exact ⟨rfl⟩ | (constructor; simp; done)
        · (try simp only [go_sem, wob]) <;> first | exact ⟨rfl⟩ | (constructor; simp [wob]; done)
        · omega
        · omega
        · rcases hst with e | e <;> first | omega | (rw [e]; exact h3)
    · skip
      try simp only [decide_eq_true_eq, decide_eq_false_iff_not, Bool.not_eq_true', Bool.not_eq_false', Bool.and_eq_true, Bool.or_eq_true, Bool.and_eq_false_iff, Bool.or_eq_false_iff, Int.not_lt, Int.not_le, beq_iff_eq, beq_eq_false_iff_ne, ne_eq, Bool.not_eq_true, Bool.not_eq_false] at hc0
      obtain ⟨hj, hd⟩ := head_is 34 rfl (by decide) hc0
      refine AWp.exit ?_
      refine thenQ_e (thenQ_e (blkQ_e (thenQ_n ?_)))
      refine hK1 _ _ ?_
      try clear hK1 K1
      refine AWp.rk fun K15 hK15 => ?_
      try simp only [go_sem, wob]
      (repeat (with_reducible refine And.intro ?_ ?_; (first | omega | (intro _; omega) | decide | (exact nfB) | (intro _; exact nfB) | (intro hg; refine ⟨hg, ?_⟩; omega) | (simp; done) | (simp; omega) | (intro hg; simp at hg; done) | (intro hg; simp at hg ⊢; first | omega | exact hg | grind))))
      refine hK15 _ _ ?_
      try clear hK15 K15
      apply endW_n [] [] [b] [] (by (try simp only [go_sem, wob]); rfl)
      · refine .inr ⟨j + 1, by omega, by omega, ?_, rfl, ?_⟩
        · rw [← h3, hd, quo_end]
        · simp only [go_sem, wob]; simp
      · simp only [LeA, LeL]
end Go.Proofs.YthhfbolhlbgbgaaDoor

namespace Go.Proofs.YthhfbolhlbgbgaaDoor
set_option linter.unusedSimpArgs false
set_option linter.unusedVariables false
theorem bare_at {l : Tx} {s : Tx} {j : Nat} (hd : s.drop j = 64 :: s.drop (j + 1)) (h : adrE l (runS (s.drop (j + 1))) = 0) : bareS l (s.drop j) = some ((l, runS (s.drop (j + 1))), offS (s.drop (j + 1))) := by
  rw [hd, bareS, if_pos ⟨rfl, h⟩]
theorem bare_no {l : Tx} {s : Tx} {j : Nat} (h : (s.drop j).head? = some 64 → adrE l (runS (s.drop (j + 1))) ≠ 0) : bareS l (s.drop j) = none := by
  rcases Nat.lt_or_ge j s.length with hj | hj
  · rw [drop_cons hj] at h ⊢
    rw [bareS, if_neg]
    rintro ⟨h1, h2⟩
    exact h (by rw [h1]; rfl) h2
  · rw [drop_none hj]; rfl
theorem run_len (s : Tx) (j : Nat) : (runS (s.drop j)).length ≤ s.length := by
  have := (List.takeWhile_sublist (l := s.drop j) runB).length_le
  unfold runS
  simp at this ⊢
  omega
theorem gt_no {a : Ad} {s : Tx} {j : Nat} (h : (s.drop j).head? ≠ some 62) : gtS (some (a, s.drop j)) = none := by
  cases e : s.drop j with
  | nil => rfl
  | cons c r => rw [e] at h; simp at h; simp [gtS, h]
theorem gt_yes {a : Ad} {r : Tx} : gtS (some (a, 62 :: r)) = some (a, r) := by simp [gtS]
theorem addr_bare {s : Tx} {j j1 j2 : Nat} {first : Bool} (hsk : s.drop j1 = skipS (s.drop j)) (h1 : (s.drop j1).head? ≠ some 34) (h2 : (s.drop j1).head? ≠ some 60) (hr : s.drop j2 = offS (s.drop j1)) (hf : first = true) (h : (s.drop j2).head? = some 64) : addrS first (s.drop j) = bareS (runS (s.drop j1)) (s.drop j2) := by
  rw [addrS_x (by rw [← hsk]; exact h1) (by rw [← hsk]; exact h2), ← hsk, ← hr, if_pos ⟨hf, h⟩]
theorem addr_word {s : Tx} {j j1 j2 : Nat} {first : Bool} (hsk : s.drop j1 = skipS (s.drop j)) (h1 : (s.drop j1).head? ≠ some 34) (h2 : (s.drop j1).head? ≠ some 60) (hr : s.drop j2 = offS (s.drop j1)) (h : ¬ (first = true ∧ (s.drop j2).head? = some 64)) : addrS first (s.drop j) = if runS (s.drop j1) = [] then none else addrS false (s.drop j2) := by
  rw [addrS_x (by rw [← hsk]; exact h1) (by rw [← hsk]; exact h2), ← hsk, ← hr, if_neg h]
theorem run_lt {s : Tx} {j1 j2 : Nat} (hr : s.drop j2 = offS (s.drop j1)) (h : runS (s.drop j1) ≠ []) (hj : j2 ≤ s.length) : j1 < j2 := by
  have := off_lt _ h
  rw [← hr] at this
  simp at this
  omega
theorem icast (n : Nat) : (n : Int) + 1 = ((n + 1 : Nat) : Int) := rfl
set_option maxRecDepth 4000 in
set_option maxHeartbeats 1000000 in
theorem bare_c (T : Tbl) (hL : LibT T) (b : Nat) (s : Tx) (i : Nat) (F : List (Nat × Ob)) (L : List Nat) (hi : i ≤ s.length) (hs : s.length ≤ 4096) (l : Tx) (hl : l.length ≤ 4096) : AC Tryd.prog T 145 [.ptr b 2 0 0, .d (.str l)] (⟨wob b s i :: F, L⟩) (fun x h => (bareS l (s.drop i) = none ∧ x = .pan errV ∧ ∃ j, h = ⟨wob b s j :: F, L⟩) ∨ ∃ j a, i ≤ j ∧ j ≤ s.length ∧ bareS l (s.drop i) = some (a, s.drop j) ∧ x = .ret (.agg [.d (.str a.1), .d (.str a.2)]) ∧ h = ⟨wob b s j :: F, L⟩) := by
  refine ⟨Tryd.call145, ACalls.enterS Tryd.func145 rfl Tryd.ntmps145 rfl fun hb => ?_⟩
  simp only [go_sem, Tryd.results145]
  refine AWp.rs fun K1 hK1 => ?_
  try simp only [go_sem, wob, icast]
  (repeat (with_reducible refine And.intro ?_ ?_; (first | omega | (intro _; omega) | decide | (exact nfB) | (intro _; exact nfB) | (intro hg; refine ⟨hg, ?_⟩; omega) | (simp; done) | (simp; omega) | (intro hg; simp at hg; done) | (intro hg; simp at hg ⊢; first | omega | exact hg | grind))))
  intro b4
  first | intro fb4 | have fb4 := True.intro
  try simp only [freshL, wob] at fb4
  try simp only [go_sem, wob, icast, fb4]
  (repeat (with_reducible refine And.intro ?_ ?_; (first | omega | (intro _; omega) | decide | (exact nfB) | (intro _; exact nfB) | (intro hg; refine ⟨hg, ?_⟩; omega) | (simp; done) | (simp; omega) | (intro hg; simp at hg; done) | (intro hg; simp at hg ⊢; first | omega | exact hg | grind))))
  refine hK1 _ _ ?_
  try clear hK1 K1
  refine AWp.rs fun K2 hK2 => ?_
  try simp only [go_sem, wob, icast, fb4]
  (repeat (with_reducible refine And.intro ?_ ?_; (first | omega | (intro _; omega) | decide | (exact nfB) | (intro _; exact nfB) | (intro hg; refine ⟨hg, ?_⟩; omega) | (simp; done) | (simp; omega) | (intro hg; simp at hg; done) | (intro hg; simp at hg ⊢; first | omega | exact hg | grind))))
  refine DW.acp [b] [] rfl rfl rfl rfl (by (try simp only [go_sem, wob, icast, fb4]); rfl) rfl (next_c T b s i _ _ (by omega) hs) ?_
  rintro _ _ ⟨rfl, rfl⟩
  try simp only [go_sem, wob, icast, fb4]
  (repeat (with_reducible refine And.intro ?_ ?_; (first | omega | (intro _; omega) | decide | (exact nfB) | (intro _; exact nfB) | (intro hg; refine ⟨hg, ?_⟩; omega) | (simp; done) | (simp; omega) | (intro hg; simp at hg; done) | (intro hg; simp at hg ⊢; first | omega | exact hg | grind))))
  refine DW.acp [] [] rfl rfl rfl rfl (by (try simp only [go_sem, wob, icast, fb4]); rfl) rfl (must_c T _ _) ?_
  rintro _ _ (⟨hm3, rfl, rfl⟩ | ⟨hm3, rfl, rfl⟩)
  · skip
    intro _
    refine endW_p [b4] [] [b] [] ?_
    simp only [decide_eq_true_eq, decide_eq_false_iff_not, Bool.not_eq_true', Bool.not_eq_false', Bool.and_eq_true, Bool.or_eq_true, Bool.and_eq_false_iff, Bool.or_eq_false_iff, Int.not_lt, Int.not_le, beq_iff_eq, beq_eq_false_iff_ne, ne_eq, Bool.not_eq_true, Bool.not_eq_false] at hm3
    exact .inl ⟨bare_no (fun h => absurd h (head_no (c := 64) rfl hm3)), rfl, i, by simp only [go_sem, wob, icast, fb4]⟩
  simp only [decide_eq_true_eq, decide_eq_false_iff_not, Bool.not_eq_true', Bool.not_eq_false', Bool.and_eq_true, Bool.or_eq_true, Bool.and_eq_false_iff, Bool.or_eq_false_iff, Int.not_lt, Int.not_le, beq_iff_eq, beq_eq_false_iff_ne, ne_eq, Bool.not_eq_true, Bool.not_eq_false] at hm3
  obtain ⟨hj, hd⟩ := head_is 64 rfl (by decide) hm3
  try simp only [go_sem, wob, icast, fb4]
  (repeat (with_reducible refine And.intro ?_ ?_; (first | omega | (intro _; omega) | decide | (exact nfB) | (intro _; exact nfB) | (intro hg; refine ⟨hg, ?_⟩; omega) | (simp; done) | (simp; omega) | (intro hg; simp at hg; done) | (intro hg; simp at hg ⊢; first | omega | exact hg | grind))))
  refine hK2 _ _ ?_
  try clear hK2 K2
  refine AWp.mask [true, true, true] rfl ?_
  simp only [go_sem]
  refine AWp.rs fun K4 hK4 => ?_
  try simp only [go_sem, wob, icast, fb4]
  (repeat (with_reducible refine And.intro ?_ ?_; (first | omega | (intro _; omega) | decide | (exact nfB) | (intro _; exact nfB) | (intro hg; refine ⟨hg, ?_⟩; omega) | (simp; done) | (simp; omega) | (intro hg; simp at hg; done) | (intro hg; simp at hg ⊢; first | omega | exact hg | grind))))
  refine hK4 _ _ ?_
  try clear hK4 K4
  refine AWp.mask [true, true, true] rfl ?_
  simp only [go_sem]
  refine AWp.rs fun K5 hK5 => ?_
  try simp only [go_sem, wob, icast, fb4]
  (repeat (with_reducible refine And.intro ?_ ?_; (first | omega | (intro _; omega) | decide | (exact nfB) | (intro _; exact nfB) | (intro hg; refine ⟨hg, ?_⟩; omega) | (simp; done) | (simp; omega) | (intro hg; simp at hg; done) | (intro hg; simp at hg ⊢; first | omega | exact hg | grind))))
  refine DW.acp [b] [] rfl rfl rfl rfl (by (try simp only [go_sem, wob, icast, fb4]); rfl) rfl (run_c T b s (i + 1) _ _ (by omega) hs) ?_
  rintro _ _ ⟨I6, hI6a, hI6b, hI6c, rfl, rfl⟩
  try simp only [go_sem, wob, icast, fb4]
  (repeat (with_reducible refine And.intro ?_ ?_; (first | omega | (intro _; omega) | decide | (exact nfB) | (intro _; exact nfB) | (intro hg; refine ⟨hg, ?_⟩; omega) | (simp; done) | (simp; omega) | (intro hg; simp at hg; done) | (intro hg; simp at hg ⊢; first | omega | exact hg | grind))))
  intro b5
  first | intro fb5 | have fb5 := True.intro
  try simp only [freshL, wob] at fb5
  try simp only [go_sem, wob, icast, fb4, fb5]
  (repeat (with_reducible refine And.intro ?_ ?_; (first | omega | (intro _; omega) | decide | (exact nfB) | (intro _; exact nfB) | (intro hg; refine ⟨hg, ?_⟩; omega) | (simp; done) | (simp; omega) | (intro hg; simp at hg; done) | (intro hg; simp at hg ⊢; first | omega | exact hg | grind))))
  refine hK5 _ _ ?_
  try clear hK5 K5
  refine AWp.mask [false, false, true, true] rfl ?_
  simp only [go_sem]
  refine AWp.rs fun K7 hK7 => ?_
  try simp only [go_sem, wob, icast, fb4, fb5]
  (repeat (with_reducible refine And.intro ?_ ?_; (first | omega | (intro _; omega) | decide | (exact nfB) | (intro _; exact nfB) | (intro hg; refine ⟨hg, ?_⟩; omega) | (simp; done) | (simp; omega) | (intro hg; simp at hg; done) | (intro hg; simp at hg ⊢; first | omega | exact hg | grind))))
  refine DW.pcr rfl rfl rfl rfl (whoCheck_p T hL _ _ (by omega) (by have := run_len s (i + 1); omega)) rfl rfl ?_
  try simp only [go_sem, wob, icast, fb4, fb5]
  (repeat (with_reducible refine And.intro ?_ ?_; (first | omega | (intro _; omega) | decide | (exact nfB) | (intro _; exact nfB) | (intro hg; refine ⟨hg, ?_⟩; omega) | (simp; done) | (simp; omega) | (intro hg; simp at hg; done) | (intro hg; simp at hg ⊢; first | omega | exact hg | grind))))
  refine DW.acp [] [] rfl rfl rfl rfl (by (try simp only [go_sem, wob, icast, fb4, fb5]); rfl) rfl (must_c T _ _) ?_
  rintro _ _ (⟨hm8, rfl, rfl⟩ | ⟨hm8, rfl, rfl⟩)
  · skip
    intro _
    refine endW_p [b4, b5] [] [b] [] ?_
    simp only [decide_eq_true_eq, decide_eq_false_iff_not, Bool.not_eq_true', Bool.not_eq_false', Bool.and_eq_true, Bool.or_eq_true, Bool.and_eq_false_iff, Bool.or_eq_false_iff, Int.not_lt, Int.not_le, beq_iff_eq, beq_eq_false_iff_ne, ne_eq, Bool.not_eq_true, Bool.not_eq_false] at hm8
    exact .inl ⟨bare_no (fun _ h => hm8 h), rfl, I6, by simp only [go_sem, wob, icast, fb4, fb5]⟩
  simp only [decide_eq_true_eq, decide_eq_false_iff_not, Bool.not_eq_true', Bool.not_eq_false', Bool.and_eq_true, Bool.or_eq_true, Bool.and_eq_false_iff, Bool.or_eq_false_iff, Int.not_lt, Int.not_le, beq_iff_eq, beq_eq_false_iff_ne, ne_eq, Bool.not_eq_true, Bool.not_eq_false] at hm8
  have hA := hm8
  try simp only [go_sem, wob, icast, fb4, fb5]
  (repeat (with_reducible refine And.intro ?_ ?_; (first | omega | (intro _; omega) | decide | (exact nfB) | (intro _; exact nfB) | (intro hg; refine ⟨hg, ?_⟩; omega) | (simp; done) | (simp; omega) | (intro hg; simp at hg; done) | (intro hg; simp at hg ⊢; first | omega | exact hg | grind))))
  refine hK7 _ _ ?_
  try clear hK7 K7
  refine AWp.mask [true, true] rfl ?_
  simp only [go_sem]
  refine AWp.rs fun K9 hK9 => ?_
  try simp only [go_sem, wob, icast, fb4, fb5]
  (repeat (with_reducible refine And.intro ?_ ?_; (first | omega | (intro _; omega) | decide | (exact nfB) | (intro _; exact nfB) | (intro hg; refine ⟨hg, ?_⟩; omega) | (simp; done) | (simp; omega) | (intro hg; simp at hg; done) | (intro hg; simp at hg ⊢; first | omega | exact hg | grind))))
  refine hK9 _ _ ?_
  try clear hK9 K9
  refine AWp.ret ?_
  try simp only [thenQ, blkQ]
  apply endW_r [b4, b5] [] [b] [] (by (try simp only [go_sem, wob, icast, fb4, fb5]); rfl)
  · refine .inr ⟨I6, (l, runS (s.drop (i + 1))), by omega, by omega, ?_, rfl, ?_⟩
    · rw [hI6c]; exact bare_at hd hA
    · simp only [go_sem, wob, icast, fb4, fb5]
  · simp only [LeA, LeL, LeD, and_self]
set_option maxRecDepth 4000 in
set_option maxHeartbeats 1000000 in
theorem address_c (T : Tbl) (hL : LibT T) (b : Nat) (s : Tx) (i : Nat) (F : List (Nat × Ob)) (L : List Nat) (hi : i ≤ s.length) (hs : s.length ≤ 4096) : AC Tryd.prog T 128 [.ptr b 2 0 0] (⟨wob b s i :: F, L⟩) (fun x h => (addrS true (s.drop i) = none ∧ x = .pan errV ∧ ∃ j, h = ⟨wob b s j :: F, L⟩) ∨ ∃ j a, i ≤ j ∧ j ≤ s.length ∧ addrS true (s.drop i) = some (a, s.drop j) ∧ x = .ret (.agg [.d (.str a.1), .d (.str a.2)]) ∧ h = ⟨wob b s j :: F, L⟩) := by
  refine ⟨Tryd.call128, ACalls.enterS Tryd.func128 rfl Tryd.ntmps128 rfl fun hb => ?_⟩
  simp only [go_sem, Tryd.results128]
  refine AWp.rs fun K1 hK1 => ?_
  try simp only [go_sem, wob, icast]
  (repeat (with_reducible refine And.intro ?_ ?_; (first | omega | (intro _; omega) | decide | (exact nfB) | (intro _; exact nfB) | (intro hg; refine ⟨hg, ?_⟩; omega) | (simp; done) | (simp; omega) | (intro hg; simp at hg; done) | (intro hg; simp at hg ⊢; first | omega | exact hg | grind))))
  intro b2
  first | intro fb2 | have fb2 := True.intro
  try simp only [freshL, wob] at fb2
  try simp only [go_sem, wob, icast, fb2]
  (repeat (with_reducible refine And.intro ?_ ?_; (first | omega | (intro _; omega) | decide | (exact nfB) | (intro _; exact nfB) | (intro hg; refine ⟨hg, ?_⟩; omega) | (simp; done) | (simp; omega) | (intro hg; simp at hg; done) | (intro hg; simp at hg ⊢; first | omega | exact hg | grind))))
  refine hK1 _ _ ?_
  try clear hK1 K1
  refine AWp.rs fun K2 hK2 => ?_
  try simp only [go_sem, wob, icast, fb2]
  (repeat (with_reducible refine And.intro ?_ ?_; (first | omega | (intro _; omega) | decide | (exact nfB) | (intro _; exact nfB) | (intro hg; refine ⟨hg, ?_⟩; omega) | (simp; done) | (simp; omega) | (intro hg; simp at hg; done) | (intro hg; simp at hg ⊢; first | omega | exact hg | grind))))
  refine hK2 _ _ ?_
  try clear hK2 K2
  refine AWp.block ?_
  refine AWp.loopS [true, true] [false, false, true] (fun n lc hc => ∃ (j w : Nat), n = s.length - j ∧ EqS lc [(3, .d (.int .i64 w))] ∧ EqS hc (⟨[(b2, ⟨2, 1, [[.d (.str []), .d (.str [])]]⟩), wob b s j] ++ F, L⟩) ∧ (i ≤ j) ∧ (j ≤ s.length) ∧ (w ≤ j) ∧ (addrS (decide (w = 0)) (s.drop j) = addrS true (s.drop i))) rfl ?_ ?_
  · refine ⟨_, i, 0, rfl, ?_, ?_, ?_, ?_, ?_, ?_⟩
    · (try simp only [go_sem, wob, icast, fb2]) <;> first | exact ⟨rfl⟩ | (constructor; simp; done)
    · (try simp only [go_sem, wob, icast, fb2]) <;> first | exact ⟨rfl⟩ | (constructor; simp; done)
    all_goals (first | omega | rfl)
  · rintro _ _ _ ⟨j, w, rfl, ⟨rfl⟩, ⟨rfl⟩, h1, h2, h3, h4⟩
    simp only [go_sem]
    refine AWp.seq fun K3 hK3 => ?_
    refine AWp.block ?_
    refine AWp.rs fun K4 hK4 => ?_
    try simp only [go_sem, wob, icast, fb2]
    (repeat (with_reducible refine And.intro ?_ ?_; (first | omega | (intro _; omega) | decide | (exact nfB) | (intro _; exact nfB) | (intro hg; refine ⟨hg, ?_⟩; omega) | (simp; done) | (simp; omega) | (intro hg; simp at hg; done) | (intro hg; simp at hg ⊢; first | omega | exact hg | grind))))
    refine DW.acp [b] [] rfl rfl rfl rfl (by (try simp only [go_sem, wob, icast, fb2]); rfl) rfl (skip_c T b s j _ _ (by omega) hs) ?_
    rintro _ _ ⟨I5, hI5a, hI5b, hI5c, rfl, rfl⟩
    try simp only [go_sem, wob, icast, fb2]
    (repeat (with_reducible refine And.intro ?_ ?_; (first | omega | (intro _; omega) | decide | (exact nfB) | (intro _; exact nfB) | (intro hg; refine ⟨hg, ?_⟩; omega) | (simp; done) | (simp; omega) | (intro hg; simp at hg; done) | (intro hg; simp at hg ⊢; first | omega | exact hg | grind))))
    have hsk := hI5c
    refine hK4 _ _ ?_
    try clear hK4 K4
    refine AWp.rs fun K6 hK6 => ?_
    try simp only [go_sem, wob, icast, fb2]
    (repeat (with_reducible refine And.intro ?_ ?_; (first | omega | (intro _; omega) | decide | (exact nfB) | (intro _; exact nfB) | (intro hg; refine ⟨hg, ?_⟩; omega) | (simp; done) | (simp; omega) | (intro hg; simp at hg; done) | (intro hg; simp at hg ⊢; first | omega | exact hg | grind))))
    refine DW.acp [b] [] rfl rfl rfl rfl (by (try simp only [go_sem, wob, icast, fb2]); rfl) rfl (next_c T b s I5 _ _ (by omega) hs) ?_
    rintro _ _ ⟨rfl, rfl⟩
    try simp only [go_sem, wob, icast, fb2]
    (repeat (with_reducible refine And.intro ?_ ?_; (first | omega | (intro _; omega) | decide | (exact nfB) | (intro _; exact nfB) | (intro hg; refine ⟨hg, ?_⟩; omega) | (simp; done) | (simp; omega) | (intro hg; simp at hg; done) | (intro hg; simp at hg ⊢; first | omega | exact hg | grind))))
    refine hK6 _ _ ?_
    try clear hK6 K6
    refine AWp.block ?_
    refine AWp.rs fun K7 hK7 => ?_
    try simp only [go_sem, wob, icast, fb2]
    (repeat (with_reducible refine And.intro ?_ ?_; (first | omega | (intro _; omega) | decide | (exact nfB) | (intro _; exact nfB) | (intro hg; refine ⟨hg, ?_⟩; omega) | (simp; done) | (simp; omega) | (intro hg; simp at hg; done) | (intro hg; simp at hg ⊢; first | omega | exact hg | grind))))
    refine hK7 _ _ ?_
    try clear hK7 K7
    refine AWp.mask [true, true, true, false, false, false, true, true] rfl ?_
    simp only [go_sem]
    refine AWp.cond _ rfl (fun hc0 => ?_) (fun hc0 => ?_)
    · skip
      try simp only [decide_eq_true_eq, decide_eq_false_iff_not, Bool.not_eq_true', Bool.not_eq_false', Bool.and_eq_true, Bool.or_eq_true, Bool.and_eq_false_iff, Bool.or_eq_false_iff, Int.not_lt, Int.not_le, beq_iff_eq, beq_eq_false_iff_ne, ne_eq, Bool.not_eq_true, Bool.not_eq_false] at hc0
      obtain ⟨hj, hd⟩ := head_is 34 rfl (by decide) hc0
      have hq := fun first => addrS_34 (first := first) (s := s.drop j) (r := s.drop (I5 + 1)) (by rw [← hsk, hd])
      refine AWp.rk fun K8 hK8 => ?_
      try simp only [go_sem, wob, icast, fb2]
      (repeat (with_reducible refine And.intro ?_ ?_; (first | omega | (intro _; omega) | decide | (exact nfB) | (intro _; exact nfB) | (intro hg; refine ⟨hg, ?_⟩; omega) | (simp; done) | (simp; omega) | (intro hg; simp at hg; done) | (intro hg; simp at hg ⊢; first | omega | exact hg | grind))))
      refine DW.acp [b] [] rfl rfl rfl rfl (by (try simp only [go_sem, wob, icast, fb2]); rfl) rfl (quoted_c T b s I5 _ _ (by omega) hs) ?_
      rintro _ _ (⟨hI9q, rfl, yI9, rfl⟩ | ⟨I9, hI9a, hI9b, hI9q, rfl, rfl⟩)
      · skip
        intro _
        try simp only [thenQ, blkQ]
        refine endW_p [b2] [] [b] [] ?_
        exact .inl ⟨by rw [← h4, hq, hI9q], rfl, yI9, by simp only [go_sem, wob, icast, fb2]⟩
      have hst : addrS (decide (w = 0)) (s.drop j) = addrS false (s.drop I9) := by rw [hq, hI9q]
      try simp only [go_sem, wob, icast, fb2]
      (repeat (with_reducible refine And.intro ?_ ?_; (first | omega | (intro _; omega) | decide | (exact nfB) | (intro _; exact nfB) | (intro hg; refine ⟨hg, ?_⟩; omega) | (simp; done) | (simp; omega) | (intro hg; simp at hg; done) | (intro hg; simp at hg ⊢; first | omega | exact hg | grind))))
      refine hK8 _ _ ?_
      try clear hK8 K8
      refine blkQ_n (blkQ_n (thenQ_n ?_))
      refine hK3 _ _ ?_
      try clear hK3 K3
      refine AWp.mask [true, true, true] rfl ?_
      simp only [go_sem]
      refine AWp.rk fun K10 hK10 => ?_
      try simp only [go_sem, wob, icast, fb2]
      (repeat (with_reducible refine And.intro ?_ ?_; (first | omega | (intro _; omega) | decide | (exact nfB) | (intro _; exact nfB) | (intro hg; refine ⟨hg, ?_⟩; omega) | (simp; done) | (simp; omega) | (intro hg; simp at hg; done) | (intro hg; simp at hg ⊢; first | omega | exact hg | grind))))
      refine hK10 _ _ ?_
      try clear hK10 K10
      refine thenQ_n ?_
      refine EndS.mk [true, true] [false, false, true] [] [] [b2, b] [] rfl ?_ ?_
      · (try simp only [go_sem, wob, icast, fb2]) <;> try rfl
      refine .e ⟨_, ?_, I9, w + 1, rfl, ?_, ?_, ?_, ?_, ?_, ?_⟩
      · first | omega | (simp; omega) | (grind)
      · (try simp only [go_sem, wob, icast, fb2]) <;> first | exact ⟨rfl⟩ | (constructor; simp; done)
      · (try simp only [go_sem, wob, icast, fb2]) <;> first | exact ⟨rfl⟩ | (constructor; simp; done)
      · omega
      · omega
      · omega
      · rw [show decide (w + 1 = 0) = false by simp, ← h4]; exact hst.symm
    · skip
      try simp only [decide_eq_true_eq, decide_eq_false_iff_not, Bool.not_eq_true', Bool.not_eq_false', Bool.and_eq_true, Bool.or_eq_true, Bool.and_eq_false_iff, Bool.or_eq_false_iff, Int.not_lt, Int.not_le, beq_iff_eq, beq_eq_false_iff_ne, ne_eq, Bool.not_eq_true, Bool.not_eq_false] at hc0
      have hn34 := head_no (c := 34) rfl hc0
      refine AWp.rs fun K11 hK11 => ?_
      try simp only [go_sem, wob, icast, fb2]
      (repeat (with_reducible refine And.intro ?_ ?_; (first | omega | (intro _; omega) | decide | (exact nfB) | (intro _; exact nfB) | (intro hg; refine ⟨hg, ?_⟩; omega) | (simp; done) | (simp; omega) | (intro hg; simp at hg; done) | (intro hg; simp at hg ⊢; first | omega | exact hg | grind))))
      refine hK11 _ _ ?_
      try clear hK11 K11
      refine AWp.cond _ rfl (fun hc1 => ?_) (fun hc1 => ?_)
      · skip
        try simp only [decide_eq_true_eq, decide_eq_false_iff_not, Bool.not_eq_true', Bool.not_eq_false', Bool.and_eq_true, Bool.or_eq_true, Bool.and_eq_false_iff, Bool.or_eq_false_iff, Int.not_lt, Int.not_le, beq_iff_eq, beq_eq_false_iff_ne, ne_eq, Bool.not_eq_true, Bool.not_eq_false] at hc1
        obtain ⟨hj, hd⟩ := head_is 60 rfl (by decide) hc1
        have hq := fun first => addrS_60 (first := first) (s := s.drop j) (r := s.drop (I5 + 1)) (by rw [← hsk, hd])
        refine AWp.rs fun K12 hK12 => ?_
        try simp only [go_sem, wob, icast, fb2]
        (repeat (with_reducible refine And.intro ?_ ?_; (first | omega | (intro _; omega) | decide | (exact nfB) | (intro _; exact nfB) | (intro hg; refine ⟨hg, ?_⟩; omega) | (simp; done) | (simp; omega) | (intro hg; simp at hg; done) | (intro hg; simp at hg ⊢; first | omega | exact hg | grind))))
        refine hK12 _ _ ?_
        try clear hK12 K12
        refine AWp.mask [true, true] rfl ?_
        simp only [go_sem]
        refine AWp.rs fun K13 hK13 => ?_
        try simp only [go_sem, wob, icast, fb2]
        (repeat (with_reducible refine And.intro ?_ ?_; (first | omega | (intro _; omega) | decide | (exact nfB) | (intro _; exact nfB) | (intro hg; refine ⟨hg, ?_⟩; omega) | (simp; done) | (simp; omega) | (intro hg; simp at hg; done) | (intro hg; simp at hg ⊢; first | omega | exact hg | grind))))
        refine DW.acp [b] [] rfl rfl rfl rfl (by (try simp only [go_sem, wob, icast, fb2]); rfl) rfl (run_c T b s (I5 + 1) _ _ (by omega) hs) ?_
        rintro _ _ ⟨I14, hI14a, hI14b, hI14c, rfl, rfl⟩
        try simp only [go_sem, wob, icast, fb2]
        (repeat (with_reducible refine And.intro ?_ ?_; (first | omega | (intro _; omega) | decide | (exact nfB) | (intro _; exact nfB) | (intro hg; refine ⟨hg, ?_⟩; omega) | (simp; done) | (simp; omega) | (intro hg; simp at hg; done) | (intro hg; simp at hg ⊢; first | omega | exact hg | grind))))
        refine DW.acp [b] [] rfl rfl rfl rfl (by (try simp only [go_sem, wob, icast, fb2]); rfl) rfl (bare_c T hL b s I14 _ _ (by omega) hs _ (by have := run_len s (I5 + 1); omega)) ?_
        rintro _ _ (⟨hI15q, rfl, yI15, rfl⟩ | ⟨I15, aI15, hI15a, hI15b, hI15q, rfl, rfl⟩)
        · skip
          intro _
          try simp only [thenQ, blkQ]
          refine endW_p [b2] [] [b] [] ?_
          exact .inl ⟨by rw [← h4, hq, ← hI14c, hI15q]; rfl, rfl, yI15, by simp only [go_sem, wob, icast, fb2]⟩
        have hbq := hI15q
        rw [hI14c] at hbq
        try simp only [go_sem, wob, icast, fb2]
        (repeat (with_reducible refine And.intro ?_ ?_; (first | omega | (intro _; omega) | decide | (exact nfB) | (intro _; exact nfB) | (intro hg; refine ⟨hg, ?_⟩; omega) | (simp; done) | (simp; omega) | (intro hg; simp at hg; done) | (intro hg; simp at hg ⊢; first | omega | exact hg | grind))))
        intro b4
        first | intro fb4 | have fb4 := True.intro
        try simp only [freshL, wob] at fb4
        try simp only [go_sem, wob, icast, fb2, fb4]
        (repeat (with_reducible refine And.intro ?_ ?_; (first | omega | (intro _; omega) | decide | (exact nfB) | (intro _; exact nfB) | (intro hg; refine ⟨hg, ?_⟩; omega) | (simp; done) | (simp; omega) | (intro hg; simp at hg; done) | (intro hg; simp at hg ⊢; first | omega | exact hg | grind))))
        refine hK13 _ _ ?_
        try clear hK13 K13
        refine AWp.mask [true, true, true] rfl ?_
        simp only [go_sem]
        refine AWp.rs fun K16 hK16 => ?_
        try simp only [go_sem, wob, icast, fb2, fb4]
        (repeat (with_reducible refine And.intro ?_ ?_; (first | omega | (intro _; omega) | decide | (exact nfB) | (intro _; exact nfB) | (intro hg; refine ⟨hg, ?_⟩; omega) | (simp; done) | (simp; omega) | (intro hg; simp at hg; done) | (intro hg; simp at hg ⊢; first | omega | exact hg | grind))))
        refine DW.acp [b] [] rfl rfl rfl rfl (by (try simp only [go_sem, wob, icast, fb2, fb4]); rfl) rfl (next_c T b s I15 _ _ (by omega) hs) ?_
        rintro _ _ ⟨rfl, rfl⟩
        try simp only [go_sem, wob, icast, fb2, fb4]
        (repeat (with_reducible refine And.intro ?_ ?_; (first | omega | (intro _; omega) | decide | (exact nfB) | (intro _; exact nfB) | (intro hg; refine ⟨hg, ?_⟩; omega) | (simp; done) | (simp; omega) | (intro hg; simp at hg; done) | (intro hg; simp at hg ⊢; first | omega | exact hg | grind))))
        refine DW.acp [] [] rfl rfl rfl rfl (by (try simp only [go_sem, wob, icast, fb2, fb4]); rfl) rfl (must_c T _ _) ?_
        rintro _ _ (⟨hm17, rfl, rfl⟩ | ⟨hm17, rfl, rfl⟩)
        · skip
          intro _
          try simp only [thenQ, blkQ]
          refine endW_p [b2, b4] [] [b] [] ?_
          simp only [decide_eq_true_eq, decide_eq_false_iff_not, Bool.not_eq_true', Bool.not_eq_false', Bool.and_eq_true, Bool.or_eq_true, Bool.and_eq_false_iff, Bool.or_eq_false_iff, Int.not_lt, Int.not_le, beq_iff_eq, beq_eq_false_iff_ne, ne_eq, Bool.not_eq_true, Bool.not_eq_false] at hm17
          exact .inl ⟨by rw [← h4, hq, hbq, gt_no (head_no (c := 62) rfl hm17)], rfl, I15, by simp only [go_sem, wob, icast, fb2, fb4]⟩
        simp only [decide_eq_true_eq, decide_eq_false_iff_not, Bool.not_eq_true', Bool.not_eq_false', Bool.and_eq_true, Bool.or_eq_true, Bool.and_eq_false_iff, Bool.or_eq_false_iff, Int.not_lt, Int.not_le, beq_iff_eq, beq_eq_false_iff_ne, ne_eq, Bool.not_eq_true, Bool.not_eq_false] at hm17
        obtain ⟨hj2, hd2⟩ := head_is 62 rfl (by decide) hm17
        try simp only [go_sem, wob, icast, fb2, fb4]
        (repeat (with_reducible refine And.intro ?_ ?_; (first | omega | (intro _; omega) | decide | (exact nfB) | (intro _; exact nfB) | (intro hg; refine ⟨hg, ?_⟩; omega) | (simp; done) | (simp; omega) | (intro hg; simp at hg; done) | (intro hg; simp at hg ⊢; first | omega | exact hg | grind))))
        refine hK16 _ _ ?_
        try clear hK16 K16
        refine AWp.mask [true, true, true] rfl ?_
        simp only [go_sem]
        refine AWp.rs fun K18 hK18 => ?_
        try simp only [go_sem, wob, icast, fb2, fb4]
        (repeat (with_reducible refine And.intro ?_ ?_; (first | omega | (intro _; omega) | decide | (exact nfB) | (intro _; exact nfB) | (intro hg; refine ⟨hg, ?_⟩; omega) | (simp; done) | (simp; omega) | (intro hg; simp at hg; done) | (intro hg; simp at hg ⊢; first | omega | exact hg | grind))))
        refine hK18 _ _ ?_
        try clear hK18 K18
        refine AWp.mask [false, true, true] rfl ?_
        simp only [go_sem]
        refine AWp.rs fun K19 hK19 => ?_
        try simp only [go_sem, wob, icast, fb2, fb4]
        (repeat (with_reducible refine And.intro ?_ ?_; (first | omega | (intro _; omega) | decide | (exact nfB) | (intro _; exact nfB) | (intro hg; refine ⟨hg, ?_⟩; omega) | (simp; done) | (simp; omega) | (intro hg; simp at hg; done) | (intro hg; simp at hg ⊢; first | omega | exact hg | grind))))
        refine hK19 _ _ ?_
        try clear hK19 K19
        refine AWp.ret ?_
        try simp only [thenQ, blkQ]
        apply endW_r [b2, b4] [] [b] [] (by (try simp only [go_sem, wob, icast, fb2, fb4]); rfl)
        · refine .inr ⟨I15 + 1, aI15, by omega, by omega, ?_, rfl, ?_⟩
          · rw [← h4, hq, hbq, hd2, gt_yes]
          · simp only [go_sem, wob, icast, fb2, fb4]
        · simp only [LeA, LeL, LeD, and_self]
      · skip
        try simp only [decide_eq_true_eq, decide_eq_false_iff_not, Bool.not_eq_true', Bool.not_eq_false', Bool.and_eq_true, Bool.or_eq_true, Bool.and_eq_false_iff, Bool.or_eq_false_iff, Int.not_lt, Int.not_le, beq_iff_eq, beq_eq_false_iff_ne, ne_eq, Bool.not_eq_true, Bool.not_eq_false] at hc1
        have hn60 := head_no (c := 60) rfl hc1
        refine AWp.rs fun K20 hK20 => ?_
        try simp only [go_sem, wob, icast, fb2]
        (repeat (with_reducible refine And.intro ?_ ?_; (first | omega | (intro _; omega) | decide | (exact nfB) | (intro _; exact nfB) | (intro hg; refine ⟨hg, ?_⟩; omega) | (simp; done) | (simp; omega) | (intro hg; simp at hg; done) | (intro hg; simp at hg ⊢; first | omega | exact hg | grind))))
        refine DW.acp [b] [] rfl rfl rfl rfl (by (try simp only [go_sem, wob, icast, fb2]); rfl) rfl (run_c T b s I5 _ _ (by omega) hs) ?_
        rintro _ _ ⟨I21, hI21a, hI21b, hI21c, rfl, rfl⟩
        try simp only [go_sem, wob, icast, fb2]
        (repeat (with_reducible refine And.intro ?_ ?_; (first | omega | (intro _; omega) | decide | (exact nfB) | (intro _; exact nfB) | (intro hg; refine ⟨hg, ?_⟩; omega) | (simp; done) | (simp; omega) | (intro hg; simp at hg; done) | (intro hg; simp at hg ⊢; first | omega | exact hg | grind))))
        have hrn := hI21c
        refine hK20 _ _ ?_
        try clear hK20 K20
        refine AWp.mask [true, true, true, true] rfl ?_
        simp only [go_sem]
        refine AWp.seq fun K22 hK22 => ?_
        refine AWp.rs fun K23 hK23 => ?_
        try simp only [go_sem, wob, icast, fb2]
        (repeat (with_reducible refine And.intro ?_ ?_; (first | omega | (intro _; omega) | decide | (exact nfB) | (intro _; exact nfB) | (intro hg; refine ⟨hg, ?_⟩; omega) | (simp; done) | (simp; omega) | (intro hg; simp at hg; done) | (intro hg; simp at hg ⊢; first | omega | exact hg | grind))))
        refine DW.acp [b] [] rfl rfl rfl rfl (by (try simp only [go_sem, wob, icast, fb2]); rfl) rfl (next_c T b s I21 _ _ (by omega) hs) ?_
        rintro _ _ ⟨rfl, rfl⟩
        try simp only [go_sem, wob, icast, fb2]
        (repeat (with_reducible refine And.intro ?_ ?_; (first | omega | (intro _; omega) | decide | (exact nfB) | (intro _; exact nfB) | (intro hg; refine ⟨hg, ?_⟩; omega) | (simp; done) | (simp; omega) | (intro hg; simp at hg; done) | (intro hg; simp at hg ⊢; first | omega | exact hg | grind))))
        refine hK23 _ _ ?_
        try clear hK23 K23
        refine AWp.mask [true, true, true, true, false, false, false, false, false, false, true] rfl ?_
        simp only [go_sem]
        refine AWp.cond _ rfl (fun hc2 => ?_) (fun hc2 => ?_)
        · skip
          try simp only [decide_eq_true_eq, decide_eq_false_iff_not, Bool.not_eq_true', Bool.not_eq_false', Bool.and_eq_true, Bool.or_eq_true, Bool.and_eq_false_iff, Bool.or_eq_false_iff, Int.not_lt, Int.not_le, beq_iff_eq, beq_eq_false_iff_ne, ne_eq, Bool.not_eq_true, Bool.not_eq_false] at hc2
          obtain ⟨hj2, hd2⟩ := head_is 64 rfl (by decide) hc2.1
          have hst := addr_bare (first := decide (w = 0)) hsk hn34 hn60 hrn (by simpa using hc2.2) (by rw [hd2]; rfl)
          refine AWp.rs fun K24 hK24 => ?_
          try simp only [go_sem, wob, icast, fb2]
          (repeat (with_reducible refine And.intro ?_ ?_; (first | omega | (intro _; omega) | decide | (exact nfB) | (intro _; exact nfB) | (intro hg; refine ⟨hg, ?_⟩; omega) | (simp; done) | (simp; omega) | (intro hg; simp at hg; done) | (intro hg; simp at hg ⊢; first | omega | exact hg | grind))))
          refine DW.acp [b] [] rfl rfl rfl rfl (by (try simp only [go_sem, wob, icast, fb2]); rfl) rfl (bare_c T hL b s I21 _ _ (by omega) hs _ (by have := run_len s I5; omega)) ?_
          rintro _ _ (⟨hI25q, rfl, yI25, rfl⟩ | ⟨I25, aI25, hI25a, hI25b, hI25q, rfl, rfl⟩)
          · skip
            intro _
            try simp only [thenQ, blkQ]
            refine endW_p [b2] [] [b] [] ?_
            exact .inl ⟨by rw [← h4, hst, hI25q], rfl, yI25, by simp only [go_sem, wob, icast, fb2]⟩
          try simp only [go_sem, wob, icast, fb2]
          (repeat (with_reducible refine And.intro ?_ ?_; (first | omega | (intro _; omega) | decide | (exact nfB) | (intro _; exact nfB) | (intro hg; refine ⟨hg, ?_⟩; omega) | (simp; done) | (simp; omega) | (intro hg; simp at hg; done) | (intro hg; simp at hg ⊢; first | omega | exact hg | grind))))
          refine hK24 _ _ ?_
          try clear hK24 K24
          refine AWp.mask [false, true] rfl ?_
          simp only [go_sem]
          refine AWp.ret ?_
          try simp only [thenQ, blkQ]
          apply endW_r [b2] [] [b] [] (by (try simp only [go_sem, wob, icast, fb2]); rfl)
          · refine .inr ⟨I25, aI25, by omega, by omega, ?_, rfl, ?_⟩
            · rw [← h4, hst, hI25q]
            · simp only [go_sem, wob, icast, fb2]
          · simp only [LeA, LeL, LeD, and_self]
        · skip
          try simp only [decide_eq_true_eq, decide_eq_false_iff_not, Bool.not_eq_true', Bool.not_eq_false', Bool.and_eq_true, Bool.or_eq_true, Bool.and_eq_false_iff, Bool.or_eq_false_iff, Int.not_lt, Int.not_le, beq_iff_eq, beq_eq_false_iff_ne, ne_eq, Bool.not_eq_true, Bool.not_eq_false] at hc2
          have hst0 := addr_word (first := decide (w = 0)) hsk hn34 hn60 hrn (fun h => by
            rcases hc2 with hc2 | hc2
            · exact head_no (c := 64) rfl (by simpa using hc2) h.2
            · have := h.1; simp at this; omega)
          refine AWp.skip ?_
          refine thenQ_n ?_
          refine hK22 _ _ ?_
          try clear hK22 K22
          refine AWp.rk fun K26 hK26 => ?_
          try simp only [go_sem, wob, icast, fb2]
          (repeat (with_reducible refine And.intro ?_ ?_; (first | omega | (intro _; omega) | decide | (exact nfB) | (intro _; exact nfB) | (intro hg; refine ⟨hg, ?_⟩; omega) | (simp; done) | (simp; omega) | (intro hg; simp at hg; done) | (intro hg; simp at hg ⊢; first | omega | exact hg | grind))))
          refine DW.acp [] [] rfl rfl rfl rfl (by (try simp only [go_sem, wob, icast, fb2]); rfl) rfl (must_c T _ _) ?_
          rintro _ _ (⟨hm27, rfl, rfl⟩ | ⟨hm27, rfl, rfl⟩)
          · skip
            intro _
            try simp only [thenQ, blkQ]
            refine endW_p [b2] [] [b] [] ?_
            simp only [decide_eq_true_eq, decide_eq_false_iff_not, Bool.not_eq_true', Bool.not_eq_false', Bool.and_eq_true, Bool.or_eq_true, Bool.and_eq_false_iff, Bool.or_eq_false_iff, Int.not_lt, Int.not_le, beq_iff_eq, beq_eq_false_iff_ne, ne_eq, Bool.not_eq_true, Bool.not_eq_false] at hm27
            exact .inl ⟨by rw [← h4, hst0, if_pos hm27], rfl, I21, by simp only [go_sem, wob, icast, fb2]⟩
          simp only [decide_eq_true_eq, decide_eq_false_iff_not, Bool.not_eq_true', Bool.not_eq_false', Bool.and_eq_true, Bool.or_eq_true, Bool.and_eq_false_iff, Bool.or_eq_false_iff, Int.not_lt, Int.not_le, beq_iff_eq, beq_eq_false_iff_ne, ne_eq, Bool.not_eq_true, Bool.not_eq_false] at hm27
          have hlt := run_lt hrn hm27 (by omega)
          have hst := hst0.trans (if_neg hm27)
          try simp only [go_sem, wob, icast, fb2]
          (repeat (with_reducible refine And.intro ?_ ?_; (first | omega | (intro _; omega) | decide | (exact nfB) | (intro _; exact nfB) | (intro hg; refine ⟨hg, ?_⟩; omega) | (simp; done) | (simp; omega) | (intro hg; simp at hg; done) | (intro hg; simp at hg ⊢; first | omega | exact hg | grind))))
          refine hK26 _ _ ?_
          try clear hK26 K26
          refine blkQ_n (blkQ_n (thenQ_n ?_))
          refine hK3 _ _ ?_
          try clear hK3 K3
          refine AWp.mask [true, true, true] rfl ?_
          simp only [go_sem]
          refine AWp.rk fun K28 hK28 => ?_
          try simp only [go_sem, wob, icast, fb2]
          (repeat (with_reducible refine And.intro ?_ ?_; (first | omega | (intro _; omega) | decide | (exact nfB) | (intro _; exact nfB) | (intro hg; refine ⟨hg, ?_⟩; omega) | (simp; done) | (simp; omega) | (intro hg; simp at hg; done) | (intro hg; simp at hg ⊢; first | omega | exact hg | grind))))
          refine hK28 _ _ ?_
          try clear hK28 K28
          refine thenQ_n ?_
          refine EndS.mk [true, true] [false, false, true] [] [] [b2, b] [] rfl ?_ ?_
          · (try simp only [go_sem, wob, icast, fb2]) <;> try rfl
          refine .e ⟨_, ?_, I21, w + 1, rfl, ?_, ?_, ?_, ?_, ?_, ?_⟩
          · first | omega | (simp; omega) | (grind)
          · (try simp only [go_sem, wob, icast, fb2]) <;> first | exact ⟨rfl⟩ | (constructor; simp; done)
          · (try simp only [go_sem, wob, icast, fb2]) <;> first | exact ⟨rfl⟩ | (constructor; simp; done)
          · omega
          · omega
          · omega
          · rw [show decide (w + 1 = 0) = false by simp, ← h4]; exact hst.symm
end Go.Proofs.YthhfbolhlbgbgaaDoor

namespace Go.Proofs.YthhfbolhlbgbgaaDoor
set_option linter.unusedSimpArgs false
set_option linter.unusedVariables false
/-- an entry of a book -/
structure Ent where
  kind : Int
  box : Tx
  uid : Int
  flags : Int
  dest : Tx
  text : Tx
def entA (x : Ent) : List AV := [.d (.int .i64 x.kind), .d (.str x.box), .d (.int .i64 x.uid), .d (.int .i64 x.flags), .d (.str x.dest), .d (.str x.text)]
def entD (x : Ent) : List D := [.int .i64 x.kind, .str x.box, .int .i64 x.uid, .int .i64 x.flags, .str x.dest, .str x.text]
attribute [go_sem] entA
def nmC (c : UInt8) : Bool := decide (33 ≤ (c.toNat : Int)) && decide ((c.toNat : Int) ≤ 126)
/-- may a box be named so? -/
def nameE (s : Tx) : Int := if s.length < 1 ∨ 12 < s.length then 1 else if s.all nmC = true then 0 else 3
@[go_sem] theorem wrap8 (c : UInt8) : IntKind.i64.wrap (c.toNat : Int) = c.toNat := inR_wrap (by have := c.toNat_lt; simp only [inR]; omega)
theorem nameE_1 {s : Tx} (h : s.length < 1 ∨ 12 < s.length) : nameE s = 1 := if_pos h
theorem nameE_3 {s : Tx} (h : ¬ (s.length < 1 ∨ 12 < s.length)) {i : Nat} (hi : i < s.length) (hc : nmC (s.getD i 0) = false) : nameE s = 3 := by
  unfold nameE
  rw [if_neg h, if_neg]
  intro ha
  have := List.all_eq_true.1 ha (s.getD i 0) (by simp [List.getD, hi])
  rw [hc] at this; cases this
theorem nameE_0 {s : Tx} (h : ¬ (s.length < 1 ∨ 12 < s.length)) (ha : (s.drop s.length).all nmC = true → s.all nmC = true) : nameE s = 0 := by
  unfold nameE
  rw [if_neg h, if_pos (ha (by simp))]
theorem all_step {s : Tx} {i : Nat} (hi : i < s.length) (hc : nmC (s.getD i 0) = true) (h : (s.drop i).all nmC = true → s.all nmC = true) : (s.drop (i + 1)).all nmC = true → s.all nmC = true := fun h2 => h (by rw [drop_cons hi, List.all_cons, hc, h2]; rfl)
theorem nameE_end {s : Tx} (h : ¬ (s.length < 1 ∨ 12 < s.length)) {i : Nat} (hi : s.length ≤ i) (ha : (s.drop i).all nmC = true → s.all nmC = true) : nameE s = 0 := by
  unfold nameE
  rw [if_neg h, if_pos (ha (by rw [drop_none hi]; rfl))]
set_option maxRecDepth 4000 in
set_option maxHeartbeats 1000000 in
theorem In_c (T : Tbl) (n lo hi : Int) : PC Tryd.prog T 56 [.d (.int .i64 n), .d (.int .i64 lo), .d (.int .i64 hi)] (.d (.bool (decide (lo ≤ n) && decide (n ≤ hi)))) := by
  refine ⟨Tryd.call56, PCall.enterS Tryd.func56 rfl Tryd.ntmps56 rfl fun hb => ?_⟩
  simp only [go_sem, Tryd.results56]
  refine AWp.rs fun K1 hK1 => ?_
  try simp only [go_sem]
  (repeat (with_reducible refine And.intro ?_ ?_; (first | omega | (intro _; omega) | decide | (exact nfB) | (intro _; exact nfB) | (intro hg; refine ⟨hg, ?_⟩; omega) | (simp; done) | (simp; omega) | (intro hg; simp at hg; done) | (intro hg; simp at hg ⊢; first | omega | exact hg | grind))))
  refine hK1 _ _ ?_
  try clear hK1 K1
  refine AWp.rs fun K2 hK2 => ?_
  try simp only [go_sem]
  (repeat (with_reducible refine And.intro ?_ ?_; (first | omega | (intro _; omega) | decide | (exact nfB) | (intro _; exact nfB) | (intro hg; refine ⟨hg, ?_⟩; omega) | (simp; done) | (simp; omega) | (intro hg; simp at hg; done) | (intro hg; simp at hg ⊢; first | omega | exact hg | grind))))
  refine hK2 _ _ ?_
  try clear hK2 K2
  refine AWp.mask [false, false, false, true] rfl ?_
  simp only [go_sem]
  refine AWp.ret ?_
  try simp only [go_sem]
  try simp [LeA, LeD]
set_option maxRecDepth 4000 in
set_option maxHeartbeats 1000000 in
theorem Name_c (T : Tbl) (s : Tx) (hb0 : s.length ≤ 9223372036854775807) : PC Tryd.prog T 99 [.d (.str s)] (.d (.int .i64 (nameE s))) := by
  refine ⟨Tryd.call99, PCall.enterS Tryd.func99 rfl Tryd.ntmps99 rfl fun hb => ?_⟩
  simp only [go_sem, Tryd.results99]
  refine AWp.rs fun K1 hK1 => ?_
  try simp only [go_sem, icast]
  (repeat (with_reducible refine And.intro ?_ ?_; (first | omega | (intro _; omega) | decide | (exact nfB) | (intro _; exact nfB) | (intro hg; refine ⟨hg, ?_⟩; omega) | (simp; done) | (simp; omega) | (intro hg; simp at hg; done) | (intro hg; simp at hg ⊢; first | omega | exact hg | grind))))
  refine hK1 _ _ ?_
  try clear hK1 K1
  refine AWp.seq fun K2 hK2 => ?_
  refine AWp.rs fun K3 hK3 => ?_
  try simp only [go_sem, icast]
  (repeat (with_reducible refine And.intro ?_ ?_; (first | omega | (intro _; omega) | decide | (exact nfB) | (intro _; exact nfB) | (intro hg; refine ⟨hg, ?_⟩; omega) | (simp; done) | (simp; omega) | (intro hg; simp at hg; done) | (intro hg; simp at hg ⊢; first | omega | exact hg | grind))))
  refine hK3 _ _ ?_
  try clear hK3 K3
  refine AWp.mask [true, false, false, false, false, false, false, false, false, true] rfl ?_
  simp only [go_sem]
  refine AWp.cond _ rfl (fun hc0 => ?_) (fun hc0 => ?_)
  · skip
    try simp only [decide_eq_true_eq, decide_eq_false_iff_not, Bool.not_eq_true', Bool.not_eq_false', Bool.and_eq_true, Bool.or_eq_true, Bool.and_eq_false_iff, Bool.or_eq_false_iff, Int.not_lt, Int.not_le, beq_iff_eq, beq_eq_false_iff_ne, ne_eq, Bool.not_eq_true, Bool.not_eq_false] at hc0
    refine AWp.rs fun K4 hK4 => ?_
    try simp only [go_sem, icast]
    (repeat (with_reducible refine And.intro ?_ ?_; (first | omega | (intro _; omega) | decide | (exact nfB) | (intro _; exact nfB) | (intro hg; refine ⟨hg, ?_⟩; omega) | (simp; done) | (simp; omega) | (intro hg; simp at hg; done) | (intro hg; simp at hg ⊢; first | omega | exact hg | grind))))
    refine hK4 _ _ ?_
    try clear hK4 K4
    refine AWp.ret ?_
    try simp only [go_sem, icast]
    rw [nameE_1 (by omega)]; try simp [LeA, LeD]
  · skip
    try simp only [decide_eq_true_eq, decide_eq_false_iff_not, Bool.not_eq_true', Bool.not_eq_false', Bool.and_eq_true, Bool.or_eq_true, Bool.and_eq_false_iff, Bool.or_eq_false_iff, Int.not_lt, Int.not_le, beq_iff_eq, beq_eq_false_iff_ne, ne_eq, Bool.not_eq_true, Bool.not_eq_false] at hc0
    refine AWp.skip ?_
    refine thenQ_n ?_
    refine hK2 _ _ ?_
    try clear hK2 K2
    refine AWp.seq fun K5 hK5 => ?_
    refine AWp.rs fun K6 hK6 => ?_
    try simp only [go_sem, icast]
    (repeat (with_reducible refine And.intro ?_ ?_; (first | omega | (intro _; omega) | decide | (exact nfB) | (intro _; exact nfB) | (intro hg; refine ⟨hg, ?_⟩; omega) | (simp; done) | (simp; omega) | (intro hg; simp at hg; done) | (intro hg; simp at hg ⊢; first | omega | exact hg | grind))))
    refine hK6 _ _ ?_
    try clear hK6 K6
    refine AWp.block ?_
    refine AWp.mask [true, false, false, true, true] rfl ?_
    simp only [go_sem]
    refine AWp.loopS [true, true] [false, false, true] (fun n lc hc => ∃ (i : Nat), n = s.length - i ∧ EqS lc [(14, .d (.int .i64 i))] ∧ EqS hc (⟨[], []⟩) ∧ (i ≤ s.length) ∧ ((s.drop i).all nmC = true → s.all nmC = true)) rfl ?_ ?_
    · refine ⟨_, 0, rfl, ?_, ?_, ?_, ?_⟩
      · (try simp only [go_sem, icast]) <;> first | exact ⟨rfl⟩ | (constructor; simp; done)
      · (try simp only [go_sem, icast]) <;> first | exact ⟨rfl⟩ | (constructor; simp; done)
      all_goals (first | omega | (simp; done))
    · rintro _ _ _ ⟨i, rfl, ⟨rfl⟩, ⟨rfl⟩, h1, h2⟩
      simp only [go_sem]
      refine AWp.rs fun K7 hK7 => ?_
      try simp only [go_sem, icast]
      (repeat (with_reducible refine And.intro ?_ ?_; (first | omega | (intro _; omega) | decide | (exact nfB) | (intro _; exact nfB) | (intro hg; refine ⟨hg, ?_⟩; omega) | (simp; done) | (simp; omega) | (intro hg; simp at hg; done) | (intro hg; simp at hg ⊢; first | omega | exact hg | grind))))
      refine hK7 _ _ ?_
      try clear hK7 K7
      refine AWp.seq fun K8 hK8 => ?_
      refine AWp.cond _ rfl (fun hc1 => ?_) (fun hc1 => ?_)
      · skip
        try simp only [decide_eq_true_eq, decide_eq_false_iff_not, Bool.not_eq_true', Bool.not_eq_false', Bool.and_eq_true, Bool.or_eq_true, Bool.and_eq_false_iff, Bool.or_eq_false_iff, Int.not_lt, Int.not_le, beq_iff_eq, beq_eq_false_iff_ne, ne_eq, Bool.not_eq_true, Bool.not_eq_false] at hc1
        have hlt : i < s.length := by omega
        refine AWp.skip ?_
        refine thenQ_n ?_
        refine hK8 _ _ ?_
        try clear hK8 K8
        refine AWp.seq fun K9 hK9 => ?_
        refine AWp.block ?_
        refine AWp.rs fun K10 hK10 => ?_
        try simp only [go_sem, icast]
        (repeat (with_reducible refine And.intro ?_ ?_; (first | omega | (intro _; omega) | decide | (exact nfB) | (intro _; exact nfB) | (intro hg; refine ⟨hg, ?_⟩; omega) | (simp; done) | (simp; omega) | (intro hg; simp at hg; done) | (intro hg; simp at hg ⊢; first | omega | exact hg | grind))))
        refine hK10 _ _ ?_
        try clear hK10 K10
        refine AWp.rs fun K11 hK11 => ?_
        try simp only [go_sem, icast]
        (repeat (with_reducible refine And.intro ?_ ?_; (first | omega | (intro _; omega) | decide | (exact nfB) | (intro _; exact nfB) | (intro hg; refine ⟨hg, ?_⟩; omega) | (simp; done) | (simp; omega) | (intro hg; simp at hg; done) | (intro hg; simp at hg ⊢; first | omega | exact hg | grind))))
        refine hK11 _ _ ?_
        try clear hK11 K11
        refine AWp.mask [true, false, true, true, false, false, false, false, false, false, false, false, false, false, false, true] rfl ?_
        simp only [go_sem]
        refine AWp.cond _ rfl (fun hc2 => ?_) (fun hc2 => ?_)
        · skip
          try simp only [decide_eq_true_eq, decide_eq_false_iff_not, Bool.not_eq_true', Bool.not_eq_false', Bool.and_eq_true, Bool.or_eq_true, Bool.and_eq_false_iff, Bool.or_eq_false_iff, Int.not_lt, Int.not_le, beq_iff_eq, beq_eq_false_iff_ne, ne_eq, Bool.not_eq_true, Bool.not_eq_false] at hc2
          have hcc : nmC (s.getD i 0) = false := by
            unfold nmC
            simp only [Bool.and_eq_false_iff, decide_eq_false_iff_not]
            omega
          refine AWp.rs fun K12 hK12 => ?_
          try simp only [go_sem, icast]
          (repeat (with_reducible refine And.intro ?_ ?_; (first | omega | (intro _; omega) | decide | (exact nfB) | (intro _; exact nfB) | (intro hg; refine ⟨hg, ?_⟩; omega) | (simp; done) | (simp; omega) | (intro hg; simp at hg; done) | (intro hg; simp at hg ⊢; first | omega | exact hg | grind))))
          refine hK12 _ _ ?_
          try clear hK12 K12
          refine AWp.mask [false, true] rfl ?_
          simp only [go_sem]
          refine AWp.ret ?_
          try simp only [go_sem, icast]
          rw [nameE_3 (by omega) hlt hcc]; try simp [LeA, LeD]
        · skip
          try simp only [decide_eq_true_eq, decide_eq_false_iff_not, Bool.not_eq_true', Bool.not_eq_false', Bool.and_eq_true, Bool.or_eq_true, Bool.and_eq_false_iff, Bool.or_eq_false_iff, Int.not_lt, Int.not_le, beq_iff_eq, beq_eq_false_iff_ne, ne_eq, Bool.not_eq_true, Bool.not_eq_false] at hc2
          have hcc : nmC (s.getD i 0) = true := by
            unfold nmC
            simp only [Bool.and_eq_true, decide_eq_true_eq]
            omega
          refine AWp.skip ?_
          refine blkQ_n (thenQ_n ?_)
          refine hK9 _ _ ?_
          try clear hK9 K9
          refine AWp.rk fun K13 hK13 => ?_
          try simp only [go_sem, icast]
          (repeat (with_reducible refine And.intro ?_ ?_; (first | omega | (intro _; omega) | decide | (exact nfB) | (intro _; exact nfB) | (intro hg; refine ⟨hg, ?_⟩; omega) | (simp; done) | (simp; omega) | (intro hg; simp at hg; done) | (intro hg; simp at hg ⊢; first | omega | exact hg | grind))))
          refine hK13 _ _ ?_
          try clear hK13 K13
          refine thenQ_n ?_
          refine EndS.mkr [true, true] [false, false, true] rfl ?_ ?_
          · (try simp only [go_sem, icast]) <;> try rfl
          refine .e ⟨_, ?_, i + 1, rfl, ?_, ?_, ?_, ?_⟩
          · first | omega | (simp; omega) | (grind)
          · (try simp only [go_sem, icast]) <;> first | exact ⟨rfl⟩ | (constructor; simp; done)
          · (try simp only [go_sem, icast]) <;> first | exact ⟨rfl⟩ | (constructor; simp; done)
          · omega
          · exact all_step (by omega) hcc h2
      · skip
        try simp only [decide_eq_true_eq, decide_eq_false_iff_not, Bool.not_eq_true', Bool.not_eq_false', Bool.and_eq_true, Bool.or_eq_true, Bool.and_eq_false_iff, Bool.or_eq_false_iff, Int.not_lt, Int.not_le, beq_iff_eq, beq_eq_false_iff_ne, ne_eq, Bool.not_eq_true, Bool.not_eq_false] at hc1
        refine AWp.exit ?_
        refine thenQ_e (thenQ_e (blkQ_e (thenQ_n ?_)))
        refine hK5 _ _ ?_
        try clear hK5 K5
        refine AWp.mask [] rfl ?_
        simp only [go_sem]
        refine AWp.rs fun K14 hK14 => ?_
        try simp only [go_sem, icast]
        (repeat (with_reducible refine And.intro ?_ ?_; (first | omega | (intro _; omega) | decide | (exact nfB) | (intro _; exact nfB) | (intro hg; refine ⟨hg, ?_⟩; omega) | (simp; done) | (simp; omega) | (intro hg; simp at hg; done) | (intro hg; simp at hg ⊢; first | omega | exact hg | grind))))
        refine hK14 _ _ ?_
        try clear hK14 K14
        refine AWp.ret ?_
        try simp only [go_sem, icast]
        rw [nameE_end (by omega) (by omega) h2]; try simp [LeA, LeD]
set_option maxRecDepth 4000 in
set_option maxHeartbeats 1000000 in
theorem BoxName_c (T : Tbl) (s : Tx) (hb0 : s.length ≤ 9223372036854775807) : PC Tryd.prog T 54 [.d (.str s)] (.d (.int .i64 (nameE s))) := by
  refine ⟨Tryd.call54, PCall.enterS Tryd.func54 rfl Tryd.ntmps54 rfl fun hb => ?_⟩
  simp only [go_sem, Tryd.results54]
  refine AWp.rs fun K1 hK1 => ?_
  try simp only [go_sem, icast]
  (repeat (with_reducible refine And.intro ?_ ?_; (first | omega | (intro _; omega) | decide | (exact nfB) | (intro _; exact nfB) | (intro hg; refine ⟨hg, ?_⟩; omega) | (simp; done) | (simp; omega) | (intro hg; simp at hg; done) | (intro hg; simp at hg ⊢; first | omega | exact hg | grind))))
  refine hK1 _ _ ?_
  try clear hK1 K1
  refine AWp.seq fun K2 hK2 => ?_
  refine AWp.rs fun K3 hK3 => ?_
  try simp only [go_sem, icast]
  (repeat (with_reducible refine And.intro ?_ ?_; (first | omega | (intro _; omega) | decide | (exact nfB) | (intro _; exact nfB) | (intro hg; refine ⟨hg, ?_⟩; omega) | (simp; done) | (simp; omega) | (intro hg; simp at hg; done) | (intro hg; simp at hg ⊢; first | omega | exact hg | grind))))
  refine DW.pcr rfl rfl rfl rfl (In_c T _ _ _) rfl rfl ?_
  try simp only [go_sem, icast]
  (repeat (with_reducible refine And.intro ?_ ?_; (first | omega | (intro _; omega) | decide | (exact nfB) | (intro _; exact nfB) | (intro hg; refine ⟨hg, ?_⟩; omega) | (simp; done) | (simp; omega) | (intro hg; simp at hg; done) | (intro hg; simp at hg ⊢; first | omega | exact hg | grind))))
  refine hK3 _ _ ?_
  try clear hK3 K3
  refine AWp.mask [true, false, false, false, false, true] rfl ?_
  simp only [go_sem]
  refine AWp.cond _ rfl (fun hc0 => ?_) (fun hc0 => ?_)
  · skip
    try simp only [decide_eq_true_eq, decide_eq_false_iff_not, Bool.not_eq_true', Bool.not_eq_false', Bool.and_eq_true, Bool.or_eq_true, Bool.and_eq_false_iff, Bool.or_eq_false_iff, Int.not_lt, Int.not_le, beq_iff_eq, beq_eq_false_iff_ne, ne_eq, Bool.not_eq_true, Bool.not_eq_false] at hc0
    refine AWp.rs fun K4 hK4 => ?_
    try simp only [go_sem, icast]
    (repeat (with_reducible refine And.intro ?_ ?_; (first | omega | (intro _; omega) | decide | (exact nfB) | (intro _; exact nfB) | (intro hg; refine ⟨hg, ?_⟩; omega) | (simp; done) | (simp; omega) | (intro hg; simp at hg; done) | (intro hg; simp at hg ⊢; first | omega | exact hg | grind))))
    refine hK4 _ _ ?_
    try clear hK4 K4
    refine AWp.ret ?_
    try simp only [go_sem, icast]
    rw [nameE_1 (by omega)]; try simp [LeA, LeD]
  · skip
    try simp only [decide_eq_true_eq, decide_eq_false_iff_not, Bool.not_eq_true', Bool.not_eq_false', Bool.and_eq_true, Bool.or_eq_true, Bool.and_eq_false_iff, Bool.or_eq_false_iff, Int.not_lt, Int.not_le, beq_iff_eq, beq_eq_false_iff_ne, ne_eq, Bool.not_eq_true, Bool.not_eq_false] at hc0
    refine AWp.skip ?_
    refine thenQ_n ?_
    refine hK2 _ _ ?_
    try clear hK2 K2
    refine AWp.seq fun K5 hK5 => ?_
    refine AWp.rs fun K6 hK6 => ?_
    try simp only [go_sem, icast]
    (repeat (with_reducible refine And.intro ?_ ?_; (first | omega | (intro _; omega) | decide | (exact nfB) | (intro _; exact nfB) | (intro hg; refine ⟨hg, ?_⟩; omega) | (simp; done) | (simp; omega) | (intro hg; simp at hg; done) | (intro hg; simp at hg ⊢; first | omega | exact hg | grind))))
    refine hK6 _ _ ?_
    try clear hK6 K6
    refine AWp.block ?_
    refine AWp.mask [true, true] rfl ?_
    simp only [go_sem]
    refine AWp.loopS [true] [false, true] (fun n lc hc => ∃ (i : Nat), n = s.length - i ∧ EqS lc [(3, .d (.int .i64 i))] ∧ EqS hc (⟨[], []⟩) ∧ (i ≤ s.length) ∧ ((s.drop i).all nmC = true → s.all nmC = true)) rfl ?_ ?_
    · refine ⟨_, 0, rfl, ?_, ?_, ?_, ?_⟩
      · (try simp only [go_sem, icast]) <;> first | exact ⟨rfl⟩ | (constructor; simp; done)
      · (try simp only [go_sem, icast]) <;> first | exact ⟨rfl⟩ | (constructor; simp; done)
      all_goals (first | omega | (simp; done))
    · rintro _ _ _ ⟨i, rfl, ⟨rfl⟩, ⟨rfl⟩, h1, h2⟩
      simp only [go_sem]
      refine AWp.seq fun K7 hK7 => ?_
      refine AWp.rs fun K8 hK8 => ?_
      try simp only [go_sem, icast]
      (repeat (with_reducible refine And.intro ?_ ?_; (first | omega | (intro _; omega) | decide | (exact nfB) | (intro _; exact nfB) | (intro hg; refine ⟨hg, ?_⟩; omega) | (simp; done) | (simp; omega) | (intro hg; simp at hg; done) | (intro hg; simp at hg ⊢; first | omega | exact hg | grind))))
      refine hK8 _ _ ?_
      try clear hK8 K8
      refine AWp.cond _ rfl (fun hc1 => ?_) (fun hc1 => ?_)
      · skip
        try simp only [decide_eq_true_eq, decide_eq_false_iff_not, Bool.not_eq_true', Bool.not_eq_false', Bool.and_eq_true, Bool.or_eq_true, Bool.and_eq_false_iff, Bool.or_eq_false_iff, Int.not_lt, Int.not_le, beq_iff_eq, beq_eq_false_iff_ne, ne_eq, Bool.not_eq_true, Bool.not_eq_false] at hc1
        have hlt : i < s.length := by omega
        refine AWp.skip ?_
        refine thenQ_n ?_
        refine hK7 _ _ ?_
        try clear hK7 K7
        refine AWp.mask [true, true] rfl ?_
        simp only [go_sem]
        refine AWp.seq fun K9 hK9 => ?_
        refine AWp.block ?_
        refine AWp.rs fun K10 hK10 => ?_
        try simp only [go_sem, icast]
        (repeat (with_reducible refine And.intro ?_ ?_; (first | omega | (intro _; omega) | decide | (exact nfB) | (intro _; exact nfB) | (intro hg; refine ⟨hg, ?_⟩; omega) | (simp; done) | (simp; omega) | (intro hg; simp at hg; done) | (intro hg; simp at hg ⊢; first | omega | exact hg | grind))))
        refine DW.pcr rfl rfl rfl rfl (In_c T _ _ _) rfl rfl ?_
        try simp only [go_sem, icast]
        (repeat (with_reducible refine And.intro ?_ ?_; (first | omega | (intro _; omega) | decide | (exact nfB) | (intro _; exact nfB) | (intro hg; refine ⟨hg, ?_⟩; omega) | (simp; done) | (simp; omega) | (intro hg; simp at hg; done) | (intro hg; simp at hg ⊢; first | omega | exact hg | grind))))
        refine hK10 _ _ ?_
        try clear hK10 K10
        refine AWp.mask [true, true, false, false, false, false, false, true] rfl ?_
        simp only [go_sem]
        refine AWp.cond _ rfl (fun hc2 => ?_) (fun hc2 => ?_)
        · skip
          try simp only [decide_eq_true_eq, decide_eq_false_iff_not, Bool.not_eq_true', Bool.not_eq_false', Bool.and_eq_true, Bool.or_eq_true, Bool.and_eq_false_iff, Bool.or_eq_false_iff, Int.not_lt, Int.not_le, beq_iff_eq, beq_eq_false_iff_ne, ne_eq, Bool.not_eq_true, Bool.not_eq_false] at hc2
          have hcc : nmC (s.getD i 0) = false := by
            unfold nmC
            simp only [Bool.and_eq_false_iff, decide_eq_false_iff_not]
            omega
          refine AWp.rs fun K11 hK11 => ?_
          try simp only [go_sem, icast]
          (repeat (with_reducible refine And.intro ?_ ?_; (first | omega | (intro _; omega) | decide | (exact nfB) | (intro _; exact nfB) | (intro hg; refine ⟨hg, ?_⟩; omega) | (simp; done) | (simp; omega) | (intro hg; simp at hg; done) | (intro hg; simp at hg ⊢; first | omega | exact hg | grind))))
          refine hK11 _ _ ?_
          try clear hK11 K11
          refine AWp.ret ?_
          try simp only [go_sem, icast]
          rw [nameE_3 (by omega) hlt hcc]; try simp [LeA, LeD]
        · skip
          try simp only [decide_eq_true_eq, decide_eq_false_iff_not, Bool.not_eq_true', Bool.not_eq_false', Bool.and_eq_true, Bool.or_eq_true, Bool.and_eq_false_iff, Bool.or_eq_false_iff, Int.not_lt, Int.not_le, beq_iff_eq, beq_eq_false_iff_ne, ne_eq, Bool.not_eq_true, Bool.not_eq_false] at hc2
          have hcc : nmC (s.getD i 0) = true := by
            unfold nmC
            simp only [Bool.and_eq_true, decide_eq_true_eq]
            omega
          refine AWp.skip ?_
          refine blkQ_n (thenQ_n ?_)
          refine hK9 _ _ ?_
          try clear hK9 K9
          refine AWp.rk fun K12 hK12 => ?_
          try simp only [go_sem, icast]
          (repeat (with_reducible refine And.intro ?_ ?_; (first | omega | (intro _; omega) | decide | (exact nfB) | (intro _; exact nfB) | (intro hg; refine ⟨hg, ?_⟩; omega) | (simp; done) | (simp; omega) | (intro hg; simp at hg; done) | (intro hg; simp at hg ⊢; first | omega | exact hg | grind))))
          refine hK12 _ _ ?_
          try clear hK12 K12
          refine thenQ_n ?_
          refine EndS.mkr [true] [false, true] rfl ?_ ?_
          · (try simp only [go_sem, icast]) <;> try rfl
          refine .e ⟨_, ?_, i + 1, rfl, ?_, ?_, ?_, ?_⟩
          · first | omega | (simp; omega) | (grind)
          · (try simp only [go_sem, icast]) <;> first | exact ⟨rfl⟩ | (constructor; simp; done)
          · (try simp only [go_sem, icast]) <;> first | exact ⟨rfl⟩ | (constructor; simp; done)
          · omega
          · exact all_step (by omega) hcc h2
      · skip
        try simp only [decide_eq_true_eq, decide_eq_false_iff_not, Bool.not_eq_true', Bool.not_eq_false', Bool.and_eq_true, Bool.or_eq_true, Bool.and_eq_false_iff, Bool.or_eq_false_iff, Int.not_lt, Int.not_le, beq_iff_eq, beq_eq_false_iff_ne, ne_eq, Bool.not_eq_true, Bool.not_eq_false] at hc1
        refine AWp.exit ?_
        refine thenQ_e (thenQ_e (blkQ_e (thenQ_n ?_)))
        refine hK5 _ _ ?_
        try clear hK5 K5
        refine AWp.mask [] rfl ?_
        simp only [go_sem]
        refine AWp.rs fun K13 hK13 => ?_
        try simp only [go_sem, icast]
        (repeat (with_reducible refine And.intro ?_ ?_; (first | omega | (intro _; omega) | decide | (exact nfB) | (intro _; exact nfB) | (intro hg; refine ⟨hg, ?_⟩; omega) | (simp; done) | (simp; omega) | (intro hg; simp at hg; done) | (intro hg; simp at hg ⊢; first | omega | exact hg | grind))))
        refine hK13 _ _ ?_
        try clear hK13 K13
        refine AWp.ret ?_
        try simp only [go_sem, icast]
        rw [nameE_end (by omega) (by omega) h2]; try simp [LeA, LeD]
end Go.Proofs.YthhfbolhlbgbgaaDoor

namespace Go.Proofs.YthhfbolhlbgbgaaDoor
set_option linter.unusedSimpArgs false
set_option linter.unusedVariables false
def btD (b : Bt) : List D := [.str b.text, .bool b.run, .bool b.quo, .bool b.apart]
def btsD (l : List Bt) : List (List D) := l.map btD
@[go_sem] theorem btsD_len (l : List Bt) : (btsD l).length = l.length := by simp [btsD]
theorem btsD_get (l : List Bt) (i : Nat) (d : List D) (h : i < l.length) : (btsD l).getD i d = btD (l[i]'h) := map_getD btD _ _ _ h
theorem btsD_none (l : List Bt) (i : Nat) (h : l.length ≤ i) : (btsD l).getD i [] = [] := by simp [btsD, List.getD, h]
def bitsV : Option (List Bt) → AV
  | some l => .tup [.d (.slc 4 (btsD l)), .d (.bool true)]
  | none => .tup [.any, .d (.bool false)]
theorem take1 {s : Tx} {i : Nat} (h : i < s.length) : (s.take (i + 1)).drop i = [s.getD i 0] := by
  have := take_step h (Nat.le_refl i) []
  simp only [List.append_nil] at this
  rw [← this]
  simp
theorem run_pos {s : Tx} {i e : Nat} (h1 : (s.take e).drop i ++ runS (s.drop e) = runS (s.drop i)) (h2 : runS (s.drop e) = []) (h3 : i < e) (h4 : e ≤ s.length) : runS (s.drop i) ≠ [] := by
  rw [h2, List.append_nil] at h1
  rw [← h1]
  intro e1
  have := congrArg List.length e1
  simp at this
  omega
theorem run_zero {s : Tx} {i e : Nat} (h1 : (s.take e).drop i ++ runS (s.drop e) = runS (s.drop i)) (h2 : runS (s.drop e) = []) (h3 : e ≤ i) (h4 : i < s.length) : runB (s.getD i 0) = false := by
  have h5 : (s.take e).drop i = [] := List.drop_eq_nil_of_le (by simp; omega)
  rw [h2, h5, List.nil_append, drop_cons h4] at h1
  cases e1 : runB (s.getD i 0) with
  | false => rfl
  | true => rw [runS_cons e1] at h1; cases h1
set_option maxRecDepth 4000 in
set_option maxHeartbeats 1000000 in
theorem blank_c (T : Tbl) (c : UInt8) : PC Tryd.prog T 78 [.d (.int .u8 c.toNat)] (.d (.bool (blkB c))) := by
  refine ⟨Tryd.call78, PCall.enterS Tryd.func78 rfl Tryd.ntmps78 rfl fun hb => ?_⟩
  simp only [go_sem, Tryd.results78]
  refine AWp.rs fun K1 hK1 => ?_
  try simp only [go_sem]
  (repeat (with_reducible refine And.intro ?_ ?_; (first | omega | (intro _; omega) | decide | (exact nfB) | (intro _; exact nfB) | (intro hg; refine ⟨hg, ?_⟩; omega) | (simp; done) | (simp; omega) | (intro hg; simp at hg; done) | (intro hg; simp at hg ⊢; first | omega | exact hg | grind))))
  refine hK1 _ _ ?_
  try clear hK1 K1
  refine AWp.rs fun K2 hK2 => ?_
  try simp only [go_sem]
  (repeat (with_reducible refine And.intro ?_ ?_; (first | omega | (intro _; omega) | decide | (exact nfB) | (intro _; exact nfB) | (intro hg; refine ⟨hg, ?_⟩; omega) | (simp; done) | (simp; omega) | (intro hg; simp at hg; done) | (intro hg; simp at hg ⊢; first | omega | exact hg | grind))))
  refine hK2 _ _ ?_
  try clear hK2 K2
  refine AWp.mask [false, true] rfl ?_
  simp only [go_sem]
  refine AWp.ret ?_
  try simp only [go_sem]
  have e : blkB c = (decide ((c.toNat : Int) = 32) || decide ((c.toNat : Int) = 9)) := by
    unfold blkB
    congr 1 <;> rw [Bool.eq_iff_iff, beq_iff_eq, decide_eq_true_eq]
    · exact (byte_is c 32).symm
    · exact (byte_is c 9).symm
  rw [e]
set_option maxRecDepth 4000 in
set_option maxHeartbeats 1000000 in
theorem bitsOf_c (T : Tbl) (s : Tx) (hs : s.length ≤ 4096) : PC Tryd.prog T 125 [.d (.str s)] (bitsV (bitsS false s)) := by
  refine ⟨Tryd.call125, PCall.enterS Tryd.func125 rfl Tryd.ntmps125 rfl fun hb => ?_⟩
  simp only [go_sem, Tryd.results125]
  refine AWp.rs fun K1 hK1 => ?_
  try simp only [go_sem, icast]
  (repeat (with_reducible refine And.intro ?_ ?_; (first | omega | (intro _; omega) | decide | (exact nfB) | (intro _; exact nfB) | (intro hg; refine ⟨hg, ?_⟩; omega) | (simp; done) | (simp; omega) | (intro hg; simp at hg; done) | (intro hg; simp at hg ⊢; first | omega | exact hg | grind))))
  refine hK1 _ _ ?_
  try clear hK1 K1
  refine AWp.rs fun K2 hK2 => ?_
  try simp only [go_sem, icast]
  (repeat (with_reducible refine And.intro ?_ ?_; (first | omega | (intro _; omega) | decide | (exact nfB) | (intro _; exact nfB) | (intro hg; refine ⟨hg, ?_⟩; omega) | (simp; done) | (simp; omega) | (intro hg; simp at hg; done) | (intro hg; simp at hg ⊢; first | omega | exact hg | grind))))
  refine hK2 _ _ ?_
  try clear hK2 K2
  refine AWp.ownNilS 4 4 rfl rfl (by decide) fun t0 ft0 => ?_
  try simp only [freshT] at ft0
  simp only [go_sem, icast, ft0]
  refine AWp.rs fun K3 hK3 => ?_
  try simp only [go_sem, icast, ft0]
  (repeat (with_reducible refine And.intro ?_ ?_; (first | omega | (intro _; omega) | decide | (exact nfB) | (intro _; exact nfB) | (intro hg; refine ⟨hg, ?_⟩; omega) | (simp; done) | (simp; omega) | (intro hg; simp at hg; done) | (intro hg; simp at hg ⊢; first | omega | exact hg | grind))))
  refine hK3 _ _ ?_
  try clear hK3 K3
  refine AWp.seq fun K4 hK4 => ?_
  refine AWp.rs fun K5 hK5 => ?_
  try simp only [go_sem, icast, ft0]
  (repeat (with_reducible refine And.intro ?_ ?_; (first | omega | (intro _; omega) | decide | (exact nfB) | (intro _; exact nfB) | (intro hg; refine ⟨hg, ?_⟩; omega) | (simp; done) | (simp; omega) | (intro hg; simp at hg; done) | (intro hg; simp at hg ⊢; first | omega | exact hg | grind))))
  refine hK5 _ _ ?_
  try clear hK5 K5
  refine AWp.block ?_
  refine AWp.mask [true, false, false, true, true, true] rfl ?_
  simp only [go_sem]
  refine AWp.loopS [true] [false, true, true, true] (fun n lc hc => ∃ (i v : Nat) (ap : Bool) (Y : List Bt), n = s.length - i ∧ EqS lc [(4, .own v 4 (btsD Y)), (5, .d (.bool ap)), (6, .d (.int .i64 i))] ∧ EqS hc (⟨[], [v]⟩) ∧ (i ≤ s.length) ∧ (Y.length ≤ i) ∧ ((bitsS ap (s.drop i)).map (Y ++ ·) = bitsS false s)) rfl ?_ ?_
  · refine ⟨_, 0, t0, false, [], rfl, ?_, ?_, ?_, ?_, ?_⟩
    · (try simp only [go_sem, icast, ft0]) <;> first | exact ⟨rfl⟩ | (constructor; simp [btsD]; done)
    · (try simp only [go_sem, icast, ft0]) <;> first | exact ⟨rfl⟩ | (constructor; simp; done)
    all_goals (first | omega | (simp; done) | (cases bitsS false s <;> rfl))
  · rintro _ _ _ ⟨i, v, ap, Y, rfl, ⟨rfl⟩, ⟨rfl⟩, h1, h2, h3⟩
    simp only [go_sem]
    refine AWp.seq fun K6 hK6 => ?_
    refine AWp.rs fun K7 hK7 => ?_
    try simp only [go_sem, icast, ft0]
    (repeat (with_reducible refine And.intro ?_ ?_; (first | omega | (intro _; omega) | decide | (exact nfB) | (intro _; exact nfB) | (intro hg; refine ⟨hg, ?_⟩; omega) | (simp; done) | (simp; omega) | (intro hg; simp at hg; done) | (intro hg; simp at hg ⊢; first | omega | exact hg | grind))))
    refine hK7 _ _ ?_
    try clear hK7 K7
    refine AWp.cond _ rfl (fun hc0 => ?_) (fun hc0 => ?_)
    · skip
      try simp only [decide_eq_true_eq, decide_eq_false_iff_not, Bool.not_eq_true', Bool.not_eq_false', Bool.and_eq_true, Bool.or_eq_true, Bool.and_eq_false_iff, Bool.or_eq_false_iff, Int.not_lt, Int.not_le, beq_iff_eq, beq_eq_false_iff_ne, ne_eq, Bool.not_eq_true, Bool.not_eq_false] at hc0
      have hlt : i < s.length := by omega
      have hd := drop_cons hlt
      refine AWp.skip ?_
      refine thenQ_n ?_
      refine hK6 _ _ ?_
      try clear hK6 K6
      refine AWp.mask [true, true, true, true] rfl ?_
      simp only [go_sem]
      refine AWp.block ?_
      refine AWp.seq fun K8 hK8 => ?_
      refine AWp.rs fun K9 hK9 => ?_
      try simp only [go_sem, icast, ft0]
      (repeat (with_reducible refine And.intro ?_ ?_; (first | omega | (intro _; omega) | decide | (exact nfB) | (intro _; exact nfB) | (intro hg; refine ⟨hg, ?_⟩; omega) | (simp; done) | (simp; omega) | (intro hg; simp at hg; done) | (intro hg; simp at hg ⊢; first | omega | exact hg | grind))))
      refine DW.pcr rfl rfl rfl rfl (blank_c T _) rfl rfl ?_
      try simp only [go_sem, icast, ft0]
      (repeat (with_reducible refine And.intro ?_ ?_; (first | omega | (intro _; omega) | decide | (exact nfB) | (intro _; exact nfB) | (intro hg; refine ⟨hg, ?_⟩; omega) | (simp; done) | (simp; omega) | (intro hg; simp at hg; done) | (intro hg; simp at hg ⊢; first | omega | exact hg | grind))))
      refine hK9 _ _ ?_
      try clear hK9 K9
      refine AWp.cond _ rfl (fun hc1 => ?_) (fun hc1 => ?_)
      · skip
        try simp only [decide_eq_true_eq, decide_eq_false_iff_not, Bool.not_eq_true', Bool.not_eq_false', Bool.and_eq_true, Bool.or_eq_true, Bool.and_eq_false_iff, Bool.or_eq_false_iff, Int.not_lt, Int.not_le, beq_iff_eq, beq_eq_false_iff_ne, ne_eq, Bool.not_eq_true, Bool.not_eq_false] at hc1
        have hst : bitsS ap (s.drop i) = bitsS true (s.drop (i + 1)) := by rw [hd, bits_blank hc1]
        refine AWp.rs fun K10 hK10 => ?_
        try simp only [go_sem, icast, ft0]
        (repeat (with_reducible refine And.intro ?_ ?_; (first | omega | (intro _; omega) | decide | (exact nfB) | (intro _; exact nfB) | (intro hg; refine ⟨hg, ?_⟩; omega) | (simp; done) | (simp; omega) | (intro hg; simp at hg; done) | (intro hg; simp at hg ⊢; first | omega | exact hg | grind))))
        refine hK10 _ _ ?_
        try clear hK10 K10
        refine AWp.mask [true, true, true, true] rfl ?_
        simp only [go_sem]
        refine AWp.rs fun K11 hK11 => ?_
        try simp only [go_sem, icast, ft0]
        (repeat (with_reducible refine And.intro ?_ ?_; (first | omega | (intro _; omega) | decide | (exact nfB) | (intro _; exact nfB) | (intro hg; refine ⟨hg, ?_⟩; omega) | (simp; done) | (simp; omega) | (intro hg; simp at hg; done) | (intro hg; simp at hg ⊢; first | omega | exact hg | grind))))
        refine hK11 _ _ ?_
        try clear hK11 K11
        refine AWp.exit ?_
        refine thenQ_e (blkQ_e (thenQ_n ?_))
        refine EndS.mk [true] [false, true, true, true] [] [] [] [v] rfl ?_ ?_
        · (try simp only [go_sem, icast, ft0]) <;> try rfl
        refine .e ⟨_, ?_, (i + 1), v, true, Y, rfl, ?_, ?_, ?_, ?_, ?_⟩
        · first | omega | (simp; omega) | (grind)
        · (try simp only [go_sem, icast, ft0]) <;> first | exact ⟨rfl⟩ | (constructor; first | (simp [btsD, btD, take1 hlt]; done) | (simp [btsD, btD]; done))
        · (try simp only [go_sem, icast, ft0]) <;> first | exact ⟨rfl⟩ | (constructor; simp; done)
        · omega
        · first | omega | (simp; omega)
        · first | (rw [← h3, hst]; done) | (rw [← h3, hst]; cases bitsS true (s.drop (i + 1)) <;> simp)
      · skip
        try simp only [decide_eq_true_eq, decide_eq_false_iff_not, Bool.not_eq_true', Bool.not_eq_false', Bool.and_eq_true, Bool.or_eq_true, Bool.and_eq_false_iff, Bool.or_eq_false_iff, Int.not_lt, Int.not_le, beq_iff_eq, beq_eq_false_iff_ne, ne_eq, Bool.not_eq_true, Bool.not_eq_false] at hc1
        refine AWp.skip ?_
        refine thenQ_n ?_
        refine hK8 _ _ ?_
        try clear hK8 K8
        refine AWp.mask [true, true, true, true] rfl ?_
        simp only [go_sem]
        refine AWp.rs fun K12 hK12 => ?_
        try simp only [go_sem, icast, ft0]
        (repeat (with_reducible refine And.intro ?_ ?_; (first | omega | (intro _; omega) | decide | (exact nfB) | (intro _; exact nfB) | (intro hg; refine ⟨hg, ?_⟩; omega) | (simp; done) | (simp; omega) | (intro hg; simp at hg; done) | (intro hg; simp at hg ⊢; first | omega | exact hg | grind))))
        refine hK12 _ _ ?_
        try clear hK12 K12
        refine AWp.seq fun K13 hK13 => ?_
        refine AWp.block ?_
        refine AWp.mask [true, true, true, true, true] rfl ?_
        simp only [go_sem]
        refine AWp.loopS [true, true, true, true] [false, false, false, false, true] (fun n lc hc => ∃ (e : Nat), n = s.length - e ∧ EqS lc [(7, .d (.int .i64 e))] ∧ EqS hc (⟨[], [v]⟩) ∧ (i ≤ e) ∧ (e ≤ s.length) ∧ (offS (s.drop e) = offS (s.drop i)) ∧ ((s.take e).drop i ++ runS (s.drop e) = runS (s.drop i))) rfl ?_ ?_
        · refine ⟨_, i, rfl, ?_, ?_, ?_, ?_, ?_, ?_⟩
          · (try simp only [go_sem, icast, ft0]) <;> first | exact ⟨rfl⟩ | (constructor; simp; done)
          · (try simp only [go_sem, icast, ft0]) <;> first | exact ⟨rfl⟩ | (constructor; simp; done)
          all_goals (first | omega | rfl | (simp; done))
        · rintro _ _ _ ⟨e, rfl, ⟨rfl⟩, ⟨rfl⟩, g1, g2, g3, g4⟩
          simp only [go_sem]
          refine AWp.seq fun K14 hK14 => ?_
          refine AWp.rs fun K15 hK15 => ?_
          try simp only [go_sem, icast, ft0]
          (repeat (with_reducible refine And.intro ?_ ?_; (first | omega | (intro _; omega) | decide | (exact nfB) | (intro _; exact nfB) | (intro hg; refine ⟨hg, ?_⟩; omega) | (simp; done) | (simp; omega) | (intro hg; simp at hg; done) | (intro hg; simp at hg ⊢; first | omega | exact hg | grind))))
          refine DW.pcgr rfl rfl rfl rfl rfl (fun hg => atomByte_p T _) (fun hg => by (try simp only [go_sem, icast, ft0]) <;> first | exact hg | (exfalso; simp at hg; done) | (simpa using hg) | grind) rfl rfl ?_
          try simp only [go_sem, icast, ft0]
          (repeat (with_reducible refine And.intro ?_ ?_; (first | omega | (intro _; omega) | decide | (exact nfB) | (intro _; exact nfB) | (intro hg; refine ⟨hg, ?_⟩; omega) | (simp; done) | (simp; omega) | (intro hg; simp at hg; done) | (intro hg; simp at hg ⊢; first | omega | exact hg | grind))))
          refine hK15 _ _ ?_
          try clear hK15 K15
          refine AWp.mask [true, true, true, true, true, false, false, false, false, false, false, false, false, false, false, false, false, false, false, false, true] rfl ?_
          simp only [go_sem]
          refine AWp.cond _ rfl (fun hc2 => ?_) (fun hc2 => ?_)
          · skip
            try simp only [decide_eq_true_eq, decide_eq_false_iff_not, Bool.not_eq_true', Bool.not_eq_false', Bool.and_eq_true, Bool.or_eq_true, Bool.and_eq_false_iff, Bool.or_eq_false_iff, Int.not_lt, Int.not_le, beq_iff_eq, beq_eq_false_iff_ne, ne_eq, Bool.not_eq_true, Bool.not_eq_false] at hc2
            have hrb : ∀ h, runB (s.getD e 0) = true := fun (h : (atomB (s.getD e 0) = true ∨ ((s.getD e 0).toNat : Int) = 46)) => by rw [runB_eq]; simpa using h
            refine AWp.skip ?_
            refine thenQ_n ?_
            refine hK14 _ _ ?_
            try clear hK14 K14
            refine AWp.block ?_
            refine AWp.rk fun K16 hK16 => ?_
            try simp only [go_sem, icast, ft0]
            (repeat (with_reducible refine And.intro ?_ ?_; (first | omega | (intro _; omega) | decide | (exact nfB) | (intro _; exact nfB) | (intro hg; refine ⟨hg, ?_⟩; omega) | (simp; done) | (simp; omega) | (intro hg; simp at hg; done) | (intro hg; simp at hg ⊢; first | omega | exact hg | grind))))
            refine hK16 _ _ ?_
            try clear hK16 K16
            refine blkQ_n (thenQ_n ?_)
            refine EndS.mkr [true, true, true, true] [false, false, false, false, true] rfl ?_ ?_
            · (try simp only [go_sem, icast, ft0]) <;> try rfl
            refine .e ⟨_, ?_, e + 1, rfl, ?_, ?_, ?_, ?_, ?_, ?_⟩
            · first | omega | (simp; omega) | (grind)
            · (try simp only [go_sem, icast, ft0]) <;> first | exact ⟨rfl⟩ | (constructor; simp; done)
            · (try simp only [go_sem, icast, ft0]) <;> first | exact ⟨rfl⟩ | (constructor; simp; done)
            · omega
            · omega
            · rw [← (run_step (by omega) (hrb hc2.2)).2]; exact g3
            · rw [(run_step (by omega) (hrb hc2.2)).1, take_step (by omega) g1] at g4; exact g4
          · skip
            try simp only [decide_eq_true_eq, decide_eq_false_iff_not, Bool.not_eq_true', Bool.not_eq_false', Bool.and_eq_true, Bool.or_eq_true, Bool.and_eq_false_iff, Bool.or_eq_false_iff, Int.not_lt, Int.not_le, beq_iff_eq, beq_eq_false_iff_ne, ne_eq, Bool.not_eq_true, Bool.not_eq_false] at hc2
            have he := run_end (s := s) (j := e) (fun hj => by
              rw [runB_eq]
              rcases hc2 with hc2 | hc2
              · omega
              · simpa using hc2)
            refine AWp.exit ?_
            refine thenQ_e (thenQ_e (blkQ_e (thenQ_n ?_)))
            refine hK13 _ _ ?_
            try clear hK13 K13
            refine AWp.seq fun K17 hK17 => ?_
            refine AWp.rs fun K18 hK18 => ?_
            try simp only [go_sem, icast, ft0]
            (repeat (with_reducible refine And.intro ?_ ?_; (first | omega | (intro _; omega) | decide | (exact nfB) | (intro _; exact nfB) | (intro hg; refine ⟨hg, ?_⟩; omega) | (simp; done) | (simp; omega) | (intro hg; simp at hg; done) | (intro hg; simp at hg ⊢; first | omega | exact hg | grind))))
            refine hK18 _ _ ?_
            try clear hK18 K18
            refine AWp.cond _ rfl (fun hc3 => ?_) (fun hc3 => ?_)
            · skip
              try simp only [decide_eq_true_eq, decide_eq_false_iff_not, Bool.not_eq_true', Bool.not_eq_false', Bool.and_eq_true, Bool.or_eq_true, Bool.and_eq_false_iff, Bool.or_eq_false_iff, Int.not_lt, Int.not_le, beq_iff_eq, beq_eq_false_iff_ne, ne_eq, Bool.not_eq_true, Bool.not_eq_false] at hc3
              have hrne := run_pos g4 he.1 (by omega) g2
              have hru : runS (s.drop i) = (s.take e).drop i := by rw [← g4, he.1, List.append_nil]
              have hst : bitsS ap (s.drop i) = (bitsS false (s.drop e)).map (⟨(s.take e).drop i, true, false, ap⟩ :: ·) := by rw [bits_runs hrne, hru, ← g3, he.2]
              refine AWp.rs fun K19 hK19 => ?_
              try simp only [go_sem, icast, ft0]
              (repeat (with_reducible refine And.intro ?_ ?_; (first | omega | (intro _; omega) | decide | (exact nfB) | (intro _; exact nfB) | (intro hg; refine ⟨hg, ?_⟩; omega) | (simp; done) | (simp; omega) | (intro hg; simp at hg; done) | (intro hg; simp at hg ⊢; first | omega | exact hg | grind))))
              refine DW.app rfl rfl rfl rfl (show slI Tryd.prog 171 = some (177, 4, 24) by simp only [go_sem]) rfl rfl (by simp only [go_sem, icast, ft0]) (by first | exact .inl rfl | exact .inr rfl) (by (try simp only [go_sem]); omega) (by (try simp only [go_sem]); omega) fun t1 ft1 => ?_
              try simp only [freshT] at ft1
              try simp only [go_sem, icast, ft0, ft1]
              (repeat (with_reducible refine And.intro ?_ ?_; (first | omega | (intro _; omega) | decide | (exact nfB) | (intro _; exact nfB) | (intro hg; refine ⟨hg, ?_⟩; omega) | (simp; done) | (simp; omega) | (intro hg; simp at hg; done) | (intro hg; simp at hg ⊢; first | omega | exact hg | grind))))
              refine hK19 _ _ ?_
              try clear hK19 K19
              refine AWp.mask [true, true, false, false, true] rfl ?_
              simp only [go_sem]
              refine AWp.rs fun K20 hK20 => ?_
              try simp only [go_sem, icast, ft0, ft1]
              (repeat (with_reducible refine And.intro ?_ ?_; (first | omega | (intro _; omega) | decide | (exact nfB) | (intro _; exact nfB) | (intro hg; refine ⟨hg, ?_⟩; omega) | (simp; done) | (simp; omega) | (intro hg; simp at hg; done) | (intro hg; simp at hg ⊢; first | omega | exact hg | grind))))
              refine hK20 _ _ ?_
              try clear hK20 K20
              refine AWp.rs fun K21 hK21 => ?_
              try simp only [go_sem, icast, ft0, ft1]
              (repeat (with_reducible refine And.intro ?_ ?_; (first | omega | (intro _; omega) | decide | (exact nfB) | (intro _; exact nfB) | (intro hg; refine ⟨hg, ?_⟩; omega) | (simp; done) | (simp; omega) | (intro hg; simp at hg; done) | (intro hg; simp at hg ⊢; first | omega | exact hg | grind))))
              refine hK21 _ _ ?_
              try clear hK21 K21
              refine AWp.exit ?_
              refine thenQ_e (blkQ_e (thenQ_n ?_))
              refine EndS.mk [true] [false, true, true, true] [] [] [] [t1] rfl ?_ ?_
              · (try simp only [go_sem, icast, ft0, ft1]) <;> try rfl
              refine .e ⟨_, ?_, e, t1, false, (Y ++ [⟨(s.take e).drop i, true, false, ap⟩]), rfl, ?_, ?_, ?_, ?_, ?_⟩
              · first | omega | (simp; omega) | (grind)
              · (try simp only [go_sem, icast, ft0, ft1]) <;> first | exact ⟨rfl⟩ | (constructor; first | (simp [btsD, btD, take1 hlt]; done) | (simp [btsD, btD]; done))
              · (try simp only [go_sem, icast, ft0, ft1]) <;> first | exact ⟨rfl⟩ | (constructor; simp; done)
              · omega
              · first | omega | (simp; omega)
              · first | (rw [← h3, hst]; done) | (rw [← h3, hst]; cases bitsS false (s.drop e) <;> simp)
            · skip
              try simp only [decide_eq_true_eq, decide_eq_false_iff_not, Bool.not_eq_true', Bool.not_eq_false', Bool.and_eq_true, Bool.or_eq_true, Bool.and_eq_false_iff, Bool.or_eq_false_iff, Int.not_lt, Int.not_le, beq_iff_eq, beq_eq_false_iff_ne, ne_eq, Bool.not_eq_true, Bool.not_eq_false] at hc3
              have hru := run_zero g4 he.1 (by omega) hlt
              refine AWp.skip ?_
              refine thenQ_n ?_
              refine hK17 _ _ ?_
              try clear hK17 K17
              refine AWp.mask [true, true, true, true] rfl ?_
              simp only [go_sem]
              refine AWp.seq fun K22 hK22 => ?_
              refine AWp.rs fun K23 hK23 => ?_
              try simp only [go_sem, icast, ft0]
              (repeat (with_reducible refine And.intro ?_ ?_; (first | omega | (intro _; omega) | decide | (exact nfB) | (intro _; exact nfB) | (intro hg; refine ⟨hg, ?_⟩; omega) | (simp; done) | (simp; omega) | (intro hg; simp at hg; done) | (intro hg; simp at hg ⊢; first | omega | exact hg | grind))))
              refine hK23 _ _ ?_
              try clear hK23 K23
              refine AWp.cond _ rfl (fun hc4 => ?_) (fun hc4 => ?_)
              · skip
                try simp only [decide_eq_true_eq, decide_eq_false_iff_not, Bool.not_eq_true', Bool.not_eq_false', Bool.and_eq_true, Bool.or_eq_true, Bool.and_eq_false_iff, Bool.or_eq_false_iff, Int.not_lt, Int.not_le, beq_iff_eq, beq_eq_false_iff_ne, ne_eq, Bool.not_eq_true, Bool.not_eq_false] at hc4
                have hne : s.getD i 0 ≠ 34 := fun h => hc4 (by rw [h]; rfl)
                have hst : bitsS ap (s.drop i) = (bitsS false (s.drop (i + 1))).map (⟨[s.getD i 0], false, false, ap⟩ :: ·) := by rw [hd, bits_one hc1 hru hne]
                refine AWp.rs fun K24 hK24 => ?_
                try simp only [go_sem, icast, ft0]
                (repeat (with_reducible refine And.intro ?_ ?_; (first | omega | (intro _; omega) | decide | (exact nfB) | (intro _; exact nfB) | (intro hg; refine ⟨hg, ?_⟩; omega) | (simp; done) | (simp; omega) | (intro hg; simp at hg; done) | (intro hg; simp at hg ⊢; first | omega | exact hg | grind))))
                refine DW.app rfl rfl rfl rfl (show slI Tryd.prog 171 = some (177, 4, 24) by simp only [go_sem]) rfl rfl (by simp only [go_sem, icast, ft0]) (by first | exact .inl rfl | exact .inr rfl) (by (try simp only [go_sem]); omega) (by (try simp only [go_sem]); omega) fun t2 ft2 => ?_
                try simp only [freshT] at ft2
                try simp only [go_sem, icast, ft0, ft2]
                (repeat (with_reducible refine And.intro ?_ ?_; (first | omega | (intro _; omega) | decide | (exact nfB) | (intro _; exact nfB) | (intro hg; refine ⟨hg, ?_⟩; omega) | (simp; done) | (simp; omega) | (intro hg; simp at hg; done) | (intro hg; simp at hg ⊢; first | omega | exact hg | grind))))
                refine hK24 _ _ ?_
                try clear hK24 K24
                refine AWp.mask [true, true, false, true] rfl ?_
                simp only [go_sem]
                refine AWp.rs fun K25 hK25 => ?_
                try simp only [go_sem, icast, ft0, ft2]
                (repeat (with_reducible refine And.intro ?_ ?_; (first | omega | (intro _; omega) | decide | (exact nfB) | (intro _; exact nfB) | (intro hg; refine ⟨hg, ?_⟩; omega) | (simp; done) | (simp; omega) | (intro hg; simp at hg; done) | (intro hg; simp at hg ⊢; first | omega | exact hg | grind))))
                refine hK25 _ _ ?_
                try clear hK25 K25
                refine AWp.rs fun K26 hK26 => ?_
                try simp only [go_sem, icast, ft0, ft2]
                (repeat (with_reducible refine And.intro ?_ ?_; (first | omega | (intro _; omega) | decide | (exact nfB) | (intro _; exact nfB) | (intro hg; refine ⟨hg, ?_⟩; omega) | (simp; done) | (simp; omega) | (intro hg; simp at hg; done) | (intro hg; simp at hg ⊢; first | omega | exact hg | grind))))
                refine hK26 _ _ ?_
                try clear hK26 K26
                refine AWp.exit ?_
                refine thenQ_e (blkQ_e (thenQ_n ?_))
                refine EndS.mk [true] [false, true, true, true] [] [] [] [t2] rfl ?_ ?_
                · (try simp only [go_sem, icast, ft0, ft2]) <;> try rfl
                refine .e ⟨_, ?_, (i + 1), t2, false, (Y ++ [⟨[s.getD i 0], false, false, ap⟩]), rfl, ?_, ?_, ?_, ?_, ?_⟩
                · first | omega | (simp; omega) | (grind)
                · (try simp only [go_sem, icast, ft0, ft2]) <;> first | exact ⟨rfl⟩ | (constructor; first | (simp [btsD, btD, take1 hlt]; done) | (simp [btsD, btD]; done))
                · (try simp only [go_sem, icast, ft0, ft2]) <;> first | exact ⟨rfl⟩ | (constructor; simp; done)
                · omega
                · first | omega | (simp; omega)
                · first | (rw [← h3, hst]; done) | (rw [← h3, hst]; cases bitsS false (s.drop (i + 1)) <;> simp)
              · skip
                try simp only [decide_eq_true_eq, decide_eq_false_iff_not, Bool.not_eq_true', Bool.not_eq_false', Bool.and_eq_true, Bool.or_eq_true, Bool.and_eq_false_iff, Bool.or_eq_false_iff, Int.not_lt, Int.not_le, beq_iff_eq, beq_eq_false_iff_ne, ne_eq, Bool.not_eq_true, Bool.not_eq_false] at hc4
                have h34 : s.getD i 0 = 34 := (byte_is _ 34).1 hc4
                rw [h34] at hd
                refine AWp.skip ?_
                refine thenQ_n ?_
                refine hK22 _ _ ?_
                try clear hK22 K22
                refine AWp.mask [true, true, true, true] rfl ?_
                simp only [go_sem]
                refine AWp.rs fun K27 hK27 => ?_
                try simp only [go_sem, icast, ft0]
                (repeat (with_reducible refine And.intro ?_ ?_; (first | omega | (intro _; omega) | decide | (exact nfB) | (intro _; exact nfB) | (intro hg; refine ⟨hg, ?_⟩; omega) | (simp; done) | (simp; omega) | (intro hg; simp at hg; done) | (intro hg; simp at hg ⊢; first | omega | exact hg | grind))))
                refine hK27 _ _ ?_
                try clear hK27 K27
                refine AWp.seq fun K28 hK28 => ?_
                refine AWp.block ?_
                refine AWp.mask [true, true, true, false, true] rfl ?_
                simp only [go_sem]
                refine AWp.loopS [true, true, true] [false, false, false, true] (fun n lc hc => ∃ (e : Nat), n = s.length + 2 - e ∧ EqS lc [(7, .d (.int .i64 e))] ∧ EqS hc (⟨[], [v]⟩) ∧ (i + 1 ≤ e) ∧ (quoS (s.drop e) = quoS (s.drop (i + 1)))) rfl ?_ ?_
                · refine ⟨_, (i + 1), rfl, ?_, ?_, ?_, ?_⟩
                  · (try simp only [go_sem, icast, ft0]) <;> first | exact ⟨rfl⟩ | (constructor; simp; done)
                  · (try simp only [go_sem, icast, ft0]) <;> first | exact ⟨rfl⟩ | (constructor; simp; done)
                  all_goals (first | omega | rfl | (simp; done) | (simp; omega) | assumption)
                · rintro _ _ _ ⟨e, rfl, ⟨rfl⟩, ⟨rfl⟩, k1, k2⟩
                  simp only [go_sem]
                  refine AWp.seq fun K29 hK29 => ?_
                  refine AWp.rs fun K30 hK30 => ?_
                  try simp only [go_sem, icast, ft0]
                  (repeat (with_reducible refine And.intro ?_ ?_; (first | omega | (intro _; omega) | decide | (exact nfB) | (intro _; exact nfB) | (intro hg; refine ⟨hg, ?_⟩; omega) | (simp; done) | (simp; omega) | (intro hg; simp at hg; done) | (intro hg; simp at hg ⊢; first | omega | exact hg | grind))))
                  refine hK30 _ _ ?_
                  try clear hK30 K30
                  refine AWp.mask [true, true, true, true, false, false, false, false, false, false, false, false, false, true] rfl ?_
                  simp only [go_sem]
                  refine AWp.cond _ rfl (fun hc5 => ?_) (fun hc5 => ?_)
                  · skip
                    try simp only [decide_eq_true_eq, decide_eq_false_iff_not, Bool.not_eq_true', Bool.not_eq_false', Bool.and_eq_true, Bool.or_eq_true, Bool.and_eq_false_iff, Bool.or_eq_false_iff, Int.not_lt, Int.not_le, beq_iff_eq, beq_eq_false_iff_ne, ne_eq, Bool.not_eq_true, Bool.not_eq_false] at hc5
                    have hel : e < s.length := by omega
                    have hed := drop_cons hel
                    have hn34 : s.getD e 0 ≠ 34 := fun h => hc5.2 (by rw [h]; rfl)
                    refine AWp.skip ?_
                    refine thenQ_n ?_
                    refine hK29 _ _ ?_
                    try clear hK29 K29
                    refine AWp.block ?_
                    refine AWp.seq fun K31 hK31 => ?_
                    refine AWp.rs fun K32 hK32 => ?_
                    try simp only [go_sem, icast, ft0]
                    (repeat (with_reducible refine And.intro ?_ ?_; (first | omega | (intro _; omega) | decide | (exact nfB) | (intro _; exact nfB) | (intro hg; refine ⟨hg, ?_⟩; omega) | (simp; done) | (simp; omega) | (intro hg; simp at hg; done) | (intro hg; simp at hg ⊢; first | omega | exact hg | grind))))
                    refine hK32 _ _ ?_
                    try clear hK32 K32
                    refine AWp.mask [true, true, true, true, false, false, false, false, true] rfl ?_
                    simp only [go_sem]
                    refine AWp.cond _ rfl (fun hc6 => ?_) (fun hc6 => ?_)
                    · skip
                      try simp only [decide_eq_true_eq, decide_eq_false_iff_not, Bool.not_eq_true', Bool.not_eq_false', Bool.and_eq_true, Bool.or_eq_true, Bool.and_eq_false_iff, Bool.or_eq_false_iff, Int.not_lt, Int.not_le, beq_iff_eq, beq_eq_false_iff_ne, ne_eq, Bool.not_eq_true, Bool.not_eq_false] at hc6
                      have h92 : s.getD e 0 = 92 := (byte_is _ 92).1 hc6
                      have hsq : quoS (s.drop e) = quoS (s.drop (e + 1 + 1)) := by
                        rw [hed, h92]
                        rcases Nat.lt_or_ge (e + 1) s.length with h | h
                        · rw [drop_cons h, quo_esc]
                        · rw [drop_none h, drop_none (by omega)]; exact quo_esc1
                      refine AWp.rk fun K33 hK33 => ?_
                      try simp only [go_sem, icast, ft0]
                      (repeat (with_reducible refine And.intro ?_ ?_; (first | omega | (intro _; omega) | decide | (exact nfB) | (intro _; exact nfB) | (intro hg; refine ⟨hg, ?_⟩; omega) | (simp; done) | (simp; omega) | (intro hg; simp at hg; done) | (intro hg; simp at hg ⊢; first | omega | exact hg | grind))))
                      refine hK33 _ _ ?_
                      try clear hK33 K33
                      refine thenQ_n ?_
                      refine hK31 _ _ ?_
                      try clear hK31 K31
                      refine AWp.rk fun K34 hK34 => ?_
                      try simp only [go_sem, icast, ft0]
                      (repeat (with_reducible refine And.intro ?_ ?_; (first | omega | (intro _; omega) | decide | (exact nfB) | (intro _; exact nfB) | (intro hg; refine ⟨hg, ?_⟩; omega) | (simp; done) | (simp; omega) | (intro hg; simp at hg; done) | (intro hg; simp at hg ⊢; first | omega | exact hg | grind))))
                      refine hK34 _ _ ?_
                      try clear hK34 K34
                      refine blkQ_n (thenQ_n ?_)
                      refine EndS.mkr [true, true, true] [false, false, false, true] rfl ?_ ?_
                      · (try simp only [go_sem, icast, ft0]) <;> try rfl
                      refine .e ⟨_, ?_, (e + 1 + 1), rfl, ?_, ?_, ?_, ?_⟩
                      · first | omega | (simp; omega) | (grind)
                      · (try simp only [go_sem, icast, ft0]) <;> first | exact ⟨rfl⟩ | (constructor; simp; done)
                      · (try simp only [go_sem, icast, ft0]) <;> first | exact ⟨rfl⟩ | (constructor; simp; done)
                      · omega
                      · rw [← k2]; exact hsq.symm
                    · skip
                      try simp only [decide_eq_true_eq, decide_eq_false_iff_not, Bool.not_eq_true', Bool.not_eq_false', Bool.and_eq_true, Bool.or_eq_true, Bool.and_eq_false_iff, Bool.or_eq_false_iff, Int.not_lt, Int.not_le, beq_iff_eq, beq_eq_false_iff_ne, ne_eq, Bool.not_eq_true, Bool.not_eq_false] at hc6
                      have hsq : quoS (s.drop e) = quoS (s.drop (e + 1)) := by rw [hed]; exact quo_step hn34 (fun h => hc6 (by rw [h]; rfl))
                      refine AWp.skip ?_
                      refine thenQ_n ?_
                      refine hK31 _ _ ?_
                      try clear hK31 K31
                      refine AWp.rk fun K35 hK35 => ?_
                      try simp only [go_sem, icast, ft0]
                      (repeat (with_reducible refine And.intro ?_ ?_; (first | omega | (intro _; omega) | decide | (exact nfB) | (intro _; exact nfB) | (intro hg; refine ⟨hg, ?_⟩; omega) | (simp; done) | (simp; omega) | (intro hg; simp at hg; done) | (intro hg; simp at hg ⊢; first | omega | exact hg | grind))))
                      refine hK35 _ _ ?_
                      try clear hK35 K35
                      refine blkQ_n (thenQ_n ?_)
                      refine EndS.mkr [true, true, true] [false, false, false, true] rfl ?_ ?_
                      · (try simp only [go_sem, icast, ft0]) <;> try rfl
                      refine .e ⟨_, ?_, (e + 1), rfl, ?_, ?_, ?_, ?_⟩
                      · first | omega | (simp; omega) | (grind)
                      · (try simp only [go_sem, icast, ft0]) <;> first | exact ⟨rfl⟩ | (constructor; simp; done)
                      · (try simp only [go_sem, icast, ft0]) <;> first | exact ⟨rfl⟩ | (constructor; simp; done)
                      · omega
                      · rw [← k2]; exact hsq.symm
                  · skip
                    try simp only [decide_eq_true_eq, decide_eq_false_iff_not, Bool.not_eq_true', Bool.not_eq_false', Bool.and_eq_true, Bool.or_eq_true, Bool.and_eq_false_iff, Bool.or_eq_false_iff, Int.not_lt, Int.not_le, beq_iff_eq, beq_eq_false_iff_ne, ne_eq, Bool.not_eq_true, Bool.not_eq_false] at hc5
                    refine AWp.exit ?_
                    refine thenQ_e (thenQ_e (blkQ_e (thenQ_n ?_)))
                    refine hK28 _ _ ?_
                    try clear hK28 K28
                    refine AWp.seq fun K36 hK36 => ?_
                    refine AWp.rs fun K37 hK37 => ?_
                    try simp only [go_sem, icast, ft0]
                    (repeat (with_reducible refine And.intro ?_ ?_; (first | omega | (intro _; omega) | decide | (exact nfB) | (intro _; exact nfB) | (intro hg; refine ⟨hg, ?_⟩; omega) | (simp; done) | (simp; omega) | (intro hg; simp at hg; done) | (intro hg; simp at hg ⊢; first | omega | exact hg | grind))))
                    refine hK37 _ _ ?_
                    try clear hK37 K37
                    refine AWp.mask [true, true, true, true, false, false, false, false, true] rfl ?_
                    simp only [go_sem]
                    refine AWp.cond _ rfl (fun hc7 => ?_) (fun hc7 => ?_)
                    · skip
                      try simp only [decide_eq_true_eq, decide_eq_false_iff_not, Bool.not_eq_true', Bool.not_eq_false', Bool.and_eq_true, Bool.or_eq_true, Bool.and_eq_false_iff, Bool.or_eq_false_iff, Int.not_lt, Int.not_le, beq_iff_eq, beq_eq_false_iff_ne, ne_eq, Bool.not_eq_true, Bool.not_eq_false] at hc7
                      have hq : quoS (s.drop (i + 1)) = none := by rw [← k2, drop_none (by omega)]; rfl
                      refine AWp.rs fun K38 hK38 => ?_
                      try simp only [go_sem, icast, ft0]
                      (repeat (with_reducible refine And.intro ?_ ?_; (first | omega | (intro _; omega) | decide | (exact nfB) | (intro _; exact nfB) | (intro hg; refine ⟨hg, ?_⟩; omega) | (simp; done) | (simp; omega) | (intro hg; simp at hg; done) | (intro hg; simp at hg ⊢; first | omega | exact hg | grind))))
                      refine hK38 _ _ ?_
                      try clear hK38 K38
                      refine AWp.mask [false, true, true] rfl ?_
                      simp only [go_sem]
                      refine AWp.ret ?_
                      try simp only [go_sem, icast, ft0]
                      have hn : bitsS false s = none := by rw [← h3, hd, bits_quoN hq]; rfl
                      rw [hn]; simp [bitsV, LeA, LeL, LeD]
                    · skip
                      try simp only [decide_eq_true_eq, decide_eq_false_iff_not, Bool.not_eq_true', Bool.not_eq_false', Bool.and_eq_true, Bool.or_eq_true, Bool.and_eq_false_iff, Bool.or_eq_false_iff, Int.not_lt, Int.not_le, beq_iff_eq, beq_eq_false_iff_ne, ne_eq, Bool.not_eq_true, Bool.not_eq_false] at hc7
                      have hel : e < s.length := by omega
                      have h34e : s.getD e 0 = 34 := (byte_is _ 34).1 (by
                        rcases hc5 with hc5 | hc5
                        · omega
                        · exact hc5)
                      have hq : quoS (s.drop (i + 1)) = some (s.drop (e + 1)) := by rw [← k2, drop_cons hel, h34e, quo_end]
                      have hst : bitsS ap (s.drop i) = (bitsS false (s.drop (e + 1))).map (⟨[], false, true, ap⟩ :: ·) := by rw [hd, bits_quoS hq]
                      refine AWp.skip ?_
                      refine thenQ_n ?_
                      refine hK36 _ _ ?_
                      try clear hK36 K36
                      refine AWp.rs fun K39 hK39 => ?_
                      try simp only [go_sem, icast, ft0]
                      (repeat (with_reducible refine And.intro ?_ ?_; (first | omega | (intro _; omega) | decide | (exact nfB) | (intro _; exact nfB) | (intro hg; refine ⟨hg, ?_⟩; omega) | (simp; done) | (simp; omega) | (intro hg; simp at hg; done) | (intro hg; simp at hg ⊢; first | omega | exact hg | grind))))
                      refine DW.app rfl rfl rfl rfl (show slI Tryd.prog 171 = some (177, 4, 24) by simp only [go_sem]) rfl rfl (by simp only [go_sem, icast, ft0]) (by first | exact .inl rfl | exact .inr rfl) (by (try simp only [go_sem]); omega) (by (try simp only [go_sem]); omega) fun t3 ft3 => ?_
                      try simp only [freshT] at ft3
                      try simp only [go_sem, icast, ft0, ft3]
                      (repeat (with_reducible refine And.intro ?_ ?_; (first | omega | (intro _; omega) | decide | (exact nfB) | (intro _; exact nfB) | (intro hg; refine ⟨hg, ?_⟩; omega) | (simp; done) | (simp; omega) | (intro hg; simp at hg; done) | (intro hg; simp at hg ⊢; first | omega | exact hg | grind))))
                      refine hK39 _ _ ?_
                      try clear hK39 K39
                      refine AWp.mask [true, true, false, true] rfl ?_
                      simp only [go_sem]
                      refine AWp.rs fun K40 hK40 => ?_
                      try simp only [go_sem, icast, ft0, ft3]
                      (repeat (with_reducible refine And.intro ?_ ?_; (first | omega | (intro _; omega) | decide | (exact nfB) | (intro _; exact nfB) | (intro hg; refine ⟨hg, ?_⟩; omega) | (simp; done) | (simp; omega) | (intro hg; simp at hg; done) | (intro hg; simp at hg ⊢; first | omega | exact hg | grind))))
                      refine hK40 _ _ ?_
                      try clear hK40 K40
                      refine AWp.rk fun K41 hK41 => ?_
                      try simp only [go_sem, icast, ft0, ft3]
                      (repeat (with_reducible refine And.intro ?_ ?_; (first | omega | (intro _; omega) | decide | (exact nfB) | (intro _; exact nfB) | (intro hg; refine ⟨hg, ?_⟩; omega) | (simp; done) | (simp; omega) | (intro hg; simp at hg; done) | (intro hg; simp at hg ⊢; first | omega | exact hg | grind))))
                      refine hK41 _ _ ?_
                      try clear hK41 K41
                      refine blkQ_n (thenQ_n ?_)
                      refine EndS.mk [true] [false, true, true, true] [] [] [] [t3] rfl ?_ ?_
                      · (try simp only [go_sem, icast, ft0, ft3]) <;> try rfl
                      refine .e ⟨_, ?_, (e + 1), t3, false, (Y ++ [⟨[], false, true, ap⟩]), rfl, ?_, ?_, ?_, ?_, ?_⟩
                      · first | omega | (simp; omega) | (grind)
                      · (try simp only [go_sem, icast, ft0, ft3]) <;> first | exact ⟨rfl⟩ | (constructor; first | (simp [btsD, btD, take1 hlt]; done) | (simp [btsD, btD]; done))
                      · (try simp only [go_sem, icast, ft0, ft3]) <;> first | exact ⟨rfl⟩ | (constructor; simp; done)
                      · omega
                      · first | omega | (simp; omega)
                      · first | (rw [← h3, hst]; done) | (rw [← h3, hst]; cases bitsS false (s.drop (e + 1)) <;> simp)
    · skip
      try simp only [decide_eq_true_eq, decide_eq_false_iff_not, Bool.not_eq_true', Bool.not_eq_false', Bool.and_eq_true, Bool.or_eq_true, Bool.and_eq_false_iff, Bool.or_eq_false_iff, Int.not_lt, Int.not_le, beq_iff_eq, beq_eq_false_iff_ne, ne_eq, Bool.not_eq_true, Bool.not_eq_false] at hc0
      refine AWp.exit ?_
      refine thenQ_e (thenQ_e (blkQ_e (thenQ_n ?_)))
      refine hK4 _ _ ?_
      try clear hK4 K4
      refine AWp.mask [false, true] rfl ?_
      simp only [go_sem]
      refine AWp.rs fun K42 hK42 => ?_
      try simp only [go_sem, icast, ft0]
      (repeat (with_reducible refine And.intro ?_ ?_; (first | omega | (intro _; omega) | decide | (exact nfB) | (intro _; exact nfB) | (intro hg; refine ⟨hg, ?_⟩; omega) | (simp; done) | (simp; omega) | (intro hg; simp at hg; done) | (intro hg; simp at hg ⊢; first | omega | exact hg | grind))))
      refine hK42 _ _ ?_
      try clear hK42 K42
      refine AWp.ret ?_
      try simp only [go_sem, icast, ft0]
      have hn : bitsS false s = some Y := by rw [← h3, drop_none (by omega), bits_nil]; simp
      rw [hn]; simp [bitsV, LeA, LeL, LeD]
theorem icast2 (n : Nat) : (n : Int) + 2 = ((n + 2 : Nat) : Int) := rfl
theorem icast3 (n : Nat) : (n : Int) + 3 = ((n + 3 : Nat) : Int) := rfl
theorem icast4 (n : Nat) : (n : Int) + 4 = ((n + 4 : Nat) : Int) := rfl
theorem icast5 (n : Nat) : (n : Int) + 5 = ((n + 5 : Nat) : Int) := rfl
def plainV : Option (Ad × List Bt) → AV
  | some (a, _) => .tup [.agg [.d (.str a.1), .d (.str a.2)], .d (.int .i64 3)]
  | none => .tup [.agg [.d (.str []), .d (.str [])], .d (.int .i64 0)]
theorem plain_in {l : List Bt} {i : Nat} (h : i + 2 < l.length) : plainB (l.drop i) = if l[i].run = true ∧ l[i + 1].text = [64] ∧ l[i + 2].run = true ∧ l[i + 1].apart = false ∧ l[i + 2].apart = false ∧ adrE l[i].text l[i + 2].text = 0 then some ((l[i].text, l[i + 2].text), l.drop (i + 3)) else none := by
  rw [List.drop_eq_getElem_cons (by omega : i < l.length), List.drop_eq_getElem_cons (by omega : i + 1 < l.length), List.drop_eq_getElem_cons (by omega : i + 1 + 1 < l.length)]
  rfl
theorem plain_out {l : List Bt} {i : Nat} (h : l.length ≤ i + 2) : plainB (l.drop i) = none := by
  cases e : plainB (l.drop i) with
  | none => rfl
  | some x => obtain ⟨a, t⟩ := x; have := plainB_len e; simp at this; omega
def Short (l : List Bt) : Prop := ∀ x ∈ l, x.text.length ≤ 4096
theorem Short.at {l : List Bt} (h : Short l) {i : Nat} (hi : i < l.length) : (l[i]'hi).text.length ≤ 4096 := h _ (List.getElem_mem hi)
set_option maxRecDepth 4000 in
set_option maxHeartbeats 1000000 in
theorem plainAt_c (T : Tbl) (hL : LibT T) (l : List Bt) (i : Nat) (hs : Short l) (hi : i ≤ 4096) (hl : l.length ≤ 4096) : PC Tryd.prog T 143 [.d (.slc 4 (btsD l)), .d (.int .i64 i)] (plainV (plainB (l.drop i))) := by
  refine ⟨Tryd.call143, PCall.enterS Tryd.func143 rfl Tryd.ntmps143 rfl fun hb => ?_⟩
  simp only [go_sem, Tryd.results143]
  refine AWp.rs fun K1 hK1 => ?_
  try simp only [go_sem, icast, icast2, decide_false, decide_true, Bool.false_or, Bool.true_or, Bool.not_true, Bool.not_false, Bool.false_eq_true, Bool.true_eq_false, false_imp_iff, and_true, true_and]
  (repeat (with_reducible refine And.intro ?_ ?_; (first | omega | (intro _; omega) | decide | (exact nfB) | (intro _; exact nfB) | (intro hg; refine ⟨hg, ?_⟩; omega) | (simp; done) | (simp; omega) | (intro hg; simp at hg; done) | (intro hg; simp at hg ⊢; first | omega | exact hg | grind))))
  intro b4
  first | intro fb4 | have fb4 := True.intro
  try simp only [freshL] at fb4
  try simp only [go_sem, icast, icast2, decide_false, decide_true, Bool.false_or, Bool.true_or, Bool.not_true, Bool.not_false, Bool.false_eq_true, Bool.true_eq_false, false_imp_iff, and_true, true_and, fb4]
  (repeat (with_reducible refine And.intro ?_ ?_; (first | omega | (intro _; omega) | decide | (exact nfB) | (intro _; exact nfB) | (intro hg; refine ⟨hg, ?_⟩; omega) | (simp; done) | (simp; omega) | (intro hg; simp at hg; done) | (intro hg; simp at hg ⊢; first | omega | exact hg | grind))))
  refine hK1 _ _ ?_
  try clear hK1 K1
  refine AWp.seq fun K2 hK2 => ?_
  rcases Nat.lt_or_ge (i + 2) l.length with hlt | hlt
  · skip
    have hge : ((l.length : Int) ≤ ((i + 2 : Nat) : Int)) = False := by simp; omega
    have e0 := btsD_get l i [] (by omega)
    have e1 := btsD_get l (i + 1) [] (by omega)
    have e2 := btsD_get l (i + 2) [] (by omega)
    refine AWp.rs fun K3 hK3 => ?_
    try simp only [go_sem, icast, icast2, decide_false, decide_true, Bool.false_or, Bool.true_or, Bool.not_true, Bool.not_false, Bool.false_eq_true, Bool.true_eq_false, false_imp_iff, and_true, true_and, fb4, btsD_get l i _ (by omega), btsD_get l (i + 1) _ (by omega), btsD_get l (i + 2) _ (by omega), btD, hge]
    (repeat (with_reducible refine And.intro ?_ ?_; (first | omega | (intro _; omega) | decide | (exact nfB) | (intro _; exact nfB) | (intro hg; refine ⟨hg, ?_⟩; omega) | (simp; done) | (simp; omega) | (intro hg; simp at hg; done) | (intro hg; simp at hg ⊢; first | omega | exact hg | grind))))
    refine hK3 _ _ ?_
    try clear hK3 K3
    refine AWp.mask [true, true, true, false, false, false, false, false, false, false, false, false, false, false, false, false, false, false, false, false, false, false, false, false, false, false, false, false, false, false, false, false, false, false, false, false, false, false, false, false, false, false, false, false, false, false, false, false, false, false, true] rfl ?_
    simp only [go_sem]
    refine AWp.cond _ rfl (fun hc0 => ?_) (fun hc0 => ?_)
    · skip
      try simp only [decide_eq_true_eq, decide_eq_false_iff_not, Bool.not_eq_true', Bool.not_eq_false', Bool.and_eq_true, Bool.or_eq_true, Bool.and_eq_false_iff, Bool.or_eq_false_iff, Int.not_lt, Int.not_le, beq_iff_eq, beq_eq_false_iff_ne, ne_eq, Bool.not_eq_true, Bool.not_eq_false] at hc0
      refine AWp.rs fun K4 hK4 => ?_
      try simp only [go_sem, icast, icast2, decide_false, decide_true, Bool.false_or, Bool.true_or, Bool.not_true, Bool.not_false, Bool.false_eq_true, Bool.true_eq_false, false_imp_iff, and_true, true_and, fb4, btsD_get l i _ (by omega), btsD_get l (i + 1) _ (by omega), btsD_get l (i + 2) _ (by omega), btD, hge]
      (repeat (with_reducible refine And.intro ?_ ?_; (first | omega | (intro _; omega) | decide | (exact nfB) | (intro _; exact nfB) | (intro hg; refine ⟨hg, ?_⟩; omega) | (simp; done) | (simp; omega) | (intro hg; simp at hg; done) | (intro hg; simp at hg ⊢; first | omega | exact hg | grind))))
      refine hK4 _ _ ?_
      try clear hK4 K4
      refine AWp.mask [false, false, true, true] rfl ?_
      simp only [go_sem]
      refine AWp.ret ?_
      try simp only [go_sem, icast, icast2, decide_false, decide_true, Bool.false_or, Bool.true_or, Bool.not_true, Bool.not_false, Bool.false_eq_true, Bool.true_eq_false, false_imp_iff, and_true, true_and, fb4, btsD_get l i _ (by omega), btsD_get l (i + 1) _ (by omega), btsD_get l (i + 2) _ (by omega), btD, hge]
      first | (rw [plain_out hlt]; simp [plainV, LeA, LeL, LeD]; done) | (rw [plain_in hlt, if_neg (fun h => by simp [h] at hc0)]; simp [plainV, LeA, LeL, LeD])
    · skip
      try simp only [decide_eq_true_eq, decide_eq_false_iff_not, Bool.not_eq_true', Bool.not_eq_false', Bool.and_eq_true, Bool.or_eq_true, Bool.and_eq_false_iff, Bool.or_eq_false_iff, Int.not_lt, Int.not_le, beq_iff_eq, beq_eq_false_iff_ne, ne_eq, Bool.not_eq_true, Bool.not_eq_false] at hc0
      refine AWp.skip ?_
      refine thenQ_n ?_
      refine hK2 _ _ ?_
      try clear hK2 K2
      refine AWp.trees true (.seg 0 (.seg 1 (.seg 2 (.seg 3 (.seg 5 (.seg 6 (.seg 7 (.seg 8 (.seg 9 (.many (.alt 4 (.many (.alt 10 (.seg 11 (.seg 12 (.seg 13 (.done)))) (.alt 12 (.seg 10 (.seg 11 (.seg 13 (.done)))) (.nil)))) (.alt 10 (.many (.alt 4 (.seg 11 (.seg 12 (.seg 13 (.done)))) (.alt 12 (.seg 4 (.seg 11 (.seg 13 (.done)))) (.nil)))) (.alt 12 (.seg 4 (.seg 10 (.seg 11 (.seg 13 (.done))))) (.nil)))))))))))))) rfl (by kernel_rfl) fun K5 hK5 => ?_
      try simp only [go_sem, icast, icast2, decide_false, decide_true, Bool.false_or, Bool.true_or, Bool.not_true, Bool.not_false, Bool.false_eq_true, Bool.true_eq_false, false_imp_iff, and_true, true_and, fb4, btsD_get l i _ (by omega), btsD_get l (i + 1) _ (by omega), btsD_get l (i + 2) _ (by omega), btD, hge]
      (repeat (with_reducible refine And.intro ?_ ?_; (first | omega | (intro _; omega) | decide | (exact nfB) | (intro _; exact nfB) | (intro hg; refine ⟨hg, ?_⟩; omega) | (simp; done) | (simp; omega) | (intro hg; simp at hg; done) | (intro hg; simp at hg ⊢; first | omega | exact hg | grind))))
      intro b6
      first | intro fb6 | have fb6 := True.intro
      try simp only [freshL] at fb6
      try simp only [go_sem, icast, icast2, decide_false, decide_true, Bool.false_or, Bool.true_or, Bool.not_true, Bool.not_false, Bool.false_eq_true, Bool.true_eq_false, false_imp_iff, and_true, true_and, fb4, btsD_get l i _ (by omega), btsD_get l (i + 1) _ (by omega), btsD_get l (i + 2) _ (by omega), btD, hge, fb6]
      (repeat (with_reducible refine And.intro ?_ ?_; (first | omega | (intro _; omega) | decide | (exact nfB) | (intro _; exact nfB) | (intro hg; refine ⟨hg, ?_⟩; omega) | (simp; done) | (simp; omega) | (intro hg; simp at hg; done) | (intro hg; simp at hg ⊢; first | omega | exact hg | grind))))
      refine hK5 _ _ ?_
      try clear hK5 K5
      refine AWp.mask [false, false, true, true] rfl ?_
      simp only [go_sem]
      refine AWp.seq fun K6 hK6 => ?_
      refine AWp.rs fun K7 hK7 => ?_
      try simp only [go_sem, icast, icast2, decide_false, decide_true, Bool.false_or, Bool.true_or, Bool.not_true, Bool.not_false, Bool.false_eq_true, Bool.true_eq_false, false_imp_iff, and_true, true_and, fb4, btsD_get l i _ (by omega), btsD_get l (i + 1) _ (by omega), btsD_get l (i + 2) _ (by omega), btD, hge, fb6]
      (repeat (with_reducible refine And.intro ?_ ?_; (first | omega | (intro _; omega) | decide | (exact nfB) | (intro _; exact nfB) | (intro hg; refine ⟨hg, ?_⟩; omega) | (simp; done) | (simp; omega) | (intro hg; simp at hg; done) | (intro hg; simp at hg ⊢; first | omega | exact hg | grind))))
      refine DW.pcr rfl rfl rfl rfl (addrFault_p T _ _ (by have := hs.at (i := i) (by omega); omega) (by have := hs.at (i := i + 2) (by omega); omega)) rfl rfl ?_
      try simp only [go_sem, icast, icast2, decide_false, decide_true, Bool.false_or, Bool.true_or, Bool.not_true, Bool.not_false, Bool.false_eq_true, Bool.true_eq_false, false_imp_iff, and_true, true_and, fb4, btsD_get l i _ (by omega), btsD_get l (i + 1) _ (by omega), btsD_get l (i + 2) _ (by omega), btD, hge, fb6]
      (repeat (with_reducible refine And.intro ?_ ?_; (first | omega | (intro _; omega) | decide | (exact nfB) | (intro _; exact nfB) | (intro hg; refine ⟨hg, ?_⟩; omega) | (simp; done) | (simp; omega) | (intro hg; simp at hg; done) | (intro hg; simp at hg ⊢; first | omega | exact hg | grind))))
      refine hK7 _ _ ?_
      try clear hK7 K7
      refine AWp.cond _ rfl (fun hc1 => ?_) (fun hc1 => ?_)
      · skip
        try simp only [decide_eq_true_eq, decide_eq_false_iff_not, Bool.not_eq_true', Bool.not_eq_false', Bool.and_eq_true, Bool.or_eq_true, Bool.and_eq_false_iff, Bool.or_eq_false_iff, Int.not_lt, Int.not_le, beq_iff_eq, beq_eq_false_iff_ne, ne_eq, Bool.not_eq_true, Bool.not_eq_false] at hc1
        refine AWp.rs fun K8 hK8 => ?_
        try simp only [go_sem, icast, icast2, decide_false, decide_true, Bool.false_or, Bool.true_or, Bool.not_true, Bool.not_false, Bool.false_eq_true, Bool.true_eq_false, false_imp_iff, and_true, true_and, fb4, btsD_get l i _ (by omega), btsD_get l (i + 1) _ (by omega), btsD_get l (i + 2) _ (by omega), btD, hge, fb6]
        (repeat (with_reducible refine And.intro ?_ ?_; (first | omega | (intro _; omega) | decide | (exact nfB) | (intro _; exact nfB) | (intro hg; refine ⟨hg, ?_⟩; omega) | (simp; done) | (simp; omega) | (intro hg; simp at hg; done) | (intro hg; simp at hg ⊢; first | omega | exact hg | grind))))
        refine hK8 _ _ ?_
        try clear hK8 K8
        refine AWp.mask [true, true] rfl ?_
        simp only [go_sem]
        refine AWp.ret ?_
        try simp only [go_sem, icast, icast2, decide_false, decide_true, Bool.false_or, Bool.true_or, Bool.not_true, Bool.not_false, Bool.false_eq_true, Bool.true_eq_false, false_imp_iff, and_true, true_and, fb4, btsD_get l i _ (by omega), btsD_get l (i + 1) _ (by omega), btsD_get l (i + 2) _ (by omega), btD, hge, fb6]
        rw [plain_in hlt, if_neg (fun h => hc1 h.2.2.2.2.2)]; simp [plainV, LeA, LeL, LeD]
      · skip
        try simp only [decide_eq_true_eq, decide_eq_false_iff_not, Bool.not_eq_true', Bool.not_eq_false', Bool.and_eq_true, Bool.or_eq_true, Bool.and_eq_false_iff, Bool.or_eq_false_iff, Int.not_lt, Int.not_le, beq_iff_eq, beq_eq_false_iff_ne, ne_eq, Bool.not_eq_true, Bool.not_eq_false] at hc1
        refine AWp.skip ?_
        refine thenQ_n ?_
        refine hK6 _ _ ?_
        try clear hK6 K6
        refine AWp.rs fun K9 hK9 => ?_
        try simp only [go_sem, icast, icast2, decide_false, decide_true, Bool.false_or, Bool.true_or, Bool.not_true, Bool.not_false, Bool.false_eq_true, Bool.true_eq_false, false_imp_iff, and_true, true_and, fb4, btsD_get l i _ (by omega), btsD_get l (i + 1) _ (by omega), btsD_get l (i + 2) _ (by omega), btD, hge, fb6]
        (repeat (with_reducible refine And.intro ?_ ?_; (first | omega | (intro _; omega) | decide | (exact nfB) | (intro _; exact nfB) | (intro hg; refine ⟨hg, ?_⟩; omega) | (simp; done) | (simp; omega) | (intro hg; simp at hg; done) | (intro hg; simp at hg ⊢; first | omega | exact hg | grind))))
        refine hK9 _ _ ?_
        try clear hK9 K9
        refine AWp.mask [true, true] rfl ?_
        simp only [go_sem]
        refine AWp.ret ?_
        try simp only [go_sem, icast, icast2, decide_false, decide_true, Bool.false_or, Bool.true_or, Bool.not_true, Bool.not_false, Bool.false_eq_true, Bool.true_eq_false, false_imp_iff, and_true, true_and, fb4, btsD_get l i _ (by omega), btsD_get l (i + 1) _ (by omega), btsD_get l (i + 2) _ (by omega), btD, hge, fb6]
        rw [plain_in hlt, if_pos ⟨hc0.1.1.1.1, hc0.1.1.1.2, hc0.1.1.2, hc0.1.2, hc0.2, hc1⟩]; simp [plainV, LeA, LeL, LeD]
  · skip
    have hge : ((l.length : Int) ≤ ((i + 2 : Nat) : Int)) = True := by simp; omega
    refine AWp.rs fun K3 hK3 => ?_
    try simp only [go_sem, icast, icast2, decide_false, decide_true, Bool.false_or, Bool.true_or, Bool.not_true, Bool.not_false, Bool.false_eq_true, Bool.true_eq_false, false_imp_iff, and_true, true_and, fb4, hge]
    (repeat (with_reducible refine And.intro ?_ ?_; (first | omega | (intro _; omega) | decide | (exact nfB) | (intro _; exact nfB) | (intro hg; refine ⟨hg, ?_⟩; omega) | (simp; done) | (simp; omega) | (intro hg; simp at hg; done) | (intro hg; simp at hg ⊢; first | omega | exact hg | grind))))
    refine hK3 _ _ ?_
    try clear hK3 K3
    refine AWp.mask [true, true, true, false, false, false, false, false, false, false, false, false, false, false, false, false, false, false, false, false, false, false, false, false, false, false, false, false, false, false, false, false, false, false, false, false, false, false, false, false, false, false, false, false, false, false, false, false, false, false, true] rfl ?_
    simp only [go_sem]
    refine AWp.cond _ rfl (fun hc0 => ?_) (fun hc0 => ?_)
    · skip
      try simp only [decide_eq_true_eq, decide_eq_false_iff_not, Bool.not_eq_true', Bool.not_eq_false', Bool.and_eq_true, Bool.or_eq_true, Bool.and_eq_false_iff, Bool.or_eq_false_iff, Int.not_lt, Int.not_le, beq_iff_eq, beq_eq_false_iff_ne, ne_eq, Bool.not_eq_true, Bool.not_eq_false] at hc0
      refine AWp.rs fun K10 hK10 => ?_
      try simp only [go_sem, icast, icast2, decide_false, decide_true, Bool.false_or, Bool.true_or, Bool.not_true, Bool.not_false, Bool.false_eq_true, Bool.true_eq_false, false_imp_iff, and_true, true_and, fb4, hge]
      (repeat (with_reducible refine And.intro ?_ ?_; (first | omega | (intro _; omega) | decide | (exact nfB) | (intro _; exact nfB) | (intro hg; refine ⟨hg, ?_⟩; omega) | (simp; done) | (simp; omega) | (intro hg; simp at hg; done) | (intro hg; simp at hg ⊢; first | omega | exact hg | grind))))
      refine hK10 _ _ ?_
      try clear hK10 K10
      refine AWp.mask [false, false, true, true] rfl ?_
      simp only [go_sem]
      refine AWp.ret ?_
      try simp only [go_sem, icast, icast2, decide_false, decide_true, Bool.false_or, Bool.true_or, Bool.not_true, Bool.not_false, Bool.false_eq_true, Bool.true_eq_false, false_imp_iff, and_true, true_and, fb4, hge]
      first | (rw [plain_out hlt]; simp [plainV, LeA, LeL, LeD]; done) | (rw [plain_in hlt, if_neg (fun h => by simp [h] at hc0)]; simp [plainV, LeA, LeL, LeD])
    · skip
      exact absurd hc0 (by simp)
end Go.Proofs.YthhfbolhlbgbgaaDoor
