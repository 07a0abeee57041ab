/- Memory words: a slice that reads as a list of cells; what a step keeps; append. -/
import Derived.Test.YtnoboapafndnlaaDoorBase
import Derived.Maps.AppendAt
namespace Go.Proofs.YtnoboapafndnlaaDoor
open Go.RowKit
set_option linter.unusedSimpArgs false
set_option linter.unusedVariables false

/-- the blocks of D hold what they held -/
def Keeps (D : Nat → Prop) (w w' : World) : Prop := ∀ b, D b → w'.heap[b]? = w.heap[b]?
theorem Keeps.refl (D : Nat → Prop) (w : World) : Keeps D w w := fun _ _ => rfl
theorem Keeps.trans {D : Nat → Prop} {a b c : World} (h : Keeps D a b) (k : Keeps D b c) : Keeps D a c := fun x hx => (k x hx).trans (h x hx)
theorem Keeps.mono {D D' : Nat → Prop} {a b : World} (h : Keeps D a b) (k : ∀ x, D' x → D x) : Keeps D' a b := fun x hx => h x (k x hx)
theorem Keeps.cell {D : Nat → Prop} {w w' : World} (h : Keeps D w w') {p : Addr} (hp : D p.block) : w'.cell? p = w.cell? p := World.cell?_of_block (h _ hp)
theorem Keeps.of_below {B : Nat} {w w' : World} (h : Below B w w') : Keeps (· < B) w w' := fun b hb => h.block b hb
theorem Keeps.alloc {D : Nat → Prop} {w : World} (h : ∀ b, D b → b < w.heap.size) (o : Obj) : Keeps D w (w.alloc o) := fun b hb => Below.heap_alloc w o b (h b hb)

theorem Keeps.setCell {D : Nat → Prop} {w : World} {p : Addr} (h : ∀ b, D b → b ≠ p.block) (v : Value) : Keeps D w (w.setCell p v) := fun b hb => Below.heap_setCell w p v b (h b hb)
theorem Keeps.al' {D : Nat → Prop} {w0 w : World} (h : Keeps D w0 w) (hD : ∀ b, D b → b < w.heap.size) (o : Obj) : Keeps D w0 (w.alloc o) := h.trans (Keeps.alloc hD o)
theorem Keeps.st' {D : Nat → Prop} {w0 w : World} {p : Addr} (h : Keeps D w0 w) (hD : ∀ b, D b → b ≠ p.block) (v : Value) : Keeps D w0 (w.setCell p v) := h.trans (Keeps.setCell hD v)
theorem Keeps.dr' {D : Nat → Prop} {w0 w : World} (h : Keeps D w0 w) : Keeps D w0 w.drew := h
theorem Keeps.drN' {D : Nat → Prop} {w0 w : World} {n : Nat} (h : Keeps D w0 w) : Keeps D w0 (w.drewN n) := h
theorem Keeps.bl' {D : Nat → Prop} {w0 w w' : World} {B : Nat} (h : Keeps D w0 w) (hb : Below B w w') (hD : ∀ b, D b → b < B) : Keeps D w0 w' := h.trans ((Keeps.of_below hb).mono hD)
theorem below_drewN {B : Nat} {a w : World} (h : Below B a w) (n : Nat) : Below B a (w.drewN n) := ⟨h.os, h.tape, h.output, h.size, h.block⟩
theorem bcell {B : Nat} {W w1 : World} (hb : Below B W w1) : (∀ b o, b < B → w1.cell? ⟨b, o, none⟩ = W.cell? ⟨b, o, none⟩) ∧ (∀ b o, b < B → w1.frozen? ⟨b, o, none⟩ = W.frozen? ⟨b, o, none⟩) :=
  ⟨fun b o h => hb.cell (p := ⟨b, o, none⟩) h, fun b o h => hb.frozen (p := ⟨b, o, none⟩) h⟩

/-- a block of the caller's own behind a call -/
theorem own_at {B : Nat} {W w1 : World} (hb : Below B W w1) {b : Nat} (h : b < B) (hB : B ≤ W.heap.size := by first | exact Nat.le_refl _ | (simp; done) | (simp; omega)) :
    (∀ o, w1.cell? ⟨b, o, none⟩ = W.cell? ⟨b, o, none⟩) ∧ (∀ o, w1.frozen? ⟨b, o, none⟩ = W.frozen? ⟨b, o, none⟩) ∧ b < w1.heap.size :=
  ⟨fun o => hb.cell (p := ⟨b, o, none⟩) h, fun o => hb.frozen (p := ⟨b, o, none⟩) h, by have := hb.size; omega⟩

/-- a slice value (its address A, n elements of k cells) reads the cells xs, out of blocks of D -/
def Sl (w : World) (D : Nat → Prop) (k : Nat) (A : Option Addr) (n : Nat) (xs : List Value) : Prop :=
  xs.length = n * k ∧ (0 < n → ∃ b off, A = some ⟨b, off, none⟩ ∧ D b ∧ ∀ j u, xs[j]? = some u → w.cell? ⟨b, off + j, none⟩ = some u)

section
variable {w w' : World} {D D' : Nat → Prop} {k n : Nat} {A : Option Addr} {xs : List Value}
theorem Sl.keep (h : Sl w D k A n xs) (hk : Keeps D w w') : Sl w' D k A n xs :=
  ⟨h.1, fun hn => by
    obtain ⟨b, off, e, hb, hc⟩ := h.2 hn
    exact ⟨b, off, e, hb, fun j u hu => (hk.cell (p := ⟨b, off + j, none⟩) hb).trans (hc j u hu)⟩⟩
theorem Sl.mono (h : Sl w D k A n xs) (hD : ∀ b, D b → D' b) : Sl w D' k A n xs :=
  ⟨h.1, fun hn => by
    obtain ⟨b, off, e, hb, hc⟩ := h.2 hn
    exact ⟨b, off, e, hD b hb, hc⟩⟩
theorem Sl.nil (w : World) (D : Nat → Prop) (k : Nat) (A : Option Addr) : Sl w D k A 0 [] := ⟨by simp, fun h => absurd h (by omega)⟩
theorem Sl.len (h : Sl w D k A n xs) : xs.length = n * k := h.1
theorem Sl.at_ (h : Sl w D k A n xs) {i : Nat} (hi : i < n) : ∃ b off, A = some ⟨b, off, none⟩ ∧ D b ∧ ∀ j, j < k → ∃ u, xs[i * k + j]? = some u ∧ w.cell? ⟨b, off + (i * k + j), none⟩ = some u := by
  obtain ⟨b, off, e, hb, hc⟩ := h.2 (by omega)
  refine ⟨b, off, e, hb, fun j hj => ?_⟩
  have hl : i * k + j < xs.length := by
    rw [h.1]
    calc i * k + j < i * k + k := by omega
      _ = (i + 1) * k := by rw [Nat.succ_mul]
      _ ≤ n * k := Nat.mul_le_mul_right _ (by omega)
  exact ⟨xs[i * k + j], List.getElem?_eq_getElem hl, hc _ _ (List.getElem?_eq_getElem hl)⟩
theorem Sl.cells (h : Sl w D k A n xs) {j : Nat} {u : Value} (hu : xs[j]? = some u) : ∃ b off, A = some ⟨b, off, none⟩ ∧ D b ∧ w.cell? ⟨b, off + j, none⟩ = some u := by
  have hn : 0 < n := by
    rcases Nat.eq_zero_or_pos n with h0 | h0
    · have := h.1; subst h0; have : xs = [] := List.eq_nil_of_length_eq_zero (by simpa using this); subst this; simp at hu
    · exact h0
  obtain ⟨b, off, e, hb, hc⟩ := h.2 hn
  exact ⟨b, off, e, hb, hc j u hu⟩
/-- what the call owns reads -/
theorem Sl.of_own {base : Nat} {e : TypeId} {c : Nat} (h : w.ownsRow base e k (.slice A n c) n xs) : Sl w (fun b => base ≤ b ∧ b < w.heap.size) k A n xs := by
  refine ⟨h.1, fun hn => ?_⟩
  rcases h.2 with ⟨hv, h0⟩ | ⟨g, cap, cur, hv, hb, hh, _⟩
  · omega
  · injection hv with hA
    subst hA
    have hlt := h.lt g rfl
    refine ⟨g, 0, rfl, ⟨hb, hlt.2⟩, fun j u hu => ?_⟩
    have := h.cells (g := g) rfl j u hu
    simpa [Addr.add, Nat.zero_add] using (by
      by_cases hj : j = 0
      · subst hj; simpa [Addr.add] using this
      · simpa [Addr.add, hj] using this : w.cell? ⟨g, 0 + j, none⟩ = some u)
/-- the value that owns a row is a slice -/
theorem own_form {base : Nat} {e : TypeId} {v : Value} (h : w.ownsRow base e k v n xs) : ∃ A c, v = .slice A n c ∧ n ≤ c ∧ c ≤ maxLen := by
  rcases h.2 with ⟨hv, h0⟩ | ⟨g, cap, cur, hv, hb, hh, hnc, hcm, _⟩
  · exact ⟨none, 0, by rw [hv, h0], by omega, by decide⟩
  · exact ⟨_, _, hv, hnc, hcm⟩
/-- a new block of one element -/
theorem Sl.new (w : World) (cs : Array Value) (e : TypeId) (k : Nat) (hk : cs.size = k) : Sl (w.alloc (.cells cs e)) (fun b => b = w.heap.size) k (some ⟨w.heap.size, 0, none⟩) 1 cs.toList := by
  refine ⟨by simp [hk], fun _ => ⟨_, _, rfl, rfl, fun j u hu => ?_⟩⟩
  have : (w.alloc (.cells cs e)).heap[w.heap.size]? = some (.cells cs e (0, 0)) := heap_alloc_new w _
  rw [Nat.zero_add, cell_of_row _ _ _ cs e (0, 0) this]
  simpa using hu
end

/-- blocks that are there and are not v's own -/
def Off (w : World) (v : Value) (b : Nat) : Prop := b < w.heap.size ∧ some b ≠ v.ownBlock
/-- what an append leaves -/
structure Grew (w w' : World) (v v' : Value) : Prop where
  by_ : w.grownBy w' v.ownBlock
  at_ : v'.ownBlock = v.ownBlock ∨ v'.ownBlock = some w.heap.size
theorem Grew.off {w w' : World} {v v' : Value} (h : Grew w w' v v') {b : Nat} (hb : Off w v b) : Off w' v' b :=
  ⟨Nat.lt_of_lt_of_le hb.1 h.by_.size, by rcases h.at_ with e | e <;> rw [e]; exact hb.2; intro h'; injection h' with h'; have := hb.1; omega⟩
theorem Grew.keeps {w w' : World} {v v' : Value} (h : Grew w w' v v') : Keeps (Off w v) w w' := fun b hb => h.by_.block b hb.1 hb.2
theorem Grew.below {w0 w w' : World} {v v' : Value} {B base : Nat} {e : TypeId} {k n : Nat} {xs : List Value} (h : Grew w w' v v') (hb : Below B w0 w) (hB : B ≤ base) (hB' : B ≤ w.heap.size) (ho : w.ownsRow base e k v n xs) : Below B w0 w' :=
  hb.grown h.by_ hB' (fun k hk => Nat.le_trans hB (ho.lt k hk).1)

theorem own_base {w : World} {base base' : Nat} {e : TypeId} {k n : Nat} {v : Value} {xs : List Value} (hb : base ≤ base') (h : w.ownsRow base' e k v n xs) : w.ownsRow base e k v n xs := by
  refine ⟨h.1, ?_⟩
  rcases h.2 with h2 | ⟨g, cap, cur, hv, hg, r⟩
  · exact .inl h2
  · exact .inr ⟨g, cap, cur, hv, Nat.le_trans hb hg, r⟩
/-- a step of the walk by a law on the operation, whatever guards it -/
theorem wpList_by {P : Program} {ops : Array Oper} {Q : Exit → Act → World → Prop} {a : Act} {w : World} {rest : List Oper} {o : Oper} (hw : Region.wanted o (yielded ops a.tmps) = true)
    (h : ∀ K : Act → World → Prop, (∀ a w, wpList P ops Q rest a w → K a w) → o.wp P a w K Q) : wpList P ops Q (o :: rest) a w :=
  wpList_step fun K hK => by rw [if_pos hw]; exact h K hK
/-- an element type, of which slices are appended to -/
structure Elem (P : Program) (t e size bytes : Nat) : Prop where
  ht : P.underlying t = some (.slice e)
  hi : (P.info? e).map (fun i => (i.zero.map (fun z => z.cells.size), i.size, i.bytes)) = some (some size, size, bytes)
  pos : 0 < size

section
variable {P : Program} {t e size bytes : Nat}
theorem run_append_sl (E : Elem P t e size bytes) (ty : TypeId) {w : World} {base : Nat} {v : Value} {n : Nat} {xs : List Value} (hown : w.ownsRow base e size v n xs)
    {D : Nat → Prop} {A : Option Addr} {m c : Nat} {news : List Value} (hr : Sl w D size A m news) (h1 : ∀ u ∈ news, u.oneCell' = true) (hA : A = none → c = 0)
    (h63 : n + m ≤ maxLen) (hbytes : (n + m) * bytes ≤ 140737488355328) (hbase : base ≤ w.heap.size) :
    ∃ A' c' w', (Builtin.append_ #[t, t] ty #[v, .slice A m c]).run P w = .ok (.slice A' (n + m) c') w' ∧ w'.ownsRow base e size (.slice A' (n + m) c') (n + m) (xs ++ news) ∧ Grew w w' v (.slice A' (n + m) c') ∧ Below base w w' := by
  suffices hx : ∃ v' w', (Builtin.append_ #[t, t] ty #[v, .slice A m c]).run P w = .ok v' w' ∧ w'.ownsRow base e size v' (n + m) (xs ++ news) ∧ Grew w w' v v' by
    obtain ⟨v', w', h1, h2, h3⟩ := hx
    obtain ⟨A', c', rfl, _, _⟩ := own_form h2
    exact ⟨A', c', w', h1, h2, h3, h3.below (Below.refl base w) (Nat.le_refl _) hbase hown⟩
  obtain ⟨i, hi, hz⟩ := Option.map_eq_some_iff.1 E.hi
  simp only [Prod.mk.injEq, Option.map_eq_some_iff] at hz
  obtain ⟨⟨z, hz, hzs⟩, hs, hb⟩ := hz
  rcases A with _ | ad
  · have hm : m = 0 := by
      rcases Nat.eq_zero_or_pos m with h0 | h0
      · exact h0
      · obtain ⟨_, _, h, _⟩ := hr.2 h0
        cases h
    subst hm
    have hn : news = [] := List.eq_nil_of_length_eq_zero (by simpa using hr.1)
    subst hn
    refine ⟨v, w, ?_, by simpa using hown, ⟨World.grownBy.refl w _, .inl rfl⟩⟩
    rcases hown.2 with ⟨rfl, rfl⟩ | ⟨g, cap, cur, rfl, _, _, hnc, _⟩
    · simp [Builtin.append_, run_underlying E.ht, sizeOf, typeInfo, hi, Builtin.lenOf, Builtin.firstCells]
    · simp [Builtin.append_, run_underlying E.ht, sizeOf, typeInfo, hi, Builtin.lenOf, Builtin.firstCells, hnc, storeCells]
  · have hcells : ∀ j u, news[j]? = some u → w.cell? (ad.add j) = some u := by
      intro j u hu
      obtain ⟨b, off, e', _, hc⟩ := hr.cells hu
      injection e' with e'
      subst e'
      by_cases hj : j = 0
      · subst hj; simpa [Addr.add] using hc
      · simpa [Addr.add, hj] using hc
    obtain ⟨v', w', hrun, h2, h3, _, h5⟩ := run_append_own_at (P := P) w base t ty e i z size bytes E.ht hi hz hs hb hzs E.pos v n xs hown ad m c news hr.1 hcells h1 h63 hbytes hbase
    exact ⟨v', w', hrun, h2, ⟨h3, h5⟩⟩

theorem wp_append_sl (E : Elem P t e size bytes) {o : Oper} {a : Act} {K : Act → World → Prop} {Q : Exit → Act → World → Prop} {w : World} (s x : Operand)
    (ho : o.op = .call { callee := .builtin .append, args := #[s, x], argTypes := #[t, t] })
    {base : Nat} {v : Value} {n : Nat} {xs : List Value} (hs : a.eval s = v) (hown : w.ownsRow base e size v n xs)
    {D : Nat → Prop} {A : Option Addr} {m c : Nat} {news : List Value} (hx : a.eval x = .slice A m c) (hr : Sl w D size A m news) (h1 : ∀ u ∈ news, u.oneCell' = true) (hA : A = none → c = 0)
    (h63 : n + m ≤ maxLen) (hbytes : (n + m) * bytes ≤ 140737488355328) (hbase : base ≤ w.heap.size)
    (h : ∀ A' c' w', w'.ownsRow base e size (.slice A' (n + m) c') (n + m) (xs ++ news) → Grew w w' v (.slice A' (n + m) c') → Below base w w' → K (a.put o.dst (.slice A' (n + m) c')) w') : o.wp P a w K Q := by
  obtain ⟨A', c', w', hrun, h2, h3, h4⟩ := run_append_sl (P := P) E o.type hown hr h1 hA h63 hbytes hbase
  unfold Oper.wp execOp
  simp only [ho, resolve, invoke, builtin, Sem.run_bind, Sem.run_pure, Result.andThen_ok, List.map_toArray, List.map_cons, List.map_nil, hs, hx, hrun]
  exact h A' c' w' h2 h3 h4

theorem step_append_sl (E : Elem P t e size bytes) {ops : Array Oper} {o : Oper} {a : Act} {K : Act → World → Prop} {Q : Exit → Act → World → Prop} {w : World} {F : Prop} (hgd : Region.wanted o (yielded ops a.tmps) = true) (s x : Operand)
    (ho : o.op = .call { callee := .builtin .append, args := #[s, x], argTypes := #[t, t] })
    {base : Nat} {v : Value} {n : Nat} {xs : List Value} (hs : a.eval s = v) (hown : w.ownsRow base e size v n xs)
    {D : Nat → Prop} {A : Option Addr} {m c : Nat} {news : List Value} (hx : a.eval x = .slice A m c) (hr : Sl w D size A m news) (h1 : ∀ u ∈ news, u.oneCell' = true) (hA : A = none → c = 0)
    (h63 : n + m ≤ maxLen) (hbytes : (n + m) * bytes ≤ 140737488355328) (hbase : base ≤ w.heap.size)
    (h : ∀ A' c' w', w'.ownsRow base e size (.slice A' (n + m) c') (n + m) (xs ++ news) → Grew w w' v (.slice A' (n + m) c') → Below base w w' → K (a.put o.dst (.slice A' (n + m) c')) w') :
    if Region.wanted o (yielded ops a.tmps) = true then Oper.wp P o a w K Q else F := by
  rw [if_pos hgd]
  exact wp_append_sl E s x ho hs hown hx hr h1 hA h63 hbytes hbase h

theorem wpList_append_sl (E : Elem P t e size bytes) {ops : Array Oper} {rest : List Oper} {o : Oper} {a : Act} {Q : Exit → Act → World → Prop} {w : World} (hgd : Region.wanted o (yielded ops a.tmps) = true) (s x : Operand)
    (ho : o.op = .call { callee := .builtin .append, args := #[s, x], argTypes := #[t, t] })
    {base : Nat} {v : Value} {n : Nat} {xs : List Value} (hs : a.eval s = v) (hown : w.ownsRow base e size v n xs)
    {D : Nat → Prop} {A : Option Addr} {m c : Nat} {news : List Value} (hx : a.eval x = .slice A m c) (hr : Sl w D size A m news) (h1 : ∀ u ∈ news, u.oneCell' = true) (hA : A = none → c = 0)
    (h63 : n + m ≤ maxLen) (hbytes : (n + m) * bytes ≤ 140737488355328) (hbase : base ≤ w.heap.size)
    (h : ∀ A' c' w', w'.ownsRow base e size (.slice A' (n + m) c') (n + m) (xs ++ news) → Grew w w' v (.slice A' (n + m) c') → Below base w w' → wpList P ops Q rest (a.put o.dst (.slice A' (n + m) c')) w') : wpList P ops Q (o :: rest) a w :=
  wpList_by hgd fun _ hK => wp_append_sl E s x ho hs hown hx hr h1 hA h63 hbytes hbase fun A' c' w' h2 h3 h4 => hK _ _ (h A' c' w' h2 h3 h4)
/-- append onto nil: a copy -/
theorem step_copy_sl (E : Elem P t e size bytes) {ops : Array Oper} {o : Oper} {a : Act} {K : Act → World → Prop} {Q : Exit → Act → World → Prop} {w : World} {F : Prop} (hgd : Region.wanted o (yielded ops a.tmps) = true) (s x : Operand)
    (ho : o.op = .call { callee := .builtin .append, args := #[s, x], argTypes := #[t, t] }) (hs : a.eval s = .slice none 0 0) (base : Nat)
    {D : Nat → Prop} {A : Option Addr} {m c : Nat} {news : List Value} (hx : a.eval x = .slice A m c) (hr : Sl w D size A m news) (h1 : ∀ u ∈ news, u.oneCell' = true) (hA : A = none → c = 0)
    (h63 : m ≤ maxLen) (hbytes : m * bytes ≤ 140737488355328) (hbase : base ≤ w.heap.size)
    (h : ∀ A' c' w', w'.ownsRow base e size (.slice A' m c') m news → Below base w w' → K (a.put o.dst (.slice A' m c')) w') :
    if Region.wanted o (yielded ops a.tmps) = true then Oper.wp P o a w K Q else F :=
  step_append_sl E hgd s x ho hs (World.ownsRow_nil w w.heap.size e size) hx hr h1 hA (by omega) (by rw [Nat.zero_add]; exact hbytes) (Nat.le_refl _) fun A' c' w' h2 _ h4 => by
    rw [Nat.zero_add] at h2 ⊢
    refine h A' c' w' ?_ (h4.mono hbase)
    rw [List.nil_append] at h2
    exact own_base hbase h2
theorem wpList_copy_sl (E : Elem P t e size bytes) {ops : Array Oper} {rest : List Oper} {o : Oper} {a : Act} {Q : Exit → Act → World → Prop} {w : World} (hgd : Region.wanted o (yielded ops a.tmps) = true) (s x : Operand)
    (ho : o.op = .call { callee := .builtin .append, args := #[s, x], argTypes := #[t, t] }) (hs : a.eval s = .slice none 0 0) (base : Nat)
    {D : Nat → Prop} {A : Option Addr} {m c : Nat} {news : List Value} (hx : a.eval x = .slice A m c) (hr : Sl w D size A m news) (h1 : ∀ u ∈ news, u.oneCell' = true) (hA : A = none → c = 0)
    (h63 : m ≤ maxLen) (hbytes : m * bytes ≤ 140737488355328) (hbase : base ≤ w.heap.size)
    (h : ∀ A' c' w', w'.ownsRow base e size (.slice A' m c') m news → Below base w w' → wpList P ops Q rest (a.put o.dst (.slice A' m c')) w') : wpList P ops Q (o :: rest) a w :=
  wpList_append_sl E hgd s x ho hs (World.ownsRow_nil w w.heap.size e size) hx hr h1 hA (by omega) (by rw [Nat.zero_add]; exact hbytes) (Nat.le_refl _) fun A' c' w' h2 _ h4 => by
    rw [Nat.zero_add] at h2 ⊢
    refine h A' c' w' ?_ (h4.mono hbase)
    rw [List.nil_append] at h2
    exact own_base hbase h2
end

/-- a block fresh since w -/
def New (w w' : World) (b : Nat) : Prop := w.heap.size ≤ b ∧ b < w'.heap.size
/-- what all readings share: kept with their blocks, weakened with their blocks -/
structure IsRep {α : Type} (R : World → (Nat → Prop) → Value → α → Prop) : Prop where
  keep : ∀ {w w' : World} {D : Nat → Prop} {v : Value} {x : α}, R w D v x → Keeps D w w' → R w' D v x
  mono : ∀ {w : World} {D D' : Nat → Prop} {v : Value} {x : α}, R w D v x → (∀ b, D b → D' b) → R w D' v x
theorem IsRep.to {α : Type} {R : World → (Nat → Prop) → Value → α → Prop} (I : IsRep R) {w w' : World} {D D' : Nat → Prop} {v : Value} {x : α} (h : R w D v x) (k : Keeps D w w') (m : ∀ b, D b → D' b) : R w' D' v x :=
  I.mono (I.keep h k) m
end Go.Proofs.YtnoboapafndnlaaDoor
