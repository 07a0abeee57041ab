/- Texts that the law BookEncodes rests on, packed. -/
import Derived.Test.YtddiolgeaefieaaDoorBookEncodesK6
import Derived.Test.YtddiolgeaefieaaDoorBookEncodesK1
import Derived.Test.YtddiolgeaefieaaDoorBookEncodesK5
import Derived.ProofKit
import Derived.Deep.DeepHandedRow
import Derived.Lib.LaidTab
import Derived.FnData
namespace Go.Proofs.YtddiolgeaefieaaDoor
open Go.RowKit
set_option linter.unusedSimpArgs false
set_option linter.unusedVariables false
open Go.ChangeShapes Go.WideShapes Go.ChangeAt
theorem addAdd (a : Addr) (i j : Nat) : (a.add i).add j = a.add (i + j) := by
  unfold Addr.add
  by_cases hi : i = 0 <;> by_cases hj : j = 0 <;> simp [hi, hj, Nat.add_assoc]
theorem addPlain (b off j : Nat) : (⟨b, off, none⟩ : Addr).add j = ⟨b, off + j, none⟩ := by
  unfold Addr.add
  split
  · subst_vars; simp
  · rfl
section
variable {H : Type} {enc : TypeId × Value → H} {P : Program} {W : World}
def frzW (W : World) : Frz := fun b o => W.cell? ⟨b, o, none⟩
def VDs (F : Frz) (ds : List D) (cs : List Value) : Prop := cs.length = ds.length ∧ ∀ (j : Nat) (d : D), ds[j]? = some d → ∃ v, cs[j]? = some v ∧ VD F d v
/-- values of a type, read at no more than so many levels, are data -/
def DecR (enc : TypeId × Value → H) (P : Program) (W : World) {α : Type} (e : α → List D) (R : α → DataW H → Prop) (t : TypeId) (fuel : Nat) : Prop :=
  ∀ (m : Nat), m ≤ fuel → ∀ (cs : List Value) (y : DataW H × List MemPlace), DataW.trod enc P W 0 (fun _ => true) true m t cs = some y → ∃ a : α, VDs (frzW W) (e a) cs ∧ R a y.1
def Dec (enc : TypeId × Value → H) (P : Program) (W : World) {α : Type} (e : α → List D) (sz : α → Nat) (t : TypeId) (fuel : Nat) : Prop := DecR enc P W e (fun a d => sz a ≤ Rows.uptoBulk d) t fuel
/-- a list, and what it was read from -/
inductive RL {α : Type} (R : α → DataW H → Prop) : List α → DataW H → Prop where
  | nil (d : DataW H) (h : ∀ elems spare, d ≠ .slice elems spare) : RL R [] d
  | slice (l : List α) (elems spare : List (DataW H)) (hl : l.length = elems.length) (h : ∀ (i : Nat) (x : α) (z : DataW H), l[i]? = some x → elems[i]? = some z → R x z) : RL R l (.slice elems spare)
theorem DecR.mono {α : Type} {e : α → List D} {R R' : α → DataW H → Prop} {t f : Nat} (d : DecR enc P W e R t f) (h : ∀ a x, R a x → R' a x) : DecR enc P W e R' t f := fun m hm cs y hy => by
  obtain ⟨a, h1, h2⟩ := d m hm cs y hy
  exact ⟨a, h1, h _ _ h2⟩
theorem VDs.one {F : Frz} {d : D} {v : Value} (h : VD F d v) : VDs F [d] [v] := ⟨rfl, fun j x hx => by
  cases j with
  | zero => simp at hx; subst hx; exact ⟨v, rfl, h⟩
  | succ j => simp at hx⟩
theorem VDs.append {F : Frz} {a b : List D} {cs : List Value} (h1 : VDs F a (cs.take a.length)) (h2 : VDs F b (cs.drop a.length)) : VDs F (a ++ b) cs := by
  have e1 := h1.1
  have e2 := h2.1
  simp at e1 e2
  have hle : a.length ≤ cs.length := by omega
  refine ⟨by simp; omega, fun j d hd => ?_⟩
  rcases Nat.lt_or_ge j a.length with hj | hj
  · rw [List.getElem?_append_left hj] at hd
    obtain ⟨v, g1, g2⟩ := h1.2 j d hd
    rw [List.getElem?_take_of_lt hj] at g1
    exact ⟨v, g1, g2⟩
  · rw [List.getElem?_append_right hj] at hd
    obtain ⟨v, g1, g2⟩ := h2.2 _ d hd
    rw [List.getElem?_drop] at g1
    exact ⟨v, by rw [← g1]; congr 1; omega, g2⟩
theorem Dec.le {α : Type} {e : α → List D} {sz : α → Nat} {t f f' : Nat} (d : Dec enc P W e sz t f) (h : f' ≤ f) : Dec enc P W e sz t f' := fun m hm => d m (Nat.le_trans hm h)
theorem Dec.int {t : TypeId} {k : IntKind} {f : Nat} (ht : P.underlying t = some (.int k)) : Dec enc P W (fun n : Int => [.int k n]) (fun _ => 1) t f := fun m _ cs y h => by
  obtain ⟨n, e, _⟩ := DataW.trod_int ht h
  exact ⟨n, by rw [e]; exact .one (.int k n), bulk_pos _⟩
theorem Dec.bool {t : TypeId} {f : Nat} (ht : P.underlying t = some .bool) : Dec enc P W (fun b : Bool => [.bool b]) (fun _ => 1) t f := fun m _ cs y h => by
  obtain ⟨n, e, _⟩ := DataW.trod_bool ht h
  exact ⟨n, by rw [e]; exact .one (.bool n), bulk_pos _⟩
theorem Dec.str {t : TypeId} {f : Nat} (ht : P.underlying t = some .string) : Dec enc P W (fun s : List UInt8 => [.str s]) (fun s => s.length + 1) t f := fun m _ cs y h => by
  obtain ⟨s, e, q, hm⟩ := DataW.trod_string ht h
  exact ⟨s.data.toList, by rw [e]; exact .one (.str s hm), by show _ ≤ Rows.uptoBulk y.1; rw [q, Rows.uptoBulk]; exact Nat.le_refl _⟩
theorem sum_le {α : Type} (l : List α) (sz : α → Nat) (ds : List (DataW H)) (hl : l.length = ds.length) (h : ∀ (i : Nat) (a : α) (d : DataW H), l[i]? = some a → ds[i]? = some d → sz a ≤ Rows.uptoBulk d) : (l.map sz).sum ≤ Rows.uptoBulkAll ds := by
  induction l generalizing ds with
  | nil => simp
  | cons a l ih =>
    cases ds with
    | nil => simp at hl
    | cons d ds =>
      have h1 := h 0 a d rfl rfl
      have h2 := ih ds (by simpa using hl) fun i a d e1 e2 => h (i + 1) a d (by simpa using e1) (by simpa using e2)
      simp only [List.map_cons, List.sum_cons, Rows.uptoBulkAll]
      omega
theorem DecR.slc {α : Type} {e : α → List D} {R : α → DataW H → Prop} {t el k f : Nat} (d : DecR enc P W e R el f) (ht : P.underlying t = some (.slice el)) (hc : P.cellsOf el = k) (hk : ∀ a, (e a).length = k) (hp : 0 < k) : DecR enc P W (fun l : List α => [.slc k (l.map e)]) (RL R) t (f + 1) := by
  intro m hm cs y h
  rcases DataW.trod_slice ht h with ⟨hv, hx⟩ | ⟨a, len, cap, elems, rest, n, hn, hv, hx, _, hl, hmx, hlen, hel, _, _⟩
  · exact ⟨[], by rw [hv]; exact .one (.slc0 k none 0 (fun _ => rfl) (by decide)), by rw [hx]; exact .nil _ (fun _ _ h => by cases h)⟩
  · rw [hx]
    have hone : ∀ i, i < len → ∃ x : α, (∀ z, (elems.map (·.1))[i]? = some z → R x z) ∧ ∀ (j : Nat) (z : D), (e x)[j]? = some z → ∃ u, W.cell? (a.add (i * k + j)) = some u ∧ VD (frzW W) z u := by
      intro i hi
      have hi' : i < elems.length := by omega
      have hbn := hel i hi
      rw [List.getElem?_eq_getElem hi', Option.bind_eq_some_iff] at hbn
      obtain ⟨cs', hcs, htr⟩ := hbn
      have hmem : elems[i].1 ∈ elems.map (·.1) := List.mem_map.2 ⟨elems[i], List.getElem_mem hi', rfl⟩
      obtain ⟨x, hx1, hx2⟩ := d n (by omega) _ _ htr
      refine ⟨x, fun z hz => ?_, fun j z hz => ?_⟩
      · rw [List.getElem?_map, List.getElem?_eq_getElem hi'] at hz
        injection hz with hz
        rw [← hz]; exact hx2
      · obtain ⟨_, _, hat⟩ := World.cells?_some hcs
        obtain ⟨u, g1, g2⟩ := hx1.2 j z hz
        have hj : j < k := by rw [← hk x]; exact (List.getElem?_eq_some_iff.1 hz).1
        have := hat j (by rw [hc]; exact hj)
        rw [addAdd, hc] at this
        exact ⟨u, by rw [this, g1], g2⟩
    obtain ⟨l, hll, hlx⟩ : ∃ l : List α, l.length = len ∧ ∀ (i : Nat) (x : α), l[i]? = some x → (∀ z, (elems.map (·.1))[i]? = some z → R x z) ∧ ∀ (j : Nat) (z : D), (e x)[j]? = some z → ∃ u, W.cell? (a.add (i * k + j)) = some u ∧ VD (frzW W) z u := by
      refine ⟨List.ofFn fun i : Fin len => Classical.choose (hone i.1 i.2), by simp, fun i x hx => ?_⟩
      have hi : i < len := by have := (List.getElem?_eq_some_iff.1 hx).1; simpa using this
      rw [List.getElem?_ofFn] at hx
      simp only [hi, dite_true, Option.some.injEq] at hx
      subst hx
      exact Classical.choose_spec (hone i hi)
    refine ⟨l, ?_, ?_⟩
    · rw [hv]
      refine .one ?_
      rcases Nat.eq_zero_or_pos len with h0 | h0
      · have : l = [] := List.eq_nil_of_length_eq_zero (by omega)
        subst this
        rw [h0]
        exact .slc0 k _ cap (fun e => by cases e) hmx
      · obtain ⟨x0, hx0⟩ : ∃ x, l[0]? = some x := ⟨_, List.getElem?_eq_getElem (show 0 < l.length by omega)⟩
        obtain ⟨z, hz⟩ : ∃ z, (e x0)[0]? = some z := ⟨_, List.getElem?_eq_getElem (show 0 < (e x0).length by rw [hk]; exact hp)⟩
        obtain ⟨u, hu, _⟩ := (hlx 0 _ hx0).2 0 z hz
        rw [Nat.zero_mul, Nat.zero_add] at hu
        have hsp := World.cell?_spot hu
        obtain ⟨b, off, sp⟩ := a
        simp [Addr.add] at hsp
        subst hsp
        have hcell : ∀ (i : Nat) (x : α) (j : Nat) (z : D), l[i]? = some x → (e x)[j]? = some z → ∃ u, frzW W b (off + (i * k + j)) = some u ∧ VD (frzW W) z u := fun i x j z e1 e2 => by
          obtain ⟨u, g1, g2⟩ := (hlx i x e1).2 j z e2
          rw [addPlain] at g1
          exact ⟨u, g1, g2⟩
        have := VD.slc (F := frzW W) k (l.map e) b off cap (fun i j => (frzW W b (off + (i * k + j))).getD Go.undef) (by rw [List.length_map]; omega) (by rw [List.length_map]; omega) hmx (fun r hr => by obtain ⟨x, _, rfl⟩ := List.mem_map.1 hr; exact hk x)
          (fun i r j z e1 e2 => by
            rw [List.getElem?_map] at e1
            obtain ⟨x, hx, rfl⟩ := Option.map_eq_some_iff.1 e1
            obtain ⟨u, g1, _⟩ := hcell i x j z hx e2
            rw [g1]; rfl)
          (fun i r j z e1 e2 => by
            rw [List.getElem?_map] at e1
            obtain ⟨x, hx, rfl⟩ := Option.map_eq_some_iff.1 e1
            obtain ⟨u, g1, g2⟩ := hcell i x j z hx e2
            rw [g1]; exact g2)
        rw [List.length_map, hll] at this
        exact this
    · exact .slice l _ _ (by rw [hll, List.length_map, hlen]) fun i x z e1 e2 => (hlx i x e1).1 z e2
theorem Dec.slc {α : Type} {e : α → List D} {sz : α → Nat} {t el k f : Nat} (d : Dec enc P W e sz el f) (ht : P.underlying t = some (.slice el)) (hc : P.cellsOf el = k) (hk : ∀ a, (e a).length = k) (hp : 0 < k) : Dec enc P W (fun l : List α => [.slc k (l.map e)]) (fun l => (l.map sz).sum + 1) t (f + 1) :=
  (DecR.slc d ht hc hk hp).mono fun l d h => by
    cases h with
    | nil d h => simp; exact bulk_pos _
    | slice l elems spare hl h =>
      have := sum_le l sz elems hl h
      show (l.map sz).sum + 1 ≤ _
      rw [Rows.uptoBulk]; omega
/-- fields of a struct, from a cell on -/
def FDecR (enc : TypeId × Value → H) (P : Program) (W : World) (o : Nat) (fs : List Field) {α : Type} (e : α → List D) (R : α → List (DataW H) → Prop) (f : Nat) : Prop :=
  ∀ (m : Nat), m ≤ f → ∀ (cs : List Value) (xs : List (DataW H × List MemPlace)), xs.length = fs.length → cs.length = o + (fs.map fun x => P.cellsOf x.type).sum →
    (∀ (i : Nat) (x : Field), fs[i]? = some x → DataW.trod enc P W 0 (fun _ => true) true m x.type ((cs.drop x.offset).take (P.cellsOf x.type)) = xs[i]?) →
    ∃ a : α, VDs (frzW W) (e a) (cs.drop o) ∧ R a (xs.map (·.1))
def RC {α β : Type} (R : α → DataW H → Prop) (Q : β → List (DataW H) → Prop) : α × β → List (DataW H) → Prop
  | p, d :: ds => R p.1 d ∧ Q p.2 ds
  | _, [] => False
theorem FDecR.nil {o f : Nat} : FDecR enc P W o [] (fun _ : Unit => []) (fun _ _ => True) f := fun m _ cs xs _ hc _ => ⟨(), ⟨by simp at hc ⊢; omega, by simp⟩, trivial⟩
theorem FDecR.cons {α β : Type} {e : α → List D} {e' : β → List D} {R : α → DataW H → Prop} {Q : β → List (DataW H) → Prop} {o k f : Nat} {x : Field} {fs : List Field} (d : DecR enc P W e R x.type f) (hk : P.cellsOf x.type = k) (ho : x.offset = o) (r : FDecR enc P W (o + k) fs e' Q f) :
    FDecR enc P W o (x :: fs) (fun p : α × β => e p.1 ++ e' p.2) (RC R Q) f := fun m hm cs xs hl hc hx => by
  subst ho hk
  match xs, hl with
  | y :: ys, hl =>
    simp only [List.map_cons, List.sum_cons] at hc
    obtain ⟨a, h1, h2⟩ := d m hm _ _ (hx 0 x rfl)
    obtain ⟨b, h3, h4⟩ := r m hm cs ys (by simpa using hl) (by omega) (fun i z hz => hx (i + 1) z hz)
    refine ⟨(a, b), ?_, h2, h4⟩
    have hea : (e a).length = P.cellsOf x.type := by
      have := h1.1
      rw [List.length_take, List.length_drop] at this
      omega
    refine VDs.append ?_ ?_
    · rw [hea]; exact h1
    · rw [hea, List.drop_drop]; exact h3
theorem DecR.struct {α : Type} {e : α → List D} {R : α → List (DataW H) → Prop} {t f : Nat} {fs : Array Field} (ht : P.underlying t = some (.struct fs)) (hc : P.cellsOf t = (fs.toList.map fun x => P.cellsOf x.type).sum) (r : FDecR enc P W 0 fs.toList e R f) : DecR enc P W e (fun a d => ∃ ds, d = .agg ds ∧ R a ds) t (f + 1) := fun m hm cs y h => by
  obtain ⟨xs, n, hn, hx, hl, hxl, hf⟩ := DataW.trod_struct ht h
  obtain ⟨a, h1, h2⟩ := r n (by omega) cs xs (by simpa using hxl) (by rw [hl, hc, Nat.zero_add]) (fun i z hz => hf i z (by rw [← Array.getElem?_toList]; exact hz))
  exact ⟨a, by simpa using h1, _, by rw [hx], h2⟩
def FDec (enc : TypeId × Value → H) (P : Program) (W : World) (o : Nat) (fs : List Field) {α : Type} (e : α → List D) (sz : α → Nat) (f : Nat) : Prop := FDecR enc P W o fs e (fun a ds => sz a ≤ Rows.uptoBulkAll ds) f
theorem FDec.nil {o f : Nat} : FDec enc P W o [] (fun _ : Unit => []) (fun _ => 0) f := fun m hm cs xs hl hc hx => by
  obtain ⟨a, h1, _⟩ := FDecR.nil (enc := enc) (P := P) (W := W) m hm cs xs hl hc hx
  exact ⟨a, h1, Nat.zero_le _⟩
theorem FDec.cons {α β : Type} {e : α → List D} {e' : β → List D} {sz : α → Nat} {sz' : β → Nat} {o k f : Nat} {x : Field} {fs : List Field} (d : Dec enc P W e sz x.type f) (hk : P.cellsOf x.type = k) (ho : x.offset = o) (r : FDec enc P W (o + k) fs e' sz' f) :
    FDec enc P W o (x :: fs) (fun p : α × β => e p.1 ++ e' p.2) (fun p => sz p.1 + sz' p.2) f := fun m hm cs xs hl hc hx => by
  obtain ⟨p, h1, h2⟩ := FDecR.cons d hk ho r m hm cs xs hl hc hx
  refine ⟨p, h1, ?_⟩
  generalize xs.map (·.1) = ds at h2
  cases ds with
  | nil => exact h2.elim
  | cons z zs => obtain ⟨h3, h4⟩ := h2; simp only [Rows.uptoBulkAll]; omega
theorem Dec.struct {α : Type} {e : α → List D} {sz : α → Nat} {t f : Nat} {fs : Array Field} (ht : P.underlying t = some (.struct fs)) (hc : P.cellsOf t = (fs.toList.map fun x => P.cellsOf x.type).sum) (r : FDec enc P W 0 fs.toList e sz f) : Dec enc P W e (fun a => sz a + 1) t (f + 1) :=
  (DecR.struct ht hc r).mono fun a d h => by
    obtain ⟨ds, rfl, h⟩ := h
    have h : sz a ≤ Rows.uptoBulkAll ds := h
    show sz a + 1 ≤ _
    rw [Rows.uptoBulk]; omega
theorem Dec.map {α β : Type} {e : α → List D} {e' : β → List D} {sz : α → Nat} {sz' : β → Nat} {t f : Nat} (g : α → β) (he : ∀ a, e' (g a) = e a) (hs : ∀ a, sz' (g a) ≤ sz a) (d : Dec enc P W e sz t f) : Dec enc P W e' sz' t f := fun m hm cs y h => by
  obtain ⟨a, h1, h2⟩ := d m hm cs y h
  exact ⟨g a, by rw [he]; exact h1, Nat.le_trans (hs a) h2⟩
theorem Dec.zero {α : Type} {e : α → List D} {sz : α → Nat} {t : Nat} : Dec enc P W e sz t 0 := fun m hm cs y h => by
  obtain rfl : m = 0 := by omega
  simp [DataW.trod] at h
/-- an argument -/
theorem Dec.open_ {α : Type} {e : α → List D} {sz : α → Nat} {t : Nat} {v : Value} {d : DataW H} {p : List MemPlace} (hd : ∀ f, Dec enc P W e sz t f) (h : DataW.Trod enc P W 0 (fun _ => true) true t v d p) (ht : Tiny d) : ∃ a : α, VDs (frzW W) (e a) v.cells.toList ∧ sz a ≤ 1048576 := by
  obtain ⟨fuel, h⟩ := h
  obtain ⟨a, h1, h2⟩ := hd fuel fuel (Nat.le_refl _) _ _ h
  exact ⟨a, h1, Nat.le_trans h2 ht.le⟩
theorem DecR.zero {α : Type} {e : α → List D} {R : α → DataW H → Prop} {t : Nat} : DecR enc P W e R t 0 := fun m hm cs y h => by
  obtain rfl : m = 0 := by omega
  simp [DataW.trod] at h
theorem DecR.map {α β : Type} {e : α → List D} {e' : β → List D} {R : α → DataW H → Prop} {R' : β → DataW H → Prop} {t f : Nat} (g : α → β) (he : ∀ a, e' (g a) = e a) (hs : ∀ a d, R a d → R' (g a) d) (d : DecR enc P W e R t f) : DecR enc P W e' R' t f := fun m hm cs y h => by
  obtain ⟨a, h1, h2⟩ := d m hm cs y h
  exact ⟨g a, by rw [he]; exact h1, hs _ _ h2⟩
theorem DecR.any {α : Type} {e : α → List D} {sz : α → Nat} {t f : Nat} (d : Dec enc P W e sz t f) : DecR enc P W e (fun _ _ => True) t f := d.mono fun _ _ _ => trivial
theorem DecR.open_ {α : Type} {e : α → List D} {R : α → DataW H → Prop} {t : Nat} {v : Value} {d : DataW H} {p : List MemPlace} (hd : ∀ f, DecR enc P W e R t f) (h : DataW.Trod enc P W 0 (fun _ => true) true t v d p) : ∃ a : α, VDs (frzW W) (e a) v.cells.toList ∧ R a d := by
  obtain ⟨fuel, h⟩ := h
  exact hd fuel fuel (Nat.le_refl _) _ _ h
/-- an argument of any size -/
theorem Dec.open0 {α : Type} {e : α → List D} {sz : α → Nat} {t : Nat} {v : Value} {d : DataW H} {p : List MemPlace} (hd : ∀ f, Dec enc P W e sz t f) (h : DataW.Trod enc P W 0 (fun _ => true) true t v d p) : ∃ a : α, VDs (frzW W) (e a) v.cells.toList := by
  obtain ⟨fuel, h⟩ := h
  obtain ⟨a, h1, _⟩ := hd fuel fuel (Nat.le_refl _) _ _ h
  exact ⟨a, h1⟩
end
theorem VDs.agg {G : Gh} {ds : List D} {vs : Array Value} (h : VDs G.frz ds vs.toList) : VR G (.agg (ds.map .d)) (.agg vs) := by
  have := VR.agg (G := G) (ds.map .d) vs.toList (by rw [List.length_map]; exact h.1) fun i a v h1 h2 => by
    rw [List.getElem?_map] at h1
    obtain ⟨d, hd, rfl⟩ := Option.map_eq_some_iff.1 h1
    obtain ⟨u, h3, h4⟩ := h.2 i d hd
    rw [h2] at h3
    injection h3 with h3
    rw [h3]; exact .d h4
  simpa using this
theorem VDs.str {F : Frz} {ds : List D} {cs : List Value} (h : VDs F ds cs) {j : Nat} {s : List UInt8} (hj : ds[j]? = some (.str s)) : s.length ≤ maxLen := by
  obtain ⟨v, _, hv⟩ := h.2 j _ hj
  exact hv.bnd.str_inv
/-- a law's walk, run in a world -/
theorem law_calls {P : Program} {T : Tbl} {W : World} {f : FuncId} {args : List AV} {vs : Array Value} (c : PC P T f args (.d (.bool true))) (hT : ∀ g j x, (T g)[j]? = some x → ∃ u, frzW W g j = some u ∧ VD (frzW W) x u) (ha : SlR (gh0 W (frzW W)) args vs) :
    Calls P f vs W fun e W' => e = .returned (.bool true) ∧ Below W.heap.size W W' :=
  (c.run (frzW W) W vs (fun _ _ _ h => h) hT ha).mono fun e W' ⟨v, F', he, hb, _, _, _, hv⟩ => ⟨by cases hv with | d hd => rw [he, hd.bool_inv], hb⟩
end Go.Proofs.YtddiolgeaefieaaDoor

namespace Go.Proofs.YtddiolgeaefieaaDoor
open Go.RowKit
set_option linter.unusedSimpArgs false
set_option linter.unusedVariables false
open Go.ChangeShapes Go.WideShapes Go.ChangeAt
open Go.ChangeMaps (open_string)
set_option maxRecDepth 20000
/-- the library's variable alone -/
def libT (m : Int) : Tbl := fun g => if g = 0 then [.int .i64 m] else []
theorem libT_lib (m : Int) : LibT (libT m) := ⟨m, by simp [libT]⟩
theorem libT_ok {W : World} {m : Int} (h : W.cell? ⟨0, 0, none⟩ = some (.int .i64 m)) : ∀ g j x, (libT m g)[j]? = some x → ∃ u, frzW W g j = some u ∧ VD (frzW W) x u := fun g j x hx => by
  unfold libT at hx
  split at hx
  · rename_i hg
    subst hg
    cases j with
    | zero => simp at hx; subst hx; exact ⟨_, h, .int _ _⟩
    | succ j => simp at hx
  · simp at hx
section
variable {H : Type} {enc : TypeId × Value → H} {W : World}
def entSz (x : Ent) : Nat := x.box.length + x.dest.length + x.text.length
theorem dec_ent (f : Nat) : Dec enc Tryd.prog W entD entSz 41 f := by
  cases f with
  | zero => exact .zero
  | succ f =>
    have hi : Dec enc Tryd.prog W (fun n : Int => [.int .i64 n]) (fun _ => 1) 3 f := Dec.int Tryd.underlying3
    have hs : Dec enc Tryd.prog W (fun s : List UInt8 => [.str s]) (fun s => s.length + 1) 9 f := Dec.str Tryd.underlying9
    exact (Dec.struct Tryd.underlying41 (by kernel_rfl) (.cons (k := 1) hi (by kernel_rfl) rfl (.cons (k := 1) hs (by kernel_rfl) rfl (.cons (k := 1) hi (by kernel_rfl) rfl (.cons (k := 1) hi (by kernel_rfl) rfl (.cons (k := 1) hs (by kernel_rfl) rfl (.cons (k := 1) hs (by kernel_rfl) rfl .nil))))))).map
        (fun (p : Int × (Tx × (Int × (Int × (Tx × (Tx × Unit)))))) => Ent.mk p.1 p.2.1 p.2.2.1 p.2.2.2.1 p.2.2.2.2.1 p.2.2.2.2.2.1) (fun p => rfl) (fun p => by simp only [entSz]; omega)
end
end Go.Proofs.YtddiolgeaefieaaDoor

namespace Go.Proofs.YtddiolgeaefieaaDoor
open Go.RowKit
set_option linter.unusedSimpArgs false
set_option linter.unusedVariables false
open Go.ChangeShapes Go.WideShapes Go.ChangeAt
set_option maxRecDepth 20000
section
variable {H : Type} {enc : TypeId × Value → H} {W : World}
theorem dec_ents (f : Nat) : DecR enc Tryd.prog W (fun l : List Ent => [.slc 6 (l.map entD)]) (RL fun _ _ => True) 53 f := by
  cases f with
  | zero => exact DecR.zero
  | succ f => exact DecR.slc (DecR.any (dec_ent f)) Tryd.underlying53 (by kernel_rfl) (fun _ => rfl) (by decide)
theorem dec_bat (f : Nat) : DecR enc Tryd.prog W (fun p : Int × List Ent => [.int .i64 p.1, .slc 6 (p.2.map entD)]) (fun p d => ∃ ds z, d = .agg ds ∧ ds[1]? = some z ∧ RL (fun _ _ => True) p.2 z) 55 f := by
  cases f with
  | zero => exact DecR.zero
  | succ f =>
    have hi : DecR enc Tryd.prog W (fun n : Int => [.int .i64 n]) (fun _ _ => True) 3 f := DecR.any (Dec.int Tryd.underlying3)
    exact (DecR.struct Tryd.underlying55 (by kernel_rfl) (.cons (k := 1) hi (by kernel_rfl) rfl (.cons (k := 1) (dec_ents f) (by kernel_rfl) rfl .nil))).map
        (fun (p : Int × (List Ent × Unit)) => (p.1, p.2.1)) (fun p => rfl) (fun p d h => by
          obtain ⟨ds, rfl, h⟩ := h
          match ds, h with
          | [], h => exact h.elim
          | [_], h => exact h.2.elim
          | x :: z :: ds, h => exact ⟨_, z, rfl, rfl, h.2.1⟩)
theorem ents_ok {F : Frz} {l : List Ent} {v : Value} (h : VD F (.slc 6 (entsD l)) v) : ∀ x ∈ l, EntOk x := fun x hx => by
  obtain ⟨_, _, h3⟩ := h.bnd.slc_inv
  have hm : entD x ∈ entsD l := List.mem_map.2 ⟨x, hx, rfl⟩
  have hb : maxLen ≤ 9223372036854775807 := by decide
  exact ⟨Nat.le_trans (h3 _ hm (.str x.box) (by simp [entD])).str_inv hb, Nat.le_trans (h3 _ hm (.str x.dest) (by simp [entD])).str_inv hb, Nat.le_trans (h3 _ hm (.str x.text) (by simp [entD])).str_inv hb⟩
theorem rl_len {α : Type} {R : α → DataW H → Prop} {l : List α} {z : DataW H} {t e n : Nat} (h : RL R l z) (hu : Tryd.prog.underlying t = some (.slice e)) (hs : Small Tryd.prog t z) (hn : Tryd.prog.bytesOf e = n) : l.length * n ≤ 140737488355328 := by
  cases h with
  | nil => simp
  | slice _ elems spare hl _ =>
    have := Small.row hu hs
    rw [hn, Nat.add_mul, ← hl] at this
    omega
end
end Go.Proofs.YtddiolgeaefieaaDoor

namespace Go.Proofs.YtddiolgeaefieaaDoor
set_option linter.unusedSimpArgs false
set_option linter.unusedVariables false
/-- a number's lowest byte -/
def ub (n : Int) : UInt8 := UInt8.ofNat (n % 256).toNat
theorem ub_nat (n : Int) : ((ub n).toNat : Int) = n % 256 := by
  unfold ub
  rw [UInt8.toNat_ofNat']
  have h1 := Int.emod_nonneg n (show (256 : Int) ≠ 0 by decide)
  have h2 := Int.emod_lt_of_pos n (show (0 : Int) < 256 by decide)
  omega
@[go_sem] theorem wrapU (n : Int) : IntKind.u8.wrap n = ((ub n).toNat : Int) := by
  rw [ub_nat]
  rfl
theorem byteRows_app (a c : Tx) : byteRows a ++ byteRows c = byteRows (a ++ c) := by simp [byteRows]
@[go_sem] theorem byteRows_len (a : Tx) : (byteRows a).length = a.length := by simp [byteRows]
theorem byteRows_one (c : UInt8) : [[D.int .u8 (c.toNat : Int)]] = byteRows [c] := rfl
theorem byteRows_getD (a : Tx) (i : Nat) (d : List D) (h : i < a.length) : (byteRows a).getD i d = [.int .u8 ((a.getD i 0).toNat : Int)] := by
  simp [byteRows, List.getD, h]
/-- a number as so many bytes, the highest one first -/
def wideR (n : Int) : Nat → Tx
  | 0 => []
  | k + 1 => ub (n.fdiv (2 ^ (min (8 * (k : Int)).toNat IntKind.i64.bits))) :: wideR n k
theorem wideR_len (n : Int) : ∀ k, (wideR n k).length = k
  | 0 => rfl
  | k + 1 => by simp [wideR, wideR_len n k]
theorem isub1 (j : Nat) : (((j + 1 : Nat) : Int)) - 1 = j := by omega
set_option maxRecDepth 4000 in
set_option maxHeartbeats 1000000 in
theorem wide_c (T : Tbl) (u : Nat) (Y : Tx) (c : Int) (m : Nat) (F : List (Nat × Ob)) (L : List Nat) (hm : m ≤ 8) (hu : freshT u L) (hY : Y.length + m ≤ 1000000) : AC Tryd.prog T 72 [.own u 1 (byteRows Y), .d (.int .i64 c), .d (.int .i64 m)] (⟨F, u :: L⟩) (fun x h => ∃ v, freshT v L ∧ x = .ret (.own v 1 (byteRows (Y ++ wideR c m))) ∧ h = ⟨F, v :: L⟩) := by
  refine ⟨Tryd.call72, ACalls.enterS Tryd.func72 rfl Tryd.ntmps72 rfl fun hb => ?_⟩
  simp only [go_sem, Tryd.results72]
  refine AWp.rs fun K1 hK1 => ?_
  try simp only [go_sem, icast]
  (repeat (with_reducible refine And.intro ?_ ?_; (first | omega | (intro _; omega) | decide | (exact nfB) | (intro hg; refine ⟨hg, ?_⟩; omega) | (simp; done) | (simp; omega) | (intro hg; simp only [decide_eq_true_eq, decide_eq_false_iff_not, Bool.not_eq_true', Bool.not_eq_false', Bool.and_eq_true, Bool.or_eq_true, Bool.and_eq_false_iff, Bool.or_eq_false_iff, Int.not_lt, Int.not_le, beq_iff_eq, beq_eq_false_iff_ne, ne_eq, Bool.not_eq_true, Bool.not_eq_false] at hg ⊢; first | omega | exact hg | grind))))
  refine hK1 _ _ ?_
  try clear hK1 K1
  refine AWp.seq fun K2 hK2 => ?_
  refine AWp.rs fun K3 hK3 => ?_
  try simp only [go_sem, icast]
  (repeat (with_reducible refine And.intro ?_ ?_; (first | omega | (intro _; omega) | decide | (exact nfB) | (intro hg; refine ⟨hg, ?_⟩; omega) | (simp; done) | (simp; omega) | (intro hg; simp only [decide_eq_true_eq, decide_eq_false_iff_not, Bool.not_eq_true', Bool.not_eq_false', Bool.and_eq_true, Bool.or_eq_true, Bool.and_eq_false_iff, Bool.or_eq_false_iff, Int.not_lt, Int.not_le, beq_iff_eq, beq_eq_false_iff_ne, ne_eq, Bool.not_eq_true, Bool.not_eq_false] at hg ⊢; first | omega | exact hg | grind))))
  refine hK3 _ _ ?_
  try clear hK3 K3
  refine AWp.mask [true, true, false, false, true] rfl ?_
  simp only [go_sem]
  refine AWp.block ?_
  refine AWp.loopS [false, true] [true, false, true] (fun n lc hc => ∃ (k v : Nat) (Z : Tx), n = 2 * k ∧ EqS lc [(0, .own v 1 (byteRows Z)), (7, .d (.int .i64 ((k : Int) - 1)))] ∧ EqS hc (⟨F, v :: L⟩) ∧ (k ≤ m) ∧ (Z ++ wideR c k = Y ++ wideR c m) ∧ (Z.length + k = Y.length + m) ∧ (freshT v L)) rfl ?_ ?_
  · refine ⟨_, m, u, Y, rfl, ?_, ?_, ?_, ?_, ?_, ?_⟩
    · (try simp only [go_sem, icast]) <;> first | exact ⟨rfl⟩ | (constructor; simp; done)
    · (try simp only [go_sem, icast]) <;> first | exact ⟨rfl⟩ | (constructor; simp; done)
    all_goals (first | omega | rfl | (simp only [go_sem]; done) | assumption)
  · rintro _ _ _ ⟨k, v, Z, rfl, ⟨rfl⟩, ⟨rfl⟩, h1, h2, h3, h4⟩
    simp only [go_sem]
    refine AWp.seq fun K4 hK4 => ?_
    refine AWp.rs fun K5 hK5 => ?_
    try simp only [go_sem, icast]
    (repeat (with_reducible refine And.intro ?_ ?_; (first | omega | (intro _; omega) | decide | (exact nfB) | (intro hg; refine ⟨hg, ?_⟩; omega) | (simp; done) | (simp; omega) | (intro hg; simp only [decide_eq_true_eq, decide_eq_false_iff_not, Bool.not_eq_true', Bool.not_eq_false', Bool.and_eq_true, Bool.or_eq_true, Bool.and_eq_false_iff, Bool.or_eq_false_iff, Int.not_lt, Int.not_le, beq_iff_eq, beq_eq_false_iff_ne, ne_eq, Bool.not_eq_true, Bool.not_eq_false] at hg ⊢; first | omega | exact hg | grind))))
    refine hK5 _ _ ?_
    try clear hK5 K5
    refine AWp.cond _ rfl (fun hc0 => ?_) (fun hc0 => ?_)
    · skip
      try simp only [decide_eq_true_eq, decide_eq_false_iff_not, Bool.not_eq_true', Bool.not_eq_false', Bool.and_eq_true, Bool.or_eq_true, Bool.and_eq_false_iff, Bool.or_eq_false_iff, Int.not_lt, Int.not_le, beq_iff_eq, beq_eq_false_iff_ne, ne_eq, Bool.not_eq_true, Bool.not_eq_false] at hc0
      obtain ⟨j, rfl⟩ : ∃ j, k = j + 1 := ⟨k - 1, by omega⟩
      have hj : (j : Int) < 8 := by omega
      refine AWp.skip ?_
      refine thenQ_n ?_
      refine hK4 _ _ ?_
      try clear hK4 K4
      refine AWp.seq fun K6 hK6 => ?_
      refine AWp.block ?_
      refine AWp.rk fun K7 hK7 => ?_
      try simp only [go_sem, icast, isub1]
      (repeat (with_reducible refine And.intro ?_ ?_; (first | omega | (intro _; omega) | decide | (exact nfB) | (intro hg; refine ⟨hg, ?_⟩; omega) | (simp; done) | (simp; omega) | (intro hg; simp only [decide_eq_true_eq, decide_eq_false_iff_not, Bool.not_eq_true', Bool.not_eq_false', Bool.and_eq_true, Bool.or_eq_true, Bool.and_eq_false_iff, Bool.or_eq_false_iff, Int.not_lt, Int.not_le, beq_iff_eq, beq_eq_false_iff_ne, ne_eq, Bool.not_eq_true, Bool.not_eq_false] at hg ⊢; first | omega | exact hg | grind))))
      refine DW.app rfl rfl rfl rfl (show slI Tryd.prog 60 = some (5, 1, 1) by simp only [go_sem]) rfl rfl (by simp only [go_sem, icast, isub1]) (by first | exact .inl rfl | exact .inr rfl) (by (try simp only [go_sem]); omega) (by (try simp only [go_sem]); omega) fun t1 ft1 => ?_
      try simp only [freshT] at ft1
      try simp only [go_sem, icast, isub1, ft1]
      (repeat (with_reducible refine And.intro ?_ ?_; (first | omega | (intro _; omega) | decide | (exact nfB) | (intro hg; refine ⟨hg, ?_⟩; omega) | (simp; done) | (simp; omega) | (intro hg; simp only [decide_eq_true_eq, decide_eq_false_iff_not, Bool.not_eq_true', Bool.not_eq_false', Bool.and_eq_true, Bool.or_eq_true, Bool.and_eq_false_iff, Bool.or_eq_false_iff, Int.not_lt, Int.not_le, beq_iff_eq, beq_eq_false_iff_ne, ne_eq, Bool.not_eq_true, Bool.not_eq_false] at hg ⊢; first | omega | exact hg | grind))))
      refine hK7 _ _ ?_
      try clear hK7 K7
      refine blkQ_n (thenQ_n ?_)
      refine hK6 _ _ ?_
      try clear hK6 K6
      refine AWp.mask [true, true, true] rfl ?_
      simp only [go_sem]
      refine AWp.rk fun K8 hK8 => ?_
      try simp only [go_sem, icast, isub1, ft1]
      (repeat (with_reducible refine And.intro ?_ ?_; (first | omega | (intro _; omega) | decide | (exact nfB) | (intro hg; refine ⟨hg, ?_⟩; omega) | (simp; done) | (simp; omega) | (intro hg; simp only [decide_eq_true_eq, decide_eq_false_iff_not, Bool.not_eq_true', Bool.not_eq_false', Bool.and_eq_true, Bool.or_eq_true, Bool.and_eq_false_iff, Bool.or_eq_false_iff, Int.not_lt, Int.not_le, beq_iff_eq, beq_eq_false_iff_ne, ne_eq, Bool.not_eq_true, Bool.not_eq_false] at hg ⊢; first | omega | exact hg | grind))))
      refine hK8 _ _ ?_
      try clear hK8 K8
      refine thenQ_n ?_
      refine EndS.mk [false, true] [true, false, true] [] [] [] [t1] rfl ?_ ?_
      · (try simp only [go_sem, icast, isub1, ft1]) <;> try rfl
      refine .e ⟨_, ?_, j, t1, (Z ++ [ub (c.fdiv (2 ^ (min (8 * (j : Int)).toNat IntKind.i64.bits)))]), rfl, ?_, ?_, ?_, ?_, ?_, ?_⟩
      · first | omega | (simp; omega) | (grind)
      · (try simp only [go_sem, icast, isub1, ft1]) <;> first | exact ⟨rfl⟩ | (constructor; simp only [← byteRows_app, byteRows_one]; done)
      · (try simp only [go_sem, icast, isub1, ft1]) <;> first | exact ⟨rfl⟩ | (constructor; simp; done)
      · omega
      · rw [← h2]; simp [wideR]
      · simp; omega
      · first | assumption | (simp only [go_sem, ft1] at *; done) | (simp only [go_sem, ft1] at *; assumption)
    · skip
      try simp only [decide_eq_true_eq, decide_eq_false_iff_not, Bool.not_eq_true', Bool.not_eq_false', Bool.and_eq_true, Bool.or_eq_true, Bool.and_eq_false_iff, Bool.or_eq_false_iff, Int.not_lt, Int.not_le, beq_iff_eq, beq_eq_false_iff_ne, ne_eq, Bool.not_eq_true, Bool.not_eq_false] at hc0
      refine AWp.exit ?_
      refine thenQ_e (thenQ_e (blkQ_e (thenQ_n ?_)))
      refine hK2 _ _ ?_
      try clear hK2 K2
      refine AWp.mask [true] rfl ?_
      simp only [go_sem]
      refine AWp.rs fun K9 hK9 => ?_
      try simp only [go_sem, icast]
      (repeat (with_reducible refine And.intro ?_ ?_; (first | omega | (intro _; omega) | decide | (exact nfB) | (intro hg; refine ⟨hg, ?_⟩; omega) | (simp; done) | (simp; omega) | (intro hg; simp only [decide_eq_true_eq, decide_eq_false_iff_not, Bool.not_eq_true', Bool.not_eq_false', Bool.and_eq_true, Bool.or_eq_true, Bool.and_eq_false_iff, Bool.or_eq_false_iff, Int.not_lt, Int.not_le, beq_iff_eq, beq_eq_false_iff_ne, ne_eq, Bool.not_eq_true, Bool.not_eq_false] at hg ⊢; first | omega | exact hg | grind))))
      refine hK9 _ _ ?_
      try clear hK9 K9
      refine AWp.ret ?_
      try simp only [thenQ, blkQ]
      apply endW_r [] [] [] [] (by (try simp only [go_sem, icast]); rfl)
      · refine ⟨v, h4, rfl, rfl⟩
      · have h0 : k = 0 := by omega
        subst h0
        have h2 : Z = Y ++ wideR c m := by simpa [wideR] using h2
        simp [LeA, h2]
theorem take_get {a : Tx} {k : Nat} (h : k < a.length) : a.take (k + 1) = a.take k ++ [a.getD k 0] := by
  rw [List.take_add_one]; simp [List.getD, List.getElem?_eq_getElem h]
theorem fdiv_nat (n : Nat) (c : Nat) : (n : Int).fdiv (c : Int) = ((n / c : Nat) : Int) := by
  rw [Int.fdiv_eq_ediv_of_nonneg _ (by omega)]; exact (Int.natCast_ediv n c).symm
theorem ub_mod (n : Int) : ub (n % 256) = ub n := by
  apply UInt8.toNat_inj.1
  have h1 := ub_nat (n % 256)
  have h2 := ub_nat n
  rw [Int.emod_emod_of_dvd n (Int.dvd_refl 256)] at h1
  omega
theorem wide2 (n : Nat) : wideR n 2 = [ub ((n : Int).tdiv 256), ub ((n : Int).tmod 256)] := by
  have e1 : (n : Int).fdiv (2 ^ (min (8 * ((1 : Nat) : Int)).toNat IntKind.i64.bits)) = (n : Int).tdiv 256 := by
    rw [show (2 : Int) ^ (min (8 * ((1 : Nat) : Int)).toNat IntKind.i64.bits) = ((256 : Nat) : Int) from rfl, fdiv_nat, Int.tdiv_eq_ediv_of_nonneg (by omega)]; rfl
  have e2 : (n : Int).fdiv (2 ^ (min (8 * ((0 : Nat) : Int)).toNat IntKind.i64.bits)) = n := by
    rw [show (2 : Int) ^ (min (8 * ((0 : Nat) : Int)).toNat IntKind.i64.bits) = ((1 : Nat) : Int) from rfl, fdiv_nat]; simp
  have e3 : (n : Int).tmod 256 = (n : Int) % 256 := Int.tmod_eq_emod_of_nonneg (by omega)
  simp only [wideR, e1, e2, e3, ub_mod]
theorem wide3 (n : Int) (h : 0 ≤ n) : wideR n 3 = [ub (n.tdiv 65536), ub ((n.tdiv 256).tmod 256), ub (n.tmod 256)] := by
  obtain ⟨n, rfl⟩ := Int.eq_ofNat_of_zero_le h
  have e0 : (n : Int).fdiv (2 ^ (min (8 * ((2 : Nat) : Int)).toNat IntKind.i64.bits)) = (n : Int).tdiv 65536 := by
    rw [show (2 : Int) ^ (min (8 * ((2 : Nat) : Int)).toNat IntKind.i64.bits) = ((65536 : Nat) : Int) from rfl, fdiv_nat, Int.tdiv_eq_ediv_of_nonneg (by omega)]; rfl
  have e1 : (n : Int).fdiv (2 ^ (min (8 * ((1 : Nat) : Int)).toNat IntKind.i64.bits)) = (n : Int).tdiv 256 := by
    rw [show (2 : Int) ^ (min (8 * ((1 : Nat) : Int)).toNat IntKind.i64.bits) = ((256 : Nat) : Int) from rfl, fdiv_nat, Int.tdiv_eq_ediv_of_nonneg (by omega)]; rfl
  have e2 : (n : Int).fdiv (2 ^ (min (8 * ((0 : Nat) : Int)).toNat IntKind.i64.bits)) = n := by
    rw [show (2 : Int) ^ (min (8 * ((0 : Nat) : Int)).toNat IntKind.i64.bits) = ((1 : Nat) : Int) from rfl, fdiv_nat]; simp
  have e3 : (n : Int).tmod 256 = (n : Int) % 256 := Int.tmod_eq_emod_of_nonneg (by omega)
  have e4 : ((n : Int).tdiv 256).tmod 256 = (n : Int).tdiv 256 % 256 := Int.tmod_eq_emod_of_nonneg (by rw [Int.tdiv_eq_ediv_of_nonneg (by omega)]; omega)
  show wideR (n : Int) 3 = _
  simp only [wideR, e0, e1, e2]
  rw [e3, e4, ub_mod, ub_mod]
theorem tdiv256 (n : Nat) : (n : Int).tdiv 256 = ((n / 256 : Nat) : Int) := by rw [Int.tdiv_eq_ediv_of_nonneg (by omega)]; rfl
theorem tmod256 (n : Nat) : (n : Int).tmod 256 = ((n % 256 : Nat) : Int) := by rw [Int.tmod_eq_emod_of_nonneg (by omega)]; rfl
theorem wide2n (n : Nat) : wideR n 2 = [ub ((n / 256 : Nat) : Int), ub ((n % 256 : Nat) : Int)] := by rw [wide2, tdiv256, tmod256]
def txS (t : Tx) : Tx := wideR t.length 2 ++ t
theorem txS_len (t : Tx) : (txS t).length = t.length + 2 := by simp [txS, wideR_len]; omega
set_option maxRecDepth 4000 in
set_option maxHeartbeats 1000000 in
theorem joined_c (T : Tbl) (x y : Tx) (hl : x.length + y.length ≤ 1000000) : PC Tryd.prog T 74 [.d (.slc 1 (byteRows (x))), .d (.slc 1 (byteRows (y)))] (.d (.slc 1 (byteRows (x ++ y)))) := by
  refine ⟨Tryd.call74, PCall.enterS Tryd.func74 rfl Tryd.ntmps74 rfl fun hb => ?_⟩
  simp only [go_sem, Tryd.results74]
  refine AWp.rs fun K1 hK1 => ?_
  try simp only [go_sem, icast]
  (repeat (with_reducible refine And.intro ?_ ?_; (first | omega | (intro _; omega) | decide | (exact nfB) | (intro hg; refine ⟨hg, ?_⟩; omega) | (simp; done) | (simp; omega) | (intro hg; simp only [decide_eq_true_eq, decide_eq_false_iff_not, Bool.not_eq_true', Bool.not_eq_false', Bool.and_eq_true, Bool.or_eq_true, Bool.and_eq_false_iff, Bool.or_eq_false_iff, Int.not_lt, Int.not_le, beq_iff_eq, beq_eq_false_iff_ne, ne_eq, Bool.not_eq_true, Bool.not_eq_false] at hg ⊢; first | omega | exact hg | grind))))
  refine hK1 _ _ ?_
  try clear hK1 K1
  refine AWp.rs fun K2 hK2 => ?_
  try simp only [go_sem, icast]
  (repeat (with_reducible refine And.intro ?_ ?_; (first | omega | (intro _; omega) | decide | (exact nfB) | (intro hg; refine ⟨hg, ?_⟩; omega) | (simp; done) | (simp; omega) | (intro hg; simp only [decide_eq_true_eq, decide_eq_false_iff_not, Bool.not_eq_true', Bool.not_eq_false', Bool.and_eq_true, Bool.or_eq_true, Bool.and_eq_false_iff, Bool.or_eq_false_iff, Int.not_lt, Int.not_le, beq_iff_eq, beq_eq_false_iff_ne, ne_eq, Bool.not_eq_true, Bool.not_eq_false] at hg ⊢; first | omega | exact hg | grind))))
  refine hK2 _ _ ?_
  try clear hK2 K2
  refine AWp.ownNilS 5 1 rfl rfl (by decide) fun t0 ft0 => ?_
  try simp only [freshT] at ft0
  simp only [go_sem, icast, ft0]
  refine AWp.seq fun K3 hK3 => ?_
  refine AWp.rs fun K4 hK4 => ?_
  try simp only [go_sem, icast, ft0]
  (repeat (with_reducible refine And.intro ?_ ?_; (first | omega | (intro _; omega) | decide | (exact nfB) | (intro hg; refine ⟨hg, ?_⟩; omega) | (simp; done) | (simp; omega) | (intro hg; simp only [decide_eq_true_eq, decide_eq_false_iff_not, Bool.not_eq_true', Bool.not_eq_false', Bool.and_eq_true, Bool.or_eq_true, Bool.and_eq_false_iff, Bool.or_eq_false_iff, Int.not_lt, Int.not_le, beq_iff_eq, beq_eq_false_iff_ne, ne_eq, Bool.not_eq_true, Bool.not_eq_false] at hg ⊢; first | omega | exact hg | grind))))
  refine hK4 _ _ ?_
  try clear hK4 K4
  refine AWp.block ?_
  refine AWp.mask [true, true, false, true, true] rfl ?_
  simp only [go_sem]
  refine AWp.loopS [true, true] [false, false, true, true] (fun n lc hc => ∃ (k v : Nat), n = x.length - k ∧ EqS lc [(5, .own v 1 (byteRows (x.take k))), (6, .d (.int .i64 k))] ∧ EqS hc (⟨[], [v]⟩) ∧ (k ≤ x.length)) rfl ?_ ?_
  · refine ⟨_, 0, t0, rfl, ?_, ?_, ?_⟩
    · (try simp only [go_sem, icast, ft0]) <;> first | exact ⟨rfl⟩ | (constructor; simp [byteRows]; done)
    · (try simp only [go_sem, icast, ft0]) <;> first | exact ⟨rfl⟩ | (constructor; simp; done)
    all_goals (first | omega | rfl | (simp; done) | (simp; omega) | assumption)
  · rintro _ _ _ ⟨k, v, rfl, ⟨rfl⟩, ⟨rfl⟩, h1⟩
    simp only [go_sem]
    refine AWp.seq fun K5 hK5 => ?_
    refine AWp.rs fun K6 hK6 => ?_
    try simp only [go_sem, icast, ft0]
    (repeat (with_reducible refine And.intro ?_ ?_; (first | omega | (intro _; omega) | decide | (exact nfB) | (intro hg; refine ⟨hg, ?_⟩; omega) | (simp; done) | (simp; omega) | (intro hg; simp only [decide_eq_true_eq, decide_eq_false_iff_not, Bool.not_eq_true', Bool.not_eq_false', Bool.and_eq_true, Bool.or_eq_true, Bool.and_eq_false_iff, Bool.or_eq_false_iff, Int.not_lt, Int.not_le, beq_iff_eq, beq_eq_false_iff_ne, ne_eq, Bool.not_eq_true, Bool.not_eq_false] at hg ⊢; first | omega | exact hg | grind))))
    refine hK6 _ _ ?_
    try clear hK6 K6
    refine AWp.cond _ rfl (fun hc0 => ?_) (fun hc0 => ?_)
    · skip
      try simp only [decide_eq_true_eq, decide_eq_false_iff_not, Bool.not_eq_true', Bool.not_eq_false', Bool.and_eq_true, Bool.or_eq_true, Bool.and_eq_false_iff, Bool.or_eq_false_iff, Int.not_lt, Int.not_le, beq_iff_eq, beq_eq_false_iff_ne, ne_eq, Bool.not_eq_true, Bool.not_eq_false] at hc0
      have hlt : k < x.length := by omega
      have htk : (x.take k).length ≤ 1000000 := by simp; omega
      refine AWp.skip ?_
      refine thenQ_n ?_
      refine hK5 _ _ ?_
      try clear hK5 K5
      refine AWp.mask [true, true, true, true] rfl ?_
      simp only [go_sem]
      refine AWp.seq fun K7 hK7 => ?_
      refine AWp.block ?_
      refine AWp.rk fun K8 hK8 => ?_
      try simp only [go_sem, icast, ft0, byteRows_getD x k _ hlt]
      (repeat (with_reducible refine And.intro ?_ ?_; (first | omega | (intro _; omega) | decide | (exact nfB) | (intro hg; refine ⟨hg, ?_⟩; omega) | (simp; done) | (simp; omega) | (intro hg; simp only [decide_eq_true_eq, decide_eq_false_iff_not, Bool.not_eq_true', Bool.not_eq_false', Bool.and_eq_true, Bool.or_eq_true, Bool.and_eq_false_iff, Bool.or_eq_false_iff, Int.not_lt, Int.not_le, beq_iff_eq, beq_eq_false_iff_ne, ne_eq, Bool.not_eq_true, Bool.not_eq_false] at hg ⊢; first | omega | exact hg | grind))))
      refine DW.app rfl rfl rfl rfl (show slI Tryd.prog 60 = some (5, 1, 1) by simp only [go_sem]) rfl rfl (by simp only [go_sem, icast, ft0, byteRows_getD x k _ hlt]) (by first | exact .inl rfl | exact .inr rfl) (by (try simp only [go_sem, List.length_append, List.length_cons, List.length_nil]); omega) (by (try simp only [go_sem, List.length_append, List.length_cons, List.length_nil]); omega) fun t1 ft1 => ?_
      try simp only [freshT] at ft1
      try simp only [go_sem, icast, ft0, byteRows_getD x k _ hlt, ft1]
      (repeat (with_reducible refine And.intro ?_ ?_; (first | omega | (intro _; omega) | decide | (exact nfB) | (intro hg; refine ⟨hg, ?_⟩; omega) | (simp; done) | (simp; omega) | (intro hg; simp only [decide_eq_true_eq, decide_eq_false_iff_not, Bool.not_eq_true', Bool.not_eq_false', Bool.and_eq_true, Bool.or_eq_true, Bool.and_eq_false_iff, Bool.or_eq_false_iff, Int.not_lt, Int.not_le, beq_iff_eq, beq_eq_false_iff_ne, ne_eq, Bool.not_eq_true, Bool.not_eq_false] at hg ⊢; first | omega | exact hg | grind))))
      refine hK8 _ _ ?_
      try clear hK8 K8
      refine blkQ_n (thenQ_n ?_)
      refine hK7 _ _ ?_
      try clear hK7 K7
      refine AWp.mask [true, true, true, true] rfl ?_
      simp only [go_sem]
      refine AWp.rk fun K9 hK9 => ?_
      try simp only [go_sem, icast, ft0, byteRows_getD x k _ hlt, ft1]
      (repeat (with_reducible refine And.intro ?_ ?_; (first | omega | (intro _; omega) | decide | (exact nfB) | (intro hg; refine ⟨hg, ?_⟩; omega) | (simp; done) | (simp; omega) | (intro hg; simp only [decide_eq_true_eq, decide_eq_false_iff_not, Bool.not_eq_true', Bool.not_eq_false', Bool.and_eq_true, Bool.or_eq_true, Bool.and_eq_false_iff, Bool.or_eq_false_iff, Int.not_lt, Int.not_le, beq_iff_eq, beq_eq_false_iff_ne, ne_eq, Bool.not_eq_true, Bool.not_eq_false] at hg ⊢; first | omega | exact hg | grind))))
      refine hK9 _ _ ?_
      try clear hK9 K9
      refine thenQ_n ?_
      refine EndS.mk [true, true] [false, false, true, true] [] [] [] [t1] rfl ?_ ?_
      · (try simp only [go_sem, icast, ft0, byteRows_getD x k _ hlt, ft1]) <;> try rfl
      refine .e ⟨_, ?_, k + 1, t1, rfl, ?_, ?_, ?_⟩
      · first | omega | (simp; omega) | (grind)
      · (try simp only [go_sem, icast, ft0, byteRows_getD x k _ hlt, ft1]) <;> first | exact ⟨rfl⟩ | (constructor; rw [take_get hlt, ← byteRows_app]; rfl)
      · (try simp only [go_sem, icast, ft0, byteRows_getD x k _ hlt, ft1]) <;> first | exact ⟨rfl⟩ | (constructor; simp; done)
      all_goals (first | omega | assumption | grind)
    · skip
      try simp only [decide_eq_true_eq, decide_eq_false_iff_not, Bool.not_eq_true', Bool.not_eq_false', Bool.and_eq_true, Bool.or_eq_true, Bool.and_eq_false_iff, Bool.or_eq_false_iff, Int.not_lt, Int.not_le, beq_iff_eq, beq_eq_false_iff_ne, ne_eq, Bool.not_eq_true, Bool.not_eq_false] at hc0
      have hk : k = x.length := by omega
      subst hk
      rw [List.take_length]
      refine AWp.exit ?_
      refine thenQ_e (thenQ_e (blkQ_e (thenQ_n ?_)))
      refine hK3 _ _ ?_
      try clear hK3 K3
      refine AWp.mask [false, true, true] rfl ?_
      simp only [go_sem]
      refine AWp.seq fun K10 hK10 => ?_
      refine AWp.rs fun K11 hK11 => ?_
      try simp only [go_sem, icast, ft0]
      (repeat (with_reducible refine And.intro ?_ ?_; (first | omega | (intro _; omega) | decide | (exact nfB) | (intro hg; refine ⟨hg, ?_⟩; omega) | (simp; done) | (simp; omega) | (intro hg; simp only [decide_eq_true_eq, decide_eq_false_iff_not, Bool.not_eq_true', Bool.not_eq_false', Bool.and_eq_true, Bool.or_eq_true, Bool.and_eq_false_iff, Bool.or_eq_false_iff, Int.not_lt, Int.not_le, beq_iff_eq, beq_eq_false_iff_ne, ne_eq, Bool.not_eq_true, Bool.not_eq_false] at hg ⊢; first | omega | exact hg | grind))))
      refine hK11 _ _ ?_
      try clear hK11 K11
      refine AWp.block ?_
      refine AWp.loopS [true] [false, true, true] (fun n lc hc => ∃ (k v : Nat), n = y.length - k ∧ EqS lc [(5, .own v 1 (byteRows (x ++ y.take k))), (7, .d (.int .i64 k))] ∧ EqS hc (⟨[], [v]⟩) ∧ (k ≤ y.length)) rfl ?_ ?_
      · refine ⟨_, 0, v, rfl, ?_, ?_, ?_⟩
        · (try simp only [go_sem, icast, ft0]) <;> first | exact ⟨rfl⟩ | (constructor; simp; done)
        · (try simp only [go_sem, icast, ft0]) <;> first | exact ⟨rfl⟩ | (constructor; simp; done)
        all_goals (first | omega | rfl | (simp; done) | (simp; omega) | assumption)
      · rintro _ _ _ ⟨k, v, rfl, ⟨rfl⟩, ⟨rfl⟩, h1⟩
        simp only [go_sem]
        refine AWp.seq fun K12 hK12 => ?_
        refine AWp.rs fun K13 hK13 => ?_
        try simp only [go_sem, icast, ft0]
        (repeat (with_reducible refine And.intro ?_ ?_; (first | omega | (intro _; omega) | decide | (exact nfB) | (intro hg; refine ⟨hg, ?_⟩; omega) | (simp; done) | (simp; omega) | (intro hg; simp only [decide_eq_true_eq, decide_eq_false_iff_not, Bool.not_eq_true', Bool.not_eq_false', Bool.and_eq_true, Bool.or_eq_true, Bool.and_eq_false_iff, Bool.or_eq_false_iff, Int.not_lt, Int.not_le, beq_iff_eq, beq_eq_false_iff_ne, ne_eq, Bool.not_eq_true, Bool.not_eq_false] at hg ⊢; first | omega | exact hg | grind))))
        refine hK13 _ _ ?_
        try clear hK13 K13
        refine AWp.cond _ rfl (fun hc1 => ?_) (fun hc1 => ?_)
        · skip
          try simp only [decide_eq_true_eq, decide_eq_false_iff_not, Bool.not_eq_true', Bool.not_eq_false', Bool.and_eq_true, Bool.or_eq_true, Bool.and_eq_false_iff, Bool.or_eq_false_iff, Int.not_lt, Int.not_le, beq_iff_eq, beq_eq_false_iff_ne, ne_eq, Bool.not_eq_true, Bool.not_eq_false] at hc1
          have hlt : k < y.length := by omega
          have htk : x.length + (y.take k).length ≤ 1000000 := by simp; omega
          refine AWp.skip ?_
          refine thenQ_n ?_
          refine hK12 _ _ ?_
          try clear hK12 K12
          refine AWp.mask [true, true, true] rfl ?_
          simp only [go_sem]
          refine AWp.seq fun K14 hK14 => ?_
          refine AWp.block ?_
          refine AWp.rk fun K15 hK15 => ?_
          try simp only [go_sem, icast, ft0, byteRows_getD y k _ hlt]
          (repeat (with_reducible refine And.intro ?_ ?_; (first | omega | (intro _; omega) | decide | (exact nfB) | (intro hg; refine ⟨hg, ?_⟩; omega) | (simp; done) | (simp; omega) | (intro hg; simp only [decide_eq_true_eq, decide_eq_false_iff_not, Bool.not_eq_true', Bool.not_eq_false', Bool.and_eq_true, Bool.or_eq_true, Bool.and_eq_false_iff, Bool.or_eq_false_iff, Int.not_lt, Int.not_le, beq_iff_eq, beq_eq_false_iff_ne, ne_eq, Bool.not_eq_true, Bool.not_eq_false] at hg ⊢; first | omega | exact hg | grind))))
          refine DW.app rfl rfl rfl rfl (show slI Tryd.prog 60 = some (5, 1, 1) by simp only [go_sem]) rfl rfl (by simp only [go_sem, icast, ft0, byteRows_getD y k _ hlt]) (by first | exact .inl rfl | exact .inr rfl) (by (try simp only [go_sem, List.length_append, List.length_cons, List.length_nil]); omega) (by (try simp only [go_sem, List.length_append, List.length_cons, List.length_nil]); omega) fun t2 ft2 => ?_
          try simp only [freshT] at ft2
          try simp only [go_sem, icast, ft0, byteRows_getD y k _ hlt, ft2]
          (repeat (with_reducible refine And.intro ?_ ?_; (first | omega | (intro _; omega) | decide | (exact nfB) | (intro hg; refine ⟨hg, ?_⟩; omega) | (simp; done) | (simp; omega) | (intro hg; simp only [decide_eq_true_eq, decide_eq_false_iff_not, Bool.not_eq_true', Bool.not_eq_false', Bool.and_eq_true, Bool.or_eq_true, Bool.and_eq_false_iff, Bool.or_eq_false_iff, Int.not_lt, Int.not_le, beq_iff_eq, beq_eq_false_iff_ne, ne_eq, Bool.not_eq_true, Bool.not_eq_false] at hg ⊢; first | omega | exact hg | grind))))
          refine hK15 _ _ ?_
          try clear hK15 K15
          refine blkQ_n (thenQ_n ?_)
          refine hK14 _ _ ?_
          try clear hK14 K14
          refine AWp.mask [true, true, true] rfl ?_
          simp only [go_sem]
          refine AWp.rk fun K16 hK16 => ?_
          try simp only [go_sem, icast, ft0, byteRows_getD y k _ hlt, ft2]
          (repeat (with_reducible refine And.intro ?_ ?_; (first | omega | (intro _; omega) | decide | (exact nfB) | (intro hg; refine ⟨hg, ?_⟩; omega) | (simp; done) | (simp; omega) | (intro hg; simp only [decide_eq_true_eq, decide_eq_false_iff_not, Bool.not_eq_true', Bool.not_eq_false', Bool.and_eq_true, Bool.or_eq_true, Bool.and_eq_false_iff, Bool.or_eq_false_iff, Int.not_lt, Int.not_le, beq_iff_eq, beq_eq_false_iff_ne, ne_eq, Bool.not_eq_true, Bool.not_eq_false] at hg ⊢; first | omega | exact hg | grind))))
          refine hK16 _ _ ?_
          try clear hK16 K16
          refine thenQ_n ?_
          refine EndS.mk [true] [false, true, true] [] [] [] [t2] rfl ?_ ?_
          · (try simp only [go_sem, icast, ft0, byteRows_getD y k _ hlt, ft2]) <;> try rfl
          refine .e ⟨_, ?_, k + 1, t2, rfl, ?_, ?_, ?_⟩
          · first | omega | (simp; omega) | (grind)
          · (try simp only [go_sem, icast, ft0, byteRows_getD y k _ hlt, ft2]) <;> first | exact ⟨rfl⟩ | (constructor; rw [take_get hlt, ← List.append_assoc, ← byteRows_app (x ++ y.take k)]; rfl)
          · (try simp only [go_sem, icast, ft0, byteRows_getD y k _ hlt, ft2]) <;> first | exact ⟨rfl⟩ | (constructor; simp; done)
          all_goals (first | omega | assumption | grind)
        · skip
          try simp only [decide_eq_true_eq, decide_eq_false_iff_not, Bool.not_eq_true', Bool.not_eq_false', Bool.and_eq_true, Bool.or_eq_true, Bool.and_eq_false_iff, Bool.or_eq_false_iff, Int.not_lt, Int.not_le, beq_iff_eq, beq_eq_false_iff_ne, ne_eq, Bool.not_eq_true, Bool.not_eq_false] at hc1
          refine AWp.exit ?_
          refine thenQ_e (thenQ_e (blkQ_e (thenQ_n ?_)))
          refine hK10 _ _ ?_
          try clear hK10 K10
          refine AWp.mask [false, true] rfl ?_
          simp only [go_sem]
          refine AWp.rs fun K17 hK17 => ?_
          try simp only [go_sem, icast, ft0]
          (repeat (with_reducible refine And.intro ?_ ?_; (first | omega | (intro _; omega) | decide | (exact nfB) | (intro hg; refine ⟨hg, ?_⟩; omega) | (simp; done) | (simp; omega) | (intro hg; simp only [decide_eq_true_eq, decide_eq_false_iff_not, Bool.not_eq_true', Bool.not_eq_false', Bool.and_eq_true, Bool.or_eq_true, Bool.and_eq_false_iff, Bool.or_eq_false_iff, Int.not_lt, Int.not_le, beq_iff_eq, beq_eq_false_iff_ne, ne_eq, Bool.not_eq_true, Bool.not_eq_false] at hg ⊢; first | omega | exact hg | grind))))
          refine hK17 _ _ ?_
          try clear hK17 K17
          refine AWp.ret ?_
          try simp only [go_sem, icast, ft0]
          rw [List.take_of_length_le (by omega)]; try simp [LeA, LeD]
theorem nsB : isStr Tryd.prog 60 = false := by kernel_rfl
set_option maxRecDepth 4000 in
set_option maxHeartbeats 1000000 in
theorem lengthAnd_c (T : Tbl) (s : Tx) (hs : s.length ≤ 4096) : PC Tryd.prog T 73 [.d (.str s)] (.d (.slc 1 (byteRows (txS s)))) := by
  refine ⟨Tryd.call73, PCall.enterS Tryd.func73 rfl Tryd.ntmps73 rfl fun hb => ?_⟩
  simp only [go_sem, Tryd.results73]
  refine AWp.rs fun K1 hK1 => ?_
  try simp only [go_sem, tdiv256, tmod256, nsB, Bool.false_eq_true, if_false]
  (repeat (with_reducible refine And.intro ?_ ?_; (first | omega | (intro _; omega) | decide | (exact nfB) | (intro hg; refine ⟨hg, ?_⟩; omega) | (simp; done) | (simp; omega) | (intro hg; simp only [decide_eq_true_eq, decide_eq_false_iff_not, Bool.not_eq_true', Bool.not_eq_false', Bool.and_eq_true, Bool.or_eq_true, Bool.and_eq_false_iff, Bool.or_eq_false_iff, Int.not_lt, Int.not_le, beq_iff_eq, beq_eq_false_iff_ne, ne_eq, Bool.not_eq_true, Bool.not_eq_false] at hg ⊢; first | omega | exact hg | grind))))
  refine hK1 _ _ ?_
  try clear hK1 K1
  refine AWp.rs fun K2 hK2 => ?_
  try simp only [go_sem, tdiv256, tmod256, nsB, Bool.false_eq_true, if_false]
  (repeat (with_reducible refine And.intro ?_ ?_; (first | omega | (intro _; omega) | decide | (exact nfB) | (intro hg; refine ⟨hg, ?_⟩; omega) | (simp; done) | (simp; omega) | (intro hg; simp only [decide_eq_true_eq, decide_eq_false_iff_not, Bool.not_eq_true', Bool.not_eq_false', Bool.and_eq_true, Bool.or_eq_true, Bool.and_eq_false_iff, Bool.or_eq_false_iff, Int.not_lt, Int.not_le, beq_iff_eq, beq_eq_false_iff_ne, ne_eq, Bool.not_eq_true, Bool.not_eq_false] at hg ⊢; first | omega | exact hg | grind))))
  refine DW.pcr rfl rfl rfl rfl (joined_c T [ub ((s.length / 256 : Nat) : Int), ub ((s.length % 256 : Nat) : Int)] s (by simp only [List.length_cons, List.length_nil]; omega)) rfl rfl ?_
  try simp only [go_sem, tdiv256, tmod256, nsB, Bool.false_eq_true, if_false]
  (repeat (with_reducible refine And.intro ?_ ?_; (first | omega | (intro _; omega) | decide | (exact nfB) | (intro hg; refine ⟨hg, ?_⟩; omega) | (simp; done) | (simp; omega) | (intro hg; simp only [decide_eq_true_eq, decide_eq_false_iff_not, Bool.not_eq_true', Bool.not_eq_false', Bool.and_eq_true, Bool.or_eq_true, Bool.and_eq_false_iff, Bool.or_eq_false_iff, Int.not_lt, Int.not_le, beq_iff_eq, beq_eq_false_iff_ne, ne_eq, Bool.not_eq_true, Bool.not_eq_false] at hg ⊢; first | omega | exact hg | grind))))
  refine hK2 _ _ ?_
  try clear hK2 K2
  refine AWp.mask [false, true] rfl ?_
  simp only [go_sem]
  refine AWp.ret ?_
  try simp only [go_sem, tdiv256, tmod256, nsB, Bool.false_eq_true, if_false]
  rw [txS, wide2n]; try simp [LeA, LeD]
end Go.Proofs.YtddiolgeaefieaaDoor

namespace Go.Proofs.YtddiolgeaefieaaDoor
set_option linter.unusedSimpArgs false
set_option linter.unusedVariables false
def headS (x : Ent) : Tx := ub x.kind :: ub x.flags :: wideR x.uid 3
def partS (x : Ent) : Nat → Tx
  | 0 => txS x.box ++ (txS x.dest ++ txS x.text)
  | 1 => txS x.dest ++ txS x.text
  | 2 => txS x.text
  | _ => []
/-- an entry's bytes -/
def enS (x : Ent) : Tx := headS x ++ partS x 0
def ensS : List Ent → Tx
  | [] => []
  | x :: l => enS x ++ ensS l
def batS (u : Int) (l : List Ent) : Tx := ub u :: ub l.length :: ensS l
theorem ensS_drop {l : List Ent} {k : Nat} (h : k < l.length) : ensS (l.drop k) = enS (l[k]'h) ++ ensS (l.drop (k + 1)) := by rw [List.drop_eq_getElem_cons h]; rfl
theorem ensS_end {l : List Ent} {k : Nat} (h : l.length ≤ k) : ensS (l.drop k) = [] := by rw [List.drop_eq_nil_of_le h]; rfl
theorem nameE_le {s : Tx} (h : nameE s = 0) : s.length ≤ 12 := by
  unfold nameE at h
  split at h
  · omega
  · omega
/-- what an entry that may be holds -/
theorem ent_small {x : Ent} (h : entE x = 0) : x.box.length ≤ 12 ∧ x.dest.length ≤ 100 ∧ x.text.length ≤ 2000 ∧ 0 ≤ x.uid ∧ x.uid ≤ 1048576 ∧ 0 ≤ x.flags ∧ x.flags ≤ 31 ∧ 1 ≤ x.kind ∧ x.kind ≤ 6 := by
  unfold entE at h
  split at h
  · omega
  · rename_i hk
    split at h
    · omega
    · rename_i hf
      split at h
      · omega
      · rename_i h3
        split at h
        · omega
        · rename_i h4
          simp only [formB, Bool.or_eq_true, Bool.and_eq_true, Bool.not_eq_true', decide_eq_true_eq, decide_eq_false_iff_not, not_or, not_and, Classical.not_not] at hf
          obtain ⟨⟨⟨⟨f1, f2⟩, f3⟩, f4⟩, f5⟩ := hf
          split at h
          · rename_i h5
            have hb : x.box = [] := f1 h5
            have hd : x.dest.length ≤ 100 := by
              unfold destE at h
              split at h
              · omega
              · omega
            refine ⟨by rw [hb]; simp, hd, by omega, ?_⟩
            omega
          · rename_i h5
            split at h
            · rename_i h6; exact absurd h h6
            · rename_i h6
              have hbx := nameE_le (Classical.not_not.1 h6)
              split at h
              · have := nameE_le h
                refine ⟨hbx, by omega, by omega, ?_⟩
                omega
              · rename_i h7
                have hd : x.dest = [] := f2 ⟨h5, h7⟩
                refine ⟨hbx, by rw [hd]; simp, by omega, ?_⟩
                omega
theorem ents_small {l : List Ent} (h : firstE l = 0) : ∀ x ∈ l, entE x = 0 := by
  induction l with
  | nil => simp
  | cons y l ih =>
    rw [firstE] at h
    split at h
    · rename_i h1; exact absurd h h1
    · rename_i h1
      intro x hx
      rcases List.mem_cons.1 hx with rfl | hx
      · exact Classical.not_not.1 h1
      · exact ih h x hx
theorem batE_0 {u : Int} {l : List Ent} (h : batE u l = 0) : 0 ≤ u ∧ u ≤ 2 ∧ 1 ≤ l.length ∧ l.length ≤ 10 ∧ ∀ x ∈ l, entE x = 0 := by
  unfold batE at h
  split at h
  · omega
  · split at h
    · omega
    · exact ⟨by omega, by omega, by omega, by omega, ents_small h⟩
theorem enS_len {x : Ent} (h : entE x = 0) : (enS x).length ≤ 2200 := by
  obtain ⟨h1, h2, h3, _⟩ := ent_small h
  simp only [enS, headS, partS, List.length_append, List.length_cons, wideR_len, txS_len]
  omega
theorem byteRows_two (c d : UInt8) : [[D.int .u8 (c.toNat : Int)], [D.int .u8 (d.toNat : Int)]] = byteRows [c, d] := rfl
theorem len3 (n : Int) (h : n < 3) (h0 : 0 ≤ n) : n = 0 ∨ n = 1 ∨ n = 2 := by omega
def encT (u : Int) (l : List Ent) : Tx := if batE u l = 0 then batS u l else []
def encV (u : Int) (l : List Ent) : AV := .tup [.d (.slc 1 (byteRows (encT u l))), .d (.int .i64 (batE u l))]
set_option maxRecDepth 4000 in
set_option maxHeartbeats 1000000 in
theorem Encode_c (T : Tbl) (hL : LibT T) (u : Int) (l : List Ent) (ok : ∀ x ∈ l, EntOk x) : PC Tryd.prog T 38 [.agg [.d (.int .i64 u), .d (.slc 6 (entsD l))]] (encV u l) := by
  refine ⟨Tryd.call38, PCall.enterS Tryd.func38 rfl Tryd.ntmps38 rfl fun hb => ?_⟩
  simp only [go_sem, Tryd.results38]
  refine AWp.rs fun K1 hK1 => ?_
  try simp only [go_sem, icast, entD, entA, byteRows_two, byteRows_app]
  (repeat (with_reducible refine And.intro ?_ ?_; (first | omega | (intro _; omega) | decide | (exact nfB) | (intro hg; refine ⟨hg, ?_⟩; omega) | (simp; done) | (simp; omega) | (intro hg; simp only [decide_eq_true_eq, decide_eq_false_iff_not, Bool.not_eq_true', Bool.not_eq_false', Bool.and_eq_true, Bool.or_eq_true, Bool.and_eq_false_iff, Bool.or_eq_false_iff, Int.not_lt, Int.not_le, beq_iff_eq, beq_eq_false_iff_ne, ne_eq, Bool.not_eq_true, Bool.not_eq_false] at hg ⊢; first | omega | exact hg | grind))))
  intro b1
  first | intro fb1 | have fb1 := True.intro
  try simp only [freshL] at fb1
  try simp only [go_sem, icast, entD, entA, byteRows_two, byteRows_app, fb1]
  (repeat (with_reducible refine And.intro ?_ ?_; (first | omega | (intro _; omega) | decide | (exact nfB) | (intro hg; refine ⟨hg, ?_⟩; omega) | (simp; done) | (simp; omega) | (intro hg; simp only [decide_eq_true_eq, decide_eq_false_iff_not, Bool.not_eq_true', Bool.not_eq_false', Bool.and_eq_true, Bool.or_eq_true, Bool.and_eq_false_iff, Bool.or_eq_false_iff, Int.not_lt, Int.not_le, beq_iff_eq, beq_eq_false_iff_ne, ne_eq, Bool.not_eq_true, Bool.not_eq_false] at hg ⊢; first | omega | exact hg | grind))))
  refine hK1 _ _ ?_
  try clear hK1 K1
  refine AWp.seq fun K2 hK2 => ?_
  refine AWp.rs fun K3 hK3 => ?_
  try simp only [go_sem, icast, entD, entA, byteRows_two, byteRows_app, fb1]
  (repeat (with_reducible refine And.intro ?_ ?_; (first | omega | (intro _; omega) | decide | (exact nfB) | (intro hg; refine ⟨hg, ?_⟩; omega) | (simp; done) | (simp; omega) | (intro hg; simp only [decide_eq_true_eq, decide_eq_false_iff_not, Bool.not_eq_true', Bool.not_eq_false', Bool.and_eq_true, Bool.or_eq_true, Bool.and_eq_false_iff, Bool.or_eq_false_iff, Int.not_lt, Int.not_le, beq_iff_eq, beq_eq_false_iff_ne, ne_eq, Bool.not_eq_true, Bool.not_eq_false] at hg ⊢; first | omega | exact hg | grind))))
  refine DW.pcr rfl rfl rfl rfl (Check_c T hL u l ok) rfl rfl ?_
  try simp only [go_sem, icast, entD, entA, byteRows_two, byteRows_app, fb1]
  (repeat (with_reducible refine And.intro ?_ ?_; (first | omega | (intro _; omega) | decide | (exact nfB) | (intro hg; refine ⟨hg, ?_⟩; omega) | (simp; done) | (simp; omega) | (intro hg; simp only [decide_eq_true_eq, decide_eq_false_iff_not, Bool.not_eq_true', Bool.not_eq_false', Bool.and_eq_true, Bool.or_eq_true, Bool.and_eq_false_iff, Bool.or_eq_false_iff, Int.not_lt, Int.not_le, beq_iff_eq, beq_eq_false_iff_ne, ne_eq, Bool.not_eq_true, Bool.not_eq_false] at hg ⊢; first | omega | exact hg | grind))))
  refine hK3 _ _ ?_
  try clear hK3 K3
  refine AWp.mask [false, true, false, false, true] rfl ?_
  simp only [go_sem]
  refine AWp.rs fun K4 hK4 => ?_
  try simp only [go_sem, icast, entD, entA, byteRows_two, byteRows_app, fb1]
  (repeat (with_reducible refine And.intro ?_ ?_; (first | omega | (intro _; omega) | decide | (exact nfB) | (intro hg; refine ⟨hg, ?_⟩; omega) | (simp; done) | (simp; omega) | (intro hg; simp only [decide_eq_true_eq, decide_eq_false_iff_not, Bool.not_eq_true', Bool.not_eq_false', Bool.and_eq_true, Bool.or_eq_true, Bool.and_eq_false_iff, Bool.or_eq_false_iff, Int.not_lt, Int.not_le, beq_iff_eq, beq_eq_false_iff_ne, ne_eq, Bool.not_eq_true, Bool.not_eq_false] at hg ⊢; first | omega | exact hg | grind))))
  refine hK4 _ _ ?_
  try clear hK4 K4
  refine AWp.cond _ rfl (fun hc0 => ?_) (fun hc0 => ?_)
  · skip
    try simp only [decide_eq_true_eq, decide_eq_false_iff_not, Bool.not_eq_true', Bool.not_eq_false', Bool.and_eq_true, Bool.or_eq_true, Bool.and_eq_false_iff, Bool.or_eq_false_iff, Int.not_lt, Int.not_le, beq_iff_eq, beq_eq_false_iff_ne, ne_eq, Bool.not_eq_true, Bool.not_eq_false] at hc0
    have hb1 : ¬ batE u l = 0 := hc0
    refine AWp.rs fun K5 hK5 => ?_
    try simp only [go_sem, icast, entD, entA, byteRows_two, byteRows_app, fb1]
    (repeat (with_reducible refine And.intro ?_ ?_; (first | omega | (intro _; omega) | decide | (exact nfB) | (intro hg; refine ⟨hg, ?_⟩; omega) | (simp; done) | (simp; omega) | (intro hg; simp only [decide_eq_true_eq, decide_eq_false_iff_not, Bool.not_eq_true', Bool.not_eq_false', Bool.and_eq_true, Bool.or_eq_true, Bool.and_eq_false_iff, Bool.or_eq_false_iff, Int.not_lt, Int.not_le, beq_iff_eq, beq_eq_false_iff_ne, ne_eq, Bool.not_eq_true, Bool.not_eq_false] at hg ⊢; first | omega | exact hg | grind))))
    refine hK5 _ _ ?_
    try clear hK5 K5
    refine AWp.mask [false, true, true] rfl ?_
    simp only [go_sem]
    refine AWp.ret ?_
    try simp only [go_sem, icast, entD, entA, byteRows_two, byteRows_app, fb1]
    rw [encV, encT, if_neg hc0]; simp [LeA, LeL, LeD, byteRows]
  · skip
    try simp only [decide_eq_true_eq, decide_eq_false_iff_not, Bool.not_eq_true', Bool.not_eq_false', Bool.and_eq_true, Bool.or_eq_true, Bool.and_eq_false_iff, Bool.or_eq_false_iff, Int.not_lt, Int.not_le, beq_iff_eq, beq_eq_false_iff_ne, ne_eq, Bool.not_eq_true, Bool.not_eq_false] at hc0
    obtain ⟨hu0, hu2, hl1, hl10, hen⟩ := batE_0 hc0
    refine AWp.skip ?_
    refine thenQ_n ?_
    refine hK2 _ _ ?_
    try clear hK2 K2
    refine AWp.cut 7 fun K6 hK6 => ?_
    simp only [List.take_succ_cons, List.take_zero, List.drop_succ_cons, List.drop_zero]
    try simp only [go_sem, icast, entD, entA, byteRows_two, byteRows_app, fb1]
    (repeat (with_reducible refine And.intro ?_ ?_; (first | omega | (intro _; omega) | decide | (exact nfB) | (intro hg; refine ⟨hg, ?_⟩; omega) | (simp; done) | (simp; omega) | (intro hg; simp only [decide_eq_true_eq, decide_eq_false_iff_not, Bool.not_eq_true', Bool.not_eq_false', Bool.and_eq_true, Bool.or_eq_true, Bool.and_eq_false_iff, Bool.or_eq_false_iff, Int.not_lt, Int.not_le, beq_iff_eq, beq_eq_false_iff_ne, ne_eq, Bool.not_eq_true, Bool.not_eq_false] at hg ⊢; first | omega | exact hg | grind))))
    refine DW.bsO (he := by first | rfl | kernel_rfl) rfl rfl (show slI Tryd.prog 60 = some (5, 1, 1) by simp only [go_sem]) (by (try simp only [go_sem, icast, entD, entA, byteRows_two, byteRows_app, fb1]); rfl) rfl (by decide) fun t1 ft1 => ?_
    try simp only [freshT] at ft1
    try simp only [go_sem, icast, entD, entA, byteRows_two, byteRows_app, fb1, ft1]
    (repeat (with_reducible refine And.intro ?_ ?_; (first | omega | (intro _; omega) | decide | (exact nfB) | (intro hg; refine ⟨hg, ?_⟩; omega) | (simp; done) | (simp; omega) | (intro hg; simp only [decide_eq_true_eq, decide_eq_false_iff_not, Bool.not_eq_true', Bool.not_eq_false', Bool.and_eq_true, Bool.or_eq_true, Bool.and_eq_false_iff, Bool.or_eq_false_iff, Int.not_lt, Int.not_le, beq_iff_eq, beq_eq_false_iff_ne, ne_eq, Bool.not_eq_true, Bool.not_eq_false] at hg ⊢; first | omega | exact hg | grind))))
    refine hK6 _ _ ?_
    try clear hK6 K6
    refine AWp.mask [true, false, true] rfl ?_
    simp only [go_sem]
    refine AWp.seq fun K7 hK7 => ?_
    refine AWp.rs fun K8 hK8 => ?_
    try simp only [go_sem, icast, entD, entA, byteRows_two, byteRows_app, fb1, ft1]
    (repeat (with_reducible refine And.intro ?_ ?_; (first | omega | (intro _; omega) | decide | (exact nfB) | (intro hg; refine ⟨hg, ?_⟩; omega) | (simp; done) | (simp; omega) | (intro hg; simp only [decide_eq_true_eq, decide_eq_false_iff_not, Bool.not_eq_true', Bool.not_eq_false', Bool.and_eq_true, Bool.or_eq_true, Bool.and_eq_false_iff, Bool.or_eq_false_iff, Int.not_lt, Int.not_le, beq_iff_eq, beq_eq_false_iff_ne, ne_eq, Bool.not_eq_true, Bool.not_eq_false] at hg ⊢; first | omega | exact hg | grind))))
    refine hK8 _ _ ?_
    try clear hK8 K8
    refine AWp.block ?_
    refine AWp.mask [false, true, false, true, true, true] rfl ?_
    simp only [go_sem]
    refine AWp.loopS [false, true, true] [true, false, false, true] (fun n lc hc => ∃ (k v : Nat) (Z : Tx), n = l.length - k ∧ EqS lc [(5, .own v 1 (byteRows Z)), (26, .d (.int .i64 k))] ∧ EqS hc (⟨[(b1, ⟨2, 1, [[.d (.int .i64 u), .d (.slc 6 (entsD l))]]⟩)], [v]⟩) ∧ (k ≤ l.length) ∧ (Z ++ ensS (l.drop k) = batS u l) ∧ (Z.length ≤ 2 + 2200 * k)) rfl ?_ ?_
    · refine ⟨_, 0, t1, [ub u, ub l.length], rfl, ?_, ?_, ?_, ?_, ?_⟩
      · (try simp only [go_sem, icast, entD, entA, byteRows_two, byteRows_app, fb1, ft1]) <;> first | exact ⟨rfl⟩ | (constructor; rfl)
      · (try simp only [go_sem, icast, entD, entA, byteRows_two, byteRows_app, fb1, ft1]) <;> first | exact ⟨rfl⟩ | (constructor; simp; done)
      all_goals (first | omega | rfl | (simp; done))
    · rintro _ _ _ ⟨k, v, Z, rfl, ⟨rfl⟩, ⟨rfl⟩, h1, h2, h3⟩
      simp only [go_sem]
      refine AWp.rs fun K9 hK9 => ?_
      try simp only [go_sem, icast, entD, entA, byteRows_two, byteRows_app, fb1, ft1]
      (repeat (with_reducible refine And.intro ?_ ?_; (first | omega | (intro _; omega) | decide | (exact nfB) | (intro hg; refine ⟨hg, ?_⟩; omega) | (simp; done) | (simp; omega) | (intro hg; simp only [decide_eq_true_eq, decide_eq_false_iff_not, Bool.not_eq_true', Bool.not_eq_false', Bool.and_eq_true, Bool.or_eq_true, Bool.and_eq_false_iff, Bool.or_eq_false_iff, Int.not_lt, Int.not_le, beq_iff_eq, beq_eq_false_iff_ne, ne_eq, Bool.not_eq_true, Bool.not_eq_false] at hg ⊢; first | omega | exact hg | grind))))
      refine hK9 _ _ ?_
      try clear hK9 K9
      refine AWp.seq fun K10 hK10 => ?_
      refine AWp.cond _ rfl (fun hc1 => ?_) (fun hc1 => ?_)
      · skip
        try simp only [decide_eq_true_eq, decide_eq_false_iff_not, Bool.not_eq_true', Bool.not_eq_false', Bool.and_eq_true, Bool.or_eq_true, Bool.and_eq_false_iff, Bool.or_eq_false_iff, Int.not_lt, Int.not_le, beq_iff_eq, beq_eq_false_iff_ne, ne_eq, Bool.not_eq_true, Bool.not_eq_false] at hc1
        have hlt : k < l.length := by omega
        have hE := hen _ (List.getElem_mem hlt)
        obtain ⟨s1, s2, s3, s4, s5, s6, s7, s8, s9⟩ := ent_small hE
        have hel := enS_len hE
        refine AWp.skip ?_
        refine thenQ_n ?_
        refine hK10 _ _ ?_
        try clear hK10 K10
        refine AWp.seq fun K11 hK11 => ?_
        refine AWp.block ?_
        refine AWp.rs fun K12 hK12 => ?_
        try simp only [go_sem, icast, entD, entA, byteRows_two, byteRows_app, fb1, ft1, entsD_get l k _ hlt]
        (repeat (with_reducible refine And.intro ?_ ?_; (first | omega | (intro _; omega) | decide | (exact nfB) | (intro hg; refine ⟨hg, ?_⟩; omega) | (simp; done) | (simp; omega) | (intro hg; simp only [decide_eq_true_eq, decide_eq_false_iff_not, Bool.not_eq_true', Bool.not_eq_false', Bool.and_eq_true, Bool.or_eq_true, Bool.and_eq_false_iff, Bool.or_eq_false_iff, Int.not_lt, Int.not_le, beq_iff_eq, beq_eq_false_iff_ne, ne_eq, Bool.not_eq_true, Bool.not_eq_false] at hg ⊢; first | omega | exact hg | grind))))
        intro b7
        first | intro fb7 | have fb7 := True.intro
        try simp only [freshL] at fb7
        try simp only [go_sem, icast, entD, entA, byteRows_two, byteRows_app, fb1, ft1, entsD_get l k _ hlt, fb7]
        (repeat (with_reducible refine And.intro ?_ ?_; (first | omega | (intro _; omega) | decide | (exact nfB) | (intro hg; refine ⟨hg, ?_⟩; omega) | (simp; done) | (simp; omega) | (intro hg; simp only [decide_eq_true_eq, decide_eq_false_iff_not, Bool.not_eq_true', Bool.not_eq_false', Bool.and_eq_true, Bool.or_eq_true, Bool.and_eq_false_iff, Bool.or_eq_false_iff, Int.not_lt, Int.not_le, beq_iff_eq, beq_eq_false_iff_ne, ne_eq, Bool.not_eq_true, Bool.not_eq_false] at hg ⊢; first | omega | exact hg | grind))))
        refine hK12 _ _ ?_
        try clear hK12 K12
        refine AWp.rs fun K13 hK13 => ?_
        try simp only [go_sem, icast, entD, entA, byteRows_two, byteRows_app, fb1, ft1, entsD_get l k _ hlt, fb7]
        (repeat (with_reducible refine And.intro ?_ ?_; (first | omega | (intro _; omega) | decide | (exact nfB) | (intro hg; refine ⟨hg, ?_⟩; omega) | (simp; done) | (simp; omega) | (intro hg; simp only [decide_eq_true_eq, decide_eq_false_iff_not, Bool.not_eq_true', Bool.not_eq_false', Bool.and_eq_true, Bool.or_eq_true, Bool.and_eq_false_iff, Bool.or_eq_false_iff, Int.not_lt, Int.not_le, beq_iff_eq, beq_eq_false_iff_ne, ne_eq, Bool.not_eq_true, Bool.not_eq_false] at hg ⊢; first | omega | exact hg | grind))))
        refine DW.app rfl rfl rfl rfl (show slI Tryd.prog 60 = some (5, 1, 1) by simp only [go_sem]) rfl rfl (by simp only [go_sem, icast, entD, entA, byteRows_two, byteRows_app, fb1, ft1, entsD_get l k _ hlt, fb7]) (by first | exact .inl rfl | exact .inr rfl) (by (try simp only [go_sem, List.length_append, List.length_cons, List.length_nil, wideR_len, txS_len]); omega) (by (try simp only [go_sem, List.length_append, List.length_cons, List.length_nil, wideR_len, txS_len]); omega) fun t2 ft2 => ?_
        try simp only [freshT] at ft2
        try simp only [go_sem, icast, entD, entA, byteRows_two, byteRows_app, fb1, ft1, entsD_get l k _ hlt, fb7, ft2]
        (repeat (with_reducible refine And.intro ?_ ?_; (first | omega | (intro _; omega) | decide | (exact nfB) | (intro hg; refine ⟨hg, ?_⟩; omega) | (simp; done) | (simp; omega) | (intro hg; simp only [decide_eq_true_eq, decide_eq_false_iff_not, Bool.not_eq_true', Bool.not_eq_false', Bool.and_eq_true, Bool.or_eq_true, Bool.and_eq_false_iff, Bool.or_eq_false_iff, Int.not_lt, Int.not_le, beq_iff_eq, beq_eq_false_iff_ne, ne_eq, Bool.not_eq_true, Bool.not_eq_false] at hg ⊢; first | omega | exact hg | grind))))
        refine hK13 _ _ ?_
        try clear hK13 K13
        refine AWp.mask [true, true, true, true, true] rfl ?_
        simp only [go_sem]
        refine AWp.rs fun K14 hK14 => ?_
        try simp only [go_sem, icast, entD, entA, byteRows_two, byteRows_app, fb1, ft1, entsD_get l k _ hlt, fb7, ft2]
        (repeat (with_reducible refine And.intro ?_ ?_; (first | omega | (intro _; omega) | decide | (exact nfB) | (intro hg; refine ⟨hg, ?_⟩; omega) | (simp; done) | (simp; omega) | (intro hg; simp only [decide_eq_true_eq, decide_eq_false_iff_not, Bool.not_eq_true', Bool.not_eq_false', Bool.and_eq_true, Bool.or_eq_true, Bool.and_eq_false_iff, Bool.or_eq_false_iff, Int.not_lt, Int.not_le, beq_iff_eq, beq_eq_false_iff_ne, ne_eq, Bool.not_eq_true, Bool.not_eq_false] at hg ⊢; first | omega | exact hg | grind))))
        refine DW.acp [] [t2] rfl rfl rfl rfl (by (try simp only [go_sem, icast, entD, entA, byteRows_two, byteRows_app, fb1, ft1, entsD_get l k _ hlt, fb7, ft2]); rfl) rfl (wide_c T t2 _ (l[k]'hlt).uid 3 _ _ (by omega) (by trivial) (by (try simp only [List.length_append, List.length_cons, List.length_nil, wideR_len]); omega)) ?_
        rintro _ _ ⟨W15, fW15, rfl, rfl⟩
        try simp only [freshT, freshL] at fW15
        try simp only [go_sem, icast, entD, entA, byteRows_two, byteRows_app, fb1, ft1, entsD_get l k _ hlt, fb7, ft2, fW15]
        (repeat (with_reducible refine And.intro ?_ ?_; (first | omega | (intro _; omega) | decide | (exact nfB) | (intro hg; refine ⟨hg, ?_⟩; omega) | (simp; done) | (simp; omega) | (intro hg; simp only [decide_eq_true_eq, decide_eq_false_iff_not, Bool.not_eq_true', Bool.not_eq_false', Bool.and_eq_true, Bool.or_eq_true, Bool.and_eq_false_iff, Bool.or_eq_false_iff, Int.not_lt, Int.not_le, beq_iff_eq, beq_eq_false_iff_ne, ne_eq, Bool.not_eq_true, Bool.not_eq_false] at hg ⊢; first | omega | exact hg | grind))))
        refine hK14 _ _ ?_
        try clear hK14 K14
        refine AWp.mask [true, true, true, true, true] rfl ?_
        simp only [go_sem]
        refine AWp.rs fun K16 hK16 => ?_
        try simp only [go_sem, icast, entD, entA, byteRows_two, byteRows_app, fb1, ft1, entsD_get l k _ hlt, fb7, ft2, fW15]
        (repeat (with_reducible refine And.intro ?_ ?_; (first | omega | (intro _; omega) | decide | (exact nfB) | (intro hg; refine ⟨hg, ?_⟩; omega) | (simp; done) | (simp; omega) | (intro hg; simp only [decide_eq_true_eq, decide_eq_false_iff_not, Bool.not_eq_true', Bool.not_eq_false', Bool.and_eq_true, Bool.or_eq_true, Bool.and_eq_false_iff, Bool.or_eq_false_iff, Int.not_lt, Int.not_le, beq_iff_eq, beq_eq_false_iff_ne, ne_eq, Bool.not_eq_true, Bool.not_eq_false] at hg ⊢; first | omega | exact hg | grind))))
        refine hK16 _ _ ?_
        try clear hK16 K16
        refine AWp.mask [true, false, true, true, true, false, false, false, false, false, false, true, true] rfl ?_
        simp only [go_sem]
        refine AWp.block ?_
        refine AWp.loopS [false, true, true, true, true] [true, false, false, false, false, true] (fun n lc hc => ∃ (j v : Nat) (Z2 : Tx), n = 3 - j ∧ EqS lc [(5, .own v 1 (byteRows Z2)), (50, .d (.int .i64 j))] ∧ EqS hc (⟨[(b7, ⟨6, 1, [entA (l[k]'hlt)]⟩), (b1, ⟨2, 1, [[.d (.int .i64 u), .d (.slc 6 (entsD l))]]⟩)], [v]⟩) ∧ (j ≤ 3) ∧ (Z2 ++ partS (l[k]'hlt) j = Z ++ enS (l[k]'hlt))) rfl ?_ ?_
        · refine ⟨_, 0, W15, (Z ++ [ub (l[k]'hlt).kind, ub (l[k]'hlt).flags] ++ wideR (l[k]'hlt).uid 3), rfl, ?_, ?_, ?_, ?_⟩
          · (try simp only [go_sem, icast, entD, entA, byteRows_two, byteRows_app, fb1, ft1, entsD_get l k _ hlt, fb7, ft2, fW15]) <;> first | exact ⟨rfl⟩ | (constructor; rfl)
          · (try simp only [go_sem, icast, entD, entA, byteRows_two, byteRows_app, fb1, ft1, entsD_get l k _ hlt, fb7, ft2, fW15]) <;> first | exact ⟨rfl⟩ | (constructor; simp; done)
          all_goals (first | omega | (simp [enS, headS]; done))
        · rintro _ _ _ ⟨j, v, Z2, rfl, ⟨rfl⟩, ⟨rfl⟩, g1, g2⟩
          simp only [go_sem]
          refine AWp.rs fun K17 hK17 => ?_
          try simp only [go_sem, icast, entD, entA, byteRows_two, byteRows_app, fb1, ft1, entsD_get l k _ hlt, fb7, ft2, fW15]
          (repeat (with_reducible refine And.intro ?_ ?_; (first | omega | (intro _; omega) | decide | (exact nfB) | (intro hg; refine ⟨hg, ?_⟩; omega) | (simp; done) | (simp; omega) | (intro hg; simp only [decide_eq_true_eq, decide_eq_false_iff_not, Bool.not_eq_true', Bool.not_eq_false', Bool.and_eq_true, Bool.or_eq_true, Bool.and_eq_false_iff, Bool.or_eq_false_iff, Int.not_lt, Int.not_le, beq_iff_eq, beq_eq_false_iff_ne, ne_eq, Bool.not_eq_true, Bool.not_eq_false] at hg ⊢; first | omega | exact hg | grind))))
          refine hK17 _ _ ?_
          try clear hK17 K17
          refine AWp.seq fun K18 hK18 => ?_
          refine AWp.cond _ rfl (fun hc2 => ?_) (fun hc2 => ?_)
          · skip
            try simp only [decide_eq_true_eq, decide_eq_false_iff_not, Bool.not_eq_true', Bool.not_eq_false', Bool.and_eq_true, Bool.or_eq_true, Bool.and_eq_false_iff, Bool.or_eq_false_iff, Int.not_lt, Int.not_le, beq_iff_eq, beq_eq_false_iff_ne, ne_eq, Bool.not_eq_true, Bool.not_eq_false] at hc2
            refine AWp.skip ?_
            refine thenQ_n ?_
            refine hK18 _ _ ?_
            try clear hK18 K18
            refine AWp.seq fun K19 hK19 => ?_
            refine AWp.block ?_
            have g2l := congrArg List.length g2
            simp only [List.length_append] at g2l
            have hj3 := len3 _ hc2 (by omega)
            rcases (show j = 0 ∨ j = 1 ∨ j = 2 by omega) with rfl | rfl | rfl
            · skip
              have hz3 : Z2 ++ txS (l[k]'hlt).box ++ partS (l[k]'hlt) 1 = Z ++ enS (l[k]'hlt) := by rw [← g2]; simp [partS]
              refine AWp.rs fun K20 hK20 => ?_
              try simp only [go_sem, icast, entD, entA, byteRows_two, byteRows_app, fb1, ft1, entsD_get l k _ hlt, fb7, ft2, fW15]
              (repeat (with_reducible refine And.intro ?_ ?_; (first | omega | (intro _; omega) | decide | (exact nfB) | (intro hg; refine ⟨hg, ?_⟩; omega) | (simp; done) | (simp; omega) | (intro hg; simp only [decide_eq_true_eq, decide_eq_false_iff_not, Bool.not_eq_true', Bool.not_eq_false', Bool.and_eq_true, Bool.or_eq_true, Bool.and_eq_false_iff, Bool.or_eq_false_iff, Int.not_lt, Int.not_le, beq_iff_eq, beq_eq_false_iff_ne, ne_eq, Bool.not_eq_true, Bool.not_eq_false] at hg ⊢; first | omega | exact hg | grind))))
              refine hK20 _ _ ?_
              try clear hK20 K20
              refine AWp.rk fun K21 hK21 => ?_
              try simp only [go_sem, icast, entD, entA, byteRows_two, byteRows_app, fb1, ft1, entsD_get l k _ hlt, fb7, ft2, fW15]
              (repeat (with_reducible refine And.intro ?_ ?_; (first | omega | (intro _; omega) | decide | (exact nfB) | (intro hg; refine ⟨hg, ?_⟩; omega) | (simp; done) | (simp; omega) | (intro hg; simp only [decide_eq_true_eq, decide_eq_false_iff_not, Bool.not_eq_true', Bool.not_eq_false', Bool.and_eq_true, Bool.or_eq_true, Bool.and_eq_false_iff, Bool.or_eq_false_iff, Int.not_lt, Int.not_le, beq_iff_eq, beq_eq_false_iff_ne, ne_eq, Bool.not_eq_true, Bool.not_eq_false] at hg ⊢; first | omega | exact hg | grind))))
              refine DW.acp [] [v] rfl rfl rfl rfl (by (try simp only [go_sem, icast, entD, entA, byteRows_two, byteRows_app, fb1, ft1, entsD_get l k _ hlt, fb7, ft2, fW15]); rfl) rfl (wide_c T v _ (l[k]'hlt).box.length 2 _ _ (by omega) (by trivial) (by (try simp only [List.length_append, List.length_cons, List.length_nil, wideR_len]); omega)) ?_
              rintro _ _ ⟨W22, fW22, rfl, rfl⟩
              try simp only [freshT, freshL] at fW22
              try simp only [go_sem, icast, entD, entA, byteRows_two, byteRows_app, fb1, ft1, entsD_get l k _ hlt, fb7, ft2, fW15, fW22]
              (repeat (with_reducible refine And.intro ?_ ?_; (first | omega | (intro _; omega) | decide | (exact nfB) | (intro hg; refine ⟨hg, ?_⟩; omega) | (simp; done) | (simp; omega) | (intro hg; simp only [decide_eq_true_eq, decide_eq_false_iff_not, Bool.not_eq_true', Bool.not_eq_false', Bool.and_eq_true, Bool.or_eq_true, Bool.and_eq_false_iff, Bool.or_eq_false_iff, Int.not_lt, Int.not_le, beq_iff_eq, beq_eq_false_iff_ne, ne_eq, Bool.not_eq_true, Bool.not_eq_false] at hg ⊢; first | omega | exact hg | grind))))
              refine DW.app rfl rfl rfl rfl (show slI Tryd.prog 60 = some (5, 1, 1) by simp only [go_sem]) rfl rfl (by simp only [go_sem, icast, entD, entA, byteRows_two, byteRows_app, fb1, ft1, entsD_get l k _ hlt, fb7, ft2, fW15, fW22]) (by first | exact .inl rfl | exact .inr rfl) (by (try simp only [go_sem, List.length_append, List.length_cons, List.length_nil, wideR_len, txS_len]); omega) (by (try simp only [go_sem, List.length_append, List.length_cons, List.length_nil, wideR_len, txS_len]); omega) fun t3 ft3 => ?_
              try simp only [freshT] at ft3
              try simp only [go_sem, icast, entD, entA, byteRows_two, byteRows_app, fb1, ft1, entsD_get l k _ hlt, fb7, ft2, fW15, fW22, ft3]
              (repeat (with_reducible refine And.intro ?_ ?_; (first | omega | (intro _; omega) | decide | (exact nfB) | (intro hg; refine ⟨hg, ?_⟩; omega) | (simp; done) | (simp; omega) | (intro hg; simp only [decide_eq_true_eq, decide_eq_false_iff_not, Bool.not_eq_true', Bool.not_eq_false', Bool.and_eq_true, Bool.or_eq_true, Bool.and_eq_false_iff, Bool.or_eq_false_iff, Int.not_lt, Int.not_le, beq_iff_eq, beq_eq_false_iff_ne, ne_eq, Bool.not_eq_true, Bool.not_eq_false] at hg ⊢; first | omega | exact hg | grind))))
              refine hK21 _ _ ?_
              try clear hK21 K21
              refine blkQ_n (thenQ_n ?_)
              refine hK19 _ _ ?_
              try clear hK19 K19
              refine AWp.mask [true, false, true, true, true, true, true] rfl ?_
              simp only [go_sem]
              refine AWp.rk fun K23 hK23 => ?_
              try simp only [go_sem, icast, entD, entA, byteRows_two, byteRows_app, fb1, ft1, entsD_get l k _ hlt, fb7, ft2, fW15, fW22, ft3]
              (repeat (with_reducible refine And.intro ?_ ?_; (first | omega | (intro _; omega) | decide | (exact nfB) | (intro hg; refine ⟨hg, ?_⟩; omega) | (simp; done) | (simp; omega) | (intro hg; simp only [decide_eq_true_eq, decide_eq_false_iff_not, Bool.not_eq_true', Bool.not_eq_false', Bool.and_eq_true, Bool.or_eq_true, Bool.and_eq_false_iff, Bool.or_eq_false_iff, Int.not_lt, Int.not_le, beq_iff_eq, beq_eq_false_iff_ne, ne_eq, Bool.not_eq_true, Bool.not_eq_false] at hg ⊢; first | omega | exact hg | grind))))
              refine hK23 _ _ ?_
              try clear hK23 K23
              refine thenQ_n ?_
              refine EndS.mk [false, true, true, true, true] [true, false, false, false, false, true] [] [] [b7, b1] [t3] rfl ?_ ?_
              · (try simp only [go_sem, icast, entD, entA, byteRows_two, byteRows_app, fb1, ft1, entsD_get l k _ hlt, fb7, ft2, fW15, fW22, ft3]) <;> try rfl
              refine .e ⟨_, ?_, 1, t3, (Z2 ++ txS (l[k]'hlt).box), rfl, ?_, ?_, ?_, ?_⟩
              · first | omega | (simp; omega) | (grind)
              · (try simp only [go_sem, icast, entD, entA, byteRows_two, byteRows_app, fb1, ft1, entsD_get l k _ hlt, fb7, ft2, fW15, fW22, ft3]) <;> first | exact ⟨rfl⟩ | (constructor; first | rfl | (simp [txS]; done))
              · (try simp only [go_sem, icast, entD, entA, byteRows_two, byteRows_app, fb1, ft1, entsD_get l k _ hlt, fb7, ft2, fW15, fW22, ft3]) <;> first | exact ⟨rfl⟩ | (constructor; simp; done)
              all_goals first | omega | exact hz3
            · skip
              have hz3 : Z2 ++ txS (l[k]'hlt).dest ++ partS (l[k]'hlt) 2 = Z ++ enS (l[k]'hlt) := by rw [← g2]; simp [partS]
              refine AWp.rs fun K20 hK20 => ?_
              try simp only [go_sem, icast, entD, entA, byteRows_two, byteRows_app, fb1, ft1, entsD_get l k _ hlt, fb7, ft2, fW15]
              (repeat (with_reducible refine And.intro ?_ ?_; (first | omega | (intro _; omega) | decide | (exact nfB) | (intro hg; refine ⟨hg, ?_⟩; omega) | (simp; done) | (simp; omega) | (intro hg; simp only [decide_eq_true_eq, decide_eq_false_iff_not, Bool.not_eq_true', Bool.not_eq_false', Bool.and_eq_true, Bool.or_eq_true, Bool.and_eq_false_iff, Bool.or_eq_false_iff, Int.not_lt, Int.not_le, beq_iff_eq, beq_eq_false_iff_ne, ne_eq, Bool.not_eq_true, Bool.not_eq_false] at hg ⊢; first | omega | exact hg | grind))))
              refine hK20 _ _ ?_
              try clear hK20 K20
              refine AWp.rk fun K24 hK24 => ?_
              try simp only [go_sem, icast, entD, entA, byteRows_two, byteRows_app, fb1, ft1, entsD_get l k _ hlt, fb7, ft2, fW15]
              (repeat (with_reducible refine And.intro ?_ ?_; (first | omega | (intro _; omega) | decide | (exact nfB) | (intro hg; refine ⟨hg, ?_⟩; omega) | (simp; done) | (simp; omega) | (intro hg; simp only [decide_eq_true_eq, decide_eq_false_iff_not, Bool.not_eq_true', Bool.not_eq_false', Bool.and_eq_true, Bool.or_eq_true, Bool.and_eq_false_iff, Bool.or_eq_false_iff, Int.not_lt, Int.not_le, beq_iff_eq, beq_eq_false_iff_ne, ne_eq, Bool.not_eq_true, Bool.not_eq_false] at hg ⊢; first | omega | exact hg | grind))))
              refine DW.acp [] [v] rfl rfl rfl rfl (by (try simp only [go_sem, icast, entD, entA, byteRows_two, byteRows_app, fb1, ft1, entsD_get l k _ hlt, fb7, ft2, fW15]); rfl) rfl (wide_c T v _ (l[k]'hlt).dest.length 2 _ _ (by omega) (by trivial) (by (try simp only [List.length_append, List.length_cons, List.length_nil, wideR_len]); omega)) ?_
              rintro _ _ ⟨W25, fW25, rfl, rfl⟩
              try simp only [freshT, freshL] at fW25
              try simp only [go_sem, icast, entD, entA, byteRows_two, byteRows_app, fb1, ft1, entsD_get l k _ hlt, fb7, ft2, fW15, fW25]
              (repeat (with_reducible refine And.intro ?_ ?_; (first | omega | (intro _; omega) | decide | (exact nfB) | (intro hg; refine ⟨hg, ?_⟩; omega) | (simp; done) | (simp; omega) | (intro hg; simp only [decide_eq_true_eq, decide_eq_false_iff_not, Bool.not_eq_true', Bool.not_eq_false', Bool.and_eq_true, Bool.or_eq_true, Bool.and_eq_false_iff, Bool.or_eq_false_iff, Int.not_lt, Int.not_le, beq_iff_eq, beq_eq_false_iff_ne, ne_eq, Bool.not_eq_true, Bool.not_eq_false] at hg ⊢; first | omega | exact hg | grind))))
              refine DW.app rfl rfl rfl rfl (show slI Tryd.prog 60 = some (5, 1, 1) by simp only [go_sem]) rfl rfl (by simp only [go_sem, icast, entD, entA, byteRows_two, byteRows_app, fb1, ft1, entsD_get l k _ hlt, fb7, ft2, fW15, fW25]) (by first | exact .inl rfl | exact .inr rfl) (by (try simp only [go_sem, List.length_append, List.length_cons, List.length_nil, wideR_len, txS_len]); omega) (by (try simp only [go_sem, List.length_append, List.length_cons, List.length_nil, wideR_len, txS_len]); omega) fun t4 ft4 => ?_
              try simp only [freshT] at ft4
              try simp only [go_sem, icast, entD, entA, byteRows_two, byteRows_app, fb1, ft1, entsD_get l k _ hlt, fb7, ft2, fW15, fW25, ft4]
              (repeat (with_reducible refine And.intro ?_ ?_; (first | omega | (intro _; omega) | decide | (exact nfB) | (intro hg; refine ⟨hg, ?_⟩; omega) | (simp; done) | (simp; omega) | (intro hg; simp only [decide_eq_true_eq, decide_eq_false_iff_not, Bool.not_eq_true', Bool.not_eq_false', Bool.and_eq_true, Bool.or_eq_true, Bool.and_eq_false_iff, Bool.or_eq_false_iff, Int.not_lt, Int.not_le, beq_iff_eq, beq_eq_false_iff_ne, ne_eq, Bool.not_eq_true, Bool.not_eq_false] at hg ⊢; first | omega | exact hg | grind))))
              refine hK24 _ _ ?_
              try clear hK24 K24
              refine blkQ_n (thenQ_n ?_)
              refine hK19 _ _ ?_
              try clear hK19 K19
              refine AWp.mask [true, false, true, true, true, true, true] rfl ?_
              simp only [go_sem]
              refine AWp.rk fun K26 hK26 => ?_
              try simp only [go_sem, icast, entD, entA, byteRows_two, byteRows_app, fb1, ft1, entsD_get l k _ hlt, fb7, ft2, fW15, fW25, ft4]
              (repeat (with_reducible refine And.intro ?_ ?_; (first | omega | (intro _; omega) | decide | (exact nfB) | (intro hg; refine ⟨hg, ?_⟩; omega) | (simp; done) | (simp; omega) | (intro hg; simp only [decide_eq_true_eq, decide_eq_false_iff_not, Bool.not_eq_true', Bool.not_eq_false', Bool.and_eq_true, Bool.or_eq_true, Bool.and_eq_false_iff, Bool.or_eq_false_iff, Int.not_lt, Int.not_le, beq_iff_eq, beq_eq_false_iff_ne, ne_eq, Bool.not_eq_true, Bool.not_eq_false] at hg ⊢; first | omega | exact hg | grind))))
              refine hK26 _ _ ?_
              try clear hK26 K26
              refine thenQ_n ?_
              refine EndS.mk [false, true, true, true, true] [true, false, false, false, false, true] [] [] [b7, b1] [t4] rfl ?_ ?_
              · (try simp only [go_sem, icast, entD, entA, byteRows_two, byteRows_app, fb1, ft1, entsD_get l k _ hlt, fb7, ft2, fW15, fW25, ft4]) <;> try rfl
              refine .e ⟨_, ?_, 2, t4, (Z2 ++ txS (l[k]'hlt).dest), rfl, ?_, ?_, ?_, ?_⟩
              · first | omega | (simp; omega) | (grind)
              · (try simp only [go_sem, icast, entD, entA, byteRows_two, byteRows_app, fb1, ft1, entsD_get l k _ hlt, fb7, ft2, fW15, fW25, ft4]) <;> first | exact ⟨rfl⟩ | (constructor; first | rfl | (simp [txS]; done))
              · (try simp only [go_sem, icast, entD, entA, byteRows_two, byteRows_app, fb1, ft1, entsD_get l k _ hlt, fb7, ft2, fW15, fW25, ft4]) <;> first | exact ⟨rfl⟩ | (constructor; simp; done)
              all_goals first | omega | exact hz3
            · skip
              have hz3 : Z2 ++ txS (l[k]'hlt).text ++ partS (l[k]'hlt) 3 = Z ++ enS (l[k]'hlt) := by rw [← g2]; simp [partS]
              refine AWp.rs fun K20 hK20 => ?_
              try simp only [go_sem, icast, entD, entA, byteRows_two, byteRows_app, fb1, ft1, entsD_get l k _ hlt, fb7, ft2, fW15]
              (repeat (with_reducible refine And.intro ?_ ?_; (first | omega | (intro _; omega) | decide | (exact nfB) | (intro hg; refine ⟨hg, ?_⟩; omega) | (simp; done) | (simp; omega) | (intro hg; simp only [decide_eq_true_eq, decide_eq_false_iff_not, Bool.not_eq_true', Bool.not_eq_false', Bool.and_eq_true, Bool.or_eq_true, Bool.and_eq_false_iff, Bool.or_eq_false_iff, Int.not_lt, Int.not_le, beq_iff_eq, beq_eq_false_iff_ne, ne_eq, Bool.not_eq_true, Bool.not_eq_false] at hg ⊢; first | omega | exact hg | grind))))
              refine hK20 _ _ ?_
              try clear hK20 K20
              refine AWp.rk fun K27 hK27 => ?_
              try simp only [go_sem, icast, entD, entA, byteRows_two, byteRows_app, fb1, ft1, entsD_get l k _ hlt, fb7, ft2, fW15]
              (repeat (with_reducible refine And.intro ?_ ?_; (first | omega | (intro _; omega) | decide | (exact nfB) | (intro hg; refine ⟨hg, ?_⟩; omega) | (simp; done) | (simp; omega) | (intro hg; simp only [decide_eq_true_eq, decide_eq_false_iff_not, Bool.not_eq_true', Bool.not_eq_false', Bool.and_eq_true, Bool.or_eq_true, Bool.and_eq_false_iff, Bool.or_eq_false_iff, Int.not_lt, Int.not_le, beq_iff_eq, beq_eq_false_iff_ne, ne_eq, Bool.not_eq_true, Bool.not_eq_false] at hg ⊢; first | omega | exact hg | grind))))
              refine DW.acp [] [v] rfl rfl rfl rfl (by (try simp only [go_sem, icast, entD, entA, byteRows_two, byteRows_app, fb1, ft1, entsD_get l k _ hlt, fb7, ft2, fW15]); rfl) rfl (wide_c T v _ (l[k]'hlt).text.length 2 _ _ (by omega) (by trivial) (by (try simp only [List.length_append, List.length_cons, List.length_nil, wideR_len]); omega)) ?_
              rintro _ _ ⟨W28, fW28, rfl, rfl⟩
              try simp only [freshT, freshL] at fW28
              try simp only [go_sem, icast, entD, entA, byteRows_two, byteRows_app, fb1, ft1, entsD_get l k _ hlt, fb7, ft2, fW15, fW28]
              (repeat (with_reducible refine And.intro ?_ ?_; (first | omega | (intro _; omega) | decide | (exact nfB) | (intro hg; refine ⟨hg, ?_⟩; omega) | (simp; done) | (simp; omega) | (intro hg; simp only [decide_eq_true_eq, decide_eq_false_iff_not, Bool.not_eq_true', Bool.not_eq_false', Bool.and_eq_true, Bool.or_eq_true, Bool.and_eq_false_iff, Bool.or_eq_false_iff, Int.not_lt, Int.not_le, beq_iff_eq, beq_eq_false_iff_ne, ne_eq, Bool.not_eq_true, Bool.not_eq_false] at hg ⊢; first | omega | exact hg | grind))))
              refine DW.app rfl rfl rfl rfl (show slI Tryd.prog 60 = some (5, 1, 1) by simp only [go_sem]) rfl rfl (by simp only [go_sem, icast, entD, entA, byteRows_two, byteRows_app, fb1, ft1, entsD_get l k _ hlt, fb7, ft2, fW15, fW28]) (by first | exact .inl rfl | exact .inr rfl) (by (try simp only [go_sem, List.length_append, List.length_cons, List.length_nil, wideR_len, txS_len]); omega) (by (try simp only [go_sem, List.length_append, List.length_cons, List.length_nil, wideR_len, txS_len]); omega) fun t5 ft5 => ?_
              try simp only [freshT] at ft5
              try simp only [go_sem, icast, entD, entA, byteRows_two, byteRows_app, fb1, ft1, entsD_get l k _ hlt, fb7, ft2, fW15, fW28, ft5]
              (repeat (with_reducible refine And.intro ?_ ?_; (first | omega | (intro _; omega) | decide | (exact nfB) | (intro hg; refine ⟨hg, ?_⟩; omega) | (simp; done) | (simp; omega) | (intro hg; simp only [decide_eq_true_eq, decide_eq_false_iff_not, Bool.not_eq_true', Bool.not_eq_false', Bool.and_eq_true, Bool.or_eq_true, Bool.and_eq_false_iff, Bool.or_eq_false_iff, Int.not_lt, Int.not_le, beq_iff_eq, beq_eq_false_iff_ne, ne_eq, Bool.not_eq_true, Bool.not_eq_false] at hg ⊢; first | omega | exact hg | grind))))
              refine hK27 _ _ ?_
              try clear hK27 K27
              refine blkQ_n (thenQ_n ?_)
              refine hK19 _ _ ?_
              try clear hK19 K19
              refine AWp.mask [true, false, true, true, true, true, true] rfl ?_
              simp only [go_sem]
              refine AWp.rk fun K29 hK29 => ?_
              try simp only [go_sem, icast, entD, entA, byteRows_two, byteRows_app, fb1, ft1, entsD_get l k _ hlt, fb7, ft2, fW15, fW28, ft5]
              (repeat (with_reducible refine And.intro ?_ ?_; (first | omega | (intro _; omega) | decide | (exact nfB) | (intro hg; refine ⟨hg, ?_⟩; omega) | (simp; done) | (simp; omega) | (intro hg; simp only [decide_eq_true_eq, decide_eq_false_iff_not, Bool.not_eq_true', Bool.not_eq_false', Bool.and_eq_true, Bool.or_eq_true, Bool.and_eq_false_iff, Bool.or_eq_false_iff, Int.not_lt, Int.not_le, beq_iff_eq, beq_eq_false_iff_ne, ne_eq, Bool.not_eq_true, Bool.not_eq_false] at hg ⊢; first | omega | exact hg | grind))))
              refine hK29 _ _ ?_
              try clear hK29 K29
              refine thenQ_n ?_
              refine EndS.mk [false, true, true, true, true] [true, false, false, false, false, true] [] [] [b7, b1] [t5] rfl ?_ ?_
              · (try simp only [go_sem, icast, entD, entA, byteRows_two, byteRows_app, fb1, ft1, entsD_get l k _ hlt, fb7, ft2, fW15, fW28, ft5]) <;> try rfl
              refine .e ⟨_, ?_, 3, t5, (Z2 ++ txS (l[k]'hlt).text), rfl, ?_, ?_, ?_, ?_⟩
              · first | omega | (simp; omega) | (grind)
              · (try simp only [go_sem, icast, entD, entA, byteRows_two, byteRows_app, fb1, ft1, entsD_get l k _ hlt, fb7, ft2, fW15, fW28, ft5]) <;> first | exact ⟨rfl⟩ | (constructor; first | rfl | (simp [txS]; done))
              · (try simp only [go_sem, icast, entD, entA, byteRows_two, byteRows_app, fb1, ft1, entsD_get l k _ hlt, fb7, ft2, fW15, fW28, ft5]) <;> first | exact ⟨rfl⟩ | (constructor; simp; done)
              all_goals first | omega | exact hz3
          · skip
            try simp only [decide_eq_true_eq, decide_eq_false_iff_not, Bool.not_eq_true', Bool.not_eq_false', Bool.and_eq_true, Bool.or_eq_true, Bool.and_eq_false_iff, Bool.or_eq_false_iff, Int.not_lt, Int.not_le, beq_iff_eq, beq_eq_false_iff_ne, ne_eq, Bool.not_eq_true, Bool.not_eq_false] at hc2
            have hj : j = 3 := by omega
            have g4 : Z2 ++ partS (l[k]'hlt) 3 = Z ++ enS (l[k]'hlt) := by rw [← hj]; exact g2
            refine AWp.exit ?_
            refine thenQ_e (thenQ_e (blkQ_e (blkQ_n (thenQ_n ?_))))
            refine hK11 _ _ ?_
            try clear hK11 K11
            refine AWp.rk fun K30 hK30 => ?_
            try simp only [go_sem, icast, entD, entA, byteRows_two, byteRows_app, fb1, ft1, entsD_get l k _ hlt, fb7, ft2, fW15]
            (repeat (with_reducible refine And.intro ?_ ?_; (first | omega | (intro _; omega) | decide | (exact nfB) | (intro hg; refine ⟨hg, ?_⟩; omega) | (simp; done) | (simp; omega) | (intro hg; simp only [decide_eq_true_eq, decide_eq_false_iff_not, Bool.not_eq_true', Bool.not_eq_false', Bool.and_eq_true, Bool.or_eq_true, Bool.and_eq_false_iff, Bool.or_eq_false_iff, Int.not_lt, Int.not_le, beq_iff_eq, beq_eq_false_iff_ne, ne_eq, Bool.not_eq_true, Bool.not_eq_false] at hg ⊢; first | omega | exact hg | grind))))
            refine hK30 _ _ ?_
            try clear hK30 K30
            refine thenQ_n ?_
            refine EndS.mk [false, true, true] [true, false, false, true] [b7] [] [b1] [v] rfl ?_ ?_
            · (try simp only [go_sem, icast, entD, entA, byteRows_two, byteRows_app, fb1, ft1, entsD_get l k _ hlt, fb7, ft2, fW15]) <;> try rfl
            refine .e ⟨_, ?_, k + 1, v, Z2, rfl, ?_, ?_, ?_, ?_, ?_⟩
            · first | omega | (simp; omega) | (grind)
            · (try simp only [go_sem, icast, entD, entA, byteRows_two, byteRows_app, fb1, ft1, entsD_get l k _ hlt, fb7, ft2, fW15]) <;> first | exact ⟨rfl⟩ | (constructor; simp; done)
            · (try simp only [go_sem, icast, entD, entA, byteRows_two, byteRows_app, fb1, ft1, entsD_get l k _ hlt, fb7, ft2, fW15]) <;> first | exact ⟨rfl⟩ | (constructor; simp; done)
            all_goals first | omega | (rw [← h2, ensS_drop hlt, ← List.append_assoc, ← g4]; simp [partS]; done) | (simp [partS] at g4; rw [g4]; simp; omega)
      · skip
        try simp only [decide_eq_true_eq, decide_eq_false_iff_not, Bool.not_eq_true', Bool.not_eq_false', Bool.and_eq_true, Bool.or_eq_true, Bool.and_eq_false_iff, Bool.or_eq_false_iff, Int.not_lt, Int.not_le, beq_iff_eq, beq_eq_false_iff_ne, ne_eq, Bool.not_eq_true, Bool.not_eq_false] at hc1
        refine AWp.exit ?_
        refine thenQ_e (thenQ_e (blkQ_e (thenQ_n ?_)))
        refine hK7 _ _ ?_
        try clear hK7 K7
        refine AWp.mask [true] rfl ?_
        simp only [go_sem]
        refine AWp.rs fun K31 hK31 => ?_
        try simp only [go_sem, icast, entD, entA, byteRows_two, byteRows_app, fb1, ft1]
        (repeat (with_reducible refine And.intro ?_ ?_; (first | omega | (intro _; omega) | decide | (exact nfB) | (intro hg; refine ⟨hg, ?_⟩; omega) | (simp; done) | (simp; omega) | (intro hg; simp only [decide_eq_true_eq, decide_eq_false_iff_not, Bool.not_eq_true', Bool.not_eq_false', Bool.and_eq_true, Bool.or_eq_true, Bool.and_eq_false_iff, Bool.or_eq_false_iff, Int.not_lt, Int.not_le, beq_iff_eq, beq_eq_false_iff_ne, ne_eq, Bool.not_eq_true, Bool.not_eq_false] at hg ⊢; first | omega | exact hg | grind))))
        refine hK31 _ _ ?_
        try clear hK31 K31
        refine AWp.ret ?_
        try simp only [go_sem, icast, entD, entA, byteRows_two, byteRows_app, fb1, ft1]
        have hk : Z = batS u l := by rw [← h2, ensS_end (by omega), List.append_nil]
        rw [encV, encT, if_pos hc0, hk]; simp [LeA, LeL, LeD]; omega
end Go.Proofs.YtddiolgeaefieaaDoor

namespace Go.Proofs.YtddiolgeaefieaaDoor
set_option linter.unusedSimpArgs false
set_option linter.unusedVariables false
set_option maxRecDepth 4000 in
set_option maxHeartbeats 1000000 in
theorem joinedO_c (T : Tbl) (u : Nat) (x y : Tx) (F : List (Nat × Ob)) (L : List Nat) (hu : freshT u L) (hl : x.length + y.length ≤ 1000000) : AC Tryd.prog T 74 [.own u 1 (byteRows x), .d (.slc 1 (byteRows (y)))] (⟨F, u :: L⟩) (fun r h => ∃ v, freshT v L ∧ r = .ret (.own v 1 (byteRows (x ++ y))) ∧ h = ⟨F, v :: L⟩) := by
  refine ⟨Tryd.call74, ACalls.enterS Tryd.func74 rfl Tryd.ntmps74 rfl fun hb => ?_⟩
  simp only [go_sem, Tryd.results74]
  refine AWp.rs fun K1 hK1 => ?_
  try simp only [go_sem, icast, byteRows_one, byteRows_app]
  (repeat (with_reducible refine And.intro ?_ ?_; (first | omega | (intro _; omega) | decide | (exact nfB) | (intro hg; refine ⟨hg, ?_⟩; omega) | (simp; done) | (simp; omega) | (intro hg; simp only [decide_eq_true_eq, decide_eq_false_iff_not, Bool.not_eq_true', Bool.not_eq_false', Bool.and_eq_true, Bool.or_eq_true, Bool.and_eq_false_iff, Bool.or_eq_false_iff, Int.not_lt, Int.not_le, beq_iff_eq, beq_eq_false_iff_ne, ne_eq, Bool.not_eq_true, Bool.not_eq_false] at hg ⊢; first | omega | exact hg | grind))))
  refine hK1 _ _ ?_
  try clear hK1 K1
  refine AWp.rs fun K2 hK2 => ?_
  try simp only [go_sem, icast, byteRows_one, byteRows_app]
  (repeat (with_reducible refine And.intro ?_ ?_; (first | omega | (intro _; omega) | decide | (exact nfB) | (intro hg; refine ⟨hg, ?_⟩; omega) | (simp; done) | (simp; omega) | (intro hg; simp only [decide_eq_true_eq, decide_eq_false_iff_not, Bool.not_eq_true', Bool.not_eq_false', Bool.and_eq_true, Bool.or_eq_true, Bool.and_eq_false_iff, Bool.or_eq_false_iff, Int.not_lt, Int.not_le, beq_iff_eq, beq_eq_false_iff_ne, ne_eq, Bool.not_eq_true, Bool.not_eq_false] at hg ⊢; first | omega | exact hg | grind))))
  refine hK2 _ _ ?_
  try clear hK2 K2
  refine AWp.ownNilS 5 1 rfl rfl (by decide) fun t0 ft0 => ?_
  try simp only [freshT] at ft0
  simp only [go_sem, icast, byteRows_one, byteRows_app, ft0]
  refine AWp.seq fun K3 hK3 => ?_
  refine AWp.rs fun K4 hK4 => ?_
  try simp only [go_sem, icast, byteRows_one, byteRows_app, ft0]
  (repeat (with_reducible refine And.intro ?_ ?_; (first | omega | (intro _; omega) | decide | (exact nfB) | (intro hg; refine ⟨hg, ?_⟩; omega) | (simp; done) | (simp; omega) | (intro hg; simp only [decide_eq_true_eq, decide_eq_false_iff_not, Bool.not_eq_true', Bool.not_eq_false', Bool.and_eq_true, Bool.or_eq_true, Bool.and_eq_false_iff, Bool.or_eq_false_iff, Int.not_lt, Int.not_le, beq_iff_eq, beq_eq_false_iff_ne, ne_eq, Bool.not_eq_true, Bool.not_eq_false] at hg ⊢; first | omega | exact hg | grind))))
  refine hK4 _ _ ?_
  try clear hK4 K4
  refine AWp.block ?_
  refine AWp.mask [true, true, false, true, true] rfl ?_
  simp only [go_sem]
  refine AWp.loopS [true, true] [false, false, true, true] (fun n lc hc => ∃ (k v : Nat), n = x.length - k ∧ EqS lc [(5, .own v 1 (byteRows (x.take k))), (6, .d (.int .i64 k))] ∧ EqS hc (⟨F, v :: u :: L⟩) ∧ (k ≤ x.length) ∧ (freshT v (u :: L))) rfl ?_ ?_
  · refine ⟨_, 0, t0, rfl, ?_, ?_, ?_, ?_⟩
    · (try simp only [go_sem, icast, byteRows_one, byteRows_app, ft0]) <;> first | exact ⟨rfl⟩ | (constructor; simp [byteRows]; done)
    · (try simp only [go_sem, icast, byteRows_one, byteRows_app, ft0]) <;> first | exact ⟨rfl⟩ | (constructor; simp; done)
    all_goals (first | omega | assumption | (simp only [go_sem, freshT] at *; done) | (simp_all [freshT]; done))
  · rintro _ _ _ ⟨k, v, rfl, ⟨rfl⟩, ⟨rfl⟩, h1, h2⟩
    simp only [go_sem]
    refine AWp.seq fun K5 hK5 => ?_
    refine AWp.rs fun K6 hK6 => ?_
    try simp only [go_sem, icast, byteRows_one, byteRows_app, ft0]
    (repeat (with_reducible refine And.intro ?_ ?_; (first | omega | (intro _; omega) | decide | (exact nfB) | (intro hg; refine ⟨hg, ?_⟩; omega) | (simp; done) | (simp; omega) | (intro hg; simp only [decide_eq_true_eq, decide_eq_false_iff_not, Bool.not_eq_true', Bool.not_eq_false', Bool.and_eq_true, Bool.or_eq_true, Bool.and_eq_false_iff, Bool.or_eq_false_iff, Int.not_lt, Int.not_le, beq_iff_eq, beq_eq_false_iff_ne, ne_eq, Bool.not_eq_true, Bool.not_eq_false] at hg ⊢; first | omega | exact hg | grind))))
    refine hK6 _ _ ?_
    try clear hK6 K6
    refine AWp.cond _ rfl (fun hc0 => ?_) (fun hc0 => ?_)
    · skip
      try simp only [decide_eq_true_eq, decide_eq_false_iff_not, Bool.not_eq_true', Bool.not_eq_false', Bool.and_eq_true, Bool.or_eq_true, Bool.and_eq_false_iff, Bool.or_eq_false_iff, Int.not_lt, Int.not_le, beq_iff_eq, beq_eq_false_iff_ne, ne_eq, Bool.not_eq_true, Bool.not_eq_false] at hc0
      have hlt : k < x.length := by omega
      have htk : (x.take k).length ≤ 1000000 := by simp; omega
      refine AWp.skip ?_
      refine thenQ_n ?_
      refine hK5 _ _ ?_
      try clear hK5 K5
      refine AWp.mask [true, true, true, true] rfl ?_
      simp only [go_sem]
      refine AWp.seq fun K7 hK7 => ?_
      refine AWp.block ?_
      refine AWp.rk fun K8 hK8 => ?_
      try simp only [go_sem, icast, byteRows_one, byteRows_app, ft0, byteRows_getD x k _ hlt]
      (repeat (with_reducible refine And.intro ?_ ?_; (first | omega | (intro _; omega) | decide | (exact nfB) | (intro hg; refine ⟨hg, ?_⟩; omega) | (simp; done) | (simp; omega) | (intro hg; simp only [decide_eq_true_eq, decide_eq_false_iff_not, Bool.not_eq_true', Bool.not_eq_false', Bool.and_eq_true, Bool.or_eq_true, Bool.and_eq_false_iff, Bool.or_eq_false_iff, Int.not_lt, Int.not_le, beq_iff_eq, beq_eq_false_iff_ne, ne_eq, Bool.not_eq_true, Bool.not_eq_false] at hg ⊢; first | omega | exact hg | grind))))
      refine DW.app rfl rfl rfl rfl (show slI Tryd.prog 60 = some (5, 1, 1) by simp only [go_sem]) rfl rfl (by simp only [go_sem, icast, byteRows_one, byteRows_app, ft0, byteRows_getD x k _ hlt]) (by first | exact .inl rfl | exact .inr rfl) (by (try simp only [go_sem, List.length_append, List.length_cons, List.length_nil, wideR_len, txS_len]); omega) (by (try simp only [go_sem, List.length_append, List.length_cons, List.length_nil, wideR_len, txS_len]); omega) fun t1 ft1 => ?_
      try simp only [freshT] at ft1
      try simp only [go_sem, icast, byteRows_one, byteRows_app, ft0, byteRows_getD x k _ hlt, ft1]
      (repeat (with_reducible refine And.intro ?_ ?_; (first | omega | (intro _; omega) | decide | (exact nfB) | (intro hg; refine ⟨hg, ?_⟩; omega) | (simp; done) | (simp; omega) | (intro hg; simp only [decide_eq_true_eq, decide_eq_false_iff_not, Bool.not_eq_true', Bool.not_eq_false', Bool.and_eq_true, Bool.or_eq_true, Bool.and_eq_false_iff, Bool.or_eq_false_iff, Int.not_lt, Int.not_le, beq_iff_eq, beq_eq_false_iff_ne, ne_eq, Bool.not_eq_true, Bool.not_eq_false] at hg ⊢; first | omega | exact hg | grind))))
      refine hK8 _ _ ?_
      try clear hK8 K8
      refine blkQ_n (thenQ_n ?_)
      refine hK7 _ _ ?_
      try clear hK7 K7
      refine AWp.mask [true, true, true, true] rfl ?_
      simp only [go_sem]
      refine AWp.rk fun K9 hK9 => ?_
      try simp only [go_sem, icast, byteRows_one, byteRows_app, ft0, byteRows_getD x k _ hlt, ft1]
      (repeat (with_reducible refine And.intro ?_ ?_; (first | omega | (intro _; omega) | decide | (exact nfB) | (intro hg; refine ⟨hg, ?_⟩; omega) | (simp; done) | (simp; omega) | (intro hg; simp only [decide_eq_true_eq, decide_eq_false_iff_not, Bool.not_eq_true', Bool.not_eq_false', Bool.and_eq_true, Bool.or_eq_true, Bool.and_eq_false_iff, Bool.or_eq_false_iff, Int.not_lt, Int.not_le, beq_iff_eq, beq_eq_false_iff_ne, ne_eq, Bool.not_eq_true, Bool.not_eq_false] at hg ⊢; first | omega | exact hg | grind))))
      refine hK9 _ _ ?_
      try clear hK9 K9
      refine thenQ_n ?_
      refine EndS.mk [true, true] [false, false, true, true] [] [] [] [t1, u] rfl ?_ ?_
      · (try simp only [go_sem, icast, byteRows_one, byteRows_app, ft0, byteRows_getD x k _ hlt, ft1]) <;> try rfl
      refine .e ⟨_, ?_, k + 1, t1, rfl, ?_, ?_, ?_, ?_⟩
      · first | omega | (simp; omega) | (grind)
      · (try simp only [go_sem, icast, byteRows_one, byteRows_app, ft0, byteRows_getD x k _ hlt, ft1]) <;> first | exact ⟨rfl⟩ | (constructor; rw [take_get hlt])
      · (try simp only [go_sem, icast, byteRows_one, byteRows_app, ft0, byteRows_getD x k _ hlt, ft1]) <;> first | exact ⟨rfl⟩ | (constructor; simp; done)
      · omega
      · first | assumption | (simp_all [freshT]; done)
    · skip
      try simp only [decide_eq_true_eq, decide_eq_false_iff_not, Bool.not_eq_true', Bool.not_eq_false', Bool.and_eq_true, Bool.or_eq_true, Bool.and_eq_false_iff, Bool.or_eq_false_iff, Int.not_lt, Int.not_le, beq_iff_eq, beq_eq_false_iff_ne, ne_eq, Bool.not_eq_true, Bool.not_eq_false] at hc0
      have hk : k = x.length := by omega
      subst hk
      rw [List.take_length]
      refine AWp.exit ?_
      refine thenQ_e (thenQ_e (blkQ_e (thenQ_n ?_)))
      refine hK3 _ _ ?_
      try clear hK3 K3
      refine AWp.mask [false, true, true] rfl ?_
      simp only [go_sem]
      refine AWp.seq fun K10 hK10 => ?_
      refine AWp.rs fun K11 hK11 => ?_
      try simp only [go_sem, icast, byteRows_one, byteRows_app, ft0]
      (repeat (with_reducible refine And.intro ?_ ?_; (first | omega | (intro _; omega) | decide | (exact nfB) | (intro hg; refine ⟨hg, ?_⟩; omega) | (simp; done) | (simp; omega) | (intro hg; simp only [decide_eq_true_eq, decide_eq_false_iff_not, Bool.not_eq_true', Bool.not_eq_false', Bool.and_eq_true, Bool.or_eq_true, Bool.and_eq_false_iff, Bool.or_eq_false_iff, Int.not_lt, Int.not_le, beq_iff_eq, beq_eq_false_iff_ne, ne_eq, Bool.not_eq_true, Bool.not_eq_false] at hg ⊢; first | omega | exact hg | grind))))
      refine hK11 _ _ ?_
      try clear hK11 K11
      refine AWp.block ?_
      refine AWp.loopS [true] [false, true, true] (fun n lc hc => ∃ (k v : Nat), n = y.length - k ∧ EqS lc [(5, .own v 1 (byteRows (x ++ y.take k))), (7, .d (.int .i64 k))] ∧ EqS hc (⟨F, v :: u :: L⟩) ∧ (k ≤ y.length) ∧ (freshT v (u :: L))) rfl ?_ ?_
      · refine ⟨_, 0, v, rfl, ?_, ?_, ?_, ?_⟩
        · (try simp only [go_sem, icast, byteRows_one, byteRows_app, ft0]) <;> first | exact ⟨rfl⟩ | (constructor; simp; done)
        · (try simp only [go_sem, icast, byteRows_one, byteRows_app, ft0]) <;> first | exact ⟨rfl⟩ | (constructor; simp; done)
        all_goals (first | omega | assumption | (simp_all [freshT]; done))
      · rintro _ _ _ ⟨k, v, rfl, ⟨rfl⟩, ⟨rfl⟩, h1, h2⟩
        simp only [go_sem]
        refine AWp.seq fun K12 hK12 => ?_
        refine AWp.rs fun K13 hK13 => ?_
        try simp only [go_sem, icast, byteRows_one, byteRows_app, ft0]
        (repeat (with_reducible refine And.intro ?_ ?_; (first | omega | (intro _; omega) | decide | (exact nfB) | (intro hg; refine ⟨hg, ?_⟩; omega) | (simp; done) | (simp; omega) | (intro hg; simp only [decide_eq_true_eq, decide_eq_false_iff_not, Bool.not_eq_true', Bool.not_eq_false', Bool.and_eq_true, Bool.or_eq_true, Bool.and_eq_false_iff, Bool.or_eq_false_iff, Int.not_lt, Int.not_le, beq_iff_eq, beq_eq_false_iff_ne, ne_eq, Bool.not_eq_true, Bool.not_eq_false] at hg ⊢; first | omega | exact hg | grind))))
        refine hK13 _ _ ?_
        try clear hK13 K13
        refine AWp.cond _ rfl (fun hc1 => ?_) (fun hc1 => ?_)
        · skip
          try simp only [decide_eq_true_eq, decide_eq_false_iff_not, Bool.not_eq_true', Bool.not_eq_false', Bool.and_eq_true, Bool.or_eq_true, Bool.and_eq_false_iff, Bool.or_eq_false_iff, Int.not_lt, Int.not_le, beq_iff_eq, beq_eq_false_iff_ne, ne_eq, Bool.not_eq_true, Bool.not_eq_false] at hc1
          have hlt : k < y.length := by omega
          have htk : x.length + (y.take k).length ≤ 1000000 := by simp; omega
          refine AWp.skip ?_
          refine thenQ_n ?_
          refine hK12 _ _ ?_
          try clear hK12 K12
          refine AWp.mask [true, true, true] rfl ?_
          simp only [go_sem]
          refine AWp.seq fun K14 hK14 => ?_
          refine AWp.block ?_
          refine AWp.rk fun K15 hK15 => ?_
          try simp only [go_sem, icast, byteRows_one, byteRows_app, ft0, byteRows_getD y k _ hlt]
          (repeat (with_reducible refine And.intro ?_ ?_; (first | omega | (intro _; omega) | decide | (exact nfB) | (intro hg; refine ⟨hg, ?_⟩; omega) | (simp; done) | (simp; omega) | (intro hg; simp only [decide_eq_true_eq, decide_eq_false_iff_not, Bool.not_eq_true', Bool.not_eq_false', Bool.and_eq_true, Bool.or_eq_true, Bool.and_eq_false_iff, Bool.or_eq_false_iff, Int.not_lt, Int.not_le, beq_iff_eq, beq_eq_false_iff_ne, ne_eq, Bool.not_eq_true, Bool.not_eq_false] at hg ⊢; first | omega | exact hg | grind))))
          refine DW.app rfl rfl rfl rfl (show slI Tryd.prog 60 = some (5, 1, 1) by simp only [go_sem]) rfl rfl (by simp only [go_sem, icast, byteRows_one, byteRows_app, ft0, byteRows_getD y k _ hlt]) (by first | exact .inl rfl | exact .inr rfl) (by (try simp only [go_sem, List.length_append, List.length_cons, List.length_nil, wideR_len, txS_len]); omega) (by (try simp only [go_sem, List.length_append, List.length_cons, List.length_nil, wideR_len, txS_len]); omega) fun t2 ft2 => ?_
          try simp only [freshT] at ft2
          try simp only [go_sem, icast, byteRows_one, byteRows_app, ft0, byteRows_getD y k _ hlt, ft2]
          (repeat (with_reducible refine And.intro ?_ ?_; (first | omega | (intro _; omega) | decide | (exact nfB) | (intro hg; refine ⟨hg, ?_⟩; omega) | (simp; done) | (simp; omega) | (intro hg; simp only [decide_eq_true_eq, decide_eq_false_iff_not, Bool.not_eq_true', Bool.not_eq_false', Bool.and_eq_true, Bool.or_eq_true, Bool.and_eq_false_iff, Bool.or_eq_false_iff, Int.not_lt, Int.not_le, beq_iff_eq, beq_eq_false_iff_ne, ne_eq, Bool.not_eq_true, Bool.not_eq_false] at hg ⊢; first | omega | exact hg | grind))))
          refine hK15 _ _ ?_
          try clear hK15 K15
          refine blkQ_n (thenQ_n ?_)
          refine hK14 _ _ ?_
          try clear hK14 K14
          refine AWp.mask [true, true, true] rfl ?_
          simp only [go_sem]
          refine AWp.rk fun K16 hK16 => ?_
          try simp only [go_sem, icast, byteRows_one, byteRows_app, ft0, byteRows_getD y k _ hlt, ft2]
          (repeat (with_reducible refine And.intro ?_ ?_; (first | omega | (intro _; omega) | decide | (exact nfB) | (intro hg; refine ⟨hg, ?_⟩; omega) | (simp; done) | (simp; omega) | (intro hg; simp only [decide_eq_true_eq, decide_eq_false_iff_not, Bool.not_eq_true', Bool.not_eq_false', Bool.and_eq_true, Bool.or_eq_true, Bool.and_eq_false_iff, Bool.or_eq_false_iff, Int.not_lt, Int.not_le, beq_iff_eq, beq_eq_false_iff_ne, ne_eq, Bool.not_eq_true, Bool.not_eq_false] at hg ⊢; first | omega | exact hg | grind))))
          refine hK16 _ _ ?_
          try clear hK16 K16
          refine thenQ_n ?_
          refine EndS.mk [true] [false, true, true] [] [] [] [t2, u] rfl ?_ ?_
          · (try simp only [go_sem, icast, byteRows_one, byteRows_app, ft0, byteRows_getD y k _ hlt, ft2]) <;> try rfl
          refine .e ⟨_, ?_, k + 1, t2, rfl, ?_, ?_, ?_, ?_⟩
          · first | omega | (simp; omega) | (grind)
          · (try simp only [go_sem, icast, byteRows_one, byteRows_app, ft0, byteRows_getD y k _ hlt, ft2]) <;> first | exact ⟨rfl⟩ | (constructor; rw [take_get hlt, ← List.append_assoc])
          · (try simp only [go_sem, icast, byteRows_one, byteRows_app, ft0, byteRows_getD y k _ hlt, ft2]) <;> first | exact ⟨rfl⟩ | (constructor; simp; done)
          · omega
          · first | assumption | (simp_all [freshT]; done)
        · skip
          try simp only [decide_eq_true_eq, decide_eq_false_iff_not, Bool.not_eq_true', Bool.not_eq_false', Bool.and_eq_true, Bool.or_eq_true, Bool.and_eq_false_iff, Bool.or_eq_false_iff, Int.not_lt, Int.not_le, beq_iff_eq, beq_eq_false_iff_ne, ne_eq, Bool.not_eq_true, Bool.not_eq_false] at hc1
          refine AWp.exit ?_
          refine thenQ_e (thenQ_e (blkQ_e (thenQ_n ?_)))
          refine hK10 _ _ ?_
          try clear hK10 K10
          refine AWp.mask [false, true] rfl ?_
          simp only [go_sem]
          refine AWp.rs fun K17 hK17 => ?_
          try simp only [go_sem, icast, byteRows_one, byteRows_app, ft0, h2]
          (repeat (with_reducible refine And.intro ?_ ?_; (first | omega | (intro _; omega) | decide | (exact nfB) | (intro hg; refine ⟨hg, ?_⟩; omega) | (simp; done) | (simp; omega) | (intro hg; simp only [decide_eq_true_eq, decide_eq_false_iff_not, Bool.not_eq_true', Bool.not_eq_false', Bool.and_eq_true, Bool.or_eq_true, Bool.and_eq_false_iff, Bool.or_eq_false_iff, Int.not_lt, Int.not_le, beq_iff_eq, beq_eq_false_iff_ne, ne_eq, Bool.not_eq_true, Bool.not_eq_false] at hg ⊢; first | omega | exact hg | grind))))
          refine hK17 _ _ ?_
          try clear hK17 K17
          refine AWp.ret ?_
          try simp only [thenQ, blkQ]
          apply endW_r [] [u] [] [] (by (try simp only [go_sem, icast, byteRows_one, byteRows_app, ft0, h2]); rfl)
          · have h2q : (v == u) = false := by simp_all [freshT]
            refine ⟨v, by simp_all [freshT], rfl, by simp [go_sem, h2q]⟩
          · rw [List.take_of_length_le (by omega)]; simp [LeA]
theorem byteRows_cons (a : UInt8) (l : Tx) : [D.int .u8 (a.toNat : Int)] :: byteRows l = byteRows (a :: l) := rfl
theorem tq (n : Int) (h0 : 0 ≤ n) (h : n ≤ 1048576) : (0 ≤ n.tdiv 65536 ∧ n.tdiv 65536 ≤ 1048576) ∧ (0 ≤ n.tdiv 256 ∧ n.tdiv 256 ≤ 1048576) := by
  rw [Int.tdiv_eq_ediv_of_nonneg h0, Int.tdiv_eq_ediv_of_nonneg h0]; omega
set_option maxRecDepth 4000 in
set_option maxHeartbeats 1000000 in
theorem BatchBytes_c (T : Tbl) (hL : LibT T) (u : Int) (l : List Ent) (ok : ∀ x ∈ l, EntOk x) : PC Tryd.prog T 39 [.agg [.d (.int .i64 u), .d (.slc 6 (entsD l))]] (encV u l) := by
  refine ⟨Tryd.call39, PCall.enterS Tryd.func39 rfl Tryd.ntmps39 rfl fun hb => ?_⟩
  simp only [go_sem, Tryd.results39]
  refine AWp.rs fun K1 hK1 => ?_
  try simp only [go_sem, icast, entD, entA, byteRows_one, byteRows_cons, byteRows_app]
  (repeat (with_reducible refine And.intro ?_ ?_; (first | omega | (intro _; omega) | decide | (exact nfB) | (intro hg; refine ⟨hg, ?_⟩; omega) | (simp; done) | (simp; omega) | (intro hg; simp only [decide_eq_true_eq, decide_eq_false_iff_not, Bool.not_eq_true', Bool.not_eq_false', Bool.and_eq_true, Bool.or_eq_true, Bool.and_eq_false_iff, Bool.or_eq_false_iff, Int.not_lt, Int.not_le, beq_iff_eq, beq_eq_false_iff_ne, ne_eq, Bool.not_eq_true, Bool.not_eq_false] at hg ⊢; first | omega | exact hg | grind))))
  intro b1
  first | intro fb1 | have fb1 := True.intro
  try simp only [freshL] at fb1
  try simp only [go_sem, icast, entD, entA, byteRows_one, byteRows_cons, byteRows_app, fb1]
  (repeat (with_reducible refine And.intro ?_ ?_; (first | omega | (intro _; omega) | decide | (exact nfB) | (intro hg; refine ⟨hg, ?_⟩; omega) | (simp; done) | (simp; omega) | (intro hg; simp only [decide_eq_true_eq, decide_eq_false_iff_not, Bool.not_eq_true', Bool.not_eq_false', Bool.and_eq_true, Bool.or_eq_true, Bool.and_eq_false_iff, Bool.or_eq_false_iff, Int.not_lt, Int.not_le, beq_iff_eq, beq_eq_false_iff_ne, ne_eq, Bool.not_eq_true, Bool.not_eq_false] at hg ⊢; first | omega | exact hg | grind))))
  refine hK1 _ _ ?_
  try clear hK1 K1
  refine AWp.rs fun K2 hK2 => ?_
  try simp only [go_sem, icast, entD, entA, byteRows_one, byteRows_cons, byteRows_app, fb1]
  (repeat (with_reducible refine And.intro ?_ ?_; (first | omega | (intro _; omega) | decide | (exact nfB) | (intro hg; refine ⟨hg, ?_⟩; omega) | (simp; done) | (simp; omega) | (intro hg; simp only [decide_eq_true_eq, decide_eq_false_iff_not, Bool.not_eq_true', Bool.not_eq_false', Bool.and_eq_true, Bool.or_eq_true, Bool.and_eq_false_iff, Bool.or_eq_false_iff, Int.not_lt, Int.not_le, beq_iff_eq, beq_eq_false_iff_ne, ne_eq, Bool.not_eq_true, Bool.not_eq_false] at hg ⊢; first | omega | exact hg | grind))))
  refine DW.pcr rfl rfl rfl rfl (BatchFault_c T hL u l ok) rfl rfl ?_
  try simp only [go_sem, icast, entD, entA, byteRows_one, byteRows_cons, byteRows_app, fb1]
  (repeat (with_reducible refine And.intro ?_ ?_; (first | omega | (intro _; omega) | decide | (exact nfB) | (intro hg; refine ⟨hg, ?_⟩; omega) | (simp; done) | (simp; omega) | (intro hg; simp only [decide_eq_true_eq, decide_eq_false_iff_not, Bool.not_eq_true', Bool.not_eq_false', Bool.and_eq_true, Bool.or_eq_true, Bool.and_eq_false_iff, Bool.or_eq_false_iff, Int.not_lt, Int.not_le, beq_iff_eq, beq_eq_false_iff_ne, ne_eq, Bool.not_eq_true, Bool.not_eq_false] at hg ⊢; first | omega | exact hg | grind))))
  refine hK2 _ _ ?_
  try clear hK2 K2
  refine AWp.mask [false, true, false, false, true] rfl ?_
  simp only [go_sem]
  refine AWp.seq fun K3 hK3 => ?_
  refine AWp.rs fun K4 hK4 => ?_
  try simp only [go_sem, icast, entD, entA, byteRows_one, byteRows_cons, byteRows_app, fb1]
  (repeat (with_reducible refine And.intro ?_ ?_; (first | omega | (intro _; omega) | decide | (exact nfB) | (intro hg; refine ⟨hg, ?_⟩; omega) | (simp; done) | (simp; omega) | (intro hg; simp only [decide_eq_true_eq, decide_eq_false_iff_not, Bool.not_eq_true', Bool.not_eq_false', Bool.and_eq_true, Bool.or_eq_true, Bool.and_eq_false_iff, Bool.or_eq_false_iff, Int.not_lt, Int.not_le, beq_iff_eq, beq_eq_false_iff_ne, ne_eq, Bool.not_eq_true, Bool.not_eq_false] at hg ⊢; first | omega | exact hg | grind))))
  refine hK4 _ _ ?_
  try clear hK4 K4
  refine AWp.cond _ rfl (fun hc0 => ?_) (fun hc0 => ?_)
  · skip
    try simp only [decide_eq_true_eq, decide_eq_false_iff_not, Bool.not_eq_true', Bool.not_eq_false', Bool.and_eq_true, Bool.or_eq_true, Bool.and_eq_false_iff, Bool.or_eq_false_iff, Int.not_lt, Int.not_le, beq_iff_eq, beq_eq_false_iff_ne, ne_eq, Bool.not_eq_true, Bool.not_eq_false] at hc0
    have hb1 : ¬ batE u l = 0 := hc0
    refine AWp.rs fun K5 hK5 => ?_
    try simp only [go_sem, icast, entD, entA, byteRows_one, byteRows_cons, byteRows_app, fb1]
    (repeat (with_reducible refine And.intro ?_ ?_; (first | omega | (intro _; omega) | decide | (exact nfB) | (intro hg; refine ⟨hg, ?_⟩; omega) | (simp; done) | (simp; omega) | (intro hg; simp only [decide_eq_true_eq, decide_eq_false_iff_not, Bool.not_eq_true', Bool.not_eq_false', Bool.and_eq_true, Bool.or_eq_true, Bool.and_eq_false_iff, Bool.or_eq_false_iff, Int.not_lt, Int.not_le, beq_iff_eq, beq_eq_false_iff_ne, ne_eq, Bool.not_eq_true, Bool.not_eq_false] at hg ⊢; first | omega | exact hg | grind))))
    refine hK5 _ _ ?_
    try clear hK5 K5
    refine AWp.mask [false, true, true] rfl ?_
    simp only [go_sem]
    refine AWp.ret ?_
    try simp only [go_sem, icast, entD, entA, byteRows_one, byteRows_cons, byteRows_app, fb1]
    rw [encV, encT, if_neg hc0]; simp [LeA, LeL, LeD, byteRows]
  · skip
    try simp only [decide_eq_true_eq, decide_eq_false_iff_not, Bool.not_eq_true', Bool.not_eq_false', Bool.and_eq_true, Bool.or_eq_true, Bool.and_eq_false_iff, Bool.or_eq_false_iff, Int.not_lt, Int.not_le, beq_iff_eq, beq_eq_false_iff_ne, ne_eq, Bool.not_eq_true, Bool.not_eq_false] at hc0
    obtain ⟨hu0, hu2, hl1, hl10, hen⟩ := batE_0 hc0
    refine AWp.skip ?_
    refine thenQ_n ?_
    refine hK3 _ _ ?_
    try clear hK3 K3
    refine AWp.cut 7 fun K6 hK6 => ?_
    simp only [List.take_succ_cons, List.take_zero, List.drop_succ_cons, List.drop_zero]
    try simp only [go_sem, icast, entD, entA, byteRows_one, byteRows_cons, byteRows_app, fb1]
    (repeat (with_reducible refine And.intro ?_ ?_; (first | omega | (intro _; omega) | decide | (exact nfB) | (intro hg; refine ⟨hg, ?_⟩; omega) | (simp; done) | (simp; omega) | (intro hg; simp only [decide_eq_true_eq, decide_eq_false_iff_not, Bool.not_eq_true', Bool.not_eq_false', Bool.and_eq_true, Bool.or_eq_true, Bool.and_eq_false_iff, Bool.or_eq_false_iff, Int.not_lt, Int.not_le, beq_iff_eq, beq_eq_false_iff_ne, ne_eq, Bool.not_eq_true, Bool.not_eq_false] at hg ⊢; first | omega | exact hg | grind))))
    refine DW.bsO (he := by first | rfl | kernel_rfl) rfl rfl (show slI Tryd.prog 60 = some (5, 1, 1) by simp only [go_sem]) (by (try simp only [go_sem, icast, entD, entA, byteRows_one, byteRows_cons, byteRows_app, fb1]); rfl) rfl (by decide) fun t1 ft1 => ?_
    try simp only [freshT] at ft1
    try simp only [go_sem, icast, entD, entA, byteRows_one, byteRows_cons, byteRows_app, fb1, ft1]
    (repeat (with_reducible refine And.intro ?_ ?_; (first | omega | (intro _; omega) | decide | (exact nfB) | (intro hg; refine ⟨hg, ?_⟩; omega) | (simp; done) | (simp; omega) | (intro hg; simp only [decide_eq_true_eq, decide_eq_false_iff_not, Bool.not_eq_true', Bool.not_eq_false', Bool.and_eq_true, Bool.or_eq_true, Bool.and_eq_false_iff, Bool.or_eq_false_iff, Int.not_lt, Int.not_le, beq_iff_eq, beq_eq_false_iff_ne, ne_eq, Bool.not_eq_true, Bool.not_eq_false] at hg ⊢; first | omega | exact hg | grind))))
    refine hK6 _ _ ?_
    try clear hK6 K6
    refine AWp.mask [true, false, true] rfl ?_
    simp only [go_sem]
    refine AWp.seq fun K7 hK7 => ?_
    refine AWp.rs fun K8 hK8 => ?_
    try simp only [go_sem, icast, entD, entA, byteRows_one, byteRows_cons, byteRows_app, fb1, ft1]
    (repeat (with_reducible refine And.intro ?_ ?_; (first | omega | (intro _; omega) | decide | (exact nfB) | (intro hg; refine ⟨hg, ?_⟩; omega) | (simp; done) | (simp; omega) | (intro hg; simp only [decide_eq_true_eq, decide_eq_false_iff_not, Bool.not_eq_true', Bool.not_eq_false', Bool.and_eq_true, Bool.or_eq_true, Bool.and_eq_false_iff, Bool.or_eq_false_iff, Int.not_lt, Int.not_le, beq_iff_eq, beq_eq_false_iff_ne, ne_eq, Bool.not_eq_true, Bool.not_eq_false] at hg ⊢; first | omega | exact hg | grind))))
    refine hK8 _ _ ?_
    try clear hK8 K8
    refine AWp.block ?_
    refine AWp.loopS [true] [false, true, true] (fun n lc hc => ∃ (k v : Nat) (Z : Tx), n = l.length - k ∧ EqS lc [(5, .own v 1 (byteRows Z)), (6, .d (.int .i64 k))] ∧ EqS hc (⟨[(b1, ⟨2, 1, [[.d (.int .i64 u), .d (.slc 6 (entsD l))]]⟩)], [v]⟩) ∧ (k ≤ l.length) ∧ (Z ++ ensS (l.drop k) = batS u l) ∧ (Z.length ≤ 2 + 2200 * k)) rfl ?_ ?_
    · refine ⟨_, 0, t1, [ub u, ub l.length], rfl, ?_, ?_, ?_, ?_, ?_⟩
      · (try simp only [go_sem, icast, entD, entA, byteRows_one, byteRows_cons, byteRows_app, fb1, ft1]) <;> first | exact ⟨rfl⟩ | (constructor; rfl)
      · (try simp only [go_sem, icast, entD, entA, byteRows_one, byteRows_cons, byteRows_app, fb1, ft1]) <;> first | exact ⟨rfl⟩ | (constructor; simp; done)
      all_goals (first | omega | rfl | (simp; done))
    · rintro _ _ _ ⟨k, v, Z, rfl, ⟨rfl⟩, ⟨rfl⟩, h1, h2, h3⟩
      simp only [go_sem]
      refine AWp.seq fun K9 hK9 => ?_
      refine AWp.rs fun K10 hK10 => ?_
      try simp only [go_sem, icast, entD, entA, byteRows_one, byteRows_cons, byteRows_app, fb1, ft1]
      (repeat (with_reducible refine And.intro ?_ ?_; (first | omega | (intro _; omega) | decide | (exact nfB) | (intro hg; refine ⟨hg, ?_⟩; omega) | (simp; done) | (simp; omega) | (intro hg; simp only [decide_eq_true_eq, decide_eq_false_iff_not, Bool.not_eq_true', Bool.not_eq_false', Bool.and_eq_true, Bool.or_eq_true, Bool.and_eq_false_iff, Bool.or_eq_false_iff, Int.not_lt, Int.not_le, beq_iff_eq, beq_eq_false_iff_ne, ne_eq, Bool.not_eq_true, Bool.not_eq_false] at hg ⊢; first | omega | exact hg | grind))))
      refine hK10 _ _ ?_
      try clear hK10 K10
      refine AWp.mask [true, true, true, false, false, false, false, true] rfl ?_
      simp only [go_sem]
      refine AWp.cond _ rfl (fun hc1 => ?_) (fun hc1 => ?_)
      · skip
        try simp only [decide_eq_true_eq, decide_eq_false_iff_not, Bool.not_eq_true', Bool.not_eq_false', Bool.and_eq_true, Bool.or_eq_true, Bool.and_eq_false_iff, Bool.or_eq_false_iff, Int.not_lt, Int.not_le, beq_iff_eq, beq_eq_false_iff_ne, ne_eq, Bool.not_eq_true, Bool.not_eq_false] at hc1
        have hlt : k < l.length := by omega
        have hE := hen _ (List.getElem_mem hlt)
        obtain ⟨s1, s2, s3, s4, s5, s6, s7, s8, s9⟩ := ent_small hE
        have hel := enS_len hE
        obtain ⟨⟨q1, q2⟩, q3, q4⟩ := tq _ s4 s5
        refine AWp.skip ?_
        refine thenQ_n ?_
        refine hK9 _ _ ?_
        try clear hK9 K9
        refine AWp.seq fun K11 hK11 => ?_
        refine AWp.block ?_
        refine AWp.rs fun K12 hK12 => ?_
        try simp only [go_sem, icast, entD, entA, byteRows_one, byteRows_cons, byteRows_app, fb1, ft1, entsD_get l k _ hlt]
        (repeat (with_reducible refine And.intro ?_ ?_; (first | omega | (intro _; omega) | decide | (exact nfB) | (intro hg; refine ⟨hg, ?_⟩; omega) | (simp; done) | (simp; omega) | (intro hg; simp only [decide_eq_true_eq, decide_eq_false_iff_not, Bool.not_eq_true', Bool.not_eq_false', Bool.and_eq_true, Bool.or_eq_true, Bool.and_eq_false_iff, Bool.or_eq_false_iff, Int.not_lt, Int.not_le, beq_iff_eq, beq_eq_false_iff_ne, ne_eq, Bool.not_eq_true, Bool.not_eq_false] at hg ⊢; first | omega | exact hg | grind))))
        intro b7
        first | intro fb7 | have fb7 := True.intro
        try simp only [freshL] at fb7
        try simp only [go_sem, icast, entD, entA, byteRows_one, byteRows_cons, byteRows_app, fb1, ft1, entsD_get l k _ hlt, fb7]
        (repeat (with_reducible refine And.intro ?_ ?_; (first | omega | (intro _; omega) | decide | (exact nfB) | (intro hg; refine ⟨hg, ?_⟩; omega) | (simp; done) | (simp; omega) | (intro hg; simp only [decide_eq_true_eq, decide_eq_false_iff_not, Bool.not_eq_true', Bool.not_eq_false', Bool.and_eq_true, Bool.or_eq_true, Bool.and_eq_false_iff, Bool.or_eq_false_iff, Int.not_lt, Int.not_le, beq_iff_eq, beq_eq_false_iff_ne, ne_eq, Bool.not_eq_true, Bool.not_eq_false] at hg ⊢; first | omega | exact hg | grind))))
        refine hK12 _ _ ?_
        try clear hK12 K12
        refine AWp.mask [true, true, true, true] rfl ?_
        simp only [go_sem]
        refine AWp.rs fun K13 hK13 => ?_
        try simp only [go_sem, icast, entD, entA, byteRows_one, byteRows_cons, byteRows_app, fb1, ft1, entsD_get l k _ hlt, fb7]
        (repeat (with_reducible refine And.intro ?_ ?_; (first | omega | (intro _; omega) | decide | (exact nfB) | (intro hg; refine ⟨hg, ?_⟩; omega) | (simp; done) | (simp; omega) | (intro hg; simp only [decide_eq_true_eq, decide_eq_false_iff_not, Bool.not_eq_true', Bool.not_eq_false', Bool.and_eq_true, Bool.or_eq_true, Bool.and_eq_false_iff, Bool.or_eq_false_iff, Int.not_lt, Int.not_le, beq_iff_eq, beq_eq_false_iff_ne, ne_eq, Bool.not_eq_true, Bool.not_eq_false] at hg ⊢; first | omega | exact hg | grind))))
        refine DW.app rfl rfl rfl rfl (show slI Tryd.prog 60 = some (5, 1, 1) by simp only [go_sem]) rfl rfl (by simp only [go_sem, icast, entD, entA, byteRows_one, byteRows_cons, byteRows_app, fb1, ft1, entsD_get l k _ hlt, fb7]) (by first | exact .inl rfl | exact .inr rfl) (by (try simp only [go_sem, List.length_append, List.length_cons, List.length_nil, wideR_len, txS_len]); omega) (by (try simp only [go_sem, List.length_append, List.length_cons, List.length_nil, wideR_len, txS_len]); omega) fun t2 ft2 => ?_
        try simp only [freshT] at ft2
        try simp only [go_sem, icast, entD, entA, byteRows_one, byteRows_cons, byteRows_app, fb1, ft1, entsD_get l k _ hlt, fb7, ft2]
        (repeat (with_reducible refine And.intro ?_ ?_; (first | omega | (intro _; omega) | decide | (exact nfB) | (intro hg; refine ⟨hg, ?_⟩; omega) | (simp; done) | (simp; omega) | (intro hg; simp only [decide_eq_true_eq, decide_eq_false_iff_not, Bool.not_eq_true', Bool.not_eq_false', Bool.and_eq_true, Bool.or_eq_true, Bool.and_eq_false_iff, Bool.or_eq_false_iff, Int.not_lt, Int.not_le, beq_iff_eq, beq_eq_false_iff_ne, ne_eq, Bool.not_eq_true, Bool.not_eq_false] at hg ⊢; first | omega | exact hg | grind))))
        refine hK13 _ _ ?_
        try clear hK13 K13
        refine AWp.mask [true, true, true, true] rfl ?_
        simp only [go_sem]
        refine AWp.rs fun K14 hK14 => ?_
        try simp only [go_sem, icast, entD, entA, byteRows_one, byteRows_cons, byteRows_app, fb1, ft1, entsD_get l k _ hlt, fb7, ft2]
        (repeat (with_reducible refine And.intro ?_ ?_; (first | omega | (intro _; omega) | decide | (exact nfB) | (intro hg; refine ⟨hg, ?_⟩; omega) | (simp; done) | (simp; omega) | (intro hg; simp only [decide_eq_true_eq, decide_eq_false_iff_not, Bool.not_eq_true', Bool.not_eq_false', Bool.and_eq_true, Bool.or_eq_true, Bool.and_eq_false_iff, Bool.or_eq_false_iff, Int.not_lt, Int.not_le, beq_iff_eq, beq_eq_false_iff_ne, ne_eq, Bool.not_eq_true, Bool.not_eq_false] at hg ⊢; first | omega | exact hg | grind))))
        refine DW.pcr rfl rfl rfl rfl (lengthAnd_c T (l[k]'hlt).box (Nat.le_trans s1 (by decide))) rfl rfl ?_
        try simp only [go_sem, icast, entD, entA, byteRows_one, byteRows_cons, byteRows_app, fb1, ft1, entsD_get l k _ hlt, fb7, ft2]
        (repeat (with_reducible refine And.intro ?_ ?_; (first | omega | (intro _; omega) | decide | (exact nfB) | (intro hg; refine ⟨hg, ?_⟩; omega) | (simp; done) | (simp; omega) | (intro hg; simp only [decide_eq_true_eq, decide_eq_false_iff_not, Bool.not_eq_true', Bool.not_eq_false', Bool.and_eq_true, Bool.or_eq_true, Bool.and_eq_false_iff, Bool.or_eq_false_iff, Int.not_lt, Int.not_le, beq_iff_eq, beq_eq_false_iff_ne, ne_eq, Bool.not_eq_true, Bool.not_eq_false] at hg ⊢; first | omega | exact hg | grind))))
        refine hK14 _ _ ?_
        try clear hK14 K14
        refine AWp.rs fun K15 hK15 => ?_
        try simp only [go_sem, icast, entD, entA, byteRows_one, byteRows_cons, byteRows_app, fb1, ft1, entsD_get l k _ hlt, fb7, ft2]
        (repeat (with_reducible refine And.intro ?_ ?_; (first | omega | (intro _; omega) | decide | (exact nfB) | (intro hg; refine ⟨hg, ?_⟩; omega) | (simp; done) | (simp; omega) | (intro hg; simp only [decide_eq_true_eq, decide_eq_false_iff_not, Bool.not_eq_true', Bool.not_eq_false', Bool.and_eq_true, Bool.or_eq_true, Bool.and_eq_false_iff, Bool.or_eq_false_iff, Int.not_lt, Int.not_le, beq_iff_eq, beq_eq_false_iff_ne, ne_eq, Bool.not_eq_true, Bool.not_eq_false] at hg ⊢; first | omega | exact hg | grind))))
        refine DW.pcr rfl rfl rfl rfl (lengthAnd_c T (l[k]'hlt).dest (Nat.le_trans s2 (by decide))) rfl rfl ?_
        try simp only [go_sem, icast, entD, entA, byteRows_one, byteRows_cons, byteRows_app, fb1, ft1, entsD_get l k _ hlt, fb7, ft2]
        (repeat (with_reducible refine And.intro ?_ ?_; (first | omega | (intro _; omega) | decide | (exact nfB) | (intro hg; refine ⟨hg, ?_⟩; omega) | (simp; done) | (simp; omega) | (intro hg; simp only [decide_eq_true_eq, decide_eq_false_iff_not, Bool.not_eq_true', Bool.not_eq_false', Bool.and_eq_true, Bool.or_eq_true, Bool.and_eq_false_iff, Bool.or_eq_false_iff, Int.not_lt, Int.not_le, beq_iff_eq, beq_eq_false_iff_ne, ne_eq, Bool.not_eq_true, Bool.not_eq_false] at hg ⊢; first | omega | exact hg | grind))))
        refine hK15 _ _ ?_
        try clear hK15 K15
        refine AWp.mask [true, true, true, true, true, true] rfl ?_
        simp only [go_sem]
        refine AWp.rs fun K16 hK16 => ?_
        try simp only [go_sem, icast, entD, entA, byteRows_one, byteRows_cons, byteRows_app, fb1, ft1, entsD_get l k _ hlt, fb7, ft2]
        (repeat (with_reducible refine And.intro ?_ ?_; (first | omega | (intro _; omega) | decide | (exact nfB) | (intro hg; refine ⟨hg, ?_⟩; omega) | (simp; done) | (simp; omega) | (intro hg; simp only [decide_eq_true_eq, decide_eq_false_iff_not, Bool.not_eq_true', Bool.not_eq_false', Bool.and_eq_true, Bool.or_eq_true, Bool.and_eq_false_iff, Bool.or_eq_false_iff, Int.not_lt, Int.not_le, beq_iff_eq, beq_eq_false_iff_ne, ne_eq, Bool.not_eq_true, Bool.not_eq_false] at hg ⊢; first | omega | exact hg | grind))))
        refine DW.pcr rfl rfl rfl rfl (lengthAnd_c T (l[k]'hlt).text (Nat.le_trans s3 (by decide))) rfl rfl ?_
        try simp only [go_sem, icast, entD, entA, byteRows_one, byteRows_cons, byteRows_app, fb1, ft1, entsD_get l k _ hlt, fb7, ft2]
        (repeat (with_reducible refine And.intro ?_ ?_; (first | omega | (intro _; omega) | decide | (exact nfB) | (intro hg; refine ⟨hg, ?_⟩; omega) | (simp; done) | (simp; omega) | (intro hg; simp only [decide_eq_true_eq, decide_eq_false_iff_not, Bool.not_eq_true', Bool.not_eq_false', Bool.and_eq_true, Bool.or_eq_true, Bool.and_eq_false_iff, Bool.or_eq_false_iff, Int.not_lt, Int.not_le, beq_iff_eq, beq_eq_false_iff_ne, ne_eq, Bool.not_eq_true, Bool.not_eq_false] at hg ⊢; first | omega | exact hg | grind))))
        refine hK16 _ _ ?_
        try clear hK16 K16
        refine AWp.mask [true, true, true, false, true, true, true] rfl ?_
        simp only [go_sem]
        refine AWp.rs fun K17 hK17 => ?_
        try simp only [go_sem, icast, entD, entA, byteRows_one, byteRows_cons, byteRows_app, fb1, ft1, entsD_get l k _ hlt, fb7, ft2]
        (repeat (with_reducible refine And.intro ?_ ?_; (first | omega | (intro _; omega) | decide | (exact nfB) | (intro hg; refine ⟨hg, ?_⟩; omega) | (simp; done) | (simp; omega) | (intro hg; simp only [decide_eq_true_eq, decide_eq_false_iff_not, Bool.not_eq_true', Bool.not_eq_false', Bool.and_eq_true, Bool.or_eq_true, Bool.and_eq_false_iff, Bool.or_eq_false_iff, Int.not_lt, Int.not_le, beq_iff_eq, beq_eq_false_iff_ne, ne_eq, Bool.not_eq_true, Bool.not_eq_false] at hg ⊢; first | omega | exact hg | grind))))
        refine DW.acp [] [t2] rfl rfl rfl rfl (by (try simp only [go_sem, icast, entD, entA, byteRows_one, byteRows_cons, byteRows_app, fb1, ft1, entsD_get l k _ hlt, fb7, ft2]); rfl) rfl (joinedO_c T t2 _ (txS (l[k]'hlt).box) _ _ (by trivial) (by (try simp only [List.length_append, List.length_cons, List.length_nil, wideR_len, txS_len]); omega)) ?_
        rintro _ _ ⟨W18, fW18, rfl, rfl⟩
        try simp only [freshT, freshL] at fW18
        try simp only [go_sem, icast, entD, entA, byteRows_one, byteRows_cons, byteRows_app, fb1, ft1, entsD_get l k _ hlt, fb7, ft2, fW18]
        (repeat (with_reducible refine And.intro ?_ ?_; (first | omega | (intro _; omega) | decide | (exact nfB) | (intro hg; refine ⟨hg, ?_⟩; omega) | (simp; done) | (simp; omega) | (intro hg; simp only [decide_eq_true_eq, decide_eq_false_iff_not, Bool.not_eq_true', Bool.not_eq_false', Bool.and_eq_true, Bool.or_eq_true, Bool.and_eq_false_iff, Bool.or_eq_false_iff, Int.not_lt, Int.not_le, beq_iff_eq, beq_eq_false_iff_ne, ne_eq, Bool.not_eq_true, Bool.not_eq_false] at hg ⊢; first | omega | exact hg | grind))))
        refine hK17 _ _ ?_
        try clear hK17 K17
        refine AWp.mask [true, true, true, false, true, true] rfl ?_
        simp only [go_sem]
        refine AWp.rs fun K19 hK19 => ?_
        try simp only [go_sem, icast, entD, entA, byteRows_one, byteRows_cons, byteRows_app, fb1, ft1, entsD_get l k _ hlt, fb7, ft2, fW18]
        (repeat (with_reducible refine And.intro ?_ ?_; (first | omega | (intro _; omega) | decide | (exact nfB) | (intro hg; refine ⟨hg, ?_⟩; omega) | (simp; done) | (simp; omega) | (intro hg; simp only [decide_eq_true_eq, decide_eq_false_iff_not, Bool.not_eq_true', Bool.not_eq_false', Bool.and_eq_true, Bool.or_eq_true, Bool.and_eq_false_iff, Bool.or_eq_false_iff, Int.not_lt, Int.not_le, beq_iff_eq, beq_eq_false_iff_ne, ne_eq, Bool.not_eq_true, Bool.not_eq_false] at hg ⊢; first | omega | exact hg | grind))))
        refine DW.acp [] [W18] rfl rfl rfl rfl (by (try simp only [go_sem, icast, entD, entA, byteRows_one, byteRows_cons, byteRows_app, fb1, ft1, entsD_get l k _ hlt, fb7, ft2, fW18]); rfl) rfl (joinedO_c T W18 _ (txS (l[k]'hlt).dest) _ _ (by trivial) (by (try simp only [List.length_append, List.length_cons, List.length_nil, wideR_len, txS_len]); omega)) ?_
        rintro _ _ ⟨W20, fW20, rfl, rfl⟩
        try simp only [freshT, freshL] at fW20
        try simp only [go_sem, icast, entD, entA, byteRows_one, byteRows_cons, byteRows_app, fb1, ft1, entsD_get l k _ hlt, fb7, ft2, fW18, fW20]
        (repeat (with_reducible refine And.intro ?_ ?_; (first | omega | (intro _; omega) | decide | (exact nfB) | (intro hg; refine ⟨hg, ?_⟩; omega) | (simp; done) | (simp; omega) | (intro hg; simp only [decide_eq_true_eq, decide_eq_false_iff_not, Bool.not_eq_true', Bool.not_eq_false', Bool.and_eq_true, Bool.or_eq_true, Bool.and_eq_false_iff, Bool.or_eq_false_iff, Int.not_lt, Int.not_le, beq_iff_eq, beq_eq_false_iff_ne, ne_eq, Bool.not_eq_true, Bool.not_eq_false] at hg ⊢; first | omega | exact hg | grind))))
        refine hK19 _ _ ?_
        try clear hK19 K19
        refine AWp.mask [true, true, true, false, true] rfl ?_
        simp only [go_sem]
        refine AWp.rk fun K21 hK21 => ?_
        try simp only [go_sem, icast, entD, entA, byteRows_one, byteRows_cons, byteRows_app, fb1, ft1, entsD_get l k _ hlt, fb7, ft2, fW18, fW20]
        (repeat (with_reducible refine And.intro ?_ ?_; (first | omega | (intro _; omega) | decide | (exact nfB) | (intro hg; refine ⟨hg, ?_⟩; omega) | (simp; done) | (simp; omega) | (intro hg; simp only [decide_eq_true_eq, decide_eq_false_iff_not, Bool.not_eq_true', Bool.not_eq_false', Bool.and_eq_true, Bool.or_eq_true, Bool.and_eq_false_iff, Bool.or_eq_false_iff, Int.not_lt, Int.not_le, beq_iff_eq, beq_eq_false_iff_ne, ne_eq, Bool.not_eq_true, Bool.not_eq_false] at hg ⊢; first | omega | exact hg | grind))))
        refine DW.acp [] [W20] rfl rfl rfl rfl (by (try simp only [go_sem, icast, entD, entA, byteRows_one, byteRows_cons, byteRows_app, fb1, ft1, entsD_get l k _ hlt, fb7, ft2, fW18, fW20]); rfl) rfl (joinedO_c T W20 _ (txS (l[k]'hlt).text) _ _ (by trivial) (by (try simp only [List.length_append, List.length_cons, List.length_nil, wideR_len, txS_len]); omega)) ?_
        rintro _ _ ⟨W22, fW22, rfl, rfl⟩
        try simp only [freshT, freshL] at fW22
        try simp only [go_sem, icast, entD, entA, byteRows_one, byteRows_cons, byteRows_app, fb1, ft1, entsD_get l k _ hlt, fb7, ft2, fW18, fW20, fW22]
        (repeat (with_reducible refine And.intro ?_ ?_; (first | omega | (intro _; omega) | decide | (exact nfB) | (intro hg; refine ⟨hg, ?_⟩; omega) | (simp; done) | (simp; omega) | (intro hg; simp only [decide_eq_true_eq, decide_eq_false_iff_not, Bool.not_eq_true', Bool.not_eq_false', Bool.and_eq_true, Bool.or_eq_true, Bool.and_eq_false_iff, Bool.or_eq_false_iff, Int.not_lt, Int.not_le, beq_iff_eq, beq_eq_false_iff_ne, ne_eq, Bool.not_eq_true, Bool.not_eq_false] at hg ⊢; first | omega | exact hg | grind))))
        refine hK21 _ _ ?_
        try clear hK21 K21
        refine blkQ_n (thenQ_n ?_)
        refine hK11 _ _ ?_
        try clear hK11 K11
        refine AWp.mask [true, true, true] rfl ?_
        simp only [go_sem]
        refine AWp.rk fun K23 hK23 => ?_
        try simp only [go_sem, icast, entD, entA, byteRows_one, byteRows_cons, byteRows_app, fb1, ft1, entsD_get l k _ hlt, fb7, ft2, fW18, fW20, fW22]
        (repeat (with_reducible refine And.intro ?_ ?_; (first | omega | (intro _; omega) | decide | (exact nfB) | (intro hg; refine ⟨hg, ?_⟩; omega) | (simp; done) | (simp; omega) | (intro hg; simp only [decide_eq_true_eq, decide_eq_false_iff_not, Bool.not_eq_true', Bool.not_eq_false', Bool.and_eq_true, Bool.or_eq_true, Bool.and_eq_false_iff, Bool.or_eq_false_iff, Int.not_lt, Int.not_le, beq_iff_eq, beq_eq_false_iff_ne, ne_eq, Bool.not_eq_true, Bool.not_eq_false] at hg ⊢; first | omega | exact hg | grind))))
        refine hK23 _ _ ?_
        try clear hK23 K23
        refine thenQ_n ?_
        refine EndS.mk [true] [false, true, true] [b7] [] [b1] [W22] rfl ?_ ?_
        · (try simp only [go_sem, icast, entD, entA, byteRows_one, byteRows_cons, byteRows_app, fb1, ft1, entsD_get l k _ hlt, fb7, ft2, fW18, fW20, fW22]) <;> try rfl
        refine .e ⟨_, ?_, k + 1, W22, (Z ++ [ub (l[k]'hlt).kind, ub (l[k]'hlt).flags, ub ((l[k]'hlt).uid.tdiv 65536), ub (((l[k]'hlt).uid.tdiv 256).tmod 256), ub ((l[k]'hlt).uid.tmod 256)] ++ txS (l[k]'hlt).box ++ txS (l[k]'hlt).dest ++ txS (l[k]'hlt).text), rfl, ?_, ?_, ?_, ?_, ?_⟩
        · first | omega | (simp; omega) | (grind)
        · (try simp only [go_sem, icast, entD, entA, byteRows_one, byteRows_cons, byteRows_app, fb1, ft1, entsD_get l k _ hlt, fb7, ft2, fW18, fW20, fW22]) <;> first | exact ⟨rfl⟩ | (constructor; simp; done)
        · (try simp only [go_sem, icast, entD, entA, byteRows_one, byteRows_cons, byteRows_app, fb1, ft1, entsD_get l k _ hlt, fb7, ft2, fW18, fW20, fW22]) <;> first | exact ⟨rfl⟩ | (constructor; simp; done)
        all_goals first | omega | (rw [← h2, ensS_drop hlt, enS, headS, wide3 _ s4]; simp [partS]; done) | (simp [enS, headS, partS, wideR_len] at hel ⊢; omega)
      · skip
        try simp only [decide_eq_true_eq, decide_eq_false_iff_not, Bool.not_eq_true', Bool.not_eq_false', Bool.and_eq_true, Bool.or_eq_true, Bool.and_eq_false_iff, Bool.or_eq_false_iff, Int.not_lt, Int.not_le, beq_iff_eq, beq_eq_false_iff_ne, ne_eq, Bool.not_eq_true, Bool.not_eq_false] at hc1
        refine AWp.exit ?_
        refine thenQ_e (thenQ_e (blkQ_e (thenQ_n ?_)))
        refine hK7 _ _ ?_
        try clear hK7 K7
        refine AWp.rs fun K24 hK24 => ?_
        try simp only [go_sem, icast, entD, entA, byteRows_one, byteRows_cons, byteRows_app, fb1, ft1]
        (repeat (with_reducible refine And.intro ?_ ?_; (first | omega | (intro _; omega) | decide | (exact nfB) | (intro hg; refine ⟨hg, ?_⟩; omega) | (simp; done) | (simp; omega) | (intro hg; simp only [decide_eq_true_eq, decide_eq_false_iff_not, Bool.not_eq_true', Bool.not_eq_false', Bool.and_eq_true, Bool.or_eq_true, Bool.and_eq_false_iff, Bool.or_eq_false_iff, Int.not_lt, Int.not_le, beq_iff_eq, beq_eq_false_iff_ne, ne_eq, Bool.not_eq_true, Bool.not_eq_false] at hg ⊢; first | omega | exact hg | grind))))
        refine hK24 _ _ ?_
        try clear hK24 K24
        refine AWp.mask [false, true, true] rfl ?_
        simp only [go_sem]
        refine AWp.ret ?_
        try simp only [go_sem, icast, entD, entA, byteRows_one, byteRows_cons, byteRows_app, fb1, ft1]
        have hk : Z = batS u l := by rw [← h2, ensS_end (by omega), List.append_nil]
        rw [encV, encT, if_pos hc0, hk]; simp [LeA, LeL, LeD]; omega
end Go.Proofs.YtddiolgeaefieaaDoor

namespace Go.Proofs.YtddiolgeaefieaaDoor
set_option linter.unusedSimpArgs false
set_option linter.unusedVariables false
set_option maxRecDepth 4000 in
set_option maxHeartbeats 1000000 in
theorem sameEntries_c (T : Tbl) (l : List Ent) (hl : l.length ≤ 10000000000000) : PC Tryd.prog T 75 [.d (.slc 6 (entsD l)), .d (.slc 6 (entsD l))] (.d (.bool true)) := by
  refine ⟨Tryd.call75, PCall.enterS Tryd.func75 rfl Tryd.ntmps75 rfl fun hb => ?_⟩
  simp only [go_sem, Tryd.results75]
  refine AWp.rs fun K1 hK1 => ?_
  try simp only [go_sem, icast, entD, entA]
  (repeat (with_reducible refine And.intro ?_ ?_; (first | omega | (intro _; omega) | decide | (exact nfB) | (intro hg; refine ⟨hg, ?_⟩; omega) | (simp; done) | (simp; omega) | (intro hg; simp only [decide_eq_true_eq, decide_eq_false_iff_not, Bool.not_eq_true', Bool.not_eq_false', Bool.and_eq_true, Bool.or_eq_true, Bool.and_eq_false_iff, Bool.or_eq_false_iff, Int.not_lt, Int.not_le, beq_iff_eq, beq_eq_false_iff_ne, ne_eq, Bool.not_eq_true, Bool.not_eq_false] at hg ⊢; first | omega | exact hg | grind))))
  refine hK1 _ _ ?_
  try clear hK1 K1
  refine AWp.seq fun K2 hK2 => ?_
  refine AWp.rs fun K3 hK3 => ?_
  try simp only [go_sem, icast, entD, entA]
  (repeat (with_reducible refine And.intro ?_ ?_; (first | omega | (intro _; omega) | decide | (exact nfB) | (intro hg; refine ⟨hg, ?_⟩; omega) | (simp; done) | (simp; omega) | (intro hg; simp only [decide_eq_true_eq, decide_eq_false_iff_not, Bool.not_eq_true', Bool.not_eq_false', Bool.and_eq_true, Bool.or_eq_true, Bool.and_eq_false_iff, Bool.or_eq_false_iff, Int.not_lt, Int.not_le, beq_iff_eq, beq_eq_false_iff_ne, ne_eq, Bool.not_eq_true, Bool.not_eq_false] at hg ⊢; first | omega | exact hg | grind))))
  refine hK3 _ _ ?_
  try clear hK3 K3
  refine AWp.mask [true, true, false, false, false, false, false, true] rfl ?_
  simp only [go_sem]
  refine AWp.cond _ rfl (fun hc0 => ?_) (fun hc0 => ?_)
  · skip
    exact absurd hc0 (by simp)
  · skip
    try simp only [decide_eq_true_eq, decide_eq_false_iff_not, Bool.not_eq_true', Bool.not_eq_false', Bool.and_eq_true, Bool.or_eq_true, Bool.and_eq_false_iff, Bool.or_eq_false_iff, Int.not_lt, Int.not_le, beq_iff_eq, beq_eq_false_iff_ne, ne_eq, Bool.not_eq_true, Bool.not_eq_false] at hc0
    refine AWp.skip ?_
    refine thenQ_n ?_
    refine hK2 _ _ ?_
    try clear hK2 K2
    refine AWp.seq fun K4 hK4 => ?_
    refine AWp.rs fun K5 hK5 => ?_
    try simp only [go_sem, icast, entD, entA]
    (repeat (with_reducible refine And.intro ?_ ?_; (first | omega | (intro _; omega) | decide | (exact nfB) | (intro hg; refine ⟨hg, ?_⟩; omega) | (simp; done) | (simp; omega) | (intro hg; simp only [decide_eq_true_eq, decide_eq_false_iff_not, Bool.not_eq_true', Bool.not_eq_false', Bool.and_eq_true, Bool.or_eq_true, Bool.and_eq_false_iff, Bool.or_eq_false_iff, Int.not_lt, Int.not_le, beq_iff_eq, beq_eq_false_iff_ne, ne_eq, Bool.not_eq_true, Bool.not_eq_false] at hg ⊢; first | omega | exact hg | grind))))
    refine hK5 _ _ ?_
    try clear hK5 K5
    refine AWp.block ?_
    refine AWp.mask [true, true, true] rfl ?_
    simp only [go_sem]
    refine AWp.loopS [true, true] [false, false, true] (fun n lc hc => ∃ (k : Nat), n = l.length - k ∧ EqS lc [(5, .d (.int .i64 k))] ∧ EqS hc (⟨[], []⟩) ∧ (k ≤ l.length)) rfl ?_ ?_
    · refine ⟨_, 0, rfl, ?_, ?_, ?_⟩
      · (try simp only [go_sem, icast, entD, entA]) <;> first | exact ⟨rfl⟩ | (constructor; simp; done)
      · (try simp only [go_sem, icast, entD, entA]) <;> first | exact ⟨rfl⟩ | (constructor; simp; done)
      all_goals (first | omega | rfl | (simp; done) | (simp; omega) | assumption)
    · rintro _ _ _ ⟨k, rfl, ⟨rfl⟩, ⟨rfl⟩, h1⟩
      simp only [go_sem]
      refine AWp.seq fun K6 hK6 => ?_
      refine AWp.rs fun K7 hK7 => ?_
      try simp only [go_sem, icast, entD, entA]
      (repeat (with_reducible refine And.intro ?_ ?_; (first | omega | (intro _; omega) | decide | (exact nfB) | (intro hg; refine ⟨hg, ?_⟩; omega) | (simp; done) | (simp; omega) | (intro hg; simp only [decide_eq_true_eq, decide_eq_false_iff_not, Bool.not_eq_true', Bool.not_eq_false', Bool.and_eq_true, Bool.or_eq_true, Bool.and_eq_false_iff, Bool.or_eq_false_iff, Int.not_lt, Int.not_le, beq_iff_eq, beq_eq_false_iff_ne, ne_eq, Bool.not_eq_true, Bool.not_eq_false] at hg ⊢; first | omega | exact hg | grind))))
      refine hK7 _ _ ?_
      try clear hK7 K7
      refine AWp.cond _ rfl (fun hc1 => ?_) (fun hc1 => ?_)
      · skip
        try simp only [decide_eq_true_eq, decide_eq_false_iff_not, Bool.not_eq_true', Bool.not_eq_false', Bool.and_eq_true, Bool.or_eq_true, Bool.and_eq_false_iff, Bool.or_eq_false_iff, Int.not_lt, Int.not_le, beq_iff_eq, beq_eq_false_iff_ne, ne_eq, Bool.not_eq_true, Bool.not_eq_false] at hc1
        have hlt : k < l.length := by omega
        refine AWp.skip ?_
        refine thenQ_n ?_
        refine hK6 _ _ ?_
        try clear hK6 K6
        refine AWp.mask [true, true, true] rfl ?_
        simp only [go_sem]
        refine AWp.seq fun K8 hK8 => ?_
        refine AWp.block ?_
        refine AWp.ds true [0, 1, 2, 3, 4, 5, 6, 7, 8] rfl (by kernel_rfl) fun K9 hK9 => ?_
        try simp only [go_sem, icast, entD, entA, entsD_get l k _ hlt]
        (repeat (with_reducible refine And.intro ?_ ?_; (first | omega | (intro _; omega) | decide | (exact nfB) | (intro hg; refine ⟨hg, ?_⟩; omega) | (simp; done) | (simp; omega) | (intro hg; simp only [decide_eq_true_eq, decide_eq_false_iff_not, Bool.not_eq_true', Bool.not_eq_false', Bool.and_eq_true, Bool.or_eq_true, Bool.and_eq_false_iff, Bool.or_eq_false_iff, Int.not_lt, Int.not_le, beq_iff_eq, beq_eq_false_iff_ne, ne_eq, Bool.not_eq_true, Bool.not_eq_false] at hg ⊢; first | omega | exact hg | grind))))
        refine hK9 _ _ ?_
        try clear hK9 K9
        refine AWp.mask [true, true, true, false, false, false, false, false, false, false, false, true] rfl ?_
        simp only [go_sem]
        refine AWp.cond _ rfl (fun hc2 => ?_) (fun hc2 => ?_)
        · skip
          exact absurd hc2 (by simp)
        · skip
          try simp only [decide_eq_true_eq, decide_eq_false_iff_not, Bool.not_eq_true', Bool.not_eq_false', Bool.and_eq_true, Bool.or_eq_true, Bool.and_eq_false_iff, Bool.or_eq_false_iff, Int.not_lt, Int.not_le, beq_iff_eq, beq_eq_false_iff_ne, ne_eq, Bool.not_eq_true, Bool.not_eq_false] at hc2
          refine AWp.skip ?_
          refine blkQ_n (thenQ_n ?_)
          refine hK8 _ _ ?_
          try clear hK8 K8
          refine AWp.rk fun K10 hK10 => ?_
          try simp only [go_sem, icast, entD, entA, entsD_get l k _ hlt]
          (repeat (with_reducible refine And.intro ?_ ?_; (first | omega | (intro _; omega) | decide | (exact nfB) | (intro hg; refine ⟨hg, ?_⟩; omega) | (simp; done) | (simp; omega) | (intro hg; simp only [decide_eq_true_eq, decide_eq_false_iff_not, Bool.not_eq_true', Bool.not_eq_false', Bool.and_eq_true, Bool.or_eq_true, Bool.and_eq_false_iff, Bool.or_eq_false_iff, Int.not_lt, Int.not_le, beq_iff_eq, beq_eq_false_iff_ne, ne_eq, Bool.not_eq_true, Bool.not_eq_false] at hg ⊢; first | omega | exact hg | grind))))
          refine hK10 _ _ ?_
          try clear hK10 K10
          refine thenQ_n ?_
          refine EndS.mkr [true, true] [false, false, true] rfl ?_ ?_
          · (try simp only [go_sem, icast, entD, entA, entsD_get l k _ hlt]) <;> try rfl
          refine .e ⟨_, ?_, k + 1, rfl, ?_, ?_, ?_⟩
          · first | omega | (simp; omega) | (grind)
          · (try simp only [go_sem, icast, entD, entA, entsD_get l k _ hlt]) <;> first | exact ⟨rfl⟩ | (constructor; simp; done)
          · (try simp only [go_sem, icast, entD, entA, entsD_get l k _ hlt]) <;> first | exact ⟨rfl⟩ | (constructor; simp; done)
          all_goals (first | omega | assumption | grind)
      · skip
        try simp only [decide_eq_true_eq, decide_eq_false_iff_not, Bool.not_eq_true', Bool.not_eq_false', Bool.and_eq_true, Bool.or_eq_true, Bool.and_eq_false_iff, Bool.or_eq_false_iff, Int.not_lt, Int.not_le, beq_iff_eq, beq_eq_false_iff_ne, ne_eq, Bool.not_eq_true, Bool.not_eq_false] at hc1
        refine AWp.exit ?_
        refine thenQ_e (thenQ_e (blkQ_e (thenQ_n ?_)))
        refine hK4 _ _ ?_
        try clear hK4 K4
        refine AWp.mask [] rfl ?_
        simp only [go_sem]
        refine AWp.rs fun K11 hK11 => ?_
        try simp only [go_sem, icast, entD, entA]
        (repeat (with_reducible refine And.intro ?_ ?_; (first | omega | (intro _; omega) | decide | (exact nfB) | (intro hg; refine ⟨hg, ?_⟩; omega) | (simp; done) | (simp; omega) | (intro hg; simp only [decide_eq_true_eq, decide_eq_false_iff_not, Bool.not_eq_true', Bool.not_eq_false', Bool.and_eq_true, Bool.or_eq_true, Bool.and_eq_false_iff, Bool.or_eq_false_iff, Int.not_lt, Int.not_le, beq_iff_eq, beq_eq_false_iff_ne, ne_eq, Bool.not_eq_true, Bool.not_eq_false] at hg ⊢; first | omega | exact hg | grind))))
        refine hK11 _ _ ?_
        try clear hK11 K11
        refine AWp.ret ?_
        try simp only [go_sem, icast, entD, entA]
        all_goals done
set_option maxRecDepth 4000 in
set_option maxHeartbeats 1000000 in
theorem sameBatch_c (T : Tbl) (u : Int) (l : List Ent) (hl : l.length ≤ 10000000000000) : PC Tryd.prog T 40 [.agg [.d (.int .i64 u), .d (.slc 6 (entsD l))], .agg [.d (.int .i64 u), .d (.slc 6 (entsD l))]] (.d (.bool true)) := by
  refine ⟨Tryd.call40, PCall.enterS Tryd.func40 rfl Tryd.ntmps40 rfl fun hb => ?_⟩
  simp only [go_sem, Tryd.results40]
  refine AWp.rs fun K1 hK1 => ?_
  try simp only [go_sem, decide_true]
  (repeat (with_reducible refine And.intro ?_ ?_; (first | omega | (intro _; omega) | decide | (exact nfB) | (intro hg; refine ⟨hg, ?_⟩; omega) | (simp; done) | (simp; omega) | (intro hg; simp only [decide_eq_true_eq, decide_eq_false_iff_not, Bool.not_eq_true', Bool.not_eq_false', Bool.and_eq_true, Bool.or_eq_true, Bool.and_eq_false_iff, Bool.or_eq_false_iff, Int.not_lt, Int.not_le, beq_iff_eq, beq_eq_false_iff_ne, ne_eq, Bool.not_eq_true, Bool.not_eq_false] at hg ⊢; first | omega | exact hg | grind))))
  intro b1
  first | intro fb1 | have fb1 := True.intro
  try simp only [freshL] at fb1
  try simp only [go_sem, decide_true, fb1]
  (repeat (with_reducible refine And.intro ?_ ?_; (first | omega | (intro _; omega) | decide | (exact nfB) | (intro hg; refine ⟨hg, ?_⟩; omega) | (simp; done) | (simp; omega) | (intro hg; simp only [decide_eq_true_eq, decide_eq_false_iff_not, Bool.not_eq_true', Bool.not_eq_false', Bool.and_eq_true, Bool.or_eq_true, Bool.and_eq_false_iff, Bool.or_eq_false_iff, Int.not_lt, Int.not_le, beq_iff_eq, beq_eq_false_iff_ne, ne_eq, Bool.not_eq_true, Bool.not_eq_false] at hg ⊢; first | omega | exact hg | grind))))
  intro b2
  first | intro fb2 | have fb2 := True.intro
  try simp only [freshL] at fb2
  try simp only [go_sem, decide_true, fb1, fb2]
  (repeat (with_reducible refine And.intro ?_ ?_; (first | omega | (intro _; omega) | decide | (exact nfB) | (intro hg; refine ⟨hg, ?_⟩; omega) | (simp; done) | (simp; omega) | (intro hg; simp only [decide_eq_true_eq, decide_eq_false_iff_not, Bool.not_eq_true', Bool.not_eq_false', Bool.and_eq_true, Bool.or_eq_true, Bool.and_eq_false_iff, Bool.or_eq_false_iff, Int.not_lt, Int.not_le, beq_iff_eq, beq_eq_false_iff_ne, ne_eq, Bool.not_eq_true, Bool.not_eq_false] at hg ⊢; first | omega | exact hg | grind))))
  refine hK1 _ _ ?_
  try clear hK1 K1
  refine AWp.rs fun K2 hK2 => ?_
  try simp only [go_sem, decide_true, fb1, fb2]
  (repeat (with_reducible refine And.intro ?_ ?_; (first | omega | (intro _; omega) | decide | (exact nfB) | (intro hg; refine ⟨hg, ?_⟩; omega) | (simp; done) | (simp; omega) | (intro hg; simp only [decide_eq_true_eq, decide_eq_false_iff_not, Bool.not_eq_true', Bool.not_eq_false', Bool.and_eq_true, Bool.or_eq_true, Bool.and_eq_false_iff, Bool.or_eq_false_iff, Int.not_lt, Int.not_le, beq_iff_eq, beq_eq_false_iff_ne, ne_eq, Bool.not_eq_true, Bool.not_eq_false] at hg ⊢; first | omega | exact hg | grind))))
  refine DW.pcgr rfl rfl rfl rfl rfl (fun hg => sameEntries_c T l hl) (fun hg => by (try simp only [go_sem, decide_true, fb1, fb2]) <;> first | exact hg | (simpa using hg) | grind) rfl rfl ?_
  try simp only [go_sem, decide_true, fb1, fb2]
  (repeat (with_reducible refine And.intro ?_ ?_; (first | omega | (intro _; omega) | decide | (exact nfB) | (intro hg; refine ⟨hg, ?_⟩; omega) | (simp; done) | (simp; omega) | (intro hg; simp only [decide_eq_true_eq, decide_eq_false_iff_not, Bool.not_eq_true', Bool.not_eq_false', Bool.and_eq_true, Bool.or_eq_true, Bool.and_eq_false_iff, Bool.or_eq_false_iff, Int.not_lt, Int.not_le, beq_iff_eq, beq_eq_false_iff_ne, ne_eq, Bool.not_eq_true, Bool.not_eq_false] at hg ⊢; first | omega | exact hg | grind))))
  refine hK2 _ _ ?_
  try clear hK2 K2
  refine AWp.mask [false, false, false, false, true] rfl ?_
  simp only [go_sem]
  refine AWp.ret ?_
  try simp only [go_sem, decide_true, fb1, fb2]
  try simp [LeA, LeL, LeD]
set_option maxRecDepth 4000 in
set_option maxHeartbeats 1000000 in
theorem bookEncodes_c (T : Tbl) (hL : LibT T) (u : Int) (l : List Ent) (ok : ∀ x ∈ l, EntOk x) (hz : l.length * 72 ≤ 140737488355328) : PC Tryd.prog T 12 [.agg [.d (.int .i64 u), .d (.slc 6 (entsD l))]] (.d (.bool true)) := by
  refine ⟨Tryd.call12, PCall.enterS Tryd.func12 rfl Tryd.ntmps12 rfl fun hb => ?_⟩
  simp only [go_sem, Tryd.results12]
  refine AWp.rs fun K1 hK1 => ?_
  try simp only [go_sem, decide_true, encV, bytesOf_byteRows]
  (repeat (with_reducible refine And.intro ?_ ?_; (first | omega | (intro _; omega) | decide | (exact nfB) | (intro hg; refine ⟨hg, ?_⟩; omega) | (simp; done) | (simp; omega) | (intro hg; simp only [decide_eq_true_eq, decide_eq_false_iff_not, Bool.not_eq_true', Bool.not_eq_false', Bool.and_eq_true, Bool.or_eq_true, Bool.and_eq_false_iff, Bool.or_eq_false_iff, Int.not_lt, Int.not_le, beq_iff_eq, beq_eq_false_iff_ne, ne_eq, Bool.not_eq_true, Bool.not_eq_false] at hg ⊢; first | omega | exact hg | grind))))
  intro b1
  first | intro fb1 | have fb1 := True.intro
  try simp only [freshL, encV] at fb1
  try simp only [go_sem, decide_true, encV, bytesOf_byteRows, fb1]
  (repeat (with_reducible refine And.intro ?_ ?_; (first | omega | (intro _; omega) | decide | (exact nfB) | (intro hg; refine ⟨hg, ?_⟩; omega) | (simp; done) | (simp; omega) | (intro hg; simp only [decide_eq_true_eq, decide_eq_false_iff_not, Bool.not_eq_true', Bool.not_eq_false', Bool.and_eq_true, Bool.or_eq_true, Bool.and_eq_false_iff, Bool.or_eq_false_iff, Int.not_lt, Int.not_le, beq_iff_eq, beq_eq_false_iff_ne, ne_eq, Bool.not_eq_true, Bool.not_eq_false] at hg ⊢; first | omega | exact hg | grind))))
  refine hK1 _ _ ?_
  try clear hK1 K1
  refine AWp.rs fun K2 hK2 => ?_
  try simp only [go_sem, decide_true, encV, bytesOf_byteRows, fb1]
  (repeat (with_reducible refine And.intro ?_ ?_; (first | omega | (intro _; omega) | decide | (exact nfB) | (intro hg; refine ⟨hg, ?_⟩; omega) | (simp; done) | (simp; omega) | (intro hg; simp only [decide_eq_true_eq, decide_eq_false_iff_not, Bool.not_eq_true', Bool.not_eq_false', Bool.and_eq_true, Bool.or_eq_true, Bool.and_eq_false_iff, Bool.or_eq_false_iff, Int.not_lt, Int.not_le, beq_iff_eq, beq_eq_false_iff_ne, ne_eq, Bool.not_eq_true, Bool.not_eq_false] at hg ⊢; first | omega | exact hg | grind))))
  refine DW.pcr rfl rfl rfl rfl (batch_c T _ _ hz) rfl rfl ?_
  try simp only [go_sem, decide_true, encV, bytesOf_byteRows, fb1]
  (repeat (with_reducible refine And.intro ?_ ?_; (first | omega | (intro _; omega) | decide | (exact nfB) | (intro hg; refine ⟨hg, ?_⟩; omega) | (simp; done) | (simp; omega) | (intro hg; simp only [decide_eq_true_eq, decide_eq_false_iff_not, Bool.not_eq_true', Bool.not_eq_false', Bool.and_eq_true, Bool.or_eq_true, Bool.and_eq_false_iff, Bool.or_eq_false_iff, Int.not_lt, Int.not_le, beq_iff_eq, beq_eq_false_iff_ne, ne_eq, Bool.not_eq_true, Bool.not_eq_false] at hg ⊢; first | omega | exact hg | grind))))
  intro b3
  first | intro fb3 | have fb3 := True.intro
  try simp only [freshL, encV] at fb3
  try simp only [go_sem, decide_true, encV, bytesOf_byteRows, fb1, fb3]
  (repeat (with_reducible refine And.intro ?_ ?_; (first | omega | (intro _; omega) | decide | (exact nfB) | (intro hg; refine ⟨hg, ?_⟩; omega) | (simp; done) | (simp; omega) | (intro hg; simp only [decide_eq_true_eq, decide_eq_false_iff_not, Bool.not_eq_true', Bool.not_eq_false', Bool.and_eq_true, Bool.or_eq_true, Bool.and_eq_false_iff, Bool.or_eq_false_iff, Int.not_lt, Int.not_le, beq_iff_eq, beq_eq_false_iff_ne, ne_eq, Bool.not_eq_true, Bool.not_eq_false] at hg ⊢; first | omega | exact hg | grind))))
  refine hK2 _ _ ?_
  try clear hK2 K2
  refine AWp.mask [false, true, false, true] rfl ?_
  simp only [go_sem]
  refine AWp.rs fun K3 hK3 => ?_
  try simp only [go_sem, decide_true, encV, bytesOf_byteRows, fb1, fb3]
  (repeat (with_reducible refine And.intro ?_ ?_; (first | omega | (intro _; omega) | decide | (exact nfB) | (intro hg; refine ⟨hg, ?_⟩; omega) | (simp; done) | (simp; omega) | (intro hg; simp only [decide_eq_true_eq, decide_eq_false_iff_not, Bool.not_eq_true', Bool.not_eq_false', Bool.and_eq_true, Bool.or_eq_true, Bool.and_eq_false_iff, Bool.or_eq_false_iff, Int.not_lt, Int.not_le, beq_iff_eq, beq_eq_false_iff_ne, ne_eq, Bool.not_eq_true, Bool.not_eq_false] at hg ⊢; first | omega | exact hg | grind))))
  refine DW.pcr rfl rfl rfl rfl (Encode_c T hL u l ok) rfl rfl ?_
  try simp only [go_sem, decide_true, encV, bytesOf_byteRows, fb1, fb3]
  (repeat (with_reducible refine And.intro ?_ ?_; (first | omega | (intro _; omega) | decide | (exact nfB) | (intro hg; refine ⟨hg, ?_⟩; omega) | (simp; done) | (simp; omega) | (intro hg; simp only [decide_eq_true_eq, decide_eq_false_iff_not, Bool.not_eq_true', Bool.not_eq_false', Bool.and_eq_true, Bool.or_eq_true, Bool.and_eq_false_iff, Bool.or_eq_false_iff, Int.not_lt, Int.not_le, beq_iff_eq, beq_eq_false_iff_ne, ne_eq, Bool.not_eq_true, Bool.not_eq_false] at hg ⊢; first | omega | exact hg | grind))))
  refine hK3 _ _ ?_
  try clear hK3 K3
  refine AWp.mask [true, true, true, true] rfl ?_
  simp only [go_sem]
  refine AWp.rs fun K4 hK4 => ?_
  try simp only [go_sem, decide_true, encV, bytesOf_byteRows, fb1, fb3]
  (repeat (with_reducible refine And.intro ?_ ?_; (first | omega | (intro _; omega) | decide | (exact nfB) | (intro hg; refine ⟨hg, ?_⟩; omega) | (simp; done) | (simp; omega) | (intro hg; simp only [decide_eq_true_eq, decide_eq_false_iff_not, Bool.not_eq_true', Bool.not_eq_false', Bool.and_eq_true, Bool.or_eq_true, Bool.and_eq_false_iff, Bool.or_eq_false_iff, Int.not_lt, Int.not_le, beq_iff_eq, beq_eq_false_iff_ne, ne_eq, Bool.not_eq_true, Bool.not_eq_false] at hg ⊢; first | omega | exact hg | grind))))
  refine DW.pcr rfl rfl rfl rfl (BatchBytes_c T hL u l ok) rfl rfl ?_
  try simp only [go_sem, decide_true, encV, bytesOf_byteRows, fb1, fb3]
  (repeat (with_reducible refine And.intro ?_ ?_; (first | omega | (intro _; omega) | decide | (exact nfB) | (intro hg; refine ⟨hg, ?_⟩; omega) | (simp; done) | (simp; omega) | (intro hg; simp only [decide_eq_true_eq, decide_eq_false_iff_not, Bool.not_eq_true', Bool.not_eq_false', Bool.and_eq_true, Bool.or_eq_true, Bool.and_eq_false_iff, Bool.or_eq_false_iff, Int.not_lt, Int.not_le, beq_iff_eq, beq_eq_false_iff_ne, ne_eq, Bool.not_eq_true, Bool.not_eq_false] at hg ⊢; first | omega | exact hg | grind))))
  refine hK4 _ _ ?_
  try clear hK4 K4
  refine AWp.mask [true, true, true, true, true, true] rfl ?_
  simp only [go_sem]
  refine AWp.rs fun K5 hK5 => ?_
  try simp only [go_sem, decide_true, encV, bytesOf_byteRows, fb1, fb3]
  (repeat (with_reducible refine And.intro ?_ ?_; (first | omega | (intro _; omega) | decide | (exact nfB) | (intro hg; refine ⟨hg, ?_⟩; omega) | (simp; done) | (simp; omega) | (intro hg; simp only [decide_eq_true_eq, decide_eq_false_iff_not, Bool.not_eq_true', Bool.not_eq_false', Bool.and_eq_true, Bool.or_eq_true, Bool.and_eq_false_iff, Bool.or_eq_false_iff, Int.not_lt, Int.not_le, beq_iff_eq, beq_eq_false_iff_ne, ne_eq, Bool.not_eq_true, Bool.not_eq_false] at hg ⊢; first | omega | exact hg | grind))))
  refine DW.pcgr rfl rfl rfl rfl rfl (fun hg => sameBatch_c T u l (by omega)) (fun hg => by (try simp only [go_sem, decide_true, encV, bytesOf_byteRows, fb1, fb3]) <;> first | exact hg | (simpa using hg) | grind) rfl rfl ?_
  try simp only [go_sem, decide_true, encV, bytesOf_byteRows, fb1, fb3]
  (repeat (with_reducible refine And.intro ?_ ?_; (first | omega | (intro _; omega) | decide | (exact nfB) | (intro hg; refine ⟨hg, ?_⟩; omega) | (simp; done) | (simp; omega) | (intro hg; simp only [decide_eq_true_eq, decide_eq_false_iff_not, Bool.not_eq_true', Bool.not_eq_false', Bool.and_eq_true, Bool.or_eq_true, Bool.and_eq_false_iff, Bool.or_eq_false_iff, Int.not_lt, Int.not_le, beq_iff_eq, beq_eq_false_iff_ne, ne_eq, Bool.not_eq_true, Bool.not_eq_false] at hg ⊢; first | omega | exact hg | grind))))
  refine hK5 _ _ ?_
  try clear hK5 K5
  refine AWp.mask [false, true] rfl ?_
  simp only [go_sem]
  refine AWp.ret ?_
  try simp only [go_sem, decide_true, encV, bytesOf_byteRows, fb1, fb3]
  try simp [LeA, LeL, LeD]
end Go.Proofs.YtddiolgeaefieaaDoor

namespace Go.Proofs.YtddiolgeaefieaaDoor
open Go.RowKit Go.ChangeShapes Go.WideShapes Go.ChangeAt
set_option linter.unusedSimpArgs false
set_option linter.unusedVariables false
open Go.ChangeShapes Go.WideShapes Go.ChangeAt
set_option maxRecDepth 20000
theorem bookEncodes_run {H : Type} {enc : TypeId × Value → H} (W : World) (base : Nat) (v0 : Value) (d0 : DataW H) (p0 : List MemPlace)
    (k0 : Value.okWide Tryd.prog W .any base 55 v0) (h0 : DataW.Trod enc Tryd.prog W 0 (fun _ => true) true 55 v0 d0 p0) (s0 : Small Tryd.prog 55 d0)
    (hL : laidMetH Tryd.prog Rows.bookEncodesRow.laid W) (hsh : W.ShapedOpen Tryd.prog) :
    Calls Tryd.prog 12 #[v0] W fun e W' => e = .returned (.bool true) ∧ Below W.heap.size W W' := by
  obtain ⟨cs, rfl, hsz⟩ := okWide_struct Tryd.underlying55 k0
  obtain ⟨⟨u, l⟩, hx, ds, z, rfl, hz, hr⟩ := DecR.open_ dec_bat h0
  have hx : VDs (frzW W) [.int .i64 u, .slc 6 (entsD l)] cs.toList := hx
  obtain ⟨_, _, hv⟩ := hx.2 1 _ rfl
  obtain ⟨_, m, hm⟩ := Lib0.open_ hsh
  have hlen := rl_len (n := 72) hr Tryd.underlying53 (Small.part Tryd.underlying55 s0 (j := 1) rfl hz) (by kernel_rfl)
  refine law_calls (T := libT m) (bookEncodes_c (libT m) (libT_lib m) u l (ents_ok hv) hlen) (libT_ok hm) ⟨rfl, fun i a ha => ?_⟩
  match i, ha with
  | 0, ha =>
    simp at ha
    subst ha
    exact ⟨_, rfl, hx.agg (G := gh0 W (frzW W))⟩
  | i + 1, ha => simp at ha
end Go.Proofs.YtddiolgeaefieaaDoor

namespace Go.Proofs.YtddiolgeaefieaaDoor
open Go.RowKit
set_option linter.unusedSimpArgs false
set_option linter.unusedVariables false
/-- the cells of a table of letters, numbers and texts -/
def flatC : Nat → DataW Unit → List Value
  | 0, _ => []
  | n + 1, .lit (.int k i) => [.int k i]
  | n + 1, .lit (.bool b) => [.bool b]
  | n + 1, .lit (.string l) => [.string ⟨l.toArray⟩]
  | n + 1, .agg ds => ds.flatMap (flatC n)
  | n + 1, _ => []
def layAt (w : World) (g : Nat) (d : DataW Unit) : World :=
  { w with heap := w.heap.modify g fun
      | .cells _ t frozen => .cells (flatC 4 d).toArray t frozen
      | o => o }
end Go.Proofs.YtddiolgeaefieaaDoor

namespace Go.Proofs.YtddiolgeaefieaaDoor
open Go.RowKit
set_option linter.unusedSimpArgs false
set_option linter.unusedVariables false
section
theorem cells_of_texts {H : Type} {enc : TypeId × Value → H} {P : Program} {w : World} {base : Nat} {sp : Nat → Bool} {held : Bool} {fuel : Nat} {t e : TypeId} {n : Nat} {cs : List Value} {zs : List (List UInt8)} {p : List MemPlace}
    (ht : P.underlying t = some (.array n e)) (he : P.underlying e = some .string) (hce : P.cellsOf e = 1) (hct : P.cellsOf t = n)
    (h : DataW.trod enc P w base sp held fuel t cs = some (.agg (zs.map fun z => .lit (.string z)), p)) : cs = zs.map fun z => Value.string (mk z) := by
  cases fuel with
  | zero => simp [DataW.trod] at h
  | succ fuel =>
    simp only [DataW.trod, ht, hce, hct, Nat.mul_one] at h
    split at h
    · rename_i hl
      obtain ⟨xs, hm, hx⟩ := Option.map_eq_some_iff.1 h
      have hxs : xs.map (·.1) = zs.map fun z => (DataW.lit (.string z) : DataW H) := by
        have := congrArg Prod.fst hx
        simpa using this
      have hxl : xs.length = n := by simpa using Lib.mapM_length hm
      have hzl : zs.length = n := by
        have := congrArg List.length hxs
        simp at this
        omega
      apply List.ext_getElem?
      intro i
      by_cases hi : i < n
      · obtain ⟨b, hb, hf⟩ := Lib.mapM_at hm i i (by simp [hi])
        obtain ⟨z, hc, hz, _⟩ := DataW.trod_string he hf
        have h1 : cs[i]? = some (.string z) := by
          have := congrArg (·[0]?) hc
          simpa [List.getElem?_take, List.getElem?_drop] using this
        have h2 : (xs.map (·.1))[i]? = some (DataW.lit (.string z.data.toList) : DataW H) := by simp [hb, hz]
        rw [hxs] at h2
        simp only [List.getElem?_map, Option.map_eq_some_iff, DataW.lit.injEq, Lit.string.injEq] at h2
        obtain ⟨z', hz', rfl⟩ := h2
        rw [h1, List.getElem?_map, hz']
        simp [mk]
      · rw [List.getElem?_eq_none (by omega), List.getElem?_eq_none (by simp; omega)]
    · cases h

/-- a table of texts at a variable -/
def TextsAt (w : World) (g : Nat) (zs : List (List UInt8)) : Prop := ∀ (i : Nat) (z : List UInt8), zs[i]? = some z → w.cell? ⟨g, i, none⟩ = some (.string (mk z))
theorem TextsAt.keep {w w' : World} {g : Nat} {zs : List (List UInt8)} (h : TextsAt w g zs) {B : Nat} (hb : Below B w w') (hg : g < B) : TextsAt w' g zs :=
  fun i z hz => (hb.cell (p := ⟨g, i, none⟩) hg).trans (h i z hz)
theorem laid_row {P : Program} {W : World} {name : String} {d : DataW Unit} : ∀ {l : List (String × DataW Unit)} {ps : List MemPlace}, DataW.LaidVars P W l ps → (name, d) ∈ l →
    ∃ g t cs fuel p, P.globalNamed name = some g ∧ (P.globals[g]?).map (·.type) = some t ∧ W.var? P name = some cs ∧ DataW.trod (fun _ => ()) P W 0 (fun _ => true) false fuel t cs.toList = some (d, p)
  | (n, d') :: r, ps, h, hm => by
    obtain ⟨g, t, cs, fuel, p, q, h1, h2, h3, h4, h5, _⟩ := h
    rcases List.mem_cons.1 hm with e | e
    · injection e with e1 e2
      subst e1 e2
      exact ⟨g, t, cs, fuel, p, h1, h2, h3, h4⟩
    · exact laid_row h5 e
  | [], _, _, hm => by cases hm
theorem laidMetH_plain' (P : Program) (laid : List (String × DataW Unit)) (w : World) (h : (laid.all fun x => x.2.handleName?.isNone) = true) : laidMetH P laid w = laidMet P laid w := by
  have e : (laid.filter fun x => x.2.handleName?.isSome) = [] := by
    rw [List.filter_eq_nil_iff]
    intro x hx hs
    have := List.all_eq_true.1 h x hx
    cases hn : x.2.handleName? with
    | none => rw [hn] at hs; cases hs
    | some s => rw [hn] at this; cases this
  unfold laidMetH
  rw [e]
theorem texts_of_laid {P : Program} {W : World} {name : String} {zs : List (List UInt8)} {l : List (String × DataW Unit)} {g : Nat} {t e : TypeId} {n : Nat}
    (hg : P.globalNamed name = some g) (hty : (P.globals[g]?).map (·.type) = some t) (ht : P.underlying t = some (.array n e)) (he : P.underlying e = some .string) (hce : P.cellsOf e = 1) (hct : P.cellsOf t = n)
    (hm : (name, .agg (zs.map fun z => .lit (.string z))) ∈ l) (hp : (l.all fun x => x.2.handleName?.isNone) = true) (h : laidMetH P l W) : TextsAt W g zs ∧ g < W.heap.size := by
  rw [laidMetH_plain' P l W hp] at h
  obtain ⟨ps, hl, _⟩ := h
  obtain ⟨g', t', cs, fuel, p, hg', ht', hvar, hd⟩ := laid_row hl hm
  obtain rfl := Option.some.inj (hg.symm.trans hg')
  obtain rfl := Option.some.inj (hty.symm.trans ht')
  have hc := cells_of_texts ht he hce hct hd
  have hcell : TextsAt W g zs := by
    intro i z hz
    rw [World.var?_cell hg hvar i, ← Array.getElem?_toList, hc, List.getElem?_map, hz]
    rfl
  refine ⟨hcell, ?_⟩
  unfold World.var? at hvar
  rw [hg] at hvar
  cases hh : W.heap[g]? with
  | none => simp [hh] at hvar
  | some o => exact (Array.getElem?_eq_some_iff.1 hh).1
end
end Go.Proofs.YtddiolgeaefieaaDoor
