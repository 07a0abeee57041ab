/- Texts that the law BookChecks rests on, packed. -/
import Derived.Test.YtddiolgeaefieaaDoorBookChecksK6
import Derived.Test.YtddiolgeaefieaaDoorBookChecksK1
import Derived.Test.YtddiolgeaefieaaDoorBookChecksK5
import Derived.ProofKit
import Derived.Deep.DeepHandedRow
import Derived.Lib.LaidTab
import Derived.FnData
namespace Go.Proofs.YtddiolgeaefieaaDoor
open Go.RowKit
set_option linter.unusedSimpArgs false
set_option linter.unusedVariables false
open Go.ChangeShapes Go.WideShapes Go.ChangeAt
theorem addAdd (a : Addr) (i j : Nat) : (a.add i).add j = a.add (i + j) := by
  unfold Addr.add
  by_cases hi : i = 0 <;> by_cases hj : j = 0 <;> simp [hi, hj, Nat.add_assoc]
theorem addPlain (b off j : Nat) : (⟨b, off, none⟩ : Addr).add j = ⟨b, off + j, none⟩ := by
  unfold Addr.add
  split
  · subst_vars; simp
  · rfl
section
variable {H : Type} {enc : TypeId × Value → H} {P : Program} {W : World}
def frzW (W : World) : Frz := fun b o => W.cell? ⟨b, o, none⟩
def VDs (F : Frz) (ds : List D) (cs : List Value) : Prop := cs.length = ds.length ∧ ∀ (j : Nat) (d : D), ds[j]? = some d → ∃ v, cs[j]? = some v ∧ VD F d v
/-- values of a type, read at no more than so many levels, are data -/
def DecR (enc : TypeId × Value → H) (P : Program) (W : World) {α : Type} (e : α → List D) (R : α → DataW H → Prop) (t : TypeId) (fuel : Nat) : Prop :=
  ∀ (m : Nat), m ≤ fuel → ∀ (cs : List Value) (y : DataW H × List MemPlace), DataW.trod enc P W 0 (fun _ => true) true m t cs = some y → ∃ a : α, VDs (frzW W) (e a) cs ∧ R a y.1
def Dec (enc : TypeId × Value → H) (P : Program) (W : World) {α : Type} (e : α → List D) (sz : α → Nat) (t : TypeId) (fuel : Nat) : Prop := DecR enc P W e (fun a d => sz a ≤ Rows.uptoBulk d) t fuel
/-- a list, and what it was read from -/
inductive RL {α : Type} (R : α → DataW H → Prop) : List α → DataW H → Prop where
  | nil (d : DataW H) (h : ∀ elems spare, d ≠ .slice elems spare) : RL R [] d
  | slice (l : List α) (elems spare : List (DataW H)) (hl : l.length = elems.length) (h : ∀ (i : Nat) (x : α) (z : DataW H), l[i]? = some x → elems[i]? = some z → R x z) : RL R l (.slice elems spare)
theorem DecR.mono {α : Type} {e : α → List D} {R R' : α → DataW H → Prop} {t f : Nat} (d : DecR enc P W e R t f) (h : ∀ a x, R a x → R' a x) : DecR enc P W e R' t f := fun m hm cs y hy => by
  obtain ⟨a, h1, h2⟩ := d m hm cs y hy
  exact ⟨a, h1, h _ _ h2⟩
theorem VDs.one {F : Frz} {d : D} {v : Value} (h : VD F d v) : VDs F [d] [v] := ⟨rfl, fun j x hx => by
  cases j with
  | zero => simp at hx; subst hx; exact ⟨v, rfl, h⟩
  | succ j => simp at hx⟩
theorem VDs.append {F : Frz} {a b : List D} {cs : List Value} (h1 : VDs F a (cs.take a.length)) (h2 : VDs F b (cs.drop a.length)) : VDs F (a ++ b) cs := by
  have e1 := h1.1
  have e2 := h2.1
  simp at e1 e2
  have hle : a.length ≤ cs.length := by omega
  refine ⟨by simp; omega, fun j d hd => ?_⟩
  rcases Nat.lt_or_ge j a.length with hj | hj
  · rw [List.getElem?_append_left hj] at hd
    obtain ⟨v, g1, g2⟩ := h1.2 j d hd
    rw [List.getElem?_take_of_lt hj] at g1
    exact ⟨v, g1, g2⟩
  · rw [List.getElem?_append_right hj] at hd
    obtain ⟨v, g1, g2⟩ := h2.2 _ d hd
    rw [List.getElem?_drop] at g1
    exact ⟨v, by rw [← g1]; congr 1; omega, g2⟩
theorem Dec.le {α : Type} {e : α → List D} {sz : α → Nat} {t f f' : Nat} (d : Dec enc P W e sz t f) (h : f' ≤ f) : Dec enc P W e sz t f' := fun m hm => d m (Nat.le_trans hm h)
theorem Dec.int {t : TypeId} {k : IntKind} {f : Nat} (ht : P.underlying t = some (.int k)) : Dec enc P W (fun n : Int => [.int k n]) (fun _ => 1) t f := fun m _ cs y h => by
  obtain ⟨n, e, _⟩ := DataW.trod_int ht h
  exact ⟨n, by rw [e]; exact .one (.int k n), bulk_pos _⟩
theorem Dec.bool {t : TypeId} {f : Nat} (ht : P.underlying t = some .bool) : Dec enc P W (fun b : Bool => [.bool b]) (fun _ => 1) t f := fun m _ cs y h => by
  obtain ⟨n, e, _⟩ := DataW.trod_bool ht h
  exact ⟨n, by rw [e]; exact .one (.bool n), bulk_pos _⟩
theorem Dec.str {t : TypeId} {f : Nat} (ht : P.underlying t = some .string) : Dec enc P W (fun s : List UInt8 => [.str s]) (fun s => s.length + 1) t f := fun m _ cs y h => by
  obtain ⟨s, e, q, hm⟩ := DataW.trod_string ht h
  exact ⟨s.data.toList, by rw [e]; exact .one (.str s hm), by show _ ≤ Rows.uptoBulk y.1; rw [q, Rows.uptoBulk]; exact Nat.le_refl _⟩
theorem sum_le {α : Type} (l : List α) (sz : α → Nat) (ds : List (DataW H)) (hl : l.length = ds.length) (h : ∀ (i : Nat) (a : α) (d : DataW H), l[i]? = some a → ds[i]? = some d → sz a ≤ Rows.uptoBulk d) : (l.map sz).sum ≤ Rows.uptoBulkAll ds := by
  induction l generalizing ds with
  | nil => simp
  | cons a l ih =>
    cases ds with
    | nil => simp at hl
    | cons d ds =>
      have h1 := h 0 a d rfl rfl
      have h2 := ih ds (by simpa using hl) fun i a d e1 e2 => h (i + 1) a d (by simpa using e1) (by simpa using e2)
      simp only [List.map_cons, List.sum_cons, Rows.uptoBulkAll]
      omega
theorem DecR.slc {α : Type} {e : α → List D} {R : α → DataW H → Prop} {t el k f : Nat} (d : DecR enc P W e R el f) (ht : P.underlying t = some (.slice el)) (hc : P.cellsOf el = k) (hk : ∀ a, (e a).length = k) (hp : 0 < k) : DecR enc P W (fun l : List α => [.slc k (l.map e)]) (RL R) t (f + 1) := by
  intro m hm cs y h
  rcases DataW.trod_slice ht h with ⟨hv, hx⟩ | ⟨a, len, cap, elems, rest, n, hn, hv, hx, _, hl, hmx, hlen, hel, _, _⟩
  · exact ⟨[], by rw [hv]; exact .one (.slc0 k none 0 (fun _ => rfl) (by decide)), by rw [hx]; exact .nil _ (fun _ _ h => by cases h)⟩
  · rw [hx]
    have hone : ∀ i, i < len → ∃ x : α, (∀ z, (elems.map (·.1))[i]? = some z → R x z) ∧ ∀ (j : Nat) (z : D), (e x)[j]? = some z → ∃ u, W.cell? (a.add (i * k + j)) = some u ∧ VD (frzW W) z u := by
      intro i hi
      have hi' : i < elems.length := by omega
      have hbn := hel i hi
      rw [List.getElem?_eq_getElem hi', Option.bind_eq_some_iff] at hbn
      obtain ⟨cs', hcs, htr⟩ := hbn
      have hmem : elems[i].1 ∈ elems.map (·.1) := List.mem_map.2 ⟨elems[i], List.getElem_mem hi', rfl⟩
      obtain ⟨x, hx1, hx2⟩ := d n (by omega) _ _ htr
      refine ⟨x, fun z hz => ?_, fun j z hz => ?_⟩
      · rw [List.getElem?_map, List.getElem?_eq_getElem hi'] at hz
        injection hz with hz
        rw [← hz]; exact hx2
      · obtain ⟨_, _, hat⟩ := World.cells?_some hcs
        obtain ⟨u, g1, g2⟩ := hx1.2 j z hz
        have hj : j < k := by rw [← hk x]; exact (List.getElem?_eq_some_iff.1 hz).1
        have := hat j (by rw [hc]; exact hj)
        rw [addAdd, hc] at this
        exact ⟨u, by rw [this, g1], g2⟩
    obtain ⟨l, hll, hlx⟩ : ∃ l : List α, l.length = len ∧ ∀ (i : Nat) (x : α), l[i]? = some x → (∀ z, (elems.map (·.1))[i]? = some z → R x z) ∧ ∀ (j : Nat) (z : D), (e x)[j]? = some z → ∃ u, W.cell? (a.add (i * k + j)) = some u ∧ VD (frzW W) z u := by
      refine ⟨List.ofFn fun i : Fin len => Classical.choose (hone i.1 i.2), by simp, fun i x hx => ?_⟩
      have hi : i < len := by have := (List.getElem?_eq_some_iff.1 hx).1; simpa using this
      rw [List.getElem?_ofFn] at hx
      simp only [hi, dite_true, Option.some.injEq] at hx
      subst hx
      exact Classical.choose_spec (hone i hi)
    refine ⟨l, ?_, ?_⟩
    · rw [hv]
      refine .one ?_
      rcases Nat.eq_zero_or_pos len with h0 | h0
      · have : l = [] := List.eq_nil_of_length_eq_zero (by omega)
        subst this
        rw [h0]
        exact .slc0 k _ cap (fun e => by cases e) hmx
      · obtain ⟨x0, hx0⟩ : ∃ x, l[0]? = some x := ⟨_, List.getElem?_eq_getElem (show 0 < l.length by omega)⟩
        obtain ⟨z, hz⟩ : ∃ z, (e x0)[0]? = some z := ⟨_, List.getElem?_eq_getElem (show 0 < (e x0).length by rw [hk]; exact hp)⟩
        obtain ⟨u, hu, _⟩ := (hlx 0 _ hx0).2 0 z hz
        rw [Nat.zero_mul, Nat.zero_add] at hu
        have hsp := World.cell?_spot hu
        obtain ⟨b, off, sp⟩ := a
        simp [Addr.add] at hsp
        subst hsp
        have hcell : ∀ (i : Nat) (x : α) (j : Nat) (z : D), l[i]? = some x → (e x)[j]? = some z → ∃ u, frzW W b (off + (i * k + j)) = some u ∧ VD (frzW W) z u := fun i x j z e1 e2 => by
          obtain ⟨u, g1, g2⟩ := (hlx i x e1).2 j z e2
          rw [addPlain] at g1
          exact ⟨u, g1, g2⟩
        have := VD.slc (F := frzW W) k (l.map e) b off cap (fun i j => (frzW W b (off + (i * k + j))).getD Go.undef) (by rw [List.length_map]; omega) (by rw [List.length_map]; omega) hmx (fun r hr => by obtain ⟨x, _, rfl⟩ := List.mem_map.1 hr; exact hk x)
          (fun i r j z e1 e2 => by
            rw [List.getElem?_map] at e1
            obtain ⟨x, hx, rfl⟩ := Option.map_eq_some_iff.1 e1
            obtain ⟨u, g1, _⟩ := hcell i x j z hx e2
            rw [g1]; rfl)
          (fun i r j z e1 e2 => by
            rw [List.getElem?_map] at e1
            obtain ⟨x, hx, rfl⟩ := Option.map_eq_some_iff.1 e1
            obtain ⟨u, g1, g2⟩ := hcell i x j z hx e2
            rw [g1]; exact g2)
        rw [List.length_map, hll] at this
        exact this
    · exact .slice l _ _ (by rw [hll, List.length_map, hlen]) fun i x z e1 e2 => (hlx i x e1).1 z e2
theorem Dec.slc {α : Type} {e : α → List D} {sz : α → Nat} {t el k f : Nat} (d : Dec enc P W e sz el f) (ht : P.underlying t = some (.slice el)) (hc : P.cellsOf el = k) (hk : ∀ a, (e a).length = k) (hp : 0 < k) : Dec enc P W (fun l : List α => [.slc k (l.map e)]) (fun l => (l.map sz).sum + 1) t (f + 1) :=
  (DecR.slc d ht hc hk hp).mono fun l d h => by
    cases h with
    | nil d h => simp; exact bulk_pos _
    | slice l elems spare hl h =>
      have := sum_le l sz elems hl h
      show (l.map sz).sum + 1 ≤ _
      rw [Rows.uptoBulk]; omega
/-- fields of a struct, from a cell on -/
def FDecR (enc : TypeId × Value → H) (P : Program) (W : World) (o : Nat) (fs : List Field) {α : Type} (e : α → List D) (R : α → List (DataW H) → Prop) (f : Nat) : Prop :=
  ∀ (m : Nat), m ≤ f → ∀ (cs : List Value) (xs : List (DataW H × List MemPlace)), xs.length = fs.length → cs.length = o + (fs.map fun x => P.cellsOf x.type).sum →
    (∀ (i : Nat) (x : Field), fs[i]? = some x → DataW.trod enc P W 0 (fun _ => true) true m x.type ((cs.drop x.offset).take (P.cellsOf x.type)) = xs[i]?) →
    ∃ a : α, VDs (frzW W) (e a) (cs.drop o) ∧ R a (xs.map (·.1))
def RC {α β : Type} (R : α → DataW H → Prop) (Q : β → List (DataW H) → Prop) : α × β → List (DataW H) → Prop
  | p, d :: ds => R p.1 d ∧ Q p.2 ds
  | _, [] => False
theorem FDecR.nil {o f : Nat} : FDecR enc P W o [] (fun _ : Unit => []) (fun _ _ => True) f := fun m _ cs xs _ hc _ => ⟨(), ⟨by simp at hc ⊢; omega, by simp⟩, trivial⟩
theorem FDecR.cons {α β : Type} {e : α → List D} {e' : β → List D} {R : α → DataW H → Prop} {Q : β → List (DataW H) → Prop} {o k f : Nat} {x : Field} {fs : List Field} (d : DecR enc P W e R x.type f) (hk : P.cellsOf x.type = k) (ho : x.offset = o) (r : FDecR enc P W (o + k) fs e' Q f) :
    FDecR enc P W o (x :: fs) (fun p : α × β => e p.1 ++ e' p.2) (RC R Q) f := fun m hm cs xs hl hc hx => by
  subst ho hk
  match xs, hl with
  | y :: ys, hl =>
    simp only [List.map_cons, List.sum_cons] at hc
    obtain ⟨a, h1, h2⟩ := d m hm _ _ (hx 0 x rfl)
    obtain ⟨b, h3, h4⟩ := r m hm cs ys (by simpa using hl) (by omega) (fun i z hz => hx (i + 1) z hz)
    refine ⟨(a, b), ?_, h2, h4⟩
    have hea : (e a).length = P.cellsOf x.type := by
      have := h1.1
      rw [List.length_take, List.length_drop] at this
      omega
    refine VDs.append ?_ ?_
    · rw [hea]; exact h1
    · rw [hea, List.drop_drop]; exact h3
theorem DecR.struct {α : Type} {e : α → List D} {R : α → List (DataW H) → Prop} {t f : Nat} {fs : Array Field} (ht : P.underlying t = some (.struct fs)) (hc : P.cellsOf t = (fs.toList.map fun x => P.cellsOf x.type).sum) (r : FDecR enc P W 0 fs.toList e R f) : DecR enc P W e (fun a d => ∃ ds, d = .agg ds ∧ R a ds) t (f + 1) := fun m hm cs y h => by
  obtain ⟨xs, n, hn, hx, hl, hxl, hf⟩ := DataW.trod_struct ht h
  obtain ⟨a, h1, h2⟩ := r n (by omega) cs xs (by simpa using hxl) (by rw [hl, hc, Nat.zero_add]) (fun i z hz => hf i z (by rw [← Array.getElem?_toList]; exact hz))
  exact ⟨a, by simpa using h1, _, by rw [hx], h2⟩
def FDec (enc : TypeId × Value → H) (P : Program) (W : World) (o : Nat) (fs : List Field) {α : Type} (e : α → List D) (sz : α → Nat) (f : Nat) : Prop := FDecR enc P W o fs e (fun a ds => sz a ≤ Rows.uptoBulkAll ds) f
theorem FDec.nil {o f : Nat} : FDec enc P W o [] (fun _ : Unit => []) (fun _ => 0) f := fun m hm cs xs hl hc hx => by
  obtain ⟨a, h1, _⟩ := FDecR.nil (enc := enc) (P := P) (W := W) m hm cs xs hl hc hx
  exact ⟨a, h1, Nat.zero_le _⟩
theorem FDec.cons {α β : Type} {e : α → List D} {e' : β → List D} {sz : α → Nat} {sz' : β → Nat} {o k f : Nat} {x : Field} {fs : List Field} (d : Dec enc P W e sz x.type f) (hk : P.cellsOf x.type = k) (ho : x.offset = o) (r : FDec enc P W (o + k) fs e' sz' f) :
    FDec enc P W o (x :: fs) (fun p : α × β => e p.1 ++ e' p.2) (fun p => sz p.1 + sz' p.2) f := fun m hm cs xs hl hc hx => by
  obtain ⟨p, h1, h2⟩ := FDecR.cons d hk ho r m hm cs xs hl hc hx
  refine ⟨p, h1, ?_⟩
  generalize xs.map (·.1) = ds at h2
  cases ds with
  | nil => exact h2.elim
  | cons z zs => obtain ⟨h3, h4⟩ := h2; simp only [Rows.uptoBulkAll]; omega
theorem Dec.struct {α : Type} {e : α → List D} {sz : α → Nat} {t f : Nat} {fs : Array Field} (ht : P.underlying t = some (.struct fs)) (hc : P.cellsOf t = (fs.toList.map fun x => P.cellsOf x.type).sum) (r : FDec enc P W 0 fs.toList e sz f) : Dec enc P W e (fun a => sz a + 1) t (f + 1) :=
  (DecR.struct ht hc r).mono fun a d h => by
    obtain ⟨ds, rfl, h⟩ := h
    have h : sz a ≤ Rows.uptoBulkAll ds := h
    show sz a + 1 ≤ _
    rw [Rows.uptoBulk]; omega
theorem Dec.map {α β : Type} {e : α → List D} {e' : β → List D} {sz : α → Nat} {sz' : β → Nat} {t f : Nat} (g : α → β) (he : ∀ a, e' (g a) = e a) (hs : ∀ a, sz' (g a) ≤ sz a) (d : Dec enc P W e sz t f) : Dec enc P W e' sz' t f := fun m hm cs y h => by
  obtain ⟨a, h1, h2⟩ := d m hm cs y h
  exact ⟨g a, by rw [he]; exact h1, Nat.le_trans (hs a) h2⟩
theorem Dec.zero {α : Type} {e : α → List D} {sz : α → Nat} {t : Nat} : Dec enc P W e sz t 0 := fun m hm cs y h => by
  obtain rfl : m = 0 := by omega
  simp [DataW.trod] at h
/-- an argument -/
theorem Dec.open_ {α : Type} {e : α → List D} {sz : α → Nat} {t : Nat} {v : Value} {d : DataW H} {p : List MemPlace} (hd : ∀ f, Dec enc P W e sz t f) (h : DataW.Trod enc P W 0 (fun _ => true) true t v d p) (ht : Tiny d) : ∃ a : α, VDs (frzW W) (e a) v.cells.toList ∧ sz a ≤ 1048576 := by
  obtain ⟨fuel, h⟩ := h
  obtain ⟨a, h1, h2⟩ := hd fuel fuel (Nat.le_refl _) _ _ h
  exact ⟨a, h1, Nat.le_trans h2 ht.le⟩
theorem DecR.zero {α : Type} {e : α → List D} {R : α → DataW H → Prop} {t : Nat} : DecR enc P W e R t 0 := fun m hm cs y h => by
  obtain rfl : m = 0 := by omega
  simp [DataW.trod] at h
theorem DecR.map {α β : Type} {e : α → List D} {e' : β → List D} {R : α → DataW H → Prop} {R' : β → DataW H → Prop} {t f : Nat} (g : α → β) (he : ∀ a, e' (g a) = e a) (hs : ∀ a d, R a d → R' (g a) d) (d : DecR enc P W e R t f) : DecR enc P W e' R' t f := fun m hm cs y h => by
  obtain ⟨a, h1, h2⟩ := d m hm cs y h
  exact ⟨g a, by rw [he]; exact h1, hs _ _ h2⟩
theorem DecR.any {α : Type} {e : α → List D} {sz : α → Nat} {t f : Nat} (d : Dec enc P W e sz t f) : DecR enc P W e (fun _ _ => True) t f := d.mono fun _ _ _ => trivial
theorem DecR.open_ {α : Type} {e : α → List D} {R : α → DataW H → Prop} {t : Nat} {v : Value} {d : DataW H} {p : List MemPlace} (hd : ∀ f, DecR enc P W e R t f) (h : DataW.Trod enc P W 0 (fun _ => true) true t v d p) : ∃ a : α, VDs (frzW W) (e a) v.cells.toList ∧ R a d := by
  obtain ⟨fuel, h⟩ := h
  exact hd fuel fuel (Nat.le_refl _) _ _ h
/-- an argument of any size -/
theorem Dec.open0 {α : Type} {e : α → List D} {sz : α → Nat} {t : Nat} {v : Value} {d : DataW H} {p : List MemPlace} (hd : ∀ f, Dec enc P W e sz t f) (h : DataW.Trod enc P W 0 (fun _ => true) true t v d p) : ∃ a : α, VDs (frzW W) (e a) v.cells.toList := by
  obtain ⟨fuel, h⟩ := h
  obtain ⟨a, h1, _⟩ := hd fuel fuel (Nat.le_refl _) _ _ h
  exact ⟨a, h1⟩
end
theorem VDs.agg {G : Gh} {ds : List D} {vs : Array Value} (h : VDs G.frz ds vs.toList) : VR G (.agg (ds.map .d)) (.agg vs) := by
  have := VR.agg (G := G) (ds.map .d) vs.toList (by rw [List.length_map]; exact h.1) fun i a v h1 h2 => by
    rw [List.getElem?_map] at h1
    obtain ⟨d, hd, rfl⟩ := Option.map_eq_some_iff.1 h1
    obtain ⟨u, h3, h4⟩ := h.2 i d hd
    rw [h2] at h3
    injection h3 with h3
    rw [h3]; exact .d h4
  simpa using this
theorem VDs.str {F : Frz} {ds : List D} {cs : List Value} (h : VDs F ds cs) {j : Nat} {s : List UInt8} (hj : ds[j]? = some (.str s)) : s.length ≤ maxLen := by
  obtain ⟨v, _, hv⟩ := h.2 j _ hj
  exact hv.bnd.str_inv
/-- a law's walk, run in a world -/
theorem law_calls {P : Program} {T : Tbl} {W : World} {f : FuncId} {args : List AV} {vs : Array Value} (c : PC P T f args (.d (.bool true))) (hT : ∀ g j x, (T g)[j]? = some x → ∃ u, frzW W g j = some u ∧ VD (frzW W) x u) (ha : SlR (gh0 W (frzW W)) args vs) :
    Calls P f vs W fun e W' => e = .returned (.bool true) ∧ Below W.heap.size W W' :=
  (c.run (frzW W) W vs (fun _ _ _ h => h) hT ha).mono fun e W' ⟨v, F', he, hb, _, _, _, hv⟩ => ⟨by cases hv with | d hd => rw [he, hd.bool_inv], hb⟩
end Go.Proofs.YtddiolgeaefieaaDoor

namespace Go.Proofs.YtddiolgeaefieaaDoor
open Go.RowKit
set_option linter.unusedSimpArgs false
set_option linter.unusedVariables false
open Go.ChangeShapes Go.WideShapes Go.ChangeAt
open Go.ChangeMaps (open_string)
set_option maxRecDepth 20000
/-- the library's variable alone -/
def libT (m : Int) : Tbl := fun g => if g = 0 then [.int .i64 m] else []
theorem libT_lib (m : Int) : LibT (libT m) := ⟨m, by simp [libT]⟩
theorem libT_ok {W : World} {m : Int} (h : W.cell? ⟨0, 0, none⟩ = some (.int .i64 m)) : ∀ g j x, (libT m g)[j]? = some x → ∃ u, frzW W g j = some u ∧ VD (frzW W) x u := fun g j x hx => by
  unfold libT at hx
  split at hx
  · rename_i hg
    subst hg
    cases j with
    | zero => simp at hx; subst hx; exact ⟨_, h, .int _ _⟩
    | succ j => simp at hx
  · simp at hx
section
variable {H : Type} {enc : TypeId × Value → H} {W : World}
def entSz (x : Ent) : Nat := x.box.length + x.dest.length + x.text.length
theorem dec_ent (f : Nat) : Dec enc Tryd.prog W entD entSz 41 f := by
  cases f with
  | zero => exact .zero
  | succ f =>
    have hi : Dec enc Tryd.prog W (fun n : Int => [.int .i64 n]) (fun _ => 1) 3 f := Dec.int Tryd.underlying3
    have hs : Dec enc Tryd.prog W (fun s : List UInt8 => [.str s]) (fun s => s.length + 1) 9 f := Dec.str Tryd.underlying9
    exact (Dec.struct Tryd.underlying41 (by kernel_rfl) (.cons (k := 1) hi (by kernel_rfl) rfl (.cons (k := 1) hs (by kernel_rfl) rfl (.cons (k := 1) hi (by kernel_rfl) rfl (.cons (k := 1) hi (by kernel_rfl) rfl (.cons (k := 1) hs (by kernel_rfl) rfl (.cons (k := 1) hs (by kernel_rfl) rfl .nil))))))).map
        (fun (p : Int × (Tx × (Int × (Int × (Tx × (Tx × Unit)))))) => Ent.mk p.1 p.2.1 p.2.2.1 p.2.2.2.1 p.2.2.2.2.1 p.2.2.2.2.2.1) (fun p => rfl) (fun p => by simp only [entSz]; omega)
end
end Go.Proofs.YtddiolgeaefieaaDoor

namespace Go.Proofs.YtddiolgeaefieaaDoor
open Go.RowKit
set_option linter.unusedSimpArgs false
set_option linter.unusedVariables false
open Go.ChangeShapes Go.WideShapes Go.ChangeAt
set_option maxRecDepth 20000
section
variable {H : Type} {enc : TypeId × Value → H} {W : World}
theorem dec_ents (f : Nat) : DecR enc Tryd.prog W (fun l : List Ent => [.slc 6 (l.map entD)]) (RL fun _ _ => True) 53 f := by
  cases f with
  | zero => exact DecR.zero
  | succ f => exact DecR.slc (DecR.any (dec_ent f)) Tryd.underlying53 (by kernel_rfl) (fun _ => rfl) (by decide)
theorem dec_bat (f : Nat) : DecR enc Tryd.prog W (fun p : Int × List Ent => [.int .i64 p.1, .slc 6 (p.2.map entD)]) (fun p d => ∃ ds z, d = .agg ds ∧ ds[1]? = some z ∧ RL (fun _ _ => True) p.2 z) 55 f := by
  cases f with
  | zero => exact DecR.zero
  | succ f =>
    have hi : DecR enc Tryd.prog W (fun n : Int => [.int .i64 n]) (fun _ _ => True) 3 f := DecR.any (Dec.int Tryd.underlying3)
    exact (DecR.struct Tryd.underlying55 (by kernel_rfl) (.cons (k := 1) hi (by kernel_rfl) rfl (.cons (k := 1) (dec_ents f) (by kernel_rfl) rfl .nil))).map
        (fun (p : Int × (List Ent × Unit)) => (p.1, p.2.1)) (fun p => rfl) (fun p d h => by
          obtain ⟨ds, rfl, h⟩ := h
          match ds, h with
          | [], h => exact h.elim
          | [_], h => exact h.2.elim
          | x :: z :: ds, h => exact ⟨_, z, rfl, rfl, h.2.1⟩)
theorem ents_ok {F : Frz} {l : List Ent} {v : Value} (h : VD F (.slc 6 (entsD l)) v) : ∀ x ∈ l, EntOk x := fun x hx => by
  obtain ⟨_, _, h3⟩ := h.bnd.slc_inv
  have hm : entD x ∈ entsD l := List.mem_map.2 ⟨x, hx, rfl⟩
  have hb : maxLen ≤ 9223372036854775807 := by decide
  exact ⟨Nat.le_trans (h3 _ hm (.str x.box) (by simp [entD])).str_inv hb, Nat.le_trans (h3 _ hm (.str x.dest) (by simp [entD])).str_inv hb, Nat.le_trans (h3 _ hm (.str x.text) (by simp [entD])).str_inv hb⟩
theorem rl_len {α : Type} {R : α → DataW H → Prop} {l : List α} {z : DataW H} {t e n : Nat} (h : RL R l z) (hu : Tryd.prog.underlying t = some (.slice e)) (hs : Small Tryd.prog t z) (hn : Tryd.prog.bytesOf e = n) : l.length * n ≤ 140737488355328 := by
  cases h with
  | nil => simp
  | slice _ elems spare hl _ =>
    have := Small.row hu hs
    rw [hn, Nat.add_mul, ← hl] at this
    omega
end
end Go.Proofs.YtddiolgeaefieaaDoor

namespace Go.Proofs.YtddiolgeaefieaaDoor
open Go.RowKit Go.ChangeShapes Go.WideShapes Go.ChangeAt
set_option linter.unusedSimpArgs false
set_option linter.unusedVariables false
open Go.ChangeShapes Go.WideShapes Go.ChangeAt
set_option maxRecDepth 20000
theorem bookChecks_run {H : Type} {enc : TypeId × Value → H} (W : World) (base : Nat) (v0 : Value) (d0 : DataW H) (p0 : List MemPlace)
    (k0 : Value.okWide Tryd.prog W .any base 55 v0) (h0 : DataW.Trod enc Tryd.prog W 0 (fun _ => true) true 55 v0 d0 p0) (s0 : Small Tryd.prog 55 d0)
    (hL : laidMetH Tryd.prog Rows.bookChecksRow.laid W) (hsh : W.ShapedOpen Tryd.prog) :
    Calls Tryd.prog 10 #[v0] W fun e W' => e = .returned (.bool true) ∧ Below W.heap.size W W' := by
  obtain ⟨cs, rfl, hsz⟩ := okWide_struct Tryd.underlying55 k0
  obtain ⟨⟨u, l⟩, hx, ds, z, rfl, hz, hr⟩ := DecR.open_ dec_bat h0
  have hx : VDs (frzW W) [.int .i64 u, .slc 6 (entsD l)] cs.toList := hx
  obtain ⟨_, _, hv⟩ := hx.2 1 _ rfl
  obtain ⟨_, m, hm⟩ := Lib0.open_ hsh
  have hlen := rl_len (n := 72) hr Tryd.underlying53 (Small.part Tryd.underlying55 s0 (j := 1) rfl hz) (by kernel_rfl)
  refine law_calls (T := libT m) (bookChecks_c (libT m) (libT_lib m) u l (ents_ok hv) hlen) (libT_ok hm) ⟨rfl, fun i a ha => ?_⟩
  match i, ha with
  | 0, ha =>
    simp at ha
    subst ha
    exact ⟨_, rfl, hx.agg (G := gh0 W (frzW W))⟩
  | i + 1, ha => simp at ha
end Go.Proofs.YtddiolgeaefieaaDoor

namespace Go.Proofs.YtddiolgeaefieaaDoor
open Go.RowKit
set_option linter.unusedSimpArgs false
set_option linter.unusedVariables false
/-- the cells of a table of letters, numbers and texts -/
def flatC : Nat → DataW Unit → List Value
  | 0, _ => []
  | n + 1, .lit (.int k i) => [.int k i]
  | n + 1, .lit (.bool b) => [.bool b]
  | n + 1, .lit (.string l) => [.string ⟨l.toArray⟩]
  | n + 1, .agg ds => ds.flatMap (flatC n)
  | n + 1, _ => []
def layAt (w : World) (g : Nat) (d : DataW Unit) : World :=
  { w with heap := w.heap.modify g fun
      | .cells _ t frozen => .cells (flatC 4 d).toArray t frozen
      | o => o }
end Go.Proofs.YtddiolgeaefieaaDoor

namespace Go.Proofs.YtddiolgeaefieaaDoor
open Go.RowKit
set_option linter.unusedSimpArgs false
set_option linter.unusedVariables false
section
theorem cells_of_texts {H : Type} {enc : TypeId × Value → H} {P : Program} {w : World} {base : Nat} {sp : Nat → Bool} {held : Bool} {fuel : Nat} {t e : TypeId} {n : Nat} {cs : List Value} {zs : List (List UInt8)} {p : List MemPlace}
    (ht : P.underlying t = some (.array n e)) (he : P.underlying e = some .string) (hce : P.cellsOf e = 1) (hct : P.cellsOf t = n)
    (h : DataW.trod enc P w base sp held fuel t cs = some (.agg (zs.map fun z => .lit (.string z)), p)) : cs = zs.map fun z => Value.string (mk z) := by
  cases fuel with
  | zero => simp [DataW.trod] at h
  | succ fuel =>
    simp only [DataW.trod, ht, hce, hct, Nat.mul_one] at h
    split at h
    · rename_i hl
      obtain ⟨xs, hm, hx⟩ := Option.map_eq_some_iff.1 h
      have hxs : xs.map (·.1) = zs.map fun z => (DataW.lit (.string z) : DataW H) := by
        have := congrArg Prod.fst hx
        simpa using this
      have hxl : xs.length = n := by simpa using Lib.mapM_length hm
      have hzl : zs.length = n := by
        have := congrArg List.length hxs
        simp at this
        omega
      apply List.ext_getElem?
      intro i
      by_cases hi : i < n
      · obtain ⟨b, hb, hf⟩ := Lib.mapM_at hm i i (by simp [hi])
        obtain ⟨z, hc, hz, _⟩ := DataW.trod_string he hf
        have h1 : cs[i]? = some (.string z) := by
          have := congrArg (·[0]?) hc
          simpa [List.getElem?_take, List.getElem?_drop] using this
        have h2 : (xs.map (·.1))[i]? = some (DataW.lit (.string z.data.toList) : DataW H) := by simp [hb, hz]
        rw [hxs] at h2
        simp only [List.getElem?_map, Option.map_eq_some_iff, DataW.lit.injEq, Lit.string.injEq] at h2
        obtain ⟨z', hz', rfl⟩ := h2
        rw [h1, List.getElem?_map, hz']
        simp [mk]
      · rw [List.getElem?_eq_none (by omega), List.getElem?_eq_none (by simp; omega)]
    · cases h

/-- a table of texts at a variable -/
def TextsAt (w : World) (g : Nat) (zs : List (List UInt8)) : Prop := ∀ (i : Nat) (z : List UInt8), zs[i]? = some z → w.cell? ⟨g, i, none⟩ = some (.string (mk z))
theorem TextsAt.keep {w w' : World} {g : Nat} {zs : List (List UInt8)} (h : TextsAt w g zs) {B : Nat} (hb : Below B w w') (hg : g < B) : TextsAt w' g zs :=
  fun i z hz => (hb.cell (p := ⟨g, i, none⟩) hg).trans (h i z hz)
theorem laid_row {P : Program} {W : World} {name : String} {d : DataW Unit} : ∀ {l : List (String × DataW Unit)} {ps : List MemPlace}, DataW.LaidVars P W l ps → (name, d) ∈ l →
    ∃ g t cs fuel p, P.globalNamed name = some g ∧ (P.globals[g]?).map (·.type) = some t ∧ W.var? P name = some cs ∧ DataW.trod (fun _ => ()) P W 0 (fun _ => true) false fuel t cs.toList = some (d, p)
  | (n, d') :: r, ps, h, hm => by
    obtain ⟨g, t, cs, fuel, p, q, h1, h2, h3, h4, h5, _⟩ := h
    rcases List.mem_cons.1 hm with e | e
    · injection e with e1 e2
      subst e1 e2
      exact ⟨g, t, cs, fuel, p, h1, h2, h3, h4⟩
    · exact laid_row h5 e
  | [], _, _, hm => by cases hm
theorem laidMetH_plain' (P : Program) (laid : List (String × DataW Unit)) (w : World) (h : (laid.all fun x => x.2.handleName?.isNone) = true) : laidMetH P laid w = laidMet P laid w := by
  have e : (laid.filter fun x => x.2.handleName?.isSome) = [] := by
    rw [List.filter_eq_nil_iff]
    intro x hx hs
    have := List.all_eq_true.1 h x hx
    cases hn : x.2.handleName? with
    | none => rw [hn] at hs; cases hs
    | some s => rw [hn] at this; cases this
  unfold laidMetH
  rw [e]
theorem texts_of_laid {P : Program} {W : World} {name : String} {zs : List (List UInt8)} {l : List (String × DataW Unit)} {g : Nat} {t e : TypeId} {n : Nat}
    (hg : P.globalNamed name = some g) (hty : (P.globals[g]?).map (·.type) = some t) (ht : P.underlying t = some (.array n e)) (he : P.underlying e = some .string) (hce : P.cellsOf e = 1) (hct : P.cellsOf t = n)
    (hm : (name, .agg (zs.map fun z => .lit (.string z))) ∈ l) (hp : (l.all fun x => x.2.handleName?.isNone) = true) (h : laidMetH P l W) : TextsAt W g zs ∧ g < W.heap.size := by
  rw [laidMetH_plain' P l W hp] at h
  obtain ⟨ps, hl, _⟩ := h
  obtain ⟨g', t', cs, fuel, p, hg', ht', hvar, hd⟩ := laid_row hl hm
  obtain rfl := Option.some.inj (hg.symm.trans hg')
  obtain rfl := Option.some.inj (hty.symm.trans ht')
  have hc := cells_of_texts ht he hce hct hd
  have hcell : TextsAt W g zs := by
    intro i z hz
    rw [World.var?_cell hg hvar i, ← Array.getElem?_toList, hc, List.getElem?_map, hz]
    rfl
  refine ⟨hcell, ?_⟩
  unfold World.var? at hvar
  rw [hg] at hvar
  cases hh : W.heap[g]? with
  | none => simp [hh] at hvar
  | some o => exact (Array.getElem?_eq_some_iff.1 hh).1
end
end Go.Proofs.YtddiolgeaefieaaDoor
