/- Arguments, read as data of the logic. -/
import Derived.Test.YtnoboapafndnlaaDoorTiny
import Derived.Test.YtnoboapafndnlaaDoorAvP
namespace Go.Proofs.YtnoboapafndnlaaDoor
open Go.RowKit
set_option linter.unusedSimpArgs false
set_option linter.unusedVariables false
open Go.ChangeShapes Go.WideShapes Go.ChangeAt
theorem addAdd (a : Addr) (i j : Nat) : (a.add i).add j = a.add (i + j) := by
  unfold Addr.add
  by_cases hi : i = 0 <;> by_cases hj : j = 0 <;> simp [hi, hj, Nat.add_assoc]
theorem addPlain (b off j : Nat) : (⟨b, off, none⟩ : Addr).add j = ⟨b, off + j, none⟩ := by
  unfold Addr.add
  split
  · subst_vars; simp
  · rfl
section
variable {H : Type} {enc : TypeId × Value → H} {P : Program} {W : World}
def frzW (W : World) : Frz := fun b o => W.cell? ⟨b, o, none⟩
def VDs (F : Frz) (ds : List D) (cs : List Value) : Prop := cs.length = ds.length ∧ ∀ (j : Nat) (d : D), ds[j]? = some d → ∃ v, cs[j]? = some v ∧ VD F d v
/-- values of a type, read at no more than so many levels, are data -/
def Dec (enc : TypeId × Value → H) (P : Program) (W : World) {α : Type} (e : α → List D) (sz : α → Nat) (t : TypeId) (fuel : Nat) : Prop :=
  ∀ (m : Nat), m ≤ fuel → ∀ (cs : List Value) (y : DataW H × List MemPlace), DataW.trod enc P W 0 (fun _ => true) true m t cs = some y → Rows.uptoBulk y.1 ≤ 1048576 → ∃ a : α, VDs (frzW W) (e a) cs ∧ sz a ≤ Rows.uptoBulk y.1
theorem VDs.one {F : Frz} {d : D} {v : Value} (h : VD F d v) : VDs F [d] [v] := ⟨rfl, fun j x hx => by
  cases j with
  | zero => simp at hx; subst hx; exact ⟨v, rfl, h⟩
  | succ j => simp at hx⟩
theorem VDs.append {F : Frz} {a b : List D} {cs : List Value} (h1 : VDs F a (cs.take a.length)) (h2 : VDs F b (cs.drop a.length)) : VDs F (a ++ b) cs := by
  have e1 := h1.1
  have e2 := h2.1
  simp at e1 e2
  have hle : a.length ≤ cs.length := by omega
  refine ⟨by simp; omega, fun j d hd => ?_⟩
  rcases Nat.lt_or_ge j a.length with hj | hj
  · rw [List.getElem?_append_left hj] at hd
    obtain ⟨v, g1, g2⟩ := h1.2 j d hd
    rw [List.getElem?_take_of_lt hj] at g1
    exact ⟨v, g1, g2⟩
  · rw [List.getElem?_append_right hj] at hd
    obtain ⟨v, g1, g2⟩ := h2.2 _ d hd
    rw [List.getElem?_drop] at g1
    exact ⟨v, by rw [← g1]; congr 1; omega, g2⟩
theorem Dec.le {α : Type} {e : α → List D} {sz : α → Nat} {t f f' : Nat} (d : Dec enc P W e sz t f) (h : f' ≤ f) : Dec enc P W e sz t f' := fun m hm => d m (Nat.le_trans hm h)
theorem Dec.int {t : TypeId} {k : IntKind} {f : Nat} (ht : P.underlying t = some (.int k)) : Dec enc P W (fun n : Int => [.int k n]) (fun _ => 1) t f := fun m _ cs y h _ => by
  obtain ⟨n, e, _⟩ := DataW.trod_int ht h
  exact ⟨n, by rw [e]; exact .one (.int k n), bulk_pos _⟩
theorem Dec.bool {t : TypeId} {f : Nat} (ht : P.underlying t = some .bool) : Dec enc P W (fun b : Bool => [.bool b]) (fun _ => 1) t f := fun m _ cs y h _ => by
  obtain ⟨n, e, _⟩ := DataW.trod_bool ht h
  exact ⟨n, by rw [e]; exact .one (.bool n), bulk_pos _⟩
theorem Dec.str {t : TypeId} {f : Nat} (ht : P.underlying t = some .string) : Dec enc P W (fun s : List UInt8 => [.str s]) (fun s => s.length + 1) t f := fun m _ cs y h hb => by
  obtain ⟨s, e, q, hm⟩ := DataW.trod_string ht h
  exact ⟨s.data.toList, by rw [e]; exact .one (.str s hm), by rw [q, Rows.uptoBulk]; exact Nat.le_refl _⟩
theorem sum_le {α : Type} (l : List α) (sz : α → Nat) (ds : List (DataW H)) (hl : l.length = ds.length) (h : ∀ (i : Nat) (a : α) (d : DataW H), l[i]? = some a → ds[i]? = some d → sz a ≤ Rows.uptoBulk d) : (l.map sz).sum ≤ Rows.uptoBulkAll ds := by
  induction l generalizing ds with
  | nil => simp
  | cons a l ih =>
    cases ds with
    | nil => simp at hl
    | cons d ds =>
      have h1 := h 0 a d rfl rfl
      have h2 := ih ds (by simpa using hl) fun i a d e1 e2 => h (i + 1) a d (by simpa using e1) (by simpa using e2)
      simp only [List.map_cons, List.sum_cons, Rows.uptoBulkAll]
      omega
theorem Dec.slc {α : Type} {e : α → List D} {sz : α → Nat} {t el k f : Nat} (d : Dec enc P W e sz el f) (ht : P.underlying t = some (.slice el)) (hc : P.cellsOf el = k) (hk : ∀ a, (e a).length = k) (hp : 0 < k) : Dec enc P W (fun l : List α => [.slc k (l.map e)]) (fun l => (l.map sz).sum + 1) t (f + 1) := by
  intro m hm cs y h hb
  rcases DataW.trod_slice ht h with ⟨hv, hx⟩ | ⟨a, len, cap, elems, rest, n, hn, hv, hx, _, hl, hmx, hlen, hel, _, _⟩
  · exact ⟨[], by rw [hv]; exact .one (.slc0 k none 0 (fun _ => rfl) (by decide)), by simp; exact bulk_pos _⟩
  · rw [hx] at hb ⊢
    rw [Rows.uptoBulk] at hb ⊢
    have hone : ∀ i, i < len → ∃ x : α, (∀ z, (elems.map (·.1))[i]? = some z → sz x ≤ Rows.uptoBulk z) ∧ ∀ (j : Nat) (z : D), (e x)[j]? = some z → ∃ u, W.cell? (a.add (i * k + j)) = some u ∧ VD (frzW W) z u := by
      intro i hi
      have hi' : i < elems.length := by omega
      have hbn := hel i hi
      rw [List.getElem?_eq_getElem hi', Option.bind_eq_some_iff] at hbn
      obtain ⟨cs', hcs, htr⟩ := hbn
      have hmem : elems[i].1 ∈ elems.map (·.1) := List.mem_map.2 ⟨elems[i], List.getElem_mem hi', rfl⟩
      have hbi : Rows.uptoBulk elems[i].1 ≤ 1048576 := by have := bulk_mem hmem; omega
      obtain ⟨x, hx1, hx2⟩ := d n (by omega) _ _ htr hbi
      refine ⟨x, fun z hz => ?_, fun j z hz => ?_⟩
      · rw [List.getElem?_map, List.getElem?_eq_getElem hi'] at hz
        injection hz with hz
        rw [← hz]; exact hx2
      · obtain ⟨_, _, hat⟩ := World.cells?_some hcs
        obtain ⟨u, g1, g2⟩ := hx1.2 j z hz
        have hj : j < k := by rw [← hk x]; exact (List.getElem?_eq_some_iff.1 hz).1
        have := hat j (by rw [hc]; exact hj)
        rw [addAdd, hc] at this
        exact ⟨u, by rw [this, g1], g2⟩
    obtain ⟨l, hll, hlx⟩ : ∃ l : List α, l.length = len ∧ ∀ (i : Nat) (x : α), l[i]? = some x → (∀ z, (elems.map (·.1))[i]? = some z → sz x ≤ Rows.uptoBulk z) ∧ ∀ (j : Nat) (z : D), (e x)[j]? = some z → ∃ u, W.cell? (a.add (i * k + j)) = some u ∧ VD (frzW W) z u := by
      refine ⟨List.ofFn fun i : Fin len => Classical.choose (hone i.1 i.2), by simp, fun i x hx => ?_⟩
      have hi : i < len := by have := (List.getElem?_eq_some_iff.1 hx).1; simpa using this
      rw [List.getElem?_ofFn] at hx
      simp only [hi, dite_true, Option.some.injEq] at hx
      subst hx
      exact Classical.choose_spec (hone i hi)
    have hsum := sum_le l sz (elems.map (·.1)) (by rw [hll, List.length_map, hlen]) fun i x z e1 e2 => (hlx i x e1).1 z e2
    have hlenb := bulk_len (elems.map (·.1))
    rw [List.length_map, hlen] at hlenb
    -- sizes: each element counts one more than its own size
    refine ⟨l, ?_, ?_⟩
    · rw [hv]
      refine .one ?_
      rcases Nat.eq_zero_or_pos len with h0 | h0
      · have : l = [] := List.eq_nil_of_length_eq_zero (by omega)
        subst this
        rw [h0]
        exact .slc0 k _ cap (fun e => by cases e) hmx
      · obtain ⟨x0, hx0⟩ : ∃ x, l[0]? = some x := ⟨_, List.getElem?_eq_getElem (show 0 < l.length by omega)⟩
        obtain ⟨z, hz⟩ : ∃ z, (e x0)[0]? = some z := ⟨_, List.getElem?_eq_getElem (show 0 < (e x0).length by rw [hk]; exact hp)⟩
        obtain ⟨u, hu, _⟩ := (hlx 0 _ hx0).2 0 z hz
        rw [Nat.zero_mul, Nat.zero_add] at hu
        have hsp := World.cell?_spot hu
        obtain ⟨b, off, sp⟩ := a
        simp [Addr.add] at hsp
        subst hsp
        have hcell : ∀ (i : Nat) (x : α) (j : Nat) (z : D), l[i]? = some x → (e x)[j]? = some z → ∃ u, frzW W b (off + (i * k + j)) = some u ∧ VD (frzW W) z u := fun i x j z e1 e2 => by
          obtain ⟨u, g1, g2⟩ := (hlx i x e1).2 j z e2
          rw [addPlain] at g1
          exact ⟨u, g1, g2⟩
        have := VD.slc (F := frzW W) k (l.map e) b off cap (fun i j => (frzW W b (off + (i * k + j))).getD Go.undef) (by rw [List.length_map]; omega) (by rw [List.length_map]; omega) hmx (fun r hr => by obtain ⟨x, _, rfl⟩ := List.mem_map.1 hr; exact hk x)
          (fun i r j z e1 e2 => by
            rw [List.getElem?_map] at e1
            obtain ⟨x, hx, rfl⟩ := Option.map_eq_some_iff.1 e1
            obtain ⟨u, g1, _⟩ := hcell i x j z hx e2
            rw [g1]; rfl)
          (fun i r j z e1 e2 => by
            rw [List.getElem?_map] at e1
            obtain ⟨x, hx, rfl⟩ := Option.map_eq_some_iff.1 e1
            obtain ⟨u, g1, g2⟩ := hcell i x j z hx e2
            rw [g1]; exact g2)
        rw [List.length_map, hll] at this
        exact this
    · dsimp only; omega
/-- fields of a struct, from a cell on -/
def FDec (enc : TypeId × Value → H) (P : Program) (W : World) (o : Nat) (fs : List Field) {α : Type} (e : α → List D) (sz : α → Nat) (f : Nat) : Prop :=
  ∀ (m : Nat), m ≤ f → ∀ (cs : List Value) (xs : List (DataW H × List MemPlace)), xs.length = fs.length → cs.length = o + (fs.map fun x => P.cellsOf x.type).sum →
    (∀ (i : Nat) (x : Field), fs[i]? = some x → DataW.trod enc P W 0 (fun _ => true) true m x.type ((cs.drop x.offset).take (P.cellsOf x.type)) = xs[i]?) → Rows.uptoBulkAll (xs.map (·.1)) ≤ 1048576 →
    ∃ a : α, VDs (frzW W) (e a) (cs.drop o) ∧ sz a ≤ Rows.uptoBulkAll (xs.map (·.1))
theorem FDec.nil {o f : Nat} : FDec enc P W o [] (fun _ : Unit => []) (fun _ => 0) f := fun m _ cs xs _ hc _ _ => ⟨(), ⟨by simp at hc ⊢; omega, by simp⟩, Nat.zero_le _⟩
theorem FDec.cons {α β : Type} {e : α → List D} {e' : β → List D} {sz : α → Nat} {sz' : β → Nat} {o k f : Nat} {x : Field} {fs : List Field} (d : Dec enc P W e sz x.type f) (hk : P.cellsOf x.type = k) (ho : x.offset = o) (r : FDec enc P W (o + k) fs e' sz' f) :
    FDec enc P W o (x :: fs) (fun p : α × β => e p.1 ++ e' p.2) (fun p => sz p.1 + sz' p.2) f := fun m hm cs xs hl hc hx hb => by
  subst ho hk
  match xs, hl with
  | y :: ys, hl =>
    simp only [List.map_cons, Rows.uptoBulkAll] at hb
    simp only [List.map_cons, List.sum_cons] at hc
    obtain ⟨a, h1, h2⟩ := d m hm _ _ (hx 0 x rfl) (by omega)
    obtain ⟨b, h3, h4⟩ := r m hm cs ys (by simpa using hl) (by omega) (fun i z hz => hx (i + 1) z hz) (by omega)
    refine ⟨(a, b), ?_, by simp only [List.map_cons, Rows.uptoBulkAll]; omega⟩
    have hea : (e a).length = P.cellsOf x.type := by
      have := h1.1
      rw [List.length_take, List.length_drop] at this
      omega
    refine VDs.append ?_ ?_
    · rw [hea]; exact h1
    · rw [hea, List.drop_drop]; exact h3
theorem Dec.struct {α : Type} {e : α → List D} {sz : α → Nat} {t f : Nat} {fs : Array Field} (ht : P.underlying t = some (.struct fs)) (hc : P.cellsOf t = (fs.toList.map fun x => P.cellsOf x.type).sum) (r : FDec enc P W 0 fs.toList e sz f) : Dec enc P W e (fun a => sz a + 1) t (f + 1) := fun m hm cs y h hb => by
  obtain ⟨xs, n, hn, hx, hl, hxl, hf⟩ := DataW.trod_struct ht h
  rw [hx, Rows.uptoBulk] at hb
  obtain ⟨a, h1, h2⟩ := r n (by omega) cs xs (by simpa using hxl) (by rw [hl, hc, Nat.zero_add]) (fun i z hz => hf i z (by rw [← Array.getElem?_toList]; exact hz)) (by omega)
  exact ⟨a, by simpa using h1, by rw [hx, Rows.uptoBulk]; dsimp only; omega⟩
theorem Dec.map {α β : Type} {e : α → List D} {e' : β → List D} {sz : α → Nat} {sz' : β → Nat} {t f : Nat} (g : α → β) (he : ∀ a, e' (g a) = e a) (hs : ∀ a, sz' (g a) ≤ sz a) (d : Dec enc P W e sz t f) : Dec enc P W e' sz' t f := fun m hm cs y h hb => by
  obtain ⟨a, h1, h2⟩ := d m hm cs y h hb
  exact ⟨g a, by rw [he]; exact h1, Nat.le_trans (hs a) h2⟩
theorem Dec.zero {α : Type} {e : α → List D} {sz : α → Nat} {t : Nat} : Dec enc P W e sz t 0 := fun m hm cs y h _ => by
  obtain rfl : m = 0 := by omega
  simp [DataW.trod] at h
/-- an argument -/
theorem Dec.open_ {α : Type} {e : α → List D} {sz : α → Nat} {t : Nat} {v : Value} {d : DataW H} {p : List MemPlace} (hd : ∀ f, Dec enc P W e sz t f) (h : DataW.Trod enc P W 0 (fun _ => true) true t v d p) (ht : Tiny d) : ∃ a : α, VDs (frzW W) (e a) v.cells.toList ∧ sz a ≤ 1048576 := by
  obtain ⟨fuel, h⟩ := h
  obtain ⟨a, h1, h2⟩ := hd fuel fuel (Nat.le_refl _) _ _ h ht.le
  exact ⟨a, h1, Nat.le_trans h2 ht.le⟩
end
/-- a law's walk, run in a world -/
theorem law_calls {P : Program} {T : Tbl} {W : World} {f : FuncId} {args : List AV} {vs : Array Value} (c : PC P T f args (.d (.bool true))) (hT : ∀ g j x, (T g)[j]? = some x → ∃ u, frzW W g j = some u ∧ VD (frzW W) x u) (ha : SlR (gh0 W (frzW W)) args vs) :
    Calls P f vs W fun e W' => e = .returned (.bool true) ∧ Below W.heap.size W W' :=
  (c.run (frzW W) W vs (fun _ _ _ h => h) hT ha).mono fun e W' ⟨v, F', he, hb, _, _, _, hv⟩ => ⟨by cases hv with | d hd => rw [he, hd.bool_inv], hb⟩
end Go.Proofs.YtnoboapafndnlaaDoor
