/- Arguments that are slices of flat structs, opened. -/
import Derived.Test.YtddiolgeaefieaaDoorFlat
import Derived.Test.YtddiolgeaefieaaDoorRow
namespace Go.Proofs.YtddiolgeaefieaaDoor
open Go.RowKit Go.ChangeShapes Go.WideShapes Go.ChangeAt
set_option linter.unusedSimpArgs false
set_option linter.unusedVariables false
section
variable {H : Type} {enc : TypeId × Value → H} {P : Program} {W : World}
theorem add_add' (a : Addr) (i j : Nat) : (a.add i).add j = a.add (i + j) := by
  unfold Addr.add
  by_cases hi : i = 0 <;> by_cases hj : j = 0 <;> simp [hi, hj, Nat.add_assoc]
theorem add_plain (b off j : Nat) : (⟨b, off, none⟩ : Addr).add j = ⟨b, off + j, none⟩ := by
  unfold Addr.add
  split
  · subst_vars; simp
  · rfl

theorem open_flat {α : Type} (E : Flat α) {t e : TypeId} {B : Nat} {OK : α → Prop} (ht : P.underlying t = some (.slice e)) (hc : P.cellsOf e = E.k) (hB : P.bytesOf e = B)
    (hdec : ∀ (fuel : Nat) (cs : List Value) (x : DataW H × List MemPlace), DataW.trod enc P W 0 (fun _ => true) true fuel e cs = some x → Small P e x.1 → ∃ a, cs = E.enc a ∧ OK a)
    {fuel : Nat} {v : Value} {y : DataW H × List MemPlace} (h : DataW.trod enc P W 0 (fun _ => true) true fuel t [v] = some y) (hs : Small P t y.1) :
    ∃ l : List α, RF E W (· < W.heap.size) v l ∧ l.length * B ≤ 140737488355328 ∧ ∀ a ∈ l, OK a := by
  rcases DataW.trod_slice ht h with ⟨hv, hx⟩ | ⟨a, len, cap, elems, rest, n, _, hv, hx, _, hl, hm, hlen, hel, _, _⟩
  · injection hv with hv
    subst hv
    exact ⟨[], RF.nil, by simp, by simp⟩
  · injection hv with hv
    subst hv
    rw [hx] at hs
    have hr := Small.row ht hs
    rw [hB] at hr
    simp only [List.length_map] at hr
    have hone : ∀ i, i < len → ∃ x : α, OK x ∧ ∀ j u, (E.enc x)[j]? = some u → W.cell? (a.add (i * E.k + j)) = some u := by
      intro i hi
      have hi' : i < elems.length := by omega
      have hb := hel i hi
      rw [List.getElem?_eq_getElem hi', Option.bind_eq_some_iff] at hb
      obtain ⟨cs, hcs, htr⟩ := hb
      obtain ⟨x, rfl, ok⟩ := hdec _ _ _ htr (Small.elem ht hs (List.mem_map.2 ⟨elems[i], List.getElem_mem hi', rfl⟩))
      refine ⟨x, ok, fun j u hu => ?_⟩
      obtain ⟨_, _, hat⟩ := World.cells?_some hcs
      have hj : j < E.k := by rw [← E.len x]; exact (List.getElem?_eq_some_iff.1 hu).1
      have := hat j (by rw [hc]; exact hj)
      rw [add_add', hc] at this
      rw [this, hu]
    obtain ⟨l, hll, hlx⟩ : ∃ l : List α, l.length = len ∧ ∀ (i : Nat) (x : α), l[i]? = some x → OK x ∧ ∀ j u, (E.enc x)[j]? = some u → W.cell? (a.add (i * E.k + j)) = some u := by
      refine ⟨List.ofFn fun i : Fin len => Classical.choose (hone i.1 i.2), by simp, fun i x hx => ?_⟩
      have hi : i < len := by have := (List.getElem?_eq_some_iff.1 hx).1; simpa using this
      rw [List.getElem?_ofFn] at hx
      simp only [hi, dite_true, Option.some.injEq] at hx
      subst hx
      exact Classical.choose_spec (hone i hi)
    refine ⟨l, ⟨some a, cap, by rw [hll], by omega, hm, by simp, ⟨E.length l, fun hp => ?_⟩⟩, ?_, ?_⟩
    · have hp' : 0 < l.length := hp
      have hx0 : l[0]? = some l[0] := List.getElem?_eq_getElem hp'
      have hu0 : (E.enc l[0])[0]? = some ((E.enc l[0])[0]'(by rw [E.len]; exact E.pos)) := List.getElem?_eq_getElem _
      have h0 := (hlx 0 _ hx0).2 0 _ hu0
      rw [Nat.zero_mul, Nat.zero_add] at h0
      have hsp := World.cell?_spot h0
      have hbl := World.block_lt_of_cell? W _ h0
      obtain ⟨b, off, sp⟩ := a
      simp [Addr.add] at hsp hbl
      subst hsp
      refine ⟨b, off, rfl, hbl, fun j u hu => ?_⟩
      have hjl : j < l.length * E.k := by rw [← E.length l]; exact (List.getElem?_eq_some_iff.1 hu).1
      have hdm : j = (j / E.k) * E.k + j % E.k := by rw [Nat.mul_comm]; exact (Nat.div_add_mod j E.k).symm
      have hi : j / E.k < l.length := Nat.div_lt_of_lt_mul (by rw [Nat.mul_comm]; exact hjl)
      have hr' : j % E.k < E.k := Nat.mod_lt _ E.pos
      have hxi : l[j / E.k]? = some l[j / E.k] := List.getElem?_eq_getElem hi
      have hat := E.at_ l hxi hr'
      rw [← hdm, hu] at hat
      have := (hlx _ _ hxi).2 _ u hat.symm
      rw [← hdm, add_plain] at this
      exact this
    · rw [hll]
      have : len * B ≤ (elems.length + rest.length) * B := Nat.mul_le_mul_right _ (by omega)
      omega
    · intro x hx
      obtain ⟨i, hi, rfl⟩ := List.mem_iff_getElem.1 hx
      exact (hlx i _ (List.getElem?_eq_getElem hi)).1
theorem open_flatT {α : Type} (E : Flat α) {t e : TypeId} {OK : α → Prop} {Q Qe : DataW H → Prop} {N : Nat} (ht : P.underlying t = some (.slice e)) (hc : P.cellsOf e = E.k) (hQe : ∀ elems rest d, Q (.slice elems rest) → d ∈ elems → Qe d) (hQl : ∀ elems rest, Q (.slice elems rest) → elems.length ≤ N)
    (hdec : ∀ (fuel : Nat) (cs : List Value) (x : DataW H × List MemPlace), DataW.trod enc P W 0 (fun _ => true) true fuel e cs = some x → Qe x.1 → ∃ a, cs = E.enc a ∧ OK a)
    {fuel : Nat} {cs : List Value} {y : DataW H × List MemPlace} (h : DataW.trod enc P W 0 (fun _ => true) true fuel t cs = some y) (hs : Q y.1) :
    ∃ (v : Value) (l : List α), cs = [v] ∧ RF E W (· < W.heap.size) v l ∧ l.length ≤ N ∧ ∀ a ∈ l, OK a := by
  rcases DataW.trod_slice ht h with ⟨hv, hx⟩ | ⟨a, len, cap, elems, rest, n, _, hv, hx, _, hl, hm, hlen, hel, _, _⟩
  · exact ⟨.slice none 0 0, [], hv, RF.nil, by simp, by simp⟩
  · rw [hx] at hs
    have hr := hQl _ _ hs
    simp only [List.length_map] at hr
    have hone : ∀ i, i < len → ∃ x : α, OK x ∧ ∀ j u, (E.enc x)[j]? = some u → W.cell? (a.add (i * E.k + j)) = some u := by
      intro i hi
      have hi' : i < elems.length := by omega
      have hb := hel i hi
      rw [List.getElem?_eq_getElem hi', Option.bind_eq_some_iff] at hb
      obtain ⟨cs, hcs, htr⟩ := hb
      obtain ⟨x, rfl, ok⟩ := hdec _ _ _ htr (hQe _ _ _ hs (List.mem_map.2 ⟨elems[i], List.getElem_mem hi', rfl⟩))
      refine ⟨x, ok, fun j u hu => ?_⟩
      obtain ⟨_, _, hat⟩ := World.cells?_some hcs
      have hj : j < E.k := by rw [← E.len x]; exact (List.getElem?_eq_some_iff.1 hu).1
      have := hat j (by rw [hc]; exact hj)
      rw [add_add', hc] at this
      rw [this, hu]
    obtain ⟨l, hll, hlx⟩ : ∃ l : List α, l.length = len ∧ ∀ (i : Nat) (x : α), l[i]? = some x → OK x ∧ ∀ j u, (E.enc x)[j]? = some u → W.cell? (a.add (i * E.k + j)) = some u := by
      refine ⟨List.ofFn fun i : Fin len => Classical.choose (hone i.1 i.2), by simp, fun i x hx => ?_⟩
      have hi : i < len := by have := (List.getElem?_eq_some_iff.1 hx).1; simpa using this
      rw [List.getElem?_ofFn] at hx
      simp only [hi, dite_true, Option.some.injEq] at hx
      subst hx
      exact Classical.choose_spec (hone i hi)
    refine ⟨.slice (some a) len cap, l, hv, ⟨some a, cap, by rw [hll], by omega, hm, by simp, ⟨E.length l, fun hp => ?_⟩⟩, ?_, ?_⟩
    · have hp' : 0 < l.length := hp
      have hx0 : l[0]? = some l[0] := List.getElem?_eq_getElem hp'
      have hu0 : (E.enc l[0])[0]? = some ((E.enc l[0])[0]'(by rw [E.len]; exact E.pos)) := List.getElem?_eq_getElem _
      have h0 := (hlx 0 _ hx0).2 0 _ hu0
      rw [Nat.zero_mul, Nat.zero_add] at h0
      have hsp := World.cell?_spot h0
      have hbl := World.block_lt_of_cell? W _ h0
      obtain ⟨b, off, sp⟩ := a
      simp [Addr.add] at hsp hbl
      subst hsp
      refine ⟨b, off, rfl, hbl, fun j u hu => ?_⟩
      have hjl : j < l.length * E.k := by rw [← E.length l]; exact (List.getElem?_eq_some_iff.1 hu).1
      have hdm : j = (j / E.k) * E.k + j % E.k := by rw [Nat.mul_comm]; exact (Nat.div_add_mod j E.k).symm
      have hi : j / E.k < l.length := Nat.div_lt_of_lt_mul (by rw [Nat.mul_comm]; exact hjl)
      have hr' : j % E.k < E.k := Nat.mod_lt _ E.pos
      have hxi : l[j / E.k]? = some l[j / E.k] := List.getElem?_eq_getElem hi
      have hat := E.at_ l hxi hr'
      rw [← hdm, hu] at hat
      have := (hlx _ _ hxi).2 _ u hat.symm
      rw [← hdm, add_plain] at this
      exact this
    · rw [hll]; omega
    · intro x hx
      obtain ⟨i, hi, rfl⟩ := List.mem_iff_getElem.1 hx
      exact (hlx i _ (List.getElem?_eq_getElem hi)).1
end
end Go.Proofs.YtddiolgeaefieaaDoor
