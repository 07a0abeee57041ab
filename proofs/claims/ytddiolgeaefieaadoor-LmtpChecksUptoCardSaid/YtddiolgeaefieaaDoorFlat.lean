/- Slices of flat structs (no part of them leads into memory). -/
import Derived.Test.YtddiolgeaefieaaDoorMem
namespace Go.Proofs.YtddiolgeaefieaaDoor
open Go.RowKit
set_option linter.unusedSimpArgs false
set_option linter.unusedVariables false
/-- how a thing lies in cells -/
structure Flat (α : Type) where
  k : Nat
  enc : α → List Value
  len : ∀ x, (enc x).length = k
  one : ∀ x, ∀ u ∈ enc x, u.oneCell' = true
  pos : 0 < k

section
variable {α : Type} (E : Flat α)
theorem Flat.length (l : List α) : (l.flatMap E.enc).length = l.length * E.k := by
  induction l with
  | nil => simp
  | cons x l ih => rw [List.flatMap_cons, List.length_append, ih, E.len, List.length_cons, Nat.succ_mul, Nat.add_comm]
theorem Flat.ones (l : List α) : ∀ u ∈ l.flatMap E.enc, u.oneCell' = true := by
  intro u hu
  obtain ⟨x, _, hx⟩ := List.mem_flatMap.1 hu
  exact E.one x u hx
theorem Flat.at_ (l : List α) {i : Nat} {x : α} (hx : l[i]? = some x) {j : Nat} (hj : j < E.k) : (l.flatMap E.enc)[i * E.k + j]? = (E.enc x)[j]? := by
  induction l generalizing i with
  | nil => simp at hx
  | cons y l ih =>
    rw [List.flatMap_cons]
    cases i with
    | zero =>
      simp only [List.getElem?_cons_zero, Option.some.injEq] at hx
      subst hx
      rw [Nat.zero_mul, Nat.zero_add, List.getElem?_append_left (by rw [E.len]; exact hj)]
    | succ i =>
      rw [List.getElem?_cons_succ] at hx
      rw [List.getElem?_append_right (by rw [E.len, Nat.succ_mul]; omega), E.len]
      rw [show (i + 1) * E.k + j - E.k = i * E.k + j by rw [Nat.succ_mul]; omega]
      exact ih hx
end

/-- a slice of flat things reads -/
def RF {α : Type} (E : Flat α) (w : World) (D : Nat → Prop) (v : Value) (l : List α) : Prop :=
  ∃ A c, v = .slice A l.length c ∧ l.length ≤ c ∧ c ≤ maxLen ∧ (A = none → c = 0) ∧ Sl w D E.k A l.length (l.flatMap E.enc)
section
variable {α : Type} {E : Flat α} {w w' : World} {D D' : Nat → Prop} {v : Value} {l : List α} {A : Option Addr} {n c : Nat}
theorem RF.keep (h : RF E w D v l) (hk : Keeps D w w') : RF E w' D v l := by
  obtain ⟨A, c, h1, h2, h3, h4, h5⟩ := h
  exact ⟨A, c, h1, h2, h3, h4, h5.keep hk⟩
theorem RF.mono (h : RF E w D v l) (hk : ∀ b, D b → D' b) : RF E w D' v l := by
  obtain ⟨A, c, h1, h2, h3, h4, h5⟩ := h
  exact ⟨A, c, h1, h2, h3, h4, h5.mono hk⟩
theorem RF.is : IsRep (RF E) := ⟨fun h k => RF.keep h k, fun h k => RF.mono h k⟩
theorem RF.ex (h : RF E w D v l) : ∃ A c, v = .slice A l.length c ∧ RF E w D (.slice A l.length c) l := by
  have h' := h
  obtain ⟨A, c, rfl, _⟩ := h
  exact ⟨A, c, rfl, h'⟩
theorem RF.bound (h : RF E w D v l) : l.length ≤ maxLen := by
  obtain ⟨A, c, rfl, h1, h2, _⟩ := h
  omega
theorem RF.cap (h : RF E w D (.slice A n c) l) : n = l.length ∧ l.length ≤ c ∧ c ≤ maxLen ∧ (A = none → c = 0) := by
  obtain ⟨A', c0, h1, h2, h3, h4, h5⟩ := h
  injection h1 with e1 e2 e3
  subst e1 e3
  exact ⟨e2, h2, h3, h4⟩
theorem RF.sl (h : RF E w D (.slice A n c) l) : Sl w D E.k A n (l.flatMap E.enc) := by
  obtain ⟨A', c0, h1, h2, h3, h4, h5⟩ := h
  injection h1 with e1 e2 e3
  subst e1 e2
  exact h5
theorem RF.nil : RF E w D (.slice none 0 0) [] := ⟨none, 0, rfl, by simp, by decide, fun _ => rfl, Sl.nil _ _ _ _⟩
theorem RF.of_own {base : Nat} {e : TypeId} (hn : n = l.length) (h : w.ownsRow base e E.k v n (l.flatMap E.enc)) : RF E w (fun b => base ≤ b ∧ b < w.heap.size) v l := by
  subst hn
  obtain ⟨A, c, rfl, h1, h2⟩ := own_form h
  refine ⟨A, c, rfl, h1, h2, ?_, Sl.of_own h⟩
  intro hA
  rcases h.2 with ⟨hv, _⟩ | ⟨g, cap, cur, hv, _⟩
  · injection hv
  · injection hv with h1; rw [hA] at h1; cases h1
/-- the cells of an element -/
theorem RF.at_ (h : RF E w D (.slice A n c) l) {i : Nat} (hi : i < n) : ∃ b off x, A = some ⟨b, off, none⟩ ∧ D b ∧ l[i]? = some x ∧ ∀ j u, (E.enc x)[j]? = some u → w.cell? ⟨b, off + (i * E.k + j), none⟩ = some u := by
  have hl := h.cap.1
  have hx : l[i]? = some l[i] := List.getElem?_eq_getElem (by omega)
  obtain ⟨b, off, e, hb, hc⟩ := h.sl.2 (by omega)
  refine ⟨b, off, l[i], e, hb, hx, fun j u hu => hc _ u ?_⟩
  have hj : j < E.k := by rw [← E.len l[i]]; exact (List.getElem?_eq_some_iff.1 hu).1
  rw [E.at_ l hx hj]
  exact hu
end
end Go.Proofs.YtddiolgeaefieaaDoor
