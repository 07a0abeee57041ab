/- Texts that the laws rest on, packed. -/
import Derived.Test.YthpkjmbdjnelfaaDoorGB
namespace Go.Proofs.YthpkjmbdjnelfaaDoor
open Go.RowKit
set_option linter.unusedSimpArgs false
set_option linter.unusedVariables false
section
variable {P : Program} {T : Tbl} {G : Gh} {f : FuncId}
/-- a call that writes nothing that was there, and whose result holds no memory -/
theorem PC.old {args : List AV} {r : AV} (hcall : ∀ az w, (callFunc f az).run P w = .ok (.enter f az) w)
    (H : ∀ (F : Frz) (w : World) (vs : Array Value), (∀ b o u, F b o = some u → w.cell? ⟨b, o, none⟩ = some u) → (∀ g j x, (T g)[j]? = some x → ∃ u, F g j = some u ∧ VD F x u) → SlR (gh0 w F) args vs → Calls P f vs w fun e w' => ∃ v, e = .returned v ∧ Below w.heap.size w w' ∧ VR (gh0 w F) r v) : PC P T f args r := by
  refine ⟨hcall, fun F w vs hF hT R => (H F w vs hF hT R).mono ?_⟩
  rintro e w' ⟨v, rfl, hb, hv⟩
  refine ⟨v, F, rfl, hb, fun _ _ _ e => e, fun _ _ _ e => .inl e, fun b o u e => ?_, hv⟩
  have h1 := hF b o u e
  have hlt : b < w.heap.size := World.block_lt_of_cell? (w := w) (a := ⟨b, o, none⟩) h1
  rw [← h1]
  exact World.cell?_of_block (w := w) (a := ⟨b, o, none⟩) (hb.block b hlt)
theorem slr1 {a : AV} {vs : Array Value} (R : SlR G [a] vs) : ∃ v, vs = #[v] ∧ VR G a v := by
  obtain ⟨h1, h2⟩ := R
  obtain ⟨v, h3, h4⟩ := h2 0 a rfl
  refine ⟨v, ?_, h4⟩
  apply Array.ext_getElem?
  intro i
  cases i with
  | zero => simpa using h3
  | succ i => rw [Array.getElem?_eq_none (by rw [h1]; simp), Array.getElem?_eq_none (by simp)]
theorem slr3 {a b c : AV} {vs : Array Value} (R : SlR G [a, b, c] vs) : ∃ v u x, vs = #[v, u, x] ∧ VR G a v ∧ VR G b u ∧ VR G c x := by
  obtain ⟨h1, h2⟩ := R
  obtain ⟨v, h3, h4⟩ := h2 0 a rfl
  obtain ⟨u, h5, h6⟩ := h2 1 b rfl
  obtain ⟨x, h7, h8⟩ := h2 2 c rfl
  refine ⟨v, u, x, ?_, h4, h6, h8⟩
  apply Array.ext_getElem?
  intro i
  match i with
  | 0 => simpa using h3
  | 1 => simpa using h5
  | 2 => simpa using h7
  | i + 3 => rw [Array.getElem?_eq_none (by rw [h1]; simp), Array.getElem?_eq_none (by simp)]
theorem VR.agg_inv {l : List AV} {v : Value} (h : VR G (.agg l) v) : ∃ vs : Array Value, v = .agg vs ∧ SlR G l vs := by
  cases h with
  | agg _ vs hl h =>
    refine ⟨vs.toArray, rfl, by simpa using hl, fun i a e => ?_⟩
    have hi : i < vs.length := by rw [hl]; exact (List.getElem?_eq_some_iff.1 e).1
    exact ⟨vs[i], by simp [hi], h i a _ e (List.getElem?_eq_getElem hi)⟩
end
end Go.Proofs.YthpkjmbdjnelfaaDoor
