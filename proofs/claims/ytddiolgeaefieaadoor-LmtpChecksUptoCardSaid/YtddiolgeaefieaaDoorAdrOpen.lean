/- Addresses as arguments. -/
import Derived.Test.YtddiolgeaefieaaDoorWho3
import Derived.Test.YtddiolgeaefieaaDoorTiny
import Derived.Test.YtddiolgeaefieaaDoorOpenF
namespace Go.Proofs.YtddiolgeaefieaaDoor
open Go.RowKit
set_option linter.unusedSimpArgs false
set_option linter.unusedVariables false
open Go.ChangeShapes Go.WideShapes Go.ChangeAt
theorem text_size {H : Type} {s : ByteArray} (h : Tiny (.lit (.string s.data.toList) : DataW H)) : s.size ≤ 1048576 := by
  rw [Lib.size_eq]
  exact h.text
theorem adrOk_of {H : Type} {l d : ByteArray} (h1 : Tiny (.lit (.string l.data.toList) : DataW H)) (h2 : Tiny (.lit (.string d.data.toList) : DataW H)) : AdrOk ⟨l, d⟩ := ⟨text_size h1, text_size h2⟩
set_option maxRecDepth 100000 in
theorem trod_adr {H : Type} {enc : TypeId × Value → H} {W : World} {fuel : Nat} {cs : List Value} {y : DataW H × List MemPlace} (h : DataW.trod enc Tryd.prog W 0 (fun _ => true) true fuel 23 cs = some y) (ht : Tiny y.1) :
    ∃ a : Adr, cs = [.string a.l, .string a.d] ∧ AdrOk a := by
  obtain ⟨xs, n, hy, hx, hlen, hxl, hf⟩ := DataW.trod_struct Tryd.underlying23 h
  rw [show Tryd.prog.cellsOf 23 = 2 by kernel_rfl] at hlen
  have hc9 : Tryd.prog.cellsOf 9 = 1 := by kernel_rfl
  match cs, hlen, xs, hxl with
  | [a0, a1], _, [x0, x1], _ =>
    have f0 := hf 0 _ rfl
    have f1 := hf 1 _ rfl
    simp [hc9] at f0 f1
    obtain ⟨s0, e0, q0, _⟩ := DataW.trod_string Tryd.underlying9 f0
    obtain ⟨s1, e1, q1, _⟩ := DataW.trod_string Tryd.underlying9 f1
    simp only [List.cons.injEq, and_true] at e0 e1
    subst e0 e1
    rw [hx] at ht
    simp only [List.map_cons, List.map_nil] at ht
    have t0 := ht.part (j := 0) rfl
    have t1 := ht.part (j := 1) rfl
    rw [q0] at t0
    rw [q1] at t1
    exact ⟨⟨s0, s1⟩, rfl, adrOk_of t0 t1⟩
set_option maxRecDepth 100000 in
theorem open_adr {H : Type} {enc : TypeId × Value → H} {W : World} {base : Nat} {v : Value} {d : DataW H} {p : List MemPlace} (k : Value.okWide Tryd.prog W .any base 23 v) (h : DataW.Trod enc Tryd.prog W 0 (fun _ => true) true 23 v d p) (ht : Tiny d) :
    ∃ a : Adr, v = a.val ∧ AdrOk a := by
  obtain ⟨cs, rfl, hsz⟩ := okWide_struct Tryd.underlying23 k
  obtain ⟨fuel, h⟩ := h
  obtain ⟨a, e, hz⟩ := trod_adr h ht
  refine ⟨a, ?_, hz⟩
  have : cs.toList = [.string a.l, .string a.d] := by simpa [Value.cells] using e
  rw [← Array.toArray_toList (xs := cs), this]
  rfl
end Go.Proofs.YtddiolgeaefieaaDoor
