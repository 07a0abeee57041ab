/- Texts that the law LetterParses rests on, packed. -/
import Derived.Test.YthhfbolhlbgbgaaDoorGM
import Derived.Test.YthhfbolhlbgbgaaDoorGX
import Derived.Test.YthhfbolhlbgbgaaDoorGD
namespace Go.Proofs.YthhfbolhlbgbgaaDoor
open Go.RowKit Go.ChangeShapes Go.WideShapes Go.ChangeAt
set_option linter.unusedSimpArgs false
set_option linter.unusedVariables false
open Go.ChangeShapes Go.WideShapes Go.ChangeAt
open Go.ChangeMaps (open_string)
set_option maxRecDepth 20000
theorem letterParses_run {H : Type} {enc : TypeId × Value → H} (W : World) (base : Nat) (v0 : Value) (d0 : DataW H) (p0 : List MemPlace)
    (k0 : Value.okWide Tryd.prog W .any base 9 v0) (h0 : DataW.Trod enc Tryd.prog W 0 (fun _ => true) true 9 v0 d0 p0) (s0 : Small Tryd.prog 9 d0)
    (hL : laidMetH Tryd.prog Rows.letterParsesRow.laid W) (hsh : W.ShapedOpen Tryd.prog) :
    Calls Tryd.prog 9 #[v0] W fun e W' => e = .returned (.bool true) ∧ Below W.heap.size W W' := by
  obtain ⟨s, rfl, rfl, rfl, hs⟩ := open_string Tryd.underlying9 k0 h0
  obtain ⟨_, m, hm⟩ := Lib0.open_ hsh
  refine law_calls (T := libT m) (letterParses_c (libT m) (libT_lib m) s.data.toList) (libT_ok hm) ⟨rfl, fun i x hx => ?_⟩
  match i, hx with
  | 0, hx =>
    simp at hx
    subst hx
    exact ⟨_, rfl, .d (.str s hs)⟩
  | i + 1, hx => simp at hx
end Go.Proofs.YthhfbolhlbgbgaaDoor
