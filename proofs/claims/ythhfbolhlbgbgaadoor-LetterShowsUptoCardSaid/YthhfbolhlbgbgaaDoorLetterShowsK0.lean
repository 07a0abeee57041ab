/- Texts that the law LetterShows rests on, packed. -/
import Derived.Test.YthhfbolhlbgbgaaDoorGR
import Derived.Test.YthhfbolhlbgbgaaDoorGD
namespace Go.Proofs.YthhfbolhlbgbgaaDoor
open Go.RowKit Go.ChangeShapes Go.WideShapes Go.ChangeAt
set_option linter.unusedSimpArgs false
set_option linter.unusedVariables false
open Go.ChangeShapes Go.WideShapes Go.ChangeAt
set_option maxRecDepth 100000
theorem letterShows_run {H : Type} {enc : TypeId × Value → H} (W : World) (base : Nat) (v0 : Value) (d0 : DataW H) (p0 : List MemPlace)
    (k0 : Value.okWide Tryd.prog W .any base 64 v0) (h0 : DataW.Trod enc Tryd.prog W 0 (fun _ => true) true 64 v0 d0 p0) (t0 : Tiny d0)
    (hL : laidMetH Tryd.prog Rows.letterShowsRow.laid W) (hsh : W.ShapedOpen Tryd.prog) :
    Calls Tryd.prog 11 #[v0] W fun e W' => e = .returned (.bool true) ∧ Below W.heap.size W W' := by
  obtain ⟨cs, rfl, hsz⟩ := okWide_struct Tryd.underlying64 k0
  obtain ⟨⟨l, t⟩, hx, hr⟩ := Dec.open_ dec_msg h0 t0
  dsimp only at hr
  have hx : VDs (frzW W) [.slc 2 (fldsD l), .str t] cs.toList := hx
  obtain ⟨_, m, hm⟩ := Lib0.open_ hsh
  refine law_calls (T := libT m) (letterShows_c (libT m) (libT_lib m) l t (msg_ok hr)) (libT_ok hm) ⟨rfl, fun i a ha => ?_⟩
  match i, ha with
  | 0, ha =>
    simp at ha
    subst ha
    exact ⟨_, rfl, hx.agg (G := gh0 W (frzW W))⟩
  | i + 1, ha => simp at ha
end Go.Proofs.YthhfbolhlbgbgaaDoor
