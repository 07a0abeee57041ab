/- Texts that the laws rest on, packed. -/
import Derived.Test.YthpkjmbdjnelfaaDoorGD
import Derived.Test.YthpkjmbdjnelfaaDoorShelfS
namespace Go.Proofs.YthpkjmbdjnelfaaDoor
open Go.RowKit
set_option linter.unusedSimpArgs false
set_option linter.unusedVariables false
/-- the library's word on long texts is some number -/
def Lib0 (w : World) : Prop := 4 < w.heap.size ∧ ∃ m : Int, w.cell? ⟨4, 0, none⟩ = some (.int .i64 m)
theorem Lib0.below {w w' : World} (h : Lib0 w) (hb : Below w.heap.size w w') : Lib0 w' := by
  obtain ⟨h1, m, h2⟩ := h
  exact ⟨Nat.lt_of_lt_of_le h1 hb.size, m, (hb.cell (p := ⟨4, 0, none⟩) h1).trans h2⟩
theorem Lib0.to {w w' : World} {B : Nat} (h : Lib0 w) (hb : Below B w w') (hB : w.heap.size ≤ B) : Lib0 w' := h.below (hb.mono hB)
theorem Lib0.drewN {w : World} (h : Lib0 w) (d : Nat) : Lib0 (w.drewN d) := h
theorem Lib0.open_ {w : World} (h : w.ShapedOpen Tryd.prog) : Lib0 w := by
  obtain ⟨m, hm⟩ := Tryd.laysM144.s1_3 w h
  exact ⟨World.block_lt_of_cell? w ⟨4, 0, none⟩ hm, m, hm⟩
end Go.Proofs.YthpkjmbdjnelfaaDoor
