/- A world that holds the listed tables: for the witness of a card. -/
import Derived.Test.YtnoboapafndnlaaDoorBase
import Derived.ProofKit
import Derived.Deep.DeepHandedRow
namespace Go.Proofs.YtnoboapafndnlaaDoor
open Go.RowKit
set_option linter.unusedSimpArgs false
set_option linter.unusedVariables false
/-- the cells of a table of letters, numbers and texts -/
def flatC : Nat → DataW Unit → List Value
  | 0, _ => []
  | n + 1, .lit (.int k i) => [.int k i]
  | n + 1, .lit (.bool b) => [.bool b]
  | n + 1, .lit (.string l) => [.string ⟨l.toArray⟩]
  | n + 1, .agg ds => ds.flatMap (flatC n)
  | n + 1, _ => []
def layAt (w : World) (g : Nat) (d : DataW Unit) : World :=
  { w with heap := w.heap.modify g fun
      | .cells _ t frozen => .cells (flatC 4 d).toArray t frozen
      | o => o }
end Go.Proofs.YtnoboapafndnlaaDoor
