/- The closed facts of the law TokenCuts: each checked apart, so that the kernel gives its memory back between them. -/
import Derived.Test.YtlfocommkkkgdaaDoorGD
import Derived.Deep.DeepHandedRow
import Derived.Test.YtlfocommkkkgdaaDoorRows
namespace Go.Proofs.YtlfocommkkkgdaaDoor.tokenCuts
open Go.RowKit Go.ChangeShapes Go.WideShapes Go.ChangeAt
theorem and_mk {a b : Bool} (ha : a = true) (hb : b = true) : (a && b) = true := by rw [ha, hb]; rfl
set_option maxHeartbeats 8000000 in
set_option maxRecDepth 100000 in
theorem closed : joinedFacts Tryd.checked.prog 4 Tryd.f4 (OpenSpec.ofChange Rows.tokenCutsSpec).bare Rows.tokenCutsRow = true := by
  unfold joinedFacts
  repeat' (with_reducible refine and_mk ?_ ?_)
  all_goals (as_aux_lemma => kernel_rfl)
end Go.Proofs.YtlfocommkkkgdaaDoor.tokenCuts
