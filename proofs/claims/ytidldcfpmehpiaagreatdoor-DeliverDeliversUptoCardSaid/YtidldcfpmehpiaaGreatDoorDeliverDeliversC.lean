/- The closed facts of the law DeliverDelivers: each checked apart, so that the kernel gives its memory back between them. -/
import Derived.Test.YtidldcfpmehpiaaGreatDoorGD
import Derived.Deep.DeepHandedRow
import Derived.Test.YtidldcfpmehpiaaGreatDoorRows
namespace Go.Proofs.YtidldcfpmehpiaaGreatDoor.deliverDelivers
open Go.RowKit Go.ChangeShapes Go.WideShapes Go.ChangeAt
theorem and_mk {a b : Bool} (ha : a = true) (hb : b = true) : (a && b) = true := by rw [ha, hb]; rfl
set_option maxHeartbeats 8000000 in
set_option maxRecDepth 100000 in
theorem closed : joinedFacts Tryz.checked.prog 6 Tryz.f6 (Rows.OpenSpec.upto Rows.deliverDeliversSpec).bare Rows.deliverDeliversUptoRow = true := by
  unfold joinedFacts
  repeat' (with_reducible refine and_mk ?_ ?_)
  all_goals (as_aux_lemma => kernel_rfl)
end Go.Proofs.YtidldcfpmehpiaaGreatDoor.deliverDelivers
