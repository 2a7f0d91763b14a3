/- The closed facts of the row of LiftOther. -/
import Derived.Test.YtojfkhhebedeoaaGreatDoorXDoorS
import Derived.ChangeSlices
namespace Go.Proofs.YtojfkhhebedeoaaGreatDoor
open Go.ChangeShapes Go.WideShapes Go.ChangeAt Go.RowKit
set_option maxHeartbeats 0 in
theorem liftOther_closed : joinedFacts Tryz.pinned.checked.prog 3 Tryz.f3 Rows.liftOtherSpec Rows.liftOtherRow = true := by
  unfold joinedFacts
  simp only [Bool.and_eq_true]
  and_intros
  all_goals (as_aux_lemma => kernel_rfl)
end Go.Proofs.YtojfkhhebedeoaaGreatDoor
