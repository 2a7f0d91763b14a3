/- The closed facts of the row of PgraphWrong. -/
import Derived.Test.YtheojbhaajbecaaGreatDoorXDoorP
import Derived.ChangeSlices
namespace Go.Proofs.YtheojbhaajbecaaGreatDoor
open Go.ChangeShapes Go.WideShapes Go.ChangeAt Go.RowKit
set_option maxHeartbeats 0 in
theorem pgraphWrong_closed : joinedFacts Tryz.pinned.checked.prog 4 Tryz.f4 Rows.pgraphWrongSpec Rows.pgraphWrongRow = true := by
  unfold joinedFacts
  simp only [Bool.and_eq_true]
  and_intros
  all_goals (as_aux_lemma => kernel_rfl)
end Go.Proofs.YtheojbhaajbecaaGreatDoor
