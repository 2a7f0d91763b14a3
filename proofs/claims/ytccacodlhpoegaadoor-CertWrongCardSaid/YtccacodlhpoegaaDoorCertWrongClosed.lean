/- The closed facts of the row of CertWrong. -/
import Derived.Test.YtccacodlhpoegaaDoorXDoorL
import Derived.ChangeSlices
namespace Go.Proofs.YtccacodlhpoegaaDoor
open Go.ChangeShapes Go.WideShapes Go.ChangeAt Go.RowKit
set_option maxHeartbeats 0 in
theorem certWrong_closed : joinedFacts Tryd.pinned.checked.prog 3 Tryd.f3 Rows.certWrongSpec Rows.certWrongRow = true := by
  unfold joinedFacts
  simp only [Bool.and_eq_true]
  and_intros
  all_goals (as_aux_lemma => kernel_rfl)
end Go.Proofs.YtccacodlhpoegaaDoor
