/- A verified executor, part 29: more rows' reckonings. -/
import Derived.Test.YtmlelffjcgealaaXRow
set_option linter.unusedVariables false
set_option linter.unusedSimpArgs false
set_option linter.unusedSectionVars false
namespace Go.X
open Go.RowKit
variable [Nu]

theorem arith_neq (a b : Int) : arith .neq .i64 a b = some (.bool (decide (a ≠ b))) := by
  show some (V.bool (Bool.not (ieq a b))) = _
  rw [ieq_eq]
  congr 2
  by_cases h : a = b <;> simp [h]
end Go.X
