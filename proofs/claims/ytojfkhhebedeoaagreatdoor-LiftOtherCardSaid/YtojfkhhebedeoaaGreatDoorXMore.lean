/- A verified executor, part 29: more rows' reckonings. -/
import Derived.Test.YtojfkhhebedeoaaGreatDoorXRow
set_option linter.unusedVariables false
set_option linter.unusedSimpArgs false
set_option linter.unusedSectionVars false
namespace Go.X
open Go.RowKit
variable [Nu]

theorem arith_neq (a b : Int) : arith .neq .i64 a b = some (.bool (decide (a ≠ b))) := by
  show some (V.bool (Bool.not (ieq a b))) = _
  rw [ieq_eq]
  congr 2
  by_cases h : a = b <;> simp [h]
theorem arith_geq (a b : Int) : arith .geq .i64 a b = some (.bool (decide (a ≥ b))) := by
  show some (V.bool (Bool.not (ilt a b))) = _
  rw [ilt_eq]
  congr 2
  by_cases h : a < b
  · simp [h]
  · simp [h]; omega
theorem arith_leq (a b : Int) : arith .leq .i64 a b = some (.bool (decide (a ≤ b))) := by
  show some (V.bool (Bool.not (ilt b a))) = _
  rw [ilt_eq]
  congr 2
  by_cases h : b < a
  · simp [h]
  · simp [h]; omega
theorem arith_gtr (a b : Int) : arith .gtr .i64 a b = some (.bool (decide (a > b))) := by
  show some (V.bool (ilt b a)) = _
  rw [ilt_eq]
theorem arith_mul (a b : Int) : arith .mul .i64 a b = some (.int .i64 (IntKind.i64.wrap (a * b))) := by
  show some (V.int .i64 (wrap64 (imul a b))) = _
  rw [wrap64_eq, imul_eq]
end Go.X
