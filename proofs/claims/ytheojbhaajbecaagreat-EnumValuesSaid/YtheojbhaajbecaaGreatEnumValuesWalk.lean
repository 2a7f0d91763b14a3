/- EnumValues returns true at every input: its way through the program. -/
import Derived.Test.YtheojbhaajbecaaGreatEnumValuesC0
import Derived.Test.YtheojbhaajbecaaGreatEnumValuesC1
set_option maxRecDepth 100000
namespace Go.Proofs.YtheojbhaajbecaaGreat.XCodeN
open Go Go.X Go.RowKit
theorem walkEnumValues_0 (a0 : Int) (a1 : Int) (w : World) (e0 : a0 % 4 = 0) : Calls Tryz.prog 4 #[.int .i64 a0, .int .i64 a1] w fun e w' => e = .returned (.bool true) ∧ Below w.heap.size w w' := by
  have h : a1 % 5 = 0 ∨ a1 % 5 = 1 ∨ a1 % 5 = 2 ∨ a1 % 5 = 3 ∨ a1 % 5 = 4 := by omega
  rcases h with h | h | h | h | h
  · exact caseEnumValues a0 a1 _ _ w e0 h cEnumValues0x0
  · exact caseEnumValues a0 a1 _ _ w e0 h cEnumValues0x1
  · exact caseEnumValues a0 a1 _ _ w e0 h cEnumValues0x2
  · exact caseEnumValues a0 a1 _ _ w e0 h cEnumValues0x3
  · exact caseEnumValues a0 a1 _ _ w e0 h cEnumValues0x4
theorem walkEnumValues_1 (a0 : Int) (a1 : Int) (w : World) (e0 : a0 % 4 = 1) : Calls Tryz.prog 4 #[.int .i64 a0, .int .i64 a1] w fun e w' => e = .returned (.bool true) ∧ Below w.heap.size w w' := by
  have h : a1 % 5 = 0 ∨ a1 % 5 = 1 ∨ a1 % 5 = 2 ∨ a1 % 5 = 3 ∨ a1 % 5 = 4 := by omega
  rcases h with h | h | h | h | h
  · exact caseEnumValues a0 a1 _ _ w e0 h cEnumValues1x0
  · exact caseEnumValues a0 a1 _ _ w e0 h cEnumValues1x1
  · exact caseEnumValues a0 a1 _ _ w e0 h cEnumValues1x2
  · exact caseEnumValues a0 a1 _ _ w e0 h cEnumValues1x3
  · exact caseEnumValues a0 a1 _ _ w e0 h cEnumValues1x4
theorem walkEnumValues_2 (a0 : Int) (a1 : Int) (w : World) (e0 : a0 % 4 = 2) : Calls Tryz.prog 4 #[.int .i64 a0, .int .i64 a1] w fun e w' => e = .returned (.bool true) ∧ Below w.heap.size w w' := by
  have h : a1 % 5 = 0 ∨ a1 % 5 = 1 ∨ a1 % 5 = 2 ∨ a1 % 5 = 3 ∨ a1 % 5 = 4 := by omega
  rcases h with h | h | h | h | h
  · exact caseEnumValues a0 a1 _ _ w e0 h cEnumValues2x0
  · exact caseEnumValues a0 a1 _ _ w e0 h cEnumValues2x1
  · exact caseEnumValues a0 a1 _ _ w e0 h cEnumValues2x2
  · exact caseEnumValues a0 a1 _ _ w e0 h cEnumValues2x3
  · exact caseEnumValues a0 a1 _ _ w e0 h cEnumValues2x4
theorem walkEnumValues_3 (a0 : Int) (a1 : Int) (w : World) (e0 : a0 % 4 = 3) : Calls Tryz.prog 4 #[.int .i64 a0, .int .i64 a1] w fun e w' => e = .returned (.bool true) ∧ Below w.heap.size w w' := by
  have h : a1 % 5 = 0 ∨ a1 % 5 = 1 ∨ a1 % 5 = 2 ∨ a1 % 5 = 3 ∨ a1 % 5 = 4 := by omega
  rcases h with h | h | h | h | h
  · exact caseEnumValues a0 a1 _ _ w e0 h cEnumValues3x0
  · exact caseEnumValues a0 a1 _ _ w e0 h cEnumValues3x1
  · exact caseEnumValues a0 a1 _ _ w e0 h cEnumValues3x2
  · exact caseEnumValues a0 a1 _ _ w e0 h cEnumValues3x3
  · exact caseEnumValues a0 a1 _ _ w e0 h cEnumValues3x4
theorem walkEnumValues (a0 : Int) (a1 : Int) (w : World)  : Calls Tryz.prog 4 #[.int .i64 a0, .int .i64 a1] w fun e w' => e = .returned (.bool true) ∧ Below w.heap.size w w' := by
  have h : a0 % 4 = 0 ∨ a0 % 4 = 1 ∨ a0 % 4 = 2 ∨ a0 % 4 = 3 := by omega
  rcases h with h | h | h | h
  · exact walkEnumValues_0 a0 a1 w  h
  · exact walkEnumValues_1 a0 a1 w  h
  · exact walkEnumValues_2 a0 a1 w  h
  · exact walkEnumValues_3 a0 a1 w  h
end Go.Proofs.YtheojbhaajbecaaGreat.XCodeN
