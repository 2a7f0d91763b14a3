/- EnumThreads returns true at every input: its way through the program. -/
import Derived.Test.YtheojbhaajbecaaGreatEnumThreadsC0
import Derived.Test.YtheojbhaajbecaaGreatEnumThreadsC1
import Derived.Test.YtheojbhaajbecaaGreatEnumThreadsC2
import Derived.Test.YtheojbhaajbecaaGreatEnumThreadsC3
import Derived.Test.YtheojbhaajbecaaGreatEnumThreadsC4
import Derived.Test.YtheojbhaajbecaaGreatEnumThreadsC5
set_option maxRecDepth 100000
namespace Go.Proofs.YtheojbhaajbecaaGreat.XCodeN
open Go Go.X Go.RowKit
theorem walkEnumThreads_0x0 (a0 : Int) (a1 : Int) (a2 : Int) (w : World) (e0 : a0 % 4 = 0) (e1 : a1 % 3 = 0) : Calls Tryz.prog 5 #[.int .i64 a0, .int .i64 a1, .int .i64 a2] w fun e w' => e = .returned (.bool true) ∧ Below w.heap.size w w' := by
  have h : a2 % 3 = 0 ∨ a2 % 3 = 1 ∨ a2 % 3 = 2 := by omega
  rcases h with h | h | h
  · exact caseEnumThreads a0 a1 a2 _ _ _ w e0 e1 h cEnumThreads0x0x0
  · exact caseEnumThreads a0 a1 a2 _ _ _ w e0 e1 h cEnumThreads0x0x1
  · exact caseEnumThreads a0 a1 a2 _ _ _ w e0 e1 h cEnumThreads0x0x2
theorem walkEnumThreads_0x1 (a0 : Int) (a1 : Int) (a2 : Int) (w : World) (e0 : a0 % 4 = 0) (e1 : a1 % 3 = 1) : Calls Tryz.prog 5 #[.int .i64 a0, .int .i64 a1, .int .i64 a2] w fun e w' => e = .returned (.bool true) ∧ Below w.heap.size w w' := by
  have h : a2 % 3 = 0 ∨ a2 % 3 = 1 ∨ a2 % 3 = 2 := by omega
  rcases h with h | h | h
  · exact caseEnumThreads a0 a1 a2 _ _ _ w e0 e1 h cEnumThreads0x1x0
  · exact caseEnumThreads a0 a1 a2 _ _ _ w e0 e1 h cEnumThreads0x1x1
  · exact caseEnumThreads a0 a1 a2 _ _ _ w e0 e1 h cEnumThreads0x1x2
theorem walkEnumThreads_0x2 (a0 : Int) (a1 : Int) (a2 : Int) (w : World) (e0 : a0 % 4 = 0) (e1 : a1 % 3 = 2) : Calls Tryz.prog 5 #[.int .i64 a0, .int .i64 a1, .int .i64 a2] w fun e w' => e = .returned (.bool true) ∧ Below w.heap.size w w' := by
  have h : a2 % 3 = 0 ∨ a2 % 3 = 1 ∨ a2 % 3 = 2 := by omega
  rcases h with h | h | h
  · exact caseEnumThreads a0 a1 a2 _ _ _ w e0 e1 h cEnumThreads0x2x0
  · exact caseEnumThreads a0 a1 a2 _ _ _ w e0 e1 h cEnumThreads0x2x1
  · exact caseEnumThreads a0 a1 a2 _ _ _ w e0 e1 h cEnumThreads0x2x2
theorem walkEnumThreads_0 (a0 : Int) (a1 : Int) (a2 : Int) (w : World) (e0 : a0 % 4 = 0) : Calls Tryz.prog 5 #[.int .i64 a0, .int .i64 a1, .int .i64 a2] w fun e w' => e = .returned (.bool true) ∧ Below w.heap.size w w' := by
  have h : a1 % 3 = 0 ∨ a1 % 3 = 1 ∨ a1 % 3 = 2 := by omega
  rcases h with h | h | h
  · exact walkEnumThreads_0x0 a0 a1 a2 w e0 h
  · exact walkEnumThreads_0x1 a0 a1 a2 w e0 h
  · exact walkEnumThreads_0x2 a0 a1 a2 w e0 h
theorem walkEnumThreads_1x0 (a0 : Int) (a1 : Int) (a2 : Int) (w : World) (e0 : a0 % 4 = 1) (e1 : a1 % 3 = 0) : Calls Tryz.prog 5 #[.int .i64 a0, .int .i64 a1, .int .i64 a2] w fun e w' => e = .returned (.bool true) ∧ Below w.heap.size w w' := by
  have h : a2 % 3 = 0 ∨ a2 % 3 = 1 ∨ a2 % 3 = 2 := by omega
  rcases h with h | h | h
  · exact caseEnumThreads a0 a1 a2 _ _ _ w e0 e1 h cEnumThreads1x0x0
  · exact caseEnumThreads a0 a1 a2 _ _ _ w e0 e1 h cEnumThreads1x0x1
  · exact caseEnumThreads a0 a1 a2 _ _ _ w e0 e1 h cEnumThreads1x0x2
theorem walkEnumThreads_1x1 (a0 : Int) (a1 : Int) (a2 : Int) (w : World) (e0 : a0 % 4 = 1) (e1 : a1 % 3 = 1) : Calls Tryz.prog 5 #[.int .i64 a0, .int .i64 a1, .int .i64 a2] w fun e w' => e = .returned (.bool true) ∧ Below w.heap.size w w' := by
  have h : a2 % 3 = 0 ∨ a2 % 3 = 1 ∨ a2 % 3 = 2 := by omega
  rcases h with h | h | h
  · exact caseEnumThreads a0 a1 a2 _ _ _ w e0 e1 h cEnumThreads1x1x0
  · exact caseEnumThreads a0 a1 a2 _ _ _ w e0 e1 h cEnumThreads1x1x1
  · exact caseEnumThreads a0 a1 a2 _ _ _ w e0 e1 h cEnumThreads1x1x2
theorem walkEnumThreads_1x2 (a0 : Int) (a1 : Int) (a2 : Int) (w : World) (e0 : a0 % 4 = 1) (e1 : a1 % 3 = 2) : Calls Tryz.prog 5 #[.int .i64 a0, .int .i64 a1, .int .i64 a2] w fun e w' => e = .returned (.bool true) ∧ Below w.heap.size w w' := by
  have h : a2 % 3 = 0 ∨ a2 % 3 = 1 ∨ a2 % 3 = 2 := by omega
  rcases h with h | h | h
  · exact caseEnumThreads a0 a1 a2 _ _ _ w e0 e1 h cEnumThreads1x2x0
  · exact caseEnumThreads a0 a1 a2 _ _ _ w e0 e1 h cEnumThreads1x2x1
  · exact caseEnumThreads a0 a1 a2 _ _ _ w e0 e1 h cEnumThreads1x2x2
theorem walkEnumThreads_1 (a0 : Int) (a1 : Int) (a2 : Int) (w : World) (e0 : a0 % 4 = 1) : Calls Tryz.prog 5 #[.int .i64 a0, .int .i64 a1, .int .i64 a2] w fun e w' => e = .returned (.bool true) ∧ Below w.heap.size w w' := by
  have h : a1 % 3 = 0 ∨ a1 % 3 = 1 ∨ a1 % 3 = 2 := by omega
  rcases h with h | h | h
  · exact walkEnumThreads_1x0 a0 a1 a2 w e0 h
  · exact walkEnumThreads_1x1 a0 a1 a2 w e0 h
  · exact walkEnumThreads_1x2 a0 a1 a2 w e0 h
theorem walkEnumThreads_2x0 (a0 : Int) (a1 : Int) (a2 : Int) (w : World) (e0 : a0 % 4 = 2) (e1 : a1 % 3 = 0) : Calls Tryz.prog 5 #[.int .i64 a0, .int .i64 a1, .int .i64 a2] w fun e w' => e = .returned (.bool true) ∧ Below w.heap.size w w' := by
  have h : a2 % 3 = 0 ∨ a2 % 3 = 1 ∨ a2 % 3 = 2 := by omega
  rcases h with h | h | h
  · exact caseEnumThreads a0 a1 a2 _ _ _ w e0 e1 h cEnumThreads2x0x0
  · exact caseEnumThreads a0 a1 a2 _ _ _ w e0 e1 h cEnumThreads2x0x1
  · exact caseEnumThreads a0 a1 a2 _ _ _ w e0 e1 h cEnumThreads2x0x2
theorem walkEnumThreads_2x1 (a0 : Int) (a1 : Int) (a2 : Int) (w : World) (e0 : a0 % 4 = 2) (e1 : a1 % 3 = 1) : Calls Tryz.prog 5 #[.int .i64 a0, .int .i64 a1, .int .i64 a2] w fun e w' => e = .returned (.bool true) ∧ Below w.heap.size w w' := by
  have h : a2 % 3 = 0 ∨ a2 % 3 = 1 ∨ a2 % 3 = 2 := by omega
  rcases h with h | h | h
  · exact caseEnumThreads a0 a1 a2 _ _ _ w e0 e1 h cEnumThreads2x1x0
  · exact caseEnumThreads a0 a1 a2 _ _ _ w e0 e1 h cEnumThreads2x1x1
  · exact caseEnumThreads a0 a1 a2 _ _ _ w e0 e1 h cEnumThreads2x1x2
theorem walkEnumThreads_2x2 (a0 : Int) (a1 : Int) (a2 : Int) (w : World) (e0 : a0 % 4 = 2) (e1 : a1 % 3 = 2) : Calls Tryz.prog 5 #[.int .i64 a0, .int .i64 a1, .int .i64 a2] w fun e w' => e = .returned (.bool true) ∧ Below w.heap.size w w' := by
  have h : a2 % 3 = 0 ∨ a2 % 3 = 1 ∨ a2 % 3 = 2 := by omega
  rcases h with h | h | h
  · exact caseEnumThreads a0 a1 a2 _ _ _ w e0 e1 h cEnumThreads2x2x0
  · exact caseEnumThreads a0 a1 a2 _ _ _ w e0 e1 h cEnumThreads2x2x1
  · exact caseEnumThreads a0 a1 a2 _ _ _ w e0 e1 h cEnumThreads2x2x2
theorem walkEnumThreads_2 (a0 : Int) (a1 : Int) (a2 : Int) (w : World) (e0 : a0 % 4 = 2) : Calls Tryz.prog 5 #[.int .i64 a0, .int .i64 a1, .int .i64 a2] w fun e w' => e = .returned (.bool true) ∧ Below w.heap.size w w' := by
  have h : a1 % 3 = 0 ∨ a1 % 3 = 1 ∨ a1 % 3 = 2 := by omega
  rcases h with h | h | h
  · exact walkEnumThreads_2x0 a0 a1 a2 w e0 h
  · exact walkEnumThreads_2x1 a0 a1 a2 w e0 h
  · exact walkEnumThreads_2x2 a0 a1 a2 w e0 h
theorem walkEnumThreads_3x0 (a0 : Int) (a1 : Int) (a2 : Int) (w : World) (e0 : a0 % 4 = 3) (e1 : a1 % 3 = 0) : Calls Tryz.prog 5 #[.int .i64 a0, .int .i64 a1, .int .i64 a2] w fun e w' => e = .returned (.bool true) ∧ Below w.heap.size w w' := by
  have h : a2 % 3 = 0 ∨ a2 % 3 = 1 ∨ a2 % 3 = 2 := by omega
  rcases h with h | h | h
  · exact caseEnumThreads a0 a1 a2 _ _ _ w e0 e1 h cEnumThreads3x0x0
  · exact caseEnumThreads a0 a1 a2 _ _ _ w e0 e1 h cEnumThreads3x0x1
  · exact caseEnumThreads a0 a1 a2 _ _ _ w e0 e1 h cEnumThreads3x0x2
theorem walkEnumThreads_3x1 (a0 : Int) (a1 : Int) (a2 : Int) (w : World) (e0 : a0 % 4 = 3) (e1 : a1 % 3 = 1) : Calls Tryz.prog 5 #[.int .i64 a0, .int .i64 a1, .int .i64 a2] w fun e w' => e = .returned (.bool true) ∧ Below w.heap.size w w' := by
  have h : a2 % 3 = 0 ∨ a2 % 3 = 1 ∨ a2 % 3 = 2 := by omega
  rcases h with h | h | h
  · exact caseEnumThreads a0 a1 a2 _ _ _ w e0 e1 h cEnumThreads3x1x0
  · exact caseEnumThreads a0 a1 a2 _ _ _ w e0 e1 h cEnumThreads3x1x1
  · exact caseEnumThreads a0 a1 a2 _ _ _ w e0 e1 h cEnumThreads3x1x2
theorem walkEnumThreads_3x2 (a0 : Int) (a1 : Int) (a2 : Int) (w : World) (e0 : a0 % 4 = 3) (e1 : a1 % 3 = 2) : Calls Tryz.prog 5 #[.int .i64 a0, .int .i64 a1, .int .i64 a2] w fun e w' => e = .returned (.bool true) ∧ Below w.heap.size w w' := by
  have h : a2 % 3 = 0 ∨ a2 % 3 = 1 ∨ a2 % 3 = 2 := by omega
  rcases h with h | h | h
  · exact caseEnumThreads a0 a1 a2 _ _ _ w e0 e1 h cEnumThreads3x2x0
  · exact caseEnumThreads a0 a1 a2 _ _ _ w e0 e1 h cEnumThreads3x2x1
  · exact caseEnumThreadsK a0 a1 a2 _ _ _ w [rowEnumThreads_0] (fun M h => (allC (rowEnumThreads_0_ok M h) all0)) e0 e1 h cEnumThreads3x2x2
theorem walkEnumThreads_3 (a0 : Int) (a1 : Int) (a2 : Int) (w : World) (e0 : a0 % 4 = 3) : Calls Tryz.prog 5 #[.int .i64 a0, .int .i64 a1, .int .i64 a2] w fun e w' => e = .returned (.bool true) ∧ Below w.heap.size w w' := by
  have h : a1 % 3 = 0 ∨ a1 % 3 = 1 ∨ a1 % 3 = 2 := by omega
  rcases h with h | h | h
  · exact walkEnumThreads_3x0 a0 a1 a2 w e0 h
  · exact walkEnumThreads_3x1 a0 a1 a2 w e0 h
  · exact walkEnumThreads_3x2 a0 a1 a2 w e0 h
theorem walkEnumThreads (a0 : Int) (a1 : Int) (a2 : Int) (w : World)  : Calls Tryz.prog 5 #[.int .i64 a0, .int .i64 a1, .int .i64 a2] w fun e w' => e = .returned (.bool true) ∧ Below w.heap.size w w' := by
  have h : a0 % 4 = 0 ∨ a0 % 4 = 1 ∨ a0 % 4 = 2 ∨ a0 % 4 = 3 := by omega
  rcases h with h | h | h | h
  · exact walkEnumThreads_0 a0 a1 a2 w  h
  · exact walkEnumThreads_1 a0 a1 a2 w  h
  · exact walkEnumThreads_2 a0 a1 a2 w  h
  · exact walkEnumThreads_3 a0 a1 a2 w  h
end Go.Proofs.YtheojbhaajbecaaGreat.XCodeN
