/- BehaveFences returns true at every input: its way through the program. -/
import Derived.Test.YtheojbhaajbecaaGreatBehaveFencesC0
set_option maxRecDepth 100000
namespace Go.Proofs.YtheojbhaajbecaaGreat.XCodeB
open Go Go.X Go.RowKit
theorem walkBehaveFences_0 (a0 : Int) (a1 : Int) (w : World) (e0 : a0 % 3 = 0) : Calls Tryz.prog 7 #[.int .i64 a0, .int .i64 a1] w fun e w' => e = .returned (.bool true) ∧ Below w.heap.size w w' := by
  have h : a1 % 4 = 0 ∨ a1 % 4 = 1 ∨ a1 % 4 = 2 ∨ a1 % 4 = 3 := by omega
  rcases h with h | h | h | h
  · exact caseBehaveFencesK a0 a1 _ _ w [rowBehaveFences_0] (fun M h => (allC (rowBehaveFences_0_ok M h) all0)) e0 h cBehaveFences0x0
  · exact caseBehaveFencesK a0 a1 _ _ w [rowBehaveFences_1] (fun M h => (allC (rowBehaveFences_1_ok M h) all0)) e0 h cBehaveFences0x1
  · exact caseBehaveFencesK a0 a1 _ _ w [rowBehaveFences_2] (fun M h => (allC (rowBehaveFences_2_ok M h) all0)) e0 h cBehaveFences0x2
  · exact caseBehaveFencesK a0 a1 _ _ w [rowBehaveFences_3] (fun M h => (allC (rowBehaveFences_3_ok M h) all0)) e0 h cBehaveFences0x3
theorem walkBehaveFences_1 (a0 : Int) (a1 : Int) (w : World) (e0 : a0 % 3 = 1) : Calls Tryz.prog 7 #[.int .i64 a0, .int .i64 a1] w fun e w' => e = .returned (.bool true) ∧ Below w.heap.size w w' := by
  have h : a1 % 4 = 0 ∨ a1 % 4 = 1 ∨ a1 % 4 = 2 ∨ a1 % 4 = 3 := by omega
  rcases h with h | h | h | h
  · exact caseBehaveFencesK a0 a1 _ _ w [rowBehaveFences_4] (fun M h => (allC (rowBehaveFences_4_ok M h) all0)) e0 h cBehaveFences1x0
  · exact caseBehaveFencesK a0 a1 _ _ w [rowBehaveFences_5] (fun M h => (allC (rowBehaveFences_5_ok M h) all0)) e0 h cBehaveFences1x1
  · exact caseBehaveFencesK a0 a1 _ _ w [rowBehaveFences_6] (fun M h => (allC (rowBehaveFences_6_ok M h) all0)) e0 h cBehaveFences1x2
  · exact caseBehaveFencesK a0 a1 _ _ w [rowBehaveFences_7] (fun M h => (allC (rowBehaveFences_7_ok M h) all0)) e0 h cBehaveFences1x3
theorem walkBehaveFences_2 (a0 : Int) (a1 : Int) (w : World) (e0 : a0 % 3 = 2) : Calls Tryz.prog 7 #[.int .i64 a0, .int .i64 a1] w fun e w' => e = .returned (.bool true) ∧ Below w.heap.size w w' := by
  have h : a1 % 4 = 0 ∨ a1 % 4 = 1 ∨ a1 % 4 = 2 ∨ a1 % 4 = 3 := by omega
  rcases h with h | h | h | h
  · exact caseBehaveFencesK a0 a1 _ _ w [rowBehaveFences_8] (fun M h => (allC (rowBehaveFences_8_ok M h) all0)) e0 h cBehaveFences2x0
  · exact caseBehaveFencesK a0 a1 _ _ w [rowBehaveFences_9] (fun M h => (allC (rowBehaveFences_9_ok M h) all0)) e0 h cBehaveFences2x1
  · exact caseBehaveFencesK a0 a1 _ _ w [rowBehaveFences_10] (fun M h => (allC (rowBehaveFences_10_ok M h) all0)) e0 h cBehaveFences2x2
  · exact caseBehaveFencesK a0 a1 _ _ w [rowBehaveFences_11] (fun M h => (allC (rowBehaveFences_11_ok M h) all0)) e0 h cBehaveFences2x3
theorem walkBehaveFences (a0 : Int) (a1 : Int) (w : World)  : Calls Tryz.prog 7 #[.int .i64 a0, .int .i64 a1] w fun e w' => e = .returned (.bool true) ∧ Below w.heap.size w w' := by
  have h : a0 % 3 = 0 ∨ a0 % 3 = 1 ∨ a0 % 3 = 2 := by omega
  rcases h with h | h | h
  · exact walkBehaveFences_0 a0 a1 w  h
  · exact walkBehaveFences_1 a0 a1 w  h
  · exact walkBehaveFences_2 a0 a1 w  h
end Go.Proofs.YtheojbhaajbecaaGreat.XCodeB
