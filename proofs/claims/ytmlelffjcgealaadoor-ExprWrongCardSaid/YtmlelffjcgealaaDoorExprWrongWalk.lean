/- ExprWrong returns true at every input: its way through the program. -/
import Derived.Test.YtmlelffjcgealaaDoorExprWrongC0
set_option maxRecDepth 100000
namespace Go.Proofs.YtmlelffjcgealaaDoor.XCodeE
open Go Go.X Go.RowKit
theorem walkExprWrong_0 (a0 a1 : Int) (w : World) (hL : LibVars w) (e0 : a0 % 8 = 0) : Calls Tryd.prog 4 #[.int .i64 a0, .int .i64 a1] w fun e w' => e = .returned (.bool true) ∧ Below w.heap.size w w' := by
  have h : a1 % 4 = 0 ∨ a1 % 4 = 1 ∨ a1 % 4 = 2 ∨ a1 % 4 = 3 := by omega
  rcases h with h | h | h | h
  · exact caseExprWrong a0 a1 _ _ w hL e0 h cExprWrong0x0
  · exact caseExprWrong a0 a1 _ _ w hL e0 h cExprWrong0x1
  · exact caseExprWrong a0 a1 _ _ w hL e0 h cExprWrong0x2
  · exact caseExprWrong a0 a1 _ _ w hL e0 h cExprWrong0x3
theorem walkExprWrong_1 (a0 a1 : Int) (w : World) (hL : LibVars w) (e0 : a0 % 8 = 1) : Calls Tryd.prog 4 #[.int .i64 a0, .int .i64 a1] w fun e w' => e = .returned (.bool true) ∧ Below w.heap.size w w' := by
  have h : a1 % 4 = 0 ∨ a1 % 4 = 1 ∨ a1 % 4 = 2 ∨ a1 % 4 = 3 := by omega
  rcases h with h | h | h | h
  · exact caseExprWrong a0 a1 _ _ w hL e0 h cExprWrong1x0
  · exact caseExprWrong a0 a1 _ _ w hL e0 h cExprWrong1x1
  · exact caseExprWrong a0 a1 _ _ w hL e0 h cExprWrong1x2
  · exact caseExprWrong a0 a1 _ _ w hL e0 h cExprWrong1x3
theorem walkExprWrong_2 (a0 a1 : Int) (w : World) (hL : LibVars w) (e0 : a0 % 8 = 2) : Calls Tryd.prog 4 #[.int .i64 a0, .int .i64 a1] w fun e w' => e = .returned (.bool true) ∧ Below w.heap.size w w' := by
  have h : a1 % 4 = 0 ∨ a1 % 4 = 1 ∨ a1 % 4 = 2 ∨ a1 % 4 = 3 := by omega
  rcases h with h | h | h | h
  · exact caseExprWrong a0 a1 _ _ w hL e0 h cExprWrong2x0
  · exact caseExprWrong a0 a1 _ _ w hL e0 h cExprWrong2x1
  · exact caseExprWrong a0 a1 _ _ w hL e0 h cExprWrong2x2
  · exact caseExprWrong a0 a1 _ _ w hL e0 h cExprWrong2x3
theorem walkExprWrong_3 (a0 a1 : Int) (w : World) (hL : LibVars w) (e0 : a0 % 8 = 3) : Calls Tryd.prog 4 #[.int .i64 a0, .int .i64 a1] w fun e w' => e = .returned (.bool true) ∧ Below w.heap.size w w' := by
  have h : a1 % 4 = 0 ∨ a1 % 4 = 1 ∨ a1 % 4 = 2 ∨ a1 % 4 = 3 := by omega
  rcases h with h | h | h | h
  · exact caseExprWrong a0 a1 _ _ w hL e0 h cExprWrong3x0
  · exact caseExprWrong a0 a1 _ _ w hL e0 h cExprWrong3x1
  · exact caseExprWrong a0 a1 _ _ w hL e0 h cExprWrong3x2
  · exact caseExprWrong a0 a1 _ _ w hL e0 h cExprWrong3x3
theorem walkExprWrong_4 (a0 a1 : Int) (w : World) (hL : LibVars w) (e0 : a0 % 8 = 4) : Calls Tryd.prog 4 #[.int .i64 a0, .int .i64 a1] w fun e w' => e = .returned (.bool true) ∧ Below w.heap.size w w' := by
  have h : a1 % 4 = 0 ∨ a1 % 4 = 1 ∨ a1 % 4 = 2 ∨ a1 % 4 = 3 := by omega
  rcases h with h | h | h | h
  · exact caseExprWrong a0 a1 _ _ w hL e0 h cExprWrong4x0
  · exact caseExprWrong a0 a1 _ _ w hL e0 h cExprWrong4x1
  · exact caseExprWrong a0 a1 _ _ w hL e0 h cExprWrong4x2
  · exact caseExprWrong a0 a1 _ _ w hL e0 h cExprWrong4x3
theorem walkExprWrong_5 (a0 a1 : Int) (w : World) (hL : LibVars w) (e0 : a0 % 8 = 5) : Calls Tryd.prog 4 #[.int .i64 a0, .int .i64 a1] w fun e w' => e = .returned (.bool true) ∧ Below w.heap.size w w' := by
  have h : a1 % 4 = 0 ∨ a1 % 4 = 1 ∨ a1 % 4 = 2 ∨ a1 % 4 = 3 := by omega
  rcases h with h | h | h | h
  · exact caseExprWrong a0 a1 _ _ w hL e0 h cExprWrong5x0
  · exact caseExprWrong a0 a1 _ _ w hL e0 h cExprWrong5x1
  · exact caseExprWrong a0 a1 _ _ w hL e0 h cExprWrong5x2
  · exact caseExprWrong a0 a1 _ _ w hL e0 h cExprWrong5x3
theorem walkExprWrong_6 (a0 a1 : Int) (w : World) (hL : LibVars w) (e0 : a0 % 8 = 6) : Calls Tryd.prog 4 #[.int .i64 a0, .int .i64 a1] w fun e w' => e = .returned (.bool true) ∧ Below w.heap.size w w' := by
  have h : a1 % 4 = 0 ∨ a1 % 4 = 1 ∨ a1 % 4 = 2 ∨ a1 % 4 = 3 := by omega
  rcases h with h | h | h | h
  · exact caseExprWrong a0 a1 _ _ w hL e0 h cExprWrong6x0
  · exact caseExprWrong a0 a1 _ _ w hL e0 h cExprWrong6x1
  · exact caseExprWrong a0 a1 _ _ w hL e0 h cExprWrong6x2
  · exact caseExprWrong a0 a1 _ _ w hL e0 h cExprWrong6x3
theorem walkExprWrong_7 (a0 a1 : Int) (w : World) (hL : LibVars w) (e0 : a0 % 8 = 7) : Calls Tryd.prog 4 #[.int .i64 a0, .int .i64 a1] w fun e w' => e = .returned (.bool true) ∧ Below w.heap.size w w' := by
  have h : a1 % 4 = 0 ∨ a1 % 4 = 1 ∨ a1 % 4 = 2 ∨ a1 % 4 = 3 := by omega
  rcases h with h | h | h | h
  · exact caseExprWrong a0 a1 _ _ w hL e0 h cExprWrong7x0
  · exact caseExprWrong a0 a1 _ _ w hL e0 h cExprWrong7x1
  · exact caseExprWrong a0 a1 _ _ w hL e0 h cExprWrong7x2
  · exact caseExprWrong a0 a1 _ _ w hL e0 h cExprWrong7x3
theorem walkExprWrong (a0 a1 : Int) (w : World) (hL : LibVars w)  : Calls Tryd.prog 4 #[.int .i64 a0, .int .i64 a1] w fun e w' => e = .returned (.bool true) ∧ Below w.heap.size w w' := by
  have h : a0 % 8 = 0 ∨ a0 % 8 = 1 ∨ a0 % 8 = 2 ∨ a0 % 8 = 3 ∨ a0 % 8 = 4 ∨ a0 % 8 = 5 ∨ a0 % 8 = 6 ∨ a0 % 8 = 7 := by omega
  rcases h with h | h | h | h | h | h | h | h
  · exact walkExprWrong_0 a0 a1 w hL  h
  · exact walkExprWrong_1 a0 a1 w hL  h
  · exact walkExprWrong_2 a0 a1 w hL  h
  · exact walkExprWrong_3 a0 a1 w hL  h
  · exact walkExprWrong_4 a0 a1 w hL  h
  · exact walkExprWrong_5 a0 a1 w hL  h
  · exact walkExprWrong_6 a0 a1 w hL  h
  · exact walkExprWrong_7 a0 a1 w hL  h
end Go.Proofs.YtmlelffjcgealaaDoor.XCodeE
