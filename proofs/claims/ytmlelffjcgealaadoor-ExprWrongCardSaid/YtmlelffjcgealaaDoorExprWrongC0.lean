/- ExprWrong: cases, run by the kernel. -/
import Derived.Test.YtmlelffjcgealaaDoorExprWrongBase
set_option maxRecDepth 100000
namespace Go.Proofs.YtmlelffjcgealaaDoor.XCodeE
open Go Go.X Go.RowKit
theorem cExprWrong0x0 [Nu] : isTrue (run ((callN (orcExprWrong 0 0) code 60).call 4 [.sym .i64 0, .sym .i64 1]) h0) = true := by kernel_rfl
theorem cExprWrong0x1 [Nu] : isTrue (run ((callN (orcExprWrong 0 1) code 60).call 4 [.sym .i64 0, .sym .i64 1]) h0) = true := by kernel_rfl
theorem cExprWrong0x2 [Nu] : isTrue (run ((callN (orcExprWrong 0 2) code 60).call 4 [.sym .i64 0, .sym .i64 1]) h0) = true := by kernel_rfl
theorem cExprWrong0x3 [Nu] : isTrue (run ((callN (orcExprWrong 0 3) code 60).call 4 [.sym .i64 0, .sym .i64 1]) h0) = true := by kernel_rfl
theorem cExprWrong1x0 [Nu] : isTrue (run ((callN (orcExprWrong 1 0) code 60).call 4 [.sym .i64 0, .sym .i64 1]) h0) = true := by kernel_rfl
theorem cExprWrong1x1 [Nu] : isTrue (run ((callN (orcExprWrong 1 1) code 60).call 4 [.sym .i64 0, .sym .i64 1]) h0) = true := by kernel_rfl
theorem cExprWrong1x2 [Nu] : isTrue (run ((callN (orcExprWrong 1 2) code 60).call 4 [.sym .i64 0, .sym .i64 1]) h0) = true := by kernel_rfl
theorem cExprWrong1x3 [Nu] : isTrue (run ((callN (orcExprWrong 1 3) code 60).call 4 [.sym .i64 0, .sym .i64 1]) h0) = true := by kernel_rfl
theorem cExprWrong2x0 [Nu] : isTrue (run ((callN (orcExprWrong 2 0) code 60).call 4 [.sym .i64 0, .sym .i64 1]) h0) = true := by kernel_rfl
theorem cExprWrong2x1 [Nu] : isTrue (run ((callN (orcExprWrong 2 1) code 60).call 4 [.sym .i64 0, .sym .i64 1]) h0) = true := by kernel_rfl
theorem cExprWrong2x2 [Nu] : isTrue (run ((callN (orcExprWrong 2 2) code 60).call 4 [.sym .i64 0, .sym .i64 1]) h0) = true := by kernel_rfl
theorem cExprWrong2x3 [Nu] : isTrue (run ((callN (orcExprWrong 2 3) code 60).call 4 [.sym .i64 0, .sym .i64 1]) h0) = true := by kernel_rfl
theorem cExprWrong3x0 [Nu] : isTrue (run ((callN (orcExprWrong 3 0) code 60).call 4 [.sym .i64 0, .sym .i64 1]) h0) = true := by kernel_rfl
theorem cExprWrong3x1 [Nu] : isTrue (run ((callN (orcExprWrong 3 1) code 60).call 4 [.sym .i64 0, .sym .i64 1]) h0) = true := by kernel_rfl
theorem cExprWrong3x2 [Nu] : isTrue (run ((callN (orcExprWrong 3 2) code 60).call 4 [.sym .i64 0, .sym .i64 1]) h0) = true := by kernel_rfl
theorem cExprWrong3x3 [Nu] : isTrue (run ((callN (orcExprWrong 3 3) code 60).call 4 [.sym .i64 0, .sym .i64 1]) h0) = true := by kernel_rfl
theorem cExprWrong4x0 [Nu] : isTrue (run ((callN (orcExprWrong 4 0) code 60).call 4 [.sym .i64 0, .sym .i64 1]) h0) = true := by kernel_rfl
theorem cExprWrong4x1 [Nu] : isTrue (run ((callN (orcExprWrong 4 1) code 60).call 4 [.sym .i64 0, .sym .i64 1]) h0) = true := by kernel_rfl
theorem cExprWrong4x2 [Nu] : isTrue (run ((callN (orcExprWrong 4 2) code 60).call 4 [.sym .i64 0, .sym .i64 1]) h0) = true := by kernel_rfl
theorem cExprWrong4x3 [Nu] : isTrue (run ((callN (orcExprWrong 4 3) code 60).call 4 [.sym .i64 0, .sym .i64 1]) h0) = true := by kernel_rfl
theorem cExprWrong5x0 [Nu] : isTrue (run ((callN (orcExprWrong 5 0) code 60).call 4 [.sym .i64 0, .sym .i64 1]) h0) = true := by kernel_rfl
theorem cExprWrong5x1 [Nu] : isTrue (run ((callN (orcExprWrong 5 1) code 60).call 4 [.sym .i64 0, .sym .i64 1]) h0) = true := by kernel_rfl
theorem cExprWrong5x2 [Nu] : isTrue (run ((callN (orcExprWrong 5 2) code 60).call 4 [.sym .i64 0, .sym .i64 1]) h0) = true := by kernel_rfl
theorem cExprWrong5x3 [Nu] : isTrue (run ((callN (orcExprWrong 5 3) code 60).call 4 [.sym .i64 0, .sym .i64 1]) h0) = true := by kernel_rfl
theorem cExprWrong6x0 [Nu] : isTrue (run ((callN (orcExprWrong 6 0) code 60).call 4 [.sym .i64 0, .sym .i64 1]) h0) = true := by kernel_rfl
theorem cExprWrong6x1 [Nu] : isTrue (run ((callN (orcExprWrong 6 1) code 60).call 4 [.sym .i64 0, .sym .i64 1]) h0) = true := by kernel_rfl
theorem cExprWrong6x2 [Nu] : isTrue (run ((callN (orcExprWrong 6 2) code 60).call 4 [.sym .i64 0, .sym .i64 1]) h0) = true := by kernel_rfl
theorem cExprWrong6x3 [Nu] : isTrue (run ((callN (orcExprWrong 6 3) code 60).call 4 [.sym .i64 0, .sym .i64 1]) h0) = true := by kernel_rfl
theorem cExprWrong7x0 [Nu] : isTrue (run ((callN (orcExprWrong 7 0) code 60).call 4 [.sym .i64 0, .sym .i64 1]) h0) = true := by kernel_rfl
theorem cExprWrong7x1 [Nu] : isTrue (run ((callN (orcExprWrong 7 1) code 60).call 4 [.sym .i64 0, .sym .i64 1]) h0) = true := by kernel_rfl
theorem cExprWrong7x2 [Nu] : isTrue (run ((callN (orcExprWrong 7 2) code 60).call 4 [.sym .i64 0, .sym .i64 1]) h0) = true := by kernel_rfl
theorem cExprWrong7x3 [Nu] : isTrue (run ((callN (orcExprWrong 7 3) code 60).call 4 [.sym .i64 0, .sym .i64 1]) h0) = true := by kernel_rfl
end Go.Proofs.YtmlelffjcgealaaDoor.XCodeE
