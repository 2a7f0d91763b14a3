/- PgraphWrong: cases, run by the kernel. -/
import Derived.Test.YtheojbhaajbecaaGreatDoorPgraphWrongBase
set_option maxRecDepth 100000
namespace Go.Proofs.YtheojbhaajbecaaGreatDoor.XCodeP
open Go Go.X Go.RowKit
theorem cPgraphWrong0x0 [Nu] : isTrue (run ((callN (orcPgraphWrong 0 0 1) code 90).call 4 [.sym .i64 0, .sym .i64 1]) h0) = true := by kernel_rfl
theorem cPgraphWrong2x0 [Nu] : isTrue (run ((callN (orcPgraphWrong 2 0 2) code 90).call 4 [.sym .i64 0, .sym .i64 1]) h0) = true := by kernel_rfl
theorem cPgraphWrong3x0 [Nu] : isTrue (run ((callN (orcPgraphWrong 3 0 3) code 90).call 4 [.sym .i64 0, .sym .i64 1]) h0) = true := by kernel_rfl
theorem cPgraphWrong3x2 [Nu] : isTrue (run ((callN (orcPgraphWrong 3 2 3) code 90).call 4 [.sym .i64 0, .sym .i64 1]) h0) = true := by kernel_rfl
theorem cPgraphWrong4x1 [Nu] : isTrue (run ((callN (orcPgraphWrong 4 1 4) code 90).call 4 [.sym .i64 0, .sym .i64 1]) h0) = true := by kernel_rfl
theorem cPgraphWrong4x3 [Nu] : isTrue (run ((callN (orcPgraphWrong 4 3 4) code 90).call 4 [.sym .i64 0, .sym .i64 1]) h0) = true := by kernel_rfl
theorem cPgraphWrong5x1 [Nu] : isTrue (run ((callN (orcPgraphWrong 5 1 5) code 90).call 4 [.sym .i64 0, .sym .i64 1]) h0) = true := by kernel_rfl
theorem cPgraphWrong5x3 [Nu] : isTrue (run ((callN (orcPgraphWrong 5 3 5) code 90).call 4 [.sym .i64 0, .sym .i64 1]) h0) = true := by kernel_rfl
end Go.Proofs.YtheojbhaajbecaaGreatDoor.XCodeP
