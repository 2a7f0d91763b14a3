/- PgraphWrong: cases, run by the kernel. -/
import Derived.Test.YtheojbhaajbecaaGreatDoorPgraphWrongBase
set_option maxRecDepth 100000
namespace Go.Proofs.YtheojbhaajbecaaGreatDoor.XCodeP
open Go Go.X Go.RowKit
theorem cPgraphWrong1x0 [Nu] : isTrue (run ((callN (orcPgraphWrong 1 0 1) code 90).call 4 [.sym .i64 0, .sym .i64 1]) h0) = true := by kernel_rfl
theorem cPgraphWrong2x1 [Nu] : isTrue (run ((callN (orcPgraphWrong 2 1 2) code 90).call 4 [.sym .i64 0, .sym .i64 1]) h0) = true := by kernel_rfl
theorem cPgraphWrong3x1 [Nu] : isTrue (run ((callN (orcPgraphWrong 3 1 3) code 90).call 4 [.sym .i64 0, .sym .i64 1]) h0) = true := by kernel_rfl
theorem cPgraphWrong4x0 [Nu] : isTrue (run ((callN (orcPgraphWrong 4 0 4) code 90).call 4 [.sym .i64 0, .sym .i64 1]) h0) = true := by kernel_rfl
theorem cPgraphWrong4x2 [Nu] : isTrue (run ((callN (orcPgraphWrong 4 2 4) code 90).call 4 [.sym .i64 0, .sym .i64 1]) h0) = true := by kernel_rfl
theorem cPgraphWrong5x0 [Nu] : isTrue (run ((callN (orcPgraphWrong 5 0 5) code 90).call 4 [.sym .i64 0, .sym .i64 1]) h0) = true := by kernel_rfl
theorem cPgraphWrong5x2 [Nu] : isTrue (run ((callN (orcPgraphWrong 5 2 5) code 90).call 4 [.sym .i64 0, .sym .i64 1]) h0) = true := by kernel_rfl
theorem cPgraphWrong5x4 [Nu] : isTrue (run ((callN (orcPgraphWrong 5 4 5) code 90).call 4 [.sym .i64 0, .sym .i64 1]) h0) = true := by kernel_rfl
end Go.Proofs.YtheojbhaajbecaaGreatDoor.XCodeP
