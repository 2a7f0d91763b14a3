/- GenCounts: cases, run by the kernel. -/
import Derived.Test.YtaoobghobcikdaaGenCountsBase
set_option maxRecDepth 100000
namespace Go.Proofs.Ytaoobghobcikdaa.XCodeG
open Go Go.X Go.RowKit
theorem cGenCounts1x0x0 [Nu] : isTrue (run ((callN (orcGenCounts 1 0 0 2) code 90).call 4 [.sym .i64 0, .sym .i64 1, .sym .i64 2]) h0) = true := by kernel_rfl
theorem cGenCounts1x4x0 [Nu] : isTrue (run ((callN (orcGenCounts 1 4 0 2) code 90).call 4 [.sym .i64 0, .sym .i64 1, .sym .i64 2]) h0) = true := by kernel_rfl
theorem cGenCounts1x6x0 [Nu] : isTrue (run ((callN (orcGenCounts 1 6 0 2) code 90).call 4 [.sym .i64 0, .sym .i64 1, .sym .i64 2]) h0) = true := by kernel_rfl
theorem cGenCounts2x0x2 [Nu] : isTrue (run ((callN (orcGenCounts 2 0 2 3) code 90).call 4 [.sym .i64 0, .sym .i64 1, .sym .i64 2]) h0) = true := by kernel_rfl
theorem cGenCounts2x1x1 [Nu] : isTrue (run ((callN (orcGenCounts 2 1 1 3) code 90).call 4 [.sym .i64 0, .sym .i64 1, .sym .i64 2]) h0) = true := by kernel_rfl
theorem cGenCounts2x2x1 [Nu] : isTrue (run ((callN (orcGenCounts 2 2 1 3) code 90).call 4 [.sym .i64 0, .sym .i64 1, .sym .i64 2]) h0) = true := by kernel_rfl
theorem cGenCounts2x3x2 [Nu] : isTrue (run ((callN (orcGenCounts 2 3 2 3) code 90).call 4 [.sym .i64 0, .sym .i64 1, .sym .i64 2]) h0) = true := by kernel_rfl
theorem cGenCounts2x5x1 [Nu] : isTrue (run ((callN (orcGenCounts 2 5 1 3) code 90).call 4 [.sym .i64 0, .sym .i64 1, .sym .i64 2]) h0) = true := by kernel_rfl
theorem cGenCounts2x6x0 [Nu] : isTrue (run ((callN (orcGenCounts 2 6 0 3) code 90).call 4 [.sym .i64 0, .sym .i64 1, .sym .i64 2]) h0) = true := by kernel_rfl
theorem cGenCounts3x1x1 [Nu] : isTrue (run ((callN (orcGenCounts 3 1 1 4) code 90).call 4 [.sym .i64 0, .sym .i64 1, .sym .i64 2]) h0) = true := by kernel_rfl
theorem cGenCounts3x3x1 [Nu] : isTrue (run ((callN (orcGenCounts 3 3 1 4) code 90).call 4 [.sym .i64 0, .sym .i64 1, .sym .i64 2]) h0) = true := by kernel_rfl
theorem cGenCounts3x5x1 [Nu] : isTrue (run ((callN (orcGenCounts 3 5 1 4) code 90).call 4 [.sym .i64 0, .sym .i64 1, .sym .i64 2]) h0) = true := by kernel_rfl
theorem cGenCounts3x6x0 [Nu] : isTrue (run ((callN (orcGenCounts 3 6 0 4) code 90).call 4 [.sym .i64 0, .sym .i64 1, .sym .i64 2]) h0) = true := by kernel_rfl
theorem cGenCounts3x6x3 [Nu] : isTrue (run ((callN (orcGenCounts 3 6 3 4) code 90).call 4 [.sym .i64 0, .sym .i64 1, .sym .i64 2]) h0) = true := by kernel_rfl
theorem cGenCounts3x8x3 [Nu] : isTrue (run ((callN (orcGenCounts 3 8 3 4) code 90).call 4 [.sym .i64 0, .sym .i64 1, .sym .i64 2]) h0) = true := by kernel_rfl
end Go.Proofs.Ytaoobghobcikdaa.XCodeG
