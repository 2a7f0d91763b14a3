/- GenCounts: cases, run by the kernel. -/
import Derived.Test.YtaoobghobcikdaaGenCountsBase
set_option maxRecDepth 100000
namespace Go.Proofs.Ytaoobghobcikdaa.XCodeG
open Go Go.X Go.RowKit
theorem cGenCounts1x1x0 [Nu] : isTrue (run ((callN (orcGenCounts 1 1 0 2) code 90).call 4 [.sym .i64 0, .sym .i64 1, .sym .i64 2]) h0) = true := by kernel_rfl
theorem cGenCounts1x1x1 [Nu] : isTrue (run ((callN (orcGenCounts 1 1 1 2) code 90).call 4 [.sym .i64 0, .sym .i64 1, .sym .i64 2]) h0) = true := by kernel_rfl
theorem cGenCounts1x7x1 [Nu] : isTrue (run ((callN (orcGenCounts 1 7 1 2) code 90).call 4 [.sym .i64 0, .sym .i64 1, .sym .i64 2]) h0) = true := by kernel_rfl
theorem cGenCounts2x2x2 [Nu] : isTrue (run ((callN (orcGenCounts 2 2 2 3) code 90).call 4 [.sym .i64 0, .sym .i64 1, .sym .i64 2]) h0) = true := by kernel_rfl
theorem cGenCounts2x4x0 [Nu] : isTrue (run ((callN (orcGenCounts 2 4 0 3) code 90).call 4 [.sym .i64 0, .sym .i64 1, .sym .i64 2]) h0) = true := by kernel_rfl
theorem cGenCounts2x4x2 [Nu] : isTrue (run ((callN (orcGenCounts 2 4 2 3) code 90).call 4 [.sym .i64 0, .sym .i64 1, .sym .i64 2]) h0) = true := by kernel_rfl
theorem cGenCounts2x6x2 [Nu] : isTrue (run ((callN (orcGenCounts 2 6 2 3) code 90).call 4 [.sym .i64 0, .sym .i64 1, .sym .i64 2]) h0) = true := by kernel_rfl
theorem cGenCounts2x7x1 [Nu] : isTrue (run ((callN (orcGenCounts 2 7 1 3) code 90).call 4 [.sym .i64 0, .sym .i64 1, .sym .i64 2]) h0) = true := by kernel_rfl
theorem cGenCounts2x8x1 [Nu] : isTrue (run ((callN (orcGenCounts 2 8 1 3) code 90).call 4 [.sym .i64 0, .sym .i64 1, .sym .i64 2]) h0) = true := by kernel_rfl
theorem cGenCounts3x0x3 [Nu] : isTrue (run ((callN (orcGenCounts 3 0 3 4) code 90).call 4 [.sym .i64 0, .sym .i64 1, .sym .i64 2]) h0) = true := by kernel_rfl
theorem cGenCounts3x1x2 [Nu] : isTrue (run ((callN (orcGenCounts 3 1 2 4) code 90).call 4 [.sym .i64 0, .sym .i64 1, .sym .i64 2]) h0) = true := by kernel_rfl
theorem cGenCounts3x2x3 [Nu] : isTrue (run ((callN (orcGenCounts 3 2 3 4) code 90).call 4 [.sym .i64 0, .sym .i64 1, .sym .i64 2]) h0) = true := by kernel_rfl
theorem cGenCounts3x3x3 [Nu] : isTrue (run ((callN (orcGenCounts 3 3 3 4) code 90).call 4 [.sym .i64 0, .sym .i64 1, .sym .i64 2]) h0) = true := by kernel_rfl
theorem cGenCounts3x4x2 [Nu] : isTrue (run ((callN (orcGenCounts 3 4 2 4) code 90).call 4 [.sym .i64 0, .sym .i64 1, .sym .i64 2]) h0) = true := by kernel_rfl
theorem cGenCounts3x8x1 [Nu] : isTrue (run ((callN (orcGenCounts 3 8 1 4) code 90).call 4 [.sym .i64 0, .sym .i64 1, .sym .i64 2]) h0) = true := by kernel_rfl
end Go.Proofs.Ytaoobghobcikdaa.XCodeG
