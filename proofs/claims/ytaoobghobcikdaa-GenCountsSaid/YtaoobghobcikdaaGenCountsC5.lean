/- GenCounts: cases, run by the kernel. -/
import Derived.Test.YtaoobghobcikdaaGenCountsBase
set_option maxRecDepth 100000
namespace Go.Proofs.Ytaoobghobcikdaa.XCodeG
open Go Go.X Go.RowKit
theorem cGenCounts0x0x0 [Nu] : isTrue (run ((callN (orcGenCounts 0 0 0 1) code 90).call 4 [.sym .i64 0, .sym .i64 1, .sym .i64 2]) h0) = true := by kernel_rfl
theorem cGenCounts1x6x1 [Nu] : isTrue (run ((callN (orcGenCounts 1 6 1 2) code 90).call 4 [.sym .i64 0, .sym .i64 1, .sym .i64 2]) h0) = true := by kernel_rfl
theorem cGenCounts1x8x1 [Nu] : isTrue (run ((callN (orcGenCounts 1 8 1 2) code 90).call 4 [.sym .i64 0, .sym .i64 1, .sym .i64 2]) h0) = true := by kernel_rfl
theorem cGenCounts2x0x1 [Nu] : isTrue (run ((callN (orcGenCounts 2 0 1 3) code 90).call 4 [.sym .i64 0, .sym .i64 1, .sym .i64 2]) h0) = true := by kernel_rfl
theorem cGenCounts2x1x0 [Nu] : isTrue (run ((callN (orcGenCounts 2 1 0 3) code 90).call 4 [.sym .i64 0, .sym .i64 1, .sym .i64 2]) h0) = true := by kernel_rfl
theorem cGenCounts2x2x0 [Nu] : isTrue (run ((callN (orcGenCounts 2 2 0 3) code 90).call 4 [.sym .i64 0, .sym .i64 1, .sym .i64 2]) h0) = true := by kernel_rfl
theorem cGenCounts2x3x1 [Nu] : isTrue (run ((callN (orcGenCounts 2 3 1 3) code 90).call 4 [.sym .i64 0, .sym .i64 1, .sym .i64 2]) h0) = true := by kernel_rfl
theorem cGenCounts3x1x0 [Nu] : isTrue (run ((callN (orcGenCounts 3 1 0 4) code 90).call 4 [.sym .i64 0, .sym .i64 1, .sym .i64 2]) h0) = true := by kernel_rfl
theorem cGenCounts3x2x2 [Nu] : isTrue (run ((callN (orcGenCounts 3 2 2 4) code 90).call 4 [.sym .i64 0, .sym .i64 1, .sym .i64 2]) h0) = true := by kernel_rfl
theorem cGenCounts3x3x2 [Nu] : isTrue (run ((callN (orcGenCounts 3 3 2 4) code 90).call 4 [.sym .i64 0, .sym .i64 1, .sym .i64 2]) h0) = true := by kernel_rfl
theorem cGenCounts3x4x0 [Nu] : isTrue (run ((callN (orcGenCounts 3 4 0 4) code 90).call 4 [.sym .i64 0, .sym .i64 1, .sym .i64 2]) h0) = true := by kernel_rfl
theorem cGenCounts3x5x3 [Nu] : isTrue (run ((callN (orcGenCounts 3 5 3 4) code 90).call 4 [.sym .i64 0, .sym .i64 1, .sym .i64 2]) h0) = true := by kernel_rfl
theorem cGenCounts3x6x2 [Nu] : isTrue (run ((callN (orcGenCounts 3 6 2 4) code 90).call 4 [.sym .i64 0, .sym .i64 1, .sym .i64 2]) h0) = true := by kernel_rfl
theorem cGenCounts3x7x1 [Nu] : isTrue (run ((callN (orcGenCounts 3 7 1 4) code 90).call 4 [.sym .i64 0, .sym .i64 1, .sym .i64 2]) h0) = true := by kernel_rfl
theorem cGenCounts3x7x3 [Nu] : isTrue (run ((callN (orcGenCounts 3 7 3 4) code 90).call 4 [.sym .i64 0, .sym .i64 1, .sym .i64 2]) h0) = true := by kernel_rfl
end Go.Proofs.Ytaoobghobcikdaa.XCodeG
