/- GenCounts: cases, run by the kernel. -/
import Derived.Test.YtaoobghobcikdaaGenCountsBase
set_option maxRecDepth 100000
namespace Go.Proofs.Ytaoobghobcikdaa.XCodeG
open Go Go.X Go.RowKit
theorem cGenCounts0x7x0 [Nu] : isTrue (run ((callN (orcGenCounts 0 7 0 1) code 90).call 4 [.sym .i64 0, .sym .i64 1, .sym .i64 2]) h0) = true := by kernel_rfl
theorem cGenCounts1x2x0 [Nu] : isTrue (run ((callN (orcGenCounts 1 2 0 2) code 90).call 4 [.sym .i64 0, .sym .i64 1, .sym .i64 2]) h0) = true := by kernel_rfl
theorem cGenCounts1x3x0 [Nu] : isTrue (run ((callN (orcGenCounts 1 3 0 2) code 90).call 4 [.sym .i64 0, .sym .i64 1, .sym .i64 2]) h0) = true := by kernel_rfl
theorem cGenCounts1x5x1 [Nu] : isTrue (run ((callN (orcGenCounts 1 5 1 2) code 90).call 4 [.sym .i64 0, .sym .i64 1, .sym .i64 2]) h0) = true := by kernel_rfl
theorem cGenCounts1x7x0 [Nu] : isTrue (run ((callN (orcGenCounts 1 7 0 2) code 90).call 4 [.sym .i64 0, .sym .i64 1, .sym .i64 2]) h0) = true := by kernel_rfl
theorem cGenCounts2x0x0 [Nu] : isTrue (run ((callN (orcGenCounts 2 0 0 3) code 90).call 4 [.sym .i64 0, .sym .i64 1, .sym .i64 2]) h0) = true := by kernel_rfl
theorem cGenCounts2x3x0 [Nu] : isTrue (run ((callN (orcGenCounts 2 3 0 3) code 90).call 4 [.sym .i64 0, .sym .i64 1, .sym .i64 2]) h0) = true := by kernel_rfl
theorem cGenCounts2x6x1 [Nu] : isTrue (run ((callN (orcGenCounts 2 6 1 3) code 90).call 4 [.sym .i64 0, .sym .i64 1, .sym .i64 2]) h0) = true := by kernel_rfl
theorem cGenCounts2x7x0 [Nu] : isTrue (run ((callN (orcGenCounts 2 7 0 3) code 90).call 4 [.sym .i64 0, .sym .i64 1, .sym .i64 2]) h0) = true := by kernel_rfl
theorem cGenCounts2x8x0 [Nu] : isTrue (run ((callN (orcGenCounts 2 8 0 3) code 90).call 4 [.sym .i64 0, .sym .i64 1, .sym .i64 2]) h0) = true := by kernel_rfl
theorem cGenCounts3x0x1 [Nu] : isTrue (run ((callN (orcGenCounts 3 0 1 4) code 90).call 4 [.sym .i64 0, .sym .i64 1, .sym .i64 2]) h0) = true := by kernel_rfl
theorem cGenCounts3x1x3 [Nu] : isTrue (run ((callN (orcGenCounts 3 1 3 4) code 90).call 4 [.sym .i64 0, .sym .i64 1, .sym .i64 2]) h0) = true := by kernel_rfl
theorem cGenCounts3x2x0 [Nu] : isTrue (run ((callN (orcGenCounts 3 2 0 4) code 90).call 4 [.sym .i64 0, .sym .i64 1, .sym .i64 2]) h0) = true := by kernel_rfl
theorem cGenCounts3x4x1 [Nu] : isTrue (run ((callN (orcGenCounts 3 4 1 4) code 90).call 4 [.sym .i64 0, .sym .i64 1, .sym .i64 2]) h0) = true := by kernel_rfl
theorem cGenCounts3x8x0 [Nu] : isTrue (run ((callN (orcGenCounts 3 8 0 4) code 90).call 4 [.sym .i64 0, .sym .i64 1, .sym .i64 2]) h0) = true := by kernel_rfl
end Go.Proofs.Ytaoobghobcikdaa.XCodeG
