/- GenCounts: cases, run by the kernel. -/
import Derived.Test.YtaoobghobcikdaaGenCountsBase
set_option maxRecDepth 100000
namespace Go.Proofs.Ytaoobghobcikdaa.XCodeG
open Go Go.X Go.RowKit
theorem cGenCounts0x3x0 [Nu] : isTrue (run ((callN (orcGenCounts 0 3 0 1) code 90).call 4 [.sym .i64 0, .sym .i64 1, .sym .i64 2]) h0) = true := by kernel_rfl
theorem cGenCounts0x5x0 [Nu] : isTrue (run ((callN (orcGenCounts 0 5 0 1) code 90).call 4 [.sym .i64 0, .sym .i64 1, .sym .i64 2]) h0) = true := by kernel_rfl
theorem cGenCounts1x0x1 [Nu] : isTrue (run ((callN (orcGenCounts 1 0 1 2) code 90).call 4 [.sym .i64 0, .sym .i64 1, .sym .i64 2]) h0) = true := by kernel_rfl
theorem cGenCounts1x3x1 [Nu] : isTrue (run ((callN (orcGenCounts 1 3 1 2) code 90).call 4 [.sym .i64 0, .sym .i64 1, .sym .i64 2]) h0) = true := by kernel_rfl
theorem cGenCounts1x4x1 [Nu] : isTrue (run ((callN (orcGenCounts 1 4 1 2) code 90).call 4 [.sym .i64 0, .sym .i64 1, .sym .i64 2]) h0) = true := by kernel_rfl
theorem cGenCounts1x5x0 [Nu] : isTrue (run ((callN (orcGenCounts 1 5 0 2) code 90).call 4 [.sym .i64 0, .sym .i64 1, .sym .i64 2]) h0) = true := by kernel_rfl
theorem cGenCounts1x8x0 [Nu] : isTrue (run ((callN (orcGenCounts 1 8 0 2) code 90).call 4 [.sym .i64 0, .sym .i64 1, .sym .i64 2]) h0) = true := by kernel_rfl
theorem cGenCounts2x1x2 [Nu] : isTrue (run ((callN (orcGenCounts 2 1 2 3) code 90).call 4 [.sym .i64 0, .sym .i64 1, .sym .i64 2]) h0) = true := by kernel_rfl
theorem cGenCounts2x4x1 [Nu] : isTrue (run ((callN (orcGenCounts 2 4 1 3) code 90).call 4 [.sym .i64 0, .sym .i64 1, .sym .i64 2]) h0) = true := by kernel_rfl
theorem cGenCounts2x5x2 [Nu] : isTrue (run ((callN (orcGenCounts 2 5 2 3) code 90).call 4 [.sym .i64 0, .sym .i64 1, .sym .i64 2]) h0) = true := by kernel_rfl
theorem cGenCounts3x0x0 [Nu] : isTrue (run ((callN (orcGenCounts 3 0 0 4) code 90).call 4 [.sym .i64 0, .sym .i64 1, .sym .i64 2]) h0) = true := by kernel_rfl
theorem cGenCounts3x5x2 [Nu] : isTrue (run ((callN (orcGenCounts 3 5 2 4) code 90).call 4 [.sym .i64 0, .sym .i64 1, .sym .i64 2]) h0) = true := by kernel_rfl
theorem cGenCounts3x6x1 [Nu] : isTrue (run ((callN (orcGenCounts 3 6 1 4) code 90).call 4 [.sym .i64 0, .sym .i64 1, .sym .i64 2]) h0) = true := by kernel_rfl
theorem cGenCounts3x7x0 [Nu] : isTrue (run ((callN (orcGenCounts 3 7 0 4) code 90).call 4 [.sym .i64 0, .sym .i64 1, .sym .i64 2]) h0) = true := by kernel_rfl
theorem cGenCounts3x7x2 [Nu] : isTrue (run ((callN (orcGenCounts 3 7 2 4) code 90).call 4 [.sym .i64 0, .sym .i64 1, .sym .i64 2]) h0) = true := by kernel_rfl
end Go.Proofs.Ytaoobghobcikdaa.XCodeG
