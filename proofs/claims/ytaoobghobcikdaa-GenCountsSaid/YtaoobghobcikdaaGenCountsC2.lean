/- GenCounts: cases, run by the kernel. -/
import Derived.Test.YtaoobghobcikdaaGenCountsBase
set_option maxRecDepth 100000
namespace Go.Proofs.Ytaoobghobcikdaa.XCodeG
open Go Go.X Go.RowKit
theorem cGenCounts0x1x0 [Nu] : isTrue (run ((callN (orcGenCounts 0 1 0 1) code 90).call 4 [.sym .i64 0, .sym .i64 1, .sym .i64 2]) h0) = true := by kernel_rfl
theorem cGenCounts0x2x0 [Nu] : isTrue (run ((callN (orcGenCounts 0 2 0 1) code 90).call 4 [.sym .i64 0, .sym .i64 1, .sym .i64 2]) h0) = true := by kernel_rfl
theorem cGenCounts0x4x0 [Nu] : isTrue (run ((callN (orcGenCounts 0 4 0 1) code 90).call 4 [.sym .i64 0, .sym .i64 1, .sym .i64 2]) h0) = true := by kernel_rfl
theorem cGenCounts0x6x0 [Nu] : isTrue (run ((callN (orcGenCounts 0 6 0 1) code 90).call 4 [.sym .i64 0, .sym .i64 1, .sym .i64 2]) h0) = true := by kernel_rfl
theorem cGenCounts0x8x0 [Nu] : isTrue (run ((callN (orcGenCounts 0 8 0 1) code 90).call 4 [.sym .i64 0, .sym .i64 1, .sym .i64 2]) h0) = true := by kernel_rfl
theorem cGenCounts1x2x1 [Nu] : isTrue (run ((callN (orcGenCounts 1 2 1 2) code 90).call 4 [.sym .i64 0, .sym .i64 1, .sym .i64 2]) h0) = true := by kernel_rfl
theorem cGenCounts2x5x0 [Nu] : isTrue (run ((callN (orcGenCounts 2 5 0 3) code 90).call 4 [.sym .i64 0, .sym .i64 1, .sym .i64 2]) h0) = true := by kernel_rfl
theorem cGenCounts2x7x2 [Nu] : isTrue (run ((callN (orcGenCounts 2 7 2 3) code 90).call 4 [.sym .i64 0, .sym .i64 1, .sym .i64 2]) h0) = true := by kernel_rfl
theorem cGenCounts2x8x2 [Nu] : isTrue (run ((callN (orcGenCounts 2 8 2 3) code 90).call 4 [.sym .i64 0, .sym .i64 1, .sym .i64 2]) h0) = true := by kernel_rfl
theorem cGenCounts3x0x2 [Nu] : isTrue (run ((callN (orcGenCounts 3 0 2 4) code 90).call 4 [.sym .i64 0, .sym .i64 1, .sym .i64 2]) h0) = true := by kernel_rfl
theorem cGenCounts3x2x1 [Nu] : isTrue (run ((callN (orcGenCounts 3 2 1 4) code 90).call 4 [.sym .i64 0, .sym .i64 1, .sym .i64 2]) h0) = true := by kernel_rfl
theorem cGenCounts3x3x0 [Nu] : isTrue (run ((callN (orcGenCounts 3 3 0 4) code 90).call 4 [.sym .i64 0, .sym .i64 1, .sym .i64 2]) h0) = true := by kernel_rfl
theorem cGenCounts3x4x3 [Nu] : isTrue (run ((callN (orcGenCounts 3 4 3 4) code 90).call 4 [.sym .i64 0, .sym .i64 1, .sym .i64 2]) h0) = true := by kernel_rfl
theorem cGenCounts3x5x0 [Nu] : isTrue (run ((callN (orcGenCounts 3 5 0 4) code 90).call 4 [.sym .i64 0, .sym .i64 1, .sym .i64 2]) h0) = true := by kernel_rfl
theorem cGenCounts3x8x2 [Nu] : isTrue (run ((callN (orcGenCounts 3 8 2 4) code 90).call 4 [.sym .i64 0, .sym .i64 1, .sym .i64 2]) h0) = true := by kernel_rfl
end Go.Proofs.Ytaoobghobcikdaa.XCodeG
