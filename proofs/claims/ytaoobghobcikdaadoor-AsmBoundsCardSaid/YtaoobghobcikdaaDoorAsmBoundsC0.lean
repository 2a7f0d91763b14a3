/- AsmBounds: cases, run by the kernel. -/
import Derived.Test.YtaoobghobcikdaaDoorAsmBoundsBase
set_option maxRecDepth 100000
namespace Go.Proofs.YtaoobghobcikdaaDoor.XCodeL
open Go Go.X Go.RowKit
theorem cAsmBounds0x0 [Nu] : isTrue (run ((callN (orcAsmBounds 0 0) code 60).call 6 [.sym .i64 0, .sym .i64 1]) h0) = true := by kernel_rfl
theorem cAsmBounds0x1 [Nu] : isTrue (run ((callN (orcAsmBounds 0 1) code 60).call 6 [.sym .i64 0, .sym .i64 1]) h0) = true := by kernel_rfl
theorem cAsmBounds0x2 [Nu] : isTrue (run ((callN (orcAsmBounds 0 2) code 60).call 6 [.sym .i64 0, .sym .i64 1]) h0) = true := by kernel_rfl
theorem cAsmBounds1x0 [Nu] : isTrue (run ((callN (orcAsmBounds 1 0) code 60).call 6 [.sym .i64 0, .sym .i64 1]) h0) = true := by kernel_rfl
theorem cAsmBounds1x1 [Nu] : isTrue (run ((callN (orcAsmBounds 1 1) code 60).call 6 [.sym .i64 0, .sym .i64 1]) h0) = true := by kernel_rfl
theorem cAsmBounds1x2 [Nu] : isTrue (run ((callN (orcAsmBounds 1 2) code 60).call 6 [.sym .i64 0, .sym .i64 1]) h0) = true := by kernel_rfl
theorem cAsmBounds2x0 [Nu] : isTrue (run ((callN (orcAsmBounds 2 0) code 60).call 6 [.sym .i64 0, .sym .i64 1]) h0) = true := by kernel_rfl
theorem cAsmBounds2x1 [Nu] : isTrue (run ((callN (orcAsmBounds 2 1) code 60).call 6 [.sym .i64 0, .sym .i64 1]) h0) = true := by kernel_rfl
theorem cAsmBounds2x2 [Nu] : isTrue (run ((callN (orcAsmBounds 2 2) code 60).call 6 [.sym .i64 0, .sym .i64 1]) h0) = true := by kernel_rfl
theorem cAsmBounds3x0 [Nu] : isTrue (run ((callN (orcAsmBounds 3 0) code 60).call 6 [.sym .i64 0, .sym .i64 1]) h0) = true := by kernel_rfl
theorem cAsmBounds3x1 [Nu] : isTrue (run ((callN (orcAsmBounds 3 1) code 60).call 6 [.sym .i64 0, .sym .i64 1]) h0) = true := by kernel_rfl
theorem cAsmBounds3x2 [Nu] : isTrue (run ((callN (orcAsmBounds 3 2) code 60).call 6 [.sym .i64 0, .sym .i64 1]) h0) = true := by kernel_rfl
end Go.Proofs.YtaoobghobcikdaaDoor.XCodeL
