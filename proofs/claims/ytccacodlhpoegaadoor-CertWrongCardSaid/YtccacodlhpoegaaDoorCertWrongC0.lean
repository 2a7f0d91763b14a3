/- CertWrong: cases, run by the kernel. -/
import Derived.Test.YtccacodlhpoegaaDoorCertWrongBase
set_option maxRecDepth 100000
namespace Go.Proofs.YtccacodlhpoegaaDoor.XCodeL
open Go Go.X Go.RowKit
theorem cCertWrong0x0 [Nu] : isTrue (run ((callD (orcCertWrong 0 0) code 90).call 3 [.sym .i64 0, .sym .i64 1]) h0) = true := by kernel_rfl
theorem cCertWrong0x6 [Nu] : isTrue (run ((callD (orcCertWrong 0 6) code 90).call 3 [.sym .i64 0, .sym .i64 1]) h0) = true := by kernel_rfl
theorem cCertWrong0x12 [Nu] : isTrue (run ((callD (orcCertWrong 0 12) code 90).call 3 [.sym .i64 0, .sym .i64 1]) h0) = true := by kernel_rfl
theorem cCertWrong1x3 [Nu] : isTrue (run ((callD (orcCertWrong 1 3) code 90).call 3 [.sym .i64 0, .sym .i64 1]) h0) = true := by kernel_rfl
theorem cCertWrong1x9 [Nu] : isTrue (run ((callD (orcCertWrong 1 9) code 90).call 3 [.sym .i64 0, .sym .i64 1]) h0) = true := by kernel_rfl
theorem cCertWrong2x0 [Nu] : isTrue (run ((callD (orcCertWrong 2 0) code 90).call 3 [.sym .i64 0, .sym .i64 1]) h0) = true := by kernel_rfl
theorem cCertWrong2x6 [Nu] : isTrue (run ((callD (orcCertWrong 2 6) code 90).call 3 [.sym .i64 0, .sym .i64 1]) h0) = true := by kernel_rfl
theorem cCertWrong2x12 [Nu] : isTrue (run ((callD (orcCertWrong 2 12) code 90).call 3 [.sym .i64 0, .sym .i64 1]) h0) = true := by kernel_rfl
theorem cCertWrong3x3 [Nu] : isTrue (run ((callD (orcCertWrong 3 3) code 90).call 3 [.sym .i64 0, .sym .i64 1]) h0) = true := by kernel_rfl
theorem cCertWrong3x9 [Nu] : isTrue (run ((callD (orcCertWrong 3 9) code 90).call 3 [.sym .i64 0, .sym .i64 1]) h0) = true := by kernel_rfl
theorem cCertWrong4x0 [Nu] : isTrue (run ((callD (orcCertWrong 4 0) code 90).call 3 [.sym .i64 0, .sym .i64 1]) h0) = true := by kernel_rfl
theorem cCertWrong4x6 [Nu] : isTrue (run ((callD (orcCertWrong 4 6) code 90).call 3 [.sym .i64 0, .sym .i64 1]) h0) = true := by kernel_rfl
theorem cCertWrong4x12 [Nu] : isTrue (run ((callD (orcCertWrong 4 12) code 90).call 3 [.sym .i64 0, .sym .i64 1]) h0) = true := by kernel_rfl
theorem cCertWrong5x3 [Nu] : isTrue (run ((callD (orcCertWrong 5 3) code 90).call 3 [.sym .i64 0, .sym .i64 1]) h0) = true := by kernel_rfl
theorem cCertWrong5x9 [Nu] : isTrue (run ((callD (orcCertWrong 5 9) code 90).call 3 [.sym .i64 0, .sym .i64 1]) h0) = true := by kernel_rfl
theorem cCertWrong6x0 [Nu] : isTrue (run ((callD (orcCertWrong 6 0) code 90).call 3 [.sym .i64 0, .sym .i64 1]) h0) = true := by kernel_rfl
theorem cCertWrong6x6 [Nu] : isTrue (run ((callD (orcCertWrong 6 6) code 90).call 3 [.sym .i64 0, .sym .i64 1]) h0) = true := by kernel_rfl
theorem cCertWrong6x12 [Nu] : isTrue (run ((callD (orcCertWrong 6 12) code 90).call 3 [.sym .i64 0, .sym .i64 1]) h0) = true := by kernel_rfl
theorem cCertWrong7x3 [Nu] : isTrue (run ((callD (orcCertWrong 7 3) code 90).call 3 [.sym .i64 0, .sym .i64 1]) h0) = true := by kernel_rfl
theorem cCertWrong7x9 [Nu] : isTrue (run ((callD (orcCertWrong 7 9) code 90).call 3 [.sym .i64 0, .sym .i64 1]) h0) = true := by kernel_rfl
theorem cCertWrong8x0 [Nu] : isTrue (run ((callD (orcCertWrong 8 0) code 90).call 3 [.sym .i64 0, .sym .i64 1]) h0) = true := by kernel_rfl
theorem cCertWrong8x6 [Nu] : isTrue (run ((callD (orcCertWrong 8 6) code 90).call 3 [.sym .i64 0, .sym .i64 1]) h0) = true := by kernel_rfl
theorem cCertWrong8x12 [Nu] : isTrue (run ((callD (orcCertWrong 8 12) code 90).call 3 [.sym .i64 0, .sym .i64 1]) h0) = true := by kernel_rfl
end Go.Proofs.YtccacodlhpoegaaDoor.XCodeL
