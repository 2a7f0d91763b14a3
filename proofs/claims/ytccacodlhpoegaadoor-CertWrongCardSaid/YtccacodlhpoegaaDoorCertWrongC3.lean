/- CertWrong: cases, run by the kernel. -/
import Derived.Test.YtccacodlhpoegaaDoorCertWrongBase
set_option maxRecDepth 100000
namespace Go.Proofs.YtccacodlhpoegaaDoor.XCodeL
open Go Go.X Go.RowKit
theorem cCertWrong0x3 [Nu] : isTrue (run ((callD (orcCertWrong 0 3) code 90).call 3 [.sym .i64 0, .sym .i64 1]) h0) = true := by kernel_rfl
theorem cCertWrong0x9 [Nu] : isTrue (run ((callD (orcCertWrong 0 9) code 90).call 3 [.sym .i64 0, .sym .i64 1]) h0) = true := by kernel_rfl
theorem cCertWrong1x0 [Nu] : isTrue (run ((callD (orcCertWrong 1 0) code 90).call 3 [.sym .i64 0, .sym .i64 1]) h0) = true := by kernel_rfl
theorem cCertWrong1x6 [Nu] : isTrue (run ((callD (orcCertWrong 1 6) code 90).call 3 [.sym .i64 0, .sym .i64 1]) h0) = true := by kernel_rfl
theorem cCertWrong1x12 [Nu] : isTrue (run ((callD (orcCertWrong 1 12) code 90).call 3 [.sym .i64 0, .sym .i64 1]) h0) = true := by kernel_rfl
theorem cCertWrong2x3 [Nu] : isTrue (run ((callD (orcCertWrong 2 3) code 90).call 3 [.sym .i64 0, .sym .i64 1]) h0) = true := by kernel_rfl
theorem cCertWrong2x9 [Nu] : isTrue (run ((callD (orcCertWrong 2 9) code 90).call 3 [.sym .i64 0, .sym .i64 1]) h0) = true := by kernel_rfl
theorem cCertWrong3x0 [Nu] : isTrue (run ((callD (orcCertWrong 3 0) code 90).call 3 [.sym .i64 0, .sym .i64 1]) h0) = true := by kernel_rfl
theorem cCertWrong3x6 [Nu] : isTrue (run ((callD (orcCertWrong 3 6) code 90).call 3 [.sym .i64 0, .sym .i64 1]) h0) = true := by kernel_rfl
theorem cCertWrong3x12 [Nu] : isTrue (run ((callD (orcCertWrong 3 12) code 90).call 3 [.sym .i64 0, .sym .i64 1]) h0) = true := by kernel_rfl
theorem cCertWrong4x3 [Nu] : isTrue (run ((callD (orcCertWrong 4 3) code 90).call 3 [.sym .i64 0, .sym .i64 1]) h0) = true := by kernel_rfl
theorem cCertWrong4x9 [Nu] : isTrue (run ((callD (orcCertWrong 4 9) code 90).call 3 [.sym .i64 0, .sym .i64 1]) h0) = true := by kernel_rfl
theorem cCertWrong5x0 [Nu] : isTrue (run ((callD (orcCertWrong 5 0) code 90).call 3 [.sym .i64 0, .sym .i64 1]) h0) = true := by kernel_rfl
theorem cCertWrong5x6 [Nu] : isTrue (run ((callD (orcCertWrong 5 6) code 90).call 3 [.sym .i64 0, .sym .i64 1]) h0) = true := by kernel_rfl
theorem cCertWrong5x12 [Nu] : isTrue (run ((callD (orcCertWrong 5 12) code 90).call 3 [.sym .i64 0, .sym .i64 1]) h0) = true := by kernel_rfl
theorem cCertWrong6x3 [Nu] : isTrue (run ((callD (orcCertWrong 6 3) code 90).call 3 [.sym .i64 0, .sym .i64 1]) h0) = true := by kernel_rfl
theorem cCertWrong6x9 [Nu] : isTrue (run ((callD (orcCertWrong 6 9) code 90).call 3 [.sym .i64 0, .sym .i64 1]) h0) = true := by kernel_rfl
theorem cCertWrong7x0 [Nu] : isTrue (run ((callD (orcCertWrong 7 0) code 90).call 3 [.sym .i64 0, .sym .i64 1]) h0) = true := by kernel_rfl
theorem cCertWrong7x6 [Nu] : isTrue (run ((callD (orcCertWrong 7 6) code 90).call 3 [.sym .i64 0, .sym .i64 1]) h0) = true := by kernel_rfl
theorem cCertWrong7x12 [Nu] : isTrue (run ((callD (orcCertWrong 7 12) code 90).call 3 [.sym .i64 0, .sym .i64 1]) h0) = true := by kernel_rfl
theorem cCertWrong8x3 [Nu] : isTrue (run ((callD (orcCertWrong 8 3) code 90).call 3 [.sym .i64 0, .sym .i64 1]) h0) = true := by kernel_rfl
theorem cCertWrong8x9 [Nu] : isTrue (run ((callD (orcCertWrong 8 9) code 90).call 3 [.sym .i64 0, .sym .i64 1]) h0) = true := by kernel_rfl
end Go.Proofs.YtccacodlhpoegaaDoor.XCodeL
