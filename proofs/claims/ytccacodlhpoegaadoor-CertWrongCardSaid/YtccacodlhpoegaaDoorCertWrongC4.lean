/- CertWrong: cases, run by the kernel. -/
import Derived.Test.YtccacodlhpoegaaDoorCertWrongBase
set_option maxRecDepth 100000
namespace Go.Proofs.YtccacodlhpoegaaDoor.XCodeL
open Go Go.X Go.RowKit
theorem cCertWrong0x4 [Nu] : isTrue (run ((callD (orcCertWrong 0 4) code 90).call 3 [.sym .i64 0, .sym .i64 1]) h0) = true := by kernel_rfl
theorem cCertWrong0x10 [Nu] : isTrue (run ((callD (orcCertWrong 0 10) code 90).call 3 [.sym .i64 0, .sym .i64 1]) h0) = true := by kernel_rfl
theorem cCertWrong1x1 [Nu] : isTrue (run ((callD (orcCertWrong 1 1) code 90).call 3 [.sym .i64 0, .sym .i64 1]) h0) = true := by kernel_rfl
theorem cCertWrong1x7 [Nu] : isTrue (run ((callD (orcCertWrong 1 7) code 90).call 3 [.sym .i64 0, .sym .i64 1]) h0) = true := by kernel_rfl
theorem cCertWrong1x13 [Nu] : isTrue (run ((callD (orcCertWrong 1 13) code 90).call 3 [.sym .i64 0, .sym .i64 1]) h0) = true := by kernel_rfl
theorem cCertWrong2x4 [Nu] : isTrue (run ((callD (orcCertWrong 2 4) code 90).call 3 [.sym .i64 0, .sym .i64 1]) h0) = true := by kernel_rfl
theorem cCertWrong2x10 [Nu] : isTrue (run ((callD (orcCertWrong 2 10) code 90).call 3 [.sym .i64 0, .sym .i64 1]) h0) = true := by kernel_rfl
theorem cCertWrong3x1 [Nu] : isTrue (run ((callD (orcCertWrong 3 1) code 90).call 3 [.sym .i64 0, .sym .i64 1]) h0) = true := by kernel_rfl
theorem cCertWrong3x7 [Nu] : isTrue (run ((callD (orcCertWrong 3 7) code 90).call 3 [.sym .i64 0, .sym .i64 1]) h0) = true := by kernel_rfl
theorem cCertWrong3x13 [Nu] : isTrue (run ((callD (orcCertWrong 3 13) code 90).call 3 [.sym .i64 0, .sym .i64 1]) h0) = true := by kernel_rfl
theorem cCertWrong4x4 [Nu] : isTrue (run ((callD (orcCertWrong 4 4) code 90).call 3 [.sym .i64 0, .sym .i64 1]) h0) = true := by kernel_rfl
theorem cCertWrong4x10 [Nu] : isTrue (run ((callD (orcCertWrong 4 10) code 90).call 3 [.sym .i64 0, .sym .i64 1]) h0) = true := by kernel_rfl
theorem cCertWrong5x1 [Nu] : isTrue (run ((callD (orcCertWrong 5 1) code 90).call 3 [.sym .i64 0, .sym .i64 1]) h0) = true := by kernel_rfl
theorem cCertWrong5x7 [Nu] : isTrue (run ((callD (orcCertWrong 5 7) code 90).call 3 [.sym .i64 0, .sym .i64 1]) h0) = true := by kernel_rfl
theorem cCertWrong5x13 [Nu] : isTrue (run ((callD (orcCertWrong 5 13) code 90).call 3 [.sym .i64 0, .sym .i64 1]) h0) = true := by kernel_rfl
theorem cCertWrong6x4 [Nu] : isTrue (run ((callD (orcCertWrong 6 4) code 90).call 3 [.sym .i64 0, .sym .i64 1]) h0) = true := by kernel_rfl
theorem cCertWrong6x10 [Nu] : isTrue (run ((callD (orcCertWrong 6 10) code 90).call 3 [.sym .i64 0, .sym .i64 1]) h0) = true := by kernel_rfl
theorem cCertWrong7x1 [Nu] : isTrue (run ((callD (orcCertWrong 7 1) code 90).call 3 [.sym .i64 0, .sym .i64 1]) h0) = true := by kernel_rfl
theorem cCertWrong7x7 [Nu] : isTrue (run ((callD (orcCertWrong 7 7) code 90).call 3 [.sym .i64 0, .sym .i64 1]) h0) = true := by kernel_rfl
theorem cCertWrong7x13 [Nu] : isTrue (run ((callD (orcCertWrong 7 13) code 90).call 3 [.sym .i64 0, .sym .i64 1]) h0) = true := by kernel_rfl
theorem cCertWrong8x4 [Nu] : isTrue (run ((callD (orcCertWrong 8 4) code 90).call 3 [.sym .i64 0, .sym .i64 1]) h0) = true := by kernel_rfl
theorem cCertWrong8x10 [Nu] : isTrue (run ((callD (orcCertWrong 8 10) code 90).call 3 [.sym .i64 0, .sym .i64 1]) h0) = true := by kernel_rfl
end Go.Proofs.YtccacodlhpoegaaDoor.XCodeL
