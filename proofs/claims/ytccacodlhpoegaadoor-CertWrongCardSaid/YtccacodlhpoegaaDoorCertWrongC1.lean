/- CertWrong: cases, run by the kernel. -/
import Derived.Test.YtccacodlhpoegaaDoorCertWrongBase
set_option maxRecDepth 100000
namespace Go.Proofs.YtccacodlhpoegaaDoor.XCodeL
open Go Go.X Go.RowKit
theorem cCertWrong0x1 [Nu] : isTrue (run ((callD (orcCertWrong 0 1) code 90).call 3 [.sym .i64 0, .sym .i64 1]) h0) = true := by kernel_rfl
theorem cCertWrong0x7 [Nu] : isTrue (run ((callD (orcCertWrong 0 7) code 90).call 3 [.sym .i64 0, .sym .i64 1]) h0) = true := by kernel_rfl
theorem cCertWrong0x13 [Nu] : isTrue (run ((callD (orcCertWrong 0 13) code 90).call 3 [.sym .i64 0, .sym .i64 1]) h0) = true := by kernel_rfl
theorem cCertWrong1x4 [Nu] : isTrue (run ((callD (orcCertWrong 1 4) code 90).call 3 [.sym .i64 0, .sym .i64 1]) h0) = true := by kernel_rfl
theorem cCertWrong1x10 [Nu] : isTrue (run ((callD (orcCertWrong 1 10) code 90).call 3 [.sym .i64 0, .sym .i64 1]) h0) = true := by kernel_rfl
theorem cCertWrong2x1 [Nu] : isTrue (run ((callD (orcCertWrong 2 1) code 90).call 3 [.sym .i64 0, .sym .i64 1]) h0) = true := by kernel_rfl
theorem cCertWrong2x7 [Nu] : isTrue (run ((callD (orcCertWrong 2 7) code 90).call 3 [.sym .i64 0, .sym .i64 1]) h0) = true := by kernel_rfl
theorem cCertWrong2x13 [Nu] : isTrue (run ((callD (orcCertWrong 2 13) code 90).call 3 [.sym .i64 0, .sym .i64 1]) h0) = true := by kernel_rfl
theorem cCertWrong3x4 [Nu] : isTrue (run ((callD (orcCertWrong 3 4) code 90).call 3 [.sym .i64 0, .sym .i64 1]) h0) = true := by kernel_rfl
theorem cCertWrong3x10 [Nu] : isTrue (run ((callD (orcCertWrong 3 10) code 90).call 3 [.sym .i64 0, .sym .i64 1]) h0) = true := by kernel_rfl
theorem cCertWrong4x1 [Nu] : isTrue (run ((callD (orcCertWrong 4 1) code 90).call 3 [.sym .i64 0, .sym .i64 1]) h0) = true := by kernel_rfl
theorem cCertWrong4x7 [Nu] : isTrue (run ((callD (orcCertWrong 4 7) code 90).call 3 [.sym .i64 0, .sym .i64 1]) h0) = true := by kernel_rfl
theorem cCertWrong4x13 [Nu] : isTrue (run ((callD (orcCertWrong 4 13) code 90).call 3 [.sym .i64 0, .sym .i64 1]) h0) = true := by kernel_rfl
theorem cCertWrong5x4 [Nu] : isTrue (run ((callD (orcCertWrong 5 4) code 90).call 3 [.sym .i64 0, .sym .i64 1]) h0) = true := by kernel_rfl
theorem cCertWrong5x10 [Nu] : isTrue (run ((callD (orcCertWrong 5 10) code 90).call 3 [.sym .i64 0, .sym .i64 1]) h0) = true := by kernel_rfl
theorem cCertWrong6x1 [Nu] : isTrue (run ((callD (orcCertWrong 6 1) code 90).call 3 [.sym .i64 0, .sym .i64 1]) h0) = true := by kernel_rfl
theorem cCertWrong6x7 [Nu] : isTrue (run ((callD (orcCertWrong 6 7) code 90).call 3 [.sym .i64 0, .sym .i64 1]) h0) = true := by kernel_rfl
theorem cCertWrong6x13 [Nu] : isTrue (run ((callD (orcCertWrong 6 13) code 90).call 3 [.sym .i64 0, .sym .i64 1]) h0) = true := by kernel_rfl
theorem cCertWrong7x4 [Nu] : isTrue (run ((callD (orcCertWrong 7 4) code 90).call 3 [.sym .i64 0, .sym .i64 1]) h0) = true := by kernel_rfl
theorem cCertWrong7x10 [Nu] : isTrue (run ((callD (orcCertWrong 7 10) code 90).call 3 [.sym .i64 0, .sym .i64 1]) h0) = true := by kernel_rfl
theorem cCertWrong8x1 [Nu] : isTrue (run ((callD (orcCertWrong 8 1) code 90).call 3 [.sym .i64 0, .sym .i64 1]) h0) = true := by kernel_rfl
theorem cCertWrong8x7 [Nu] : isTrue (run ((callD (orcCertWrong 8 7) code 90).call 3 [.sym .i64 0, .sym .i64 1]) h0) = true := by kernel_rfl
theorem cCertWrong8x13 [Nu] : isTrue (run ((callD (orcCertWrong 8 13) code 90).call 3 [.sym .i64 0, .sym .i64 1]) h0) = true := by kernel_rfl
end Go.Proofs.YtccacodlhpoegaaDoor.XCodeL
