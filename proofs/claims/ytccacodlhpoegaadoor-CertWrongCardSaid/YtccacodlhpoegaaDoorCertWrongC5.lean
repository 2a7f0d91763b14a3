/- CertWrong: cases, run by the kernel. -/
import Derived.Test.YtccacodlhpoegaaDoorCertWrongBase
set_option maxRecDepth 100000
namespace Go.Proofs.YtccacodlhpoegaaDoor.XCodeL
open Go Go.X Go.RowKit
theorem cCertWrong0x5 [Nu] : isTrue (run ((callD (orcCertWrong 0 5) code 90).call 3 [.sym .i64 0, .sym .i64 1]) h0) = true := by kernel_rfl
theorem cCertWrong0x11 [Nu] : isTrue (run ((callD (orcCertWrong 0 11) code 90).call 3 [.sym .i64 0, .sym .i64 1]) h0) = true := by kernel_rfl
theorem cCertWrong1x2 [Nu] : isTrue (run ((callD (orcCertWrong 1 2) code 90).call 3 [.sym .i64 0, .sym .i64 1]) h0) = true := by kernel_rfl
theorem cCertWrong1x8 [Nu] : isTrue (run ((callD (orcCertWrong 1 8) code 90).call 3 [.sym .i64 0, .sym .i64 1]) h0) = true := by kernel_rfl
theorem cCertWrong1x14 [Nu] : isTrue (run ((callD (orcCertWrong 1 14) code 90).call 3 [.sym .i64 0, .sym .i64 1]) h0) = true := by kernel_rfl
theorem cCertWrong2x5 [Nu] : isTrue (run ((callD (orcCertWrong 2 5) code 90).call 3 [.sym .i64 0, .sym .i64 1]) h0) = true := by kernel_rfl
theorem cCertWrong2x11 [Nu] : isTrue (run ((callD (orcCertWrong 2 11) code 90).call 3 [.sym .i64 0, .sym .i64 1]) h0) = true := by kernel_rfl
theorem cCertWrong3x2 [Nu] : isTrue (run ((callD (orcCertWrong 3 2) code 90).call 3 [.sym .i64 0, .sym .i64 1]) h0) = true := by kernel_rfl
theorem cCertWrong3x8 [Nu] : isTrue (run ((callD (orcCertWrong 3 8) code 90).call 3 [.sym .i64 0, .sym .i64 1]) h0) = true := by kernel_rfl
theorem cCertWrong3x14 [Nu] : isTrue (run ((callD (orcCertWrong 3 14) code 90).call 3 [.sym .i64 0, .sym .i64 1]) h0) = true := by kernel_rfl
theorem cCertWrong4x5 [Nu] : isTrue (run ((callD (orcCertWrong 4 5) code 90).call 3 [.sym .i64 0, .sym .i64 1]) h0) = true := by kernel_rfl
theorem cCertWrong4x11 [Nu] : isTrue (run ((callD (orcCertWrong 4 11) code 90).call 3 [.sym .i64 0, .sym .i64 1]) h0) = true := by kernel_rfl
theorem cCertWrong5x2 [Nu] : isTrue (run ((callD (orcCertWrong 5 2) code 90).call 3 [.sym .i64 0, .sym .i64 1]) h0) = true := by kernel_rfl
theorem cCertWrong5x8 [Nu] : isTrue (run ((callD (orcCertWrong 5 8) code 90).call 3 [.sym .i64 0, .sym .i64 1]) h0) = true := by kernel_rfl
theorem cCertWrong5x14 [Nu] : isTrue (run ((callD (orcCertWrong 5 14) code 90).call 3 [.sym .i64 0, .sym .i64 1]) h0) = true := by kernel_rfl
theorem cCertWrong6x5 [Nu] : isTrue (run ((callD (orcCertWrong 6 5) code 90).call 3 [.sym .i64 0, .sym .i64 1]) h0) = true := by kernel_rfl
theorem cCertWrong6x11 [Nu] : isTrue (run ((callD (orcCertWrong 6 11) code 90).call 3 [.sym .i64 0, .sym .i64 1]) h0) = true := by kernel_rfl
theorem cCertWrong7x2 [Nu] : isTrue (run ((callD (orcCertWrong 7 2) code 90).call 3 [.sym .i64 0, .sym .i64 1]) h0) = true := by kernel_rfl
theorem cCertWrong7x8 [Nu] : isTrue (run ((callD (orcCertWrong 7 8) code 90).call 3 [.sym .i64 0, .sym .i64 1]) h0) = true := by kernel_rfl
theorem cCertWrong7x14 [Nu] : isTrue (run ((callD (orcCertWrong 7 14) code 90).call 3 [.sym .i64 0, .sym .i64 1]) h0) = true := by kernel_rfl
theorem cCertWrong8x5 [Nu] : isTrue (run ((callD (orcCertWrong 8 5) code 90).call 3 [.sym .i64 0, .sym .i64 1]) h0) = true := by kernel_rfl
theorem cCertWrong8x11 [Nu] : isTrue (run ((callD (orcCertWrong 8 11) code 90).call 3 [.sym .i64 0, .sym .i64 1]) h0) = true := by kernel_rfl
end Go.Proofs.YtccacodlhpoegaaDoor.XCodeL
