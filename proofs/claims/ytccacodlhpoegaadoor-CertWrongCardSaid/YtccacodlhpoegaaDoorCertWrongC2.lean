/- CertWrong: cases, run by the kernel. -/
import Derived.Test.YtccacodlhpoegaaDoorCertWrongBase
set_option maxRecDepth 100000
namespace Go.Proofs.YtccacodlhpoegaaDoor.XCodeL
open Go Go.X Go.RowKit
theorem cCertWrong0x2 [Nu] : isTrue (run ((callD (orcCertWrong 0 2) code 90).call 3 [.sym .i64 0, .sym .i64 1]) h0) = true := by kernel_rfl
theorem cCertWrong0x8 [Nu] : isTrue (run ((callD (orcCertWrong 0 8) code 90).call 3 [.sym .i64 0, .sym .i64 1]) h0) = true := by kernel_rfl
theorem cCertWrong0x14 [Nu] : isTrue (run ((callD (orcCertWrong 0 14) code 90).call 3 [.sym .i64 0, .sym .i64 1]) h0) = true := by kernel_rfl
theorem cCertWrong1x5 [Nu] : isTrue (run ((callD (orcCertWrong 1 5) code 90).call 3 [.sym .i64 0, .sym .i64 1]) h0) = true := by kernel_rfl
theorem cCertWrong1x11 [Nu] : isTrue (run ((callD (orcCertWrong 1 11) code 90).call 3 [.sym .i64 0, .sym .i64 1]) h0) = true := by kernel_rfl
theorem cCertWrong2x2 [Nu] : isTrue (run ((callD (orcCertWrong 2 2) code 90).call 3 [.sym .i64 0, .sym .i64 1]) h0) = true := by kernel_rfl
theorem cCertWrong2x8 [Nu] : isTrue (run ((callD (orcCertWrong 2 8) code 90).call 3 [.sym .i64 0, .sym .i64 1]) h0) = true := by kernel_rfl
theorem cCertWrong2x14 [Nu] : isTrue (run ((callD (orcCertWrong 2 14) code 90).call 3 [.sym .i64 0, .sym .i64 1]) h0) = true := by kernel_rfl
theorem cCertWrong3x5 [Nu] : isTrue (run ((callD (orcCertWrong 3 5) code 90).call 3 [.sym .i64 0, .sym .i64 1]) h0) = true := by kernel_rfl
theorem cCertWrong3x11 [Nu] : isTrue (run ((callD (orcCertWrong 3 11) code 90).call 3 [.sym .i64 0, .sym .i64 1]) h0) = true := by kernel_rfl
theorem cCertWrong4x2 [Nu] : isTrue (run ((callD (orcCertWrong 4 2) code 90).call 3 [.sym .i64 0, .sym .i64 1]) h0) = true := by kernel_rfl
theorem cCertWrong4x8 [Nu] : isTrue (run ((callD (orcCertWrong 4 8) code 90).call 3 [.sym .i64 0, .sym .i64 1]) h0) = true := by kernel_rfl
theorem cCertWrong4x14 [Nu] : isTrue (run ((callD (orcCertWrong 4 14) code 90).call 3 [.sym .i64 0, .sym .i64 1]) h0) = true := by kernel_rfl
theorem cCertWrong5x5 [Nu] : isTrue (run ((callD (orcCertWrong 5 5) code 90).call 3 [.sym .i64 0, .sym .i64 1]) h0) = true := by kernel_rfl
theorem cCertWrong5x11 [Nu] : isTrue (run ((callD (orcCertWrong 5 11) code 90).call 3 [.sym .i64 0, .sym .i64 1]) h0) = true := by kernel_rfl
theorem cCertWrong6x2 [Nu] : isTrue (run ((callD (orcCertWrong 6 2) code 90).call 3 [.sym .i64 0, .sym .i64 1]) h0) = true := by kernel_rfl
theorem cCertWrong6x8 [Nu] : isTrue (run ((callD (orcCertWrong 6 8) code 90).call 3 [.sym .i64 0, .sym .i64 1]) h0) = true := by kernel_rfl
theorem cCertWrong6x14 [Nu] : isTrue (run ((callD (orcCertWrong 6 14) code 90).call 3 [.sym .i64 0, .sym .i64 1]) h0) = true := by kernel_rfl
theorem cCertWrong7x5 [Nu] : isTrue (run ((callD (orcCertWrong 7 5) code 90).call 3 [.sym .i64 0, .sym .i64 1]) h0) = true := by kernel_rfl
theorem cCertWrong7x11 [Nu] : isTrue (run ((callD (orcCertWrong 7 11) code 90).call 3 [.sym .i64 0, .sym .i64 1]) h0) = true := by kernel_rfl
theorem cCertWrong8x2 [Nu] : isTrue (run ((callD (orcCertWrong 8 2) code 90).call 3 [.sym .i64 0, .sym .i64 1]) h0) = true := by kernel_rfl
theorem cCertWrong8x8 [Nu] : isTrue (run ((callD (orcCertWrong 8 8) code 90).call 3 [.sym .i64 0, .sym .i64 1]) h0) = true := by kernel_rfl
theorem cCertWrong8x14 [Nu] : isTrue (run ((callD (orcCertWrong 8 14) code 90).call 3 [.sym .i64 0, .sym .i64 1]) h0) = true := by kernel_rfl
end Go.Proofs.YtccacodlhpoegaaDoor.XCodeL
