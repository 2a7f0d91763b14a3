/- CertStops: cases, run by the kernel. -/
import Derived.Test.YtikmfghggnbedaaGreatDoorCertStopsBase
set_option maxRecDepth 100000
namespace Go.Proofs.YtikmfghggnbedaaGreatDoor.XCodeL
open Go Go.X Go.RowKit
theorem cCertStops0x3 [Nu] : isTrue (run ((callD (orcCertStops 0 3) code 200).call 3 [.sym .i64 0, .sym .i64 1]) h0) = true := by kernel_rfl
theorem cCertStops1x1 [Nu] : isTrue (run ((callD (orcCertStops 1 1) code 200).call 3 [.sym .i64 0, .sym .i64 1]) h0) = true := by kernel_rfl
theorem cCertStops1x3 [Nu] : isTrue (run ((callD (orcCertStops 1 3) code 200).call 3 [.sym .i64 0, .sym .i64 1]) h0) = true := by kernel_rfl
theorem cCertStops2x2 [Nu] : isTrue (run ((callD (orcCertStops 2 2) code 200).call 3 [.sym .i64 0, .sym .i64 1]) h0) = true := by kernel_rfl
theorem cCertStops3x3 [Nu] : isTrue (run ((callD (orcCertStops 3 3) code 200).call 3 [.sym .i64 0, .sym .i64 1]) h0) = true := by kernel_rfl
theorem cCertStops4x1 [Nu] : isTrue (run ((callD (orcCertStops 4 1) code 200).call 3 [.sym .i64 0, .sym .i64 1]) h0) = true := by kernel_rfl
theorem cCertStops4x3 [Nu] : isTrue (run ((callD (orcCertStops 4 3) code 200).call 3 [.sym .i64 0, .sym .i64 1]) h0) = true := by kernel_rfl
theorem cCertStops5x2 [Nu] : isTrue (run ((callD (orcCertStops 5 2) code 200).call 3 [.sym .i64 0, .sym .i64 1]) h0) = true := by kernel_rfl
theorem cCertStops6x3 [Nu] : isTrue (run ((callD (orcCertStops 6 3) code 200).call 3 [.sym .i64 0, .sym .i64 1]) h0) = true := by kernel_rfl
theorem cCertStops7x1 [Nu] : isTrue (run ((callD (orcCertStops 7 1) code 200).call 3 [.sym .i64 0, .sym .i64 1]) h0) = true := by kernel_rfl
theorem cCertStops7x3 [Nu] : isTrue (run ((callD (orcCertStops 7 3) code 200).call 3 [.sym .i64 0, .sym .i64 1]) h0) = true := by kernel_rfl
theorem cCertStops8x2 [Nu] : isTrue (run ((callD (orcCertStops 8 2) code 200).call 3 [.sym .i64 0, .sym .i64 1]) h0) = true := by kernel_rfl
end Go.Proofs.YtikmfghggnbedaaGreatDoor.XCodeL
