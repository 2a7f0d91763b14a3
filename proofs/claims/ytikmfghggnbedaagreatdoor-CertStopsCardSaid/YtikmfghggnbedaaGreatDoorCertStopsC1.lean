/- CertStops: cases, run by the kernel. -/
import Derived.Test.YtikmfghggnbedaaGreatDoorCertStopsBase
set_option maxRecDepth 100000
namespace Go.Proofs.YtikmfghggnbedaaGreatDoor.XCodeL
open Go Go.X Go.RowKit
theorem cCertStops0x2 [Nu] : isTrue (run ((callD (orcCertStops 0 2) code 200).call 3 [.sym .i64 0, .sym .i64 1]) h0) = true := by kernel_rfl
theorem cCertStops1x0 [Nu] : isTrue (run ((callD (orcCertStops 1 0) code 200).call 3 [.sym .i64 0, .sym .i64 1]) h0) = true := by kernel_rfl
theorem cCertStops1x2 [Nu] : isTrue (run ((callD (orcCertStops 1 2) code 200).call 3 [.sym .i64 0, .sym .i64 1]) h0) = true := by kernel_rfl
theorem cCertStops2x1 [Nu] : isTrue (run ((callD (orcCertStops 2 1) code 200).call 3 [.sym .i64 0, .sym .i64 1]) h0) = true := by kernel_rfl
theorem cCertStops3x2 [Nu] : isTrue (run ((callD (orcCertStops 3 2) code 200).call 3 [.sym .i64 0, .sym .i64 1]) h0) = true := by kernel_rfl
theorem cCertStops4x0 [Nu] : isTrue (run ((callD (orcCertStops 4 0) code 200).call 3 [.sym .i64 0, .sym .i64 1]) h0) = true := by kernel_rfl
theorem cCertStops4x2 [Nu] : isTrue (run ((callD (orcCertStops 4 2) code 200).call 3 [.sym .i64 0, .sym .i64 1]) h0) = true := by kernel_rfl
theorem cCertStops5x1 [Nu] : isTrue (run ((callD (orcCertStops 5 1) code 200).call 3 [.sym .i64 0, .sym .i64 1]) h0) = true := by kernel_rfl
theorem cCertStops6x2 [Nu] : isTrue (run ((callD (orcCertStops 6 2) code 200).call 3 [.sym .i64 0, .sym .i64 1]) h0) = true := by kernel_rfl
theorem cCertStops7x0 [Nu] : isTrue (run ((callD (orcCertStops 7 0) code 200).call 3 [.sym .i64 0, .sym .i64 1]) h0) = true := by kernel_rfl
theorem cCertStops7x2 [Nu] : isTrue (run ((callD (orcCertStops 7 2) code 200).call 3 [.sym .i64 0, .sym .i64 1]) h0) = true := by kernel_rfl
theorem cCertStops8x1 [Nu] : isTrue (run ((callD (orcCertStops 8 1) code 200).call 3 [.sym .i64 0, .sym .i64 1]) h0) = true := by kernel_rfl
end Go.Proofs.YtikmfghggnbedaaGreatDoor.XCodeL
