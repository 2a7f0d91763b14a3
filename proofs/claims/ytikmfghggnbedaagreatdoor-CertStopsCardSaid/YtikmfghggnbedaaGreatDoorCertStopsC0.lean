/- CertStops: cases, run by the kernel. -/
import Derived.Test.YtikmfghggnbedaaGreatDoorCertStopsBase
set_option maxRecDepth 100000
namespace Go.Proofs.YtikmfghggnbedaaGreatDoor.XCodeL
open Go Go.X Go.RowKit
theorem cCertStops0x0 [Nu] : isTrue (run ((callD (orcCertStops 0 0) code 200).call 3 [.sym .i64 0, .sym .i64 1]) h0) = true := by kernel_rfl
theorem cCertStops0x1 [Nu] : isTrue (run ((callD (orcCertStops 0 1) code 200).call 3 [.sym .i64 0, .sym .i64 1]) h0) = true := by kernel_rfl
theorem cCertStops2x0 [Nu] : isTrue (run ((callD (orcCertStops 2 0) code 200).call 3 [.sym .i64 0, .sym .i64 1]) h0) = true := by kernel_rfl
theorem cCertStops2x3 [Nu] : isTrue (run ((callD (orcCertStops 2 3) code 200).call 3 [.sym .i64 0, .sym .i64 1]) h0) = true := by kernel_rfl
theorem cCertStops3x0 [Nu] : isTrue (run ((callD (orcCertStops 3 0) code 200).call 3 [.sym .i64 0, .sym .i64 1]) h0) = true := by kernel_rfl
theorem cCertStops3x1 [Nu] : isTrue (run ((callD (orcCertStops 3 1) code 200).call 3 [.sym .i64 0, .sym .i64 1]) h0) = true := by kernel_rfl
theorem cCertStops5x0 [Nu] : isTrue (run ((callD (orcCertStops 5 0) code 200).call 3 [.sym .i64 0, .sym .i64 1]) h0) = true := by kernel_rfl
theorem cCertStops5x3 [Nu] : isTrue (run ((callD (orcCertStops 5 3) code 200).call 3 [.sym .i64 0, .sym .i64 1]) h0) = true := by kernel_rfl
theorem cCertStops6x0 [Nu] : isTrue (run ((callD (orcCertStops 6 0) code 200).call 3 [.sym .i64 0, .sym .i64 1]) h0) = true := by kernel_rfl
theorem cCertStops6x1 [Nu] : isTrue (run ((callD (orcCertStops 6 1) code 200).call 3 [.sym .i64 0, .sym .i64 1]) h0) = true := by kernel_rfl
theorem cCertStops8x0 [Nu] : isTrue (run ((callD (orcCertStops 8 0) code 200).call 3 [.sym .i64 0, .sym .i64 1]) h0) = true := by kernel_rfl
theorem cCertStops8x3 [Nu] : isTrue (run ((callD (orcCertStops 8 3) code 200).call 3 [.sym .i64 0, .sym .i64 1]) h0) = true := by kernel_rfl
end Go.Proofs.YtikmfghggnbedaaGreatDoor.XCodeL
