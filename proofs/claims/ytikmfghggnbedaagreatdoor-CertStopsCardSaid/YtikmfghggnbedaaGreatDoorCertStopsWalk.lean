/- CertStops returns true at every input: its way through the program. -/
import Derived.Test.YtikmfghggnbedaaGreatDoorCertStopsC0
import Derived.Test.YtikmfghggnbedaaGreatDoorCertStopsC1
import Derived.Test.YtikmfghggnbedaaGreatDoorCertStopsC2
set_option maxRecDepth 100000
namespace Go.Proofs.YtikmfghggnbedaaGreatDoor.XCodeL
open Go Go.X Go.RowKit
theorem walkCertStops_0 (a0 : Int) (a1 : Int) (w : World) (hL : LibVars w) (e0 : a0 % 9 = 0) : Calls Tryz.prog 3 #[.int .i64 a0, .int .i64 a1] w fun e w' => e = .returned (.bool true) ∧ Below w.heap.size w w' := by
  have h : a1 % 4 = 0 ∨ a1 % 4 = 1 ∨ a1 % 4 = 2 ∨ a1 % 4 = 3 := by omega
  rcases h with h | h | h | h
  · exact caseCertStops a0 a1 _ _ w hL e0 h cCertStops0x0
  · exact caseCertStops a0 a1 _ _ w hL e0 h cCertStops0x1
  · exact caseCertStops a0 a1 _ _ w hL e0 h cCertStops0x2
  · exact caseCertStops a0 a1 _ _ w hL e0 h cCertStops0x3
theorem walkCertStops_1 (a0 : Int) (a1 : Int) (w : World) (hL : LibVars w) (e0 : a0 % 9 = 1) : Calls Tryz.prog 3 #[.int .i64 a0, .int .i64 a1] w fun e w' => e = .returned (.bool true) ∧ Below w.heap.size w w' := by
  have h : a1 % 4 = 0 ∨ a1 % 4 = 1 ∨ a1 % 4 = 2 ∨ a1 % 4 = 3 := by omega
  rcases h with h | h | h | h
  · exact caseCertStops a0 a1 _ _ w hL e0 h cCertStops1x0
  · exact caseCertStops a0 a1 _ _ w hL e0 h cCertStops1x1
  · exact caseCertStops a0 a1 _ _ w hL e0 h cCertStops1x2
  · exact caseCertStops a0 a1 _ _ w hL e0 h cCertStops1x3
theorem walkCertStops_2 (a0 : Int) (a1 : Int) (w : World) (hL : LibVars w) (e0 : a0 % 9 = 2) : Calls Tryz.prog 3 #[.int .i64 a0, .int .i64 a1] w fun e w' => e = .returned (.bool true) ∧ Below w.heap.size w w' := by
  have h : a1 % 4 = 0 ∨ a1 % 4 = 1 ∨ a1 % 4 = 2 ∨ a1 % 4 = 3 := by omega
  rcases h with h | h | h | h
  · exact caseCertStops a0 a1 _ _ w hL e0 h cCertStops2x0
  · exact caseCertStops a0 a1 _ _ w hL e0 h cCertStops2x1
  · exact caseCertStops a0 a1 _ _ w hL e0 h cCertStops2x2
  · exact caseCertStops a0 a1 _ _ w hL e0 h cCertStops2x3
theorem walkCertStops_3 (a0 : Int) (a1 : Int) (w : World) (hL : LibVars w) (e0 : a0 % 9 = 3) : Calls Tryz.prog 3 #[.int .i64 a0, .int .i64 a1] w fun e w' => e = .returned (.bool true) ∧ Below w.heap.size w w' := by
  have h : a1 % 4 = 0 ∨ a1 % 4 = 1 ∨ a1 % 4 = 2 ∨ a1 % 4 = 3 := by omega
  rcases h with h | h | h | h
  · exact caseCertStops a0 a1 _ _ w hL e0 h cCertStops3x0
  · exact caseCertStops a0 a1 _ _ w hL e0 h cCertStops3x1
  · exact caseCertStops a0 a1 _ _ w hL e0 h cCertStops3x2
  · exact caseCertStops a0 a1 _ _ w hL e0 h cCertStops3x3
theorem walkCertStops_4 (a0 : Int) (a1 : Int) (w : World) (hL : LibVars w) (e0 : a0 % 9 = 4) : Calls Tryz.prog 3 #[.int .i64 a0, .int .i64 a1] w fun e w' => e = .returned (.bool true) ∧ Below w.heap.size w w' := by
  have h : a1 % 4 = 0 ∨ a1 % 4 = 1 ∨ a1 % 4 = 2 ∨ a1 % 4 = 3 := by omega
  rcases h with h | h | h | h
  · exact caseCertStops a0 a1 _ _ w hL e0 h cCertStops4x0
  · exact caseCertStops a0 a1 _ _ w hL e0 h cCertStops4x1
  · exact caseCertStops a0 a1 _ _ w hL e0 h cCertStops4x2
  · exact caseCertStops a0 a1 _ _ w hL e0 h cCertStops4x3
theorem walkCertStops_5 (a0 : Int) (a1 : Int) (w : World) (hL : LibVars w) (e0 : a0 % 9 = 5) : Calls Tryz.prog 3 #[.int .i64 a0, .int .i64 a1] w fun e w' => e = .returned (.bool true) ∧ Below w.heap.size w w' := by
  have h : a1 % 4 = 0 ∨ a1 % 4 = 1 ∨ a1 % 4 = 2 ∨ a1 % 4 = 3 := by omega
  rcases h with h | h | h | h
  · exact caseCertStops a0 a1 _ _ w hL e0 h cCertStops5x0
  · exact caseCertStops a0 a1 _ _ w hL e0 h cCertStops5x1
  · exact caseCertStops a0 a1 _ _ w hL e0 h cCertStops5x2
  · exact caseCertStops a0 a1 _ _ w hL e0 h cCertStops5x3
theorem walkCertStops_6 (a0 : Int) (a1 : Int) (w : World) (hL : LibVars w) (e0 : a0 % 9 = 6) : Calls Tryz.prog 3 #[.int .i64 a0, .int .i64 a1] w fun e w' => e = .returned (.bool true) ∧ Below w.heap.size w w' := by
  have h : a1 % 4 = 0 ∨ a1 % 4 = 1 ∨ a1 % 4 = 2 ∨ a1 % 4 = 3 := by omega
  rcases h with h | h | h | h
  · exact caseCertStops a0 a1 _ _ w hL e0 h cCertStops6x0
  · exact caseCertStops a0 a1 _ _ w hL e0 h cCertStops6x1
  · exact caseCertStops a0 a1 _ _ w hL e0 h cCertStops6x2
  · exact caseCertStops a0 a1 _ _ w hL e0 h cCertStops6x3
theorem walkCertStops_7 (a0 : Int) (a1 : Int) (w : World) (hL : LibVars w) (e0 : a0 % 9 = 7) : Calls Tryz.prog 3 #[.int .i64 a0, .int .i64 a1] w fun e w' => e = .returned (.bool true) ∧ Below w.heap.size w w' := by
  have h : a1 % 4 = 0 ∨ a1 % 4 = 1 ∨ a1 % 4 = 2 ∨ a1 % 4 = 3 := by omega
  rcases h with h | h | h | h
  · exact caseCertStops a0 a1 _ _ w hL e0 h cCertStops7x0
  · exact caseCertStops a0 a1 _ _ w hL e0 h cCertStops7x1
  · exact caseCertStops a0 a1 _ _ w hL e0 h cCertStops7x2
  · exact caseCertStops a0 a1 _ _ w hL e0 h cCertStops7x3
theorem walkCertStops_8 (a0 : Int) (a1 : Int) (w : World) (hL : LibVars w) (e0 : a0 % 9 = 8) : Calls Tryz.prog 3 #[.int .i64 a0, .int .i64 a1] w fun e w' => e = .returned (.bool true) ∧ Below w.heap.size w w' := by
  have h : a1 % 4 = 0 ∨ a1 % 4 = 1 ∨ a1 % 4 = 2 ∨ a1 % 4 = 3 := by omega
  rcases h with h | h | h | h
  · exact caseCertStops a0 a1 _ _ w hL e0 h cCertStops8x0
  · exact caseCertStops a0 a1 _ _ w hL e0 h cCertStops8x1
  · exact caseCertStops a0 a1 _ _ w hL e0 h cCertStops8x2
  · exact caseCertStops a0 a1 _ _ w hL e0 h cCertStops8x3
theorem walkCertStops (a0 : Int) (a1 : Int) (w : World) (hL : LibVars w)  : Calls Tryz.prog 3 #[.int .i64 a0, .int .i64 a1] w fun e w' => e = .returned (.bool true) ∧ Below w.heap.size w w' := by
  have h : a0 % 9 = 0 ∨ a0 % 9 = 1 ∨ a0 % 9 = 2 ∨ a0 % 9 = 3 ∨ a0 % 9 = 4 ∨ a0 % 9 = 5 ∨ a0 % 9 = 6 ∨ a0 % 9 = 7 ∨ a0 % 9 = 8 := by omega
  rcases h with h | h | h | h | h | h | h | h | h
  · exact walkCertStops_0 a0 a1 w hL  h
  · exact walkCertStops_1 a0 a1 w hL  h
  · exact walkCertStops_2 a0 a1 w hL  h
  · exact walkCertStops_3 a0 a1 w hL  h
  · exact walkCertStops_4 a0 a1 w hL  h
  · exact walkCertStops_5 a0 a1 w hL  h
  · exact walkCertStops_6 a0 a1 w hL  h
  · exact walkCertStops_7 a0 a1 w hL  h
  · exact walkCertStops_8 a0 a1 w hL  h
end Go.Proofs.YtikmfghggnbedaaGreatDoor.XCodeL
