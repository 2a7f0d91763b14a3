/- CertWrong returns true at every input: its way through the program. -/
import Derived.Test.YtccacodlhpoegaaDoorCertWrongC0
import Derived.Test.YtccacodlhpoegaaDoorCertWrongC1
import Derived.Test.YtccacodlhpoegaaDoorCertWrongC2
import Derived.Test.YtccacodlhpoegaaDoorCertWrongC3
import Derived.Test.YtccacodlhpoegaaDoorCertWrongC4
import Derived.Test.YtccacodlhpoegaaDoorCertWrongC5
set_option maxRecDepth 100000
namespace Go.Proofs.YtccacodlhpoegaaDoor.XCodeL
open Go Go.X Go.RowKit
theorem walkCertWrong_0 (a0 : Int) (a1 : Int) (w : World) (hL : LibVars w) (e0 : a0 % 9 = 0) : Calls Tryd.prog 3 #[.int .i64 a0, .int .i64 a1] w fun e w' => e = .returned (.bool true) ∧ Below w.heap.size w w' := by
  have h : a1 % 15 = 0 ∨ a1 % 15 = 1 ∨ a1 % 15 = 2 ∨ a1 % 15 = 3 ∨ a1 % 15 = 4 ∨ a1 % 15 = 5 ∨ a1 % 15 = 6 ∨ a1 % 15 = 7 ∨ a1 % 15 = 8 ∨ a1 % 15 = 9 ∨ a1 % 15 = 10 ∨ a1 % 15 = 11 ∨ a1 % 15 = 12 ∨ a1 % 15 = 13 ∨ a1 % 15 = 14 := by omega
  rcases h with h | h | h | h | h | h | h | h | h | h | h | h | h | h | h
  · exact caseCertWrong a0 a1 _ _ w hL e0 h cCertWrong0x0
  · exact caseCertWrong a0 a1 _ _ w hL e0 h cCertWrong0x1
  · exact caseCertWrong a0 a1 _ _ w hL e0 h cCertWrong0x2
  · exact caseCertWrong a0 a1 _ _ w hL e0 h cCertWrong0x3
  · exact caseCertWrong a0 a1 _ _ w hL e0 h cCertWrong0x4
  · exact caseCertWrong a0 a1 _ _ w hL e0 h cCertWrong0x5
  · exact caseCertWrong a0 a1 _ _ w hL e0 h cCertWrong0x6
  · exact caseCertWrong a0 a1 _ _ w hL e0 h cCertWrong0x7
  · exact caseCertWrong a0 a1 _ _ w hL e0 h cCertWrong0x8
  · exact caseCertWrong a0 a1 _ _ w hL e0 h cCertWrong0x9
  · exact caseCertWrong a0 a1 _ _ w hL e0 h cCertWrong0x10
  · exact caseCertWrong a0 a1 _ _ w hL e0 h cCertWrong0x11
  · exact caseCertWrong a0 a1 _ _ w hL e0 h cCertWrong0x12
  · exact caseCertWrong a0 a1 _ _ w hL e0 h cCertWrong0x13
  · exact caseCertWrong a0 a1 _ _ w hL e0 h cCertWrong0x14
theorem walkCertWrong_1 (a0 : Int) (a1 : Int) (w : World) (hL : LibVars w) (e0 : a0 % 9 = 1) : Calls Tryd.prog 3 #[.int .i64 a0, .int .i64 a1] w fun e w' => e = .returned (.bool true) ∧ Below w.heap.size w w' := by
  have h : a1 % 15 = 0 ∨ a1 % 15 = 1 ∨ a1 % 15 = 2 ∨ a1 % 15 = 3 ∨ a1 % 15 = 4 ∨ a1 % 15 = 5 ∨ a1 % 15 = 6 ∨ a1 % 15 = 7 ∨ a1 % 15 = 8 ∨ a1 % 15 = 9 ∨ a1 % 15 = 10 ∨ a1 % 15 = 11 ∨ a1 % 15 = 12 ∨ a1 % 15 = 13 ∨ a1 % 15 = 14 := by omega
  rcases h with h | h | h | h | h | h | h | h | h | h | h | h | h | h | h
  · exact caseCertWrong a0 a1 _ _ w hL e0 h cCertWrong1x0
  · exact caseCertWrong a0 a1 _ _ w hL e0 h cCertWrong1x1
  · exact caseCertWrong a0 a1 _ _ w hL e0 h cCertWrong1x2
  · exact caseCertWrong a0 a1 _ _ w hL e0 h cCertWrong1x3
  · exact caseCertWrong a0 a1 _ _ w hL e0 h cCertWrong1x4
  · exact caseCertWrong a0 a1 _ _ w hL e0 h cCertWrong1x5
  · exact caseCertWrong a0 a1 _ _ w hL e0 h cCertWrong1x6
  · exact caseCertWrong a0 a1 _ _ w hL e0 h cCertWrong1x7
  · exact caseCertWrong a0 a1 _ _ w hL e0 h cCertWrong1x8
  · exact caseCertWrong a0 a1 _ _ w hL e0 h cCertWrong1x9
  · exact caseCertWrong a0 a1 _ _ w hL e0 h cCertWrong1x10
  · exact caseCertWrong a0 a1 _ _ w hL e0 h cCertWrong1x11
  · exact caseCertWrong a0 a1 _ _ w hL e0 h cCertWrong1x12
  · exact caseCertWrong a0 a1 _ _ w hL e0 h cCertWrong1x13
  · exact caseCertWrong a0 a1 _ _ w hL e0 h cCertWrong1x14
theorem walkCertWrong_2 (a0 : Int) (a1 : Int) (w : World) (hL : LibVars w) (e0 : a0 % 9 = 2) : Calls Tryd.prog 3 #[.int .i64 a0, .int .i64 a1] w fun e w' => e = .returned (.bool true) ∧ Below w.heap.size w w' := by
  have h : a1 % 15 = 0 ∨ a1 % 15 = 1 ∨ a1 % 15 = 2 ∨ a1 % 15 = 3 ∨ a1 % 15 = 4 ∨ a1 % 15 = 5 ∨ a1 % 15 = 6 ∨ a1 % 15 = 7 ∨ a1 % 15 = 8 ∨ a1 % 15 = 9 ∨ a1 % 15 = 10 ∨ a1 % 15 = 11 ∨ a1 % 15 = 12 ∨ a1 % 15 = 13 ∨ a1 % 15 = 14 := by omega
  rcases h with h | h | h | h | h | h | h | h | h | h | h | h | h | h | h
  · exact caseCertWrong a0 a1 _ _ w hL e0 h cCertWrong2x0
  · exact caseCertWrong a0 a1 _ _ w hL e0 h cCertWrong2x1
  · exact caseCertWrong a0 a1 _ _ w hL e0 h cCertWrong2x2
  · exact caseCertWrong a0 a1 _ _ w hL e0 h cCertWrong2x3
  · exact caseCertWrong a0 a1 _ _ w hL e0 h cCertWrong2x4
  · exact caseCertWrong a0 a1 _ _ w hL e0 h cCertWrong2x5
  · exact caseCertWrong a0 a1 _ _ w hL e0 h cCertWrong2x6
  · exact caseCertWrong a0 a1 _ _ w hL e0 h cCertWrong2x7
  · exact caseCertWrong a0 a1 _ _ w hL e0 h cCertWrong2x8
  · exact caseCertWrong a0 a1 _ _ w hL e0 h cCertWrong2x9
  · exact caseCertWrong a0 a1 _ _ w hL e0 h cCertWrong2x10
  · exact caseCertWrong a0 a1 _ _ w hL e0 h cCertWrong2x11
  · exact caseCertWrong a0 a1 _ _ w hL e0 h cCertWrong2x12
  · exact caseCertWrong a0 a1 _ _ w hL e0 h cCertWrong2x13
  · exact caseCertWrong a0 a1 _ _ w hL e0 h cCertWrong2x14
theorem walkCertWrong_3 (a0 : Int) (a1 : Int) (w : World) (hL : LibVars w) (e0 : a0 % 9 = 3) : Calls Tryd.prog 3 #[.int .i64 a0, .int .i64 a1] w fun e w' => e = .returned (.bool true) ∧ Below w.heap.size w w' := by
  have h : a1 % 15 = 0 ∨ a1 % 15 = 1 ∨ a1 % 15 = 2 ∨ a1 % 15 = 3 ∨ a1 % 15 = 4 ∨ a1 % 15 = 5 ∨ a1 % 15 = 6 ∨ a1 % 15 = 7 ∨ a1 % 15 = 8 ∨ a1 % 15 = 9 ∨ a1 % 15 = 10 ∨ a1 % 15 = 11 ∨ a1 % 15 = 12 ∨ a1 % 15 = 13 ∨ a1 % 15 = 14 := by omega
  rcases h with h | h | h | h | h | h | h | h | h | h | h | h | h | h | h
  · exact caseCertWrong a0 a1 _ _ w hL e0 h cCertWrong3x0
  · exact caseCertWrong a0 a1 _ _ w hL e0 h cCertWrong3x1
  · exact caseCertWrong a0 a1 _ _ w hL e0 h cCertWrong3x2
  · exact caseCertWrong a0 a1 _ _ w hL e0 h cCertWrong3x3
  · exact caseCertWrong a0 a1 _ _ w hL e0 h cCertWrong3x4
  · exact caseCertWrong a0 a1 _ _ w hL e0 h cCertWrong3x5
  · exact caseCertWrong a0 a1 _ _ w hL e0 h cCertWrong3x6
  · exact caseCertWrong a0 a1 _ _ w hL e0 h cCertWrong3x7
  · exact caseCertWrong a0 a1 _ _ w hL e0 h cCertWrong3x8
  · exact caseCertWrong a0 a1 _ _ w hL e0 h cCertWrong3x9
  · exact caseCertWrong a0 a1 _ _ w hL e0 h cCertWrong3x10
  · exact caseCertWrong a0 a1 _ _ w hL e0 h cCertWrong3x11
  · exact caseCertWrong a0 a1 _ _ w hL e0 h cCertWrong3x12
  · exact caseCertWrong a0 a1 _ _ w hL e0 h cCertWrong3x13
  · exact caseCertWrong a0 a1 _ _ w hL e0 h cCertWrong3x14
theorem walkCertWrong_4 (a0 : Int) (a1 : Int) (w : World) (hL : LibVars w) (e0 : a0 % 9 = 4) : Calls Tryd.prog 3 #[.int .i64 a0, .int .i64 a1] w fun e w' => e = .returned (.bool true) ∧ Below w.heap.size w w' := by
  have h : a1 % 15 = 0 ∨ a1 % 15 = 1 ∨ a1 % 15 = 2 ∨ a1 % 15 = 3 ∨ a1 % 15 = 4 ∨ a1 % 15 = 5 ∨ a1 % 15 = 6 ∨ a1 % 15 = 7 ∨ a1 % 15 = 8 ∨ a1 % 15 = 9 ∨ a1 % 15 = 10 ∨ a1 % 15 = 11 ∨ a1 % 15 = 12 ∨ a1 % 15 = 13 ∨ a1 % 15 = 14 := by omega
  rcases h with h | h | h | h | h | h | h | h | h | h | h | h | h | h | h
  · exact caseCertWrong a0 a1 _ _ w hL e0 h cCertWrong4x0
  · exact caseCertWrong a0 a1 _ _ w hL e0 h cCertWrong4x1
  · exact caseCertWrong a0 a1 _ _ w hL e0 h cCertWrong4x2
  · exact caseCertWrong a0 a1 _ _ w hL e0 h cCertWrong4x3
  · exact caseCertWrong a0 a1 _ _ w hL e0 h cCertWrong4x4
  · exact caseCertWrong a0 a1 _ _ w hL e0 h cCertWrong4x5
  · exact caseCertWrong a0 a1 _ _ w hL e0 h cCertWrong4x6
  · exact caseCertWrong a0 a1 _ _ w hL e0 h cCertWrong4x7
  · exact caseCertWrong a0 a1 _ _ w hL e0 h cCertWrong4x8
  · exact caseCertWrong a0 a1 _ _ w hL e0 h cCertWrong4x9
  · exact caseCertWrong a0 a1 _ _ w hL e0 h cCertWrong4x10
  · exact caseCertWrong a0 a1 _ _ w hL e0 h cCertWrong4x11
  · exact caseCertWrong a0 a1 _ _ w hL e0 h cCertWrong4x12
  · exact caseCertWrong a0 a1 _ _ w hL e0 h cCertWrong4x13
  · exact caseCertWrong a0 a1 _ _ w hL e0 h cCertWrong4x14
theorem walkCertWrong_5 (a0 : Int) (a1 : Int) (w : World) (hL : LibVars w) (e0 : a0 % 9 = 5) : Calls Tryd.prog 3 #[.int .i64 a0, .int .i64 a1] w fun e w' => e = .returned (.bool true) ∧ Below w.heap.size w w' := by
  have h : a1 % 15 = 0 ∨ a1 % 15 = 1 ∨ a1 % 15 = 2 ∨ a1 % 15 = 3 ∨ a1 % 15 = 4 ∨ a1 % 15 = 5 ∨ a1 % 15 = 6 ∨ a1 % 15 = 7 ∨ a1 % 15 = 8 ∨ a1 % 15 = 9 ∨ a1 % 15 = 10 ∨ a1 % 15 = 11 ∨ a1 % 15 = 12 ∨ a1 % 15 = 13 ∨ a1 % 15 = 14 := by omega
  rcases h with h | h | h | h | h | h | h | h | h | h | h | h | h | h | h
  · exact caseCertWrong a0 a1 _ _ w hL e0 h cCertWrong5x0
  · exact caseCertWrong a0 a1 _ _ w hL e0 h cCertWrong5x1
  · exact caseCertWrong a0 a1 _ _ w hL e0 h cCertWrong5x2
  · exact caseCertWrong a0 a1 _ _ w hL e0 h cCertWrong5x3
  · exact caseCertWrong a0 a1 _ _ w hL e0 h cCertWrong5x4
  · exact caseCertWrong a0 a1 _ _ w hL e0 h cCertWrong5x5
  · exact caseCertWrong a0 a1 _ _ w hL e0 h cCertWrong5x6
  · exact caseCertWrong a0 a1 _ _ w hL e0 h cCertWrong5x7
  · exact caseCertWrong a0 a1 _ _ w hL e0 h cCertWrong5x8
  · exact caseCertWrong a0 a1 _ _ w hL e0 h cCertWrong5x9
  · exact caseCertWrong a0 a1 _ _ w hL e0 h cCertWrong5x10
  · exact caseCertWrong a0 a1 _ _ w hL e0 h cCertWrong5x11
  · exact caseCertWrong a0 a1 _ _ w hL e0 h cCertWrong5x12
  · exact caseCertWrong a0 a1 _ _ w hL e0 h cCertWrong5x13
  · exact caseCertWrong a0 a1 _ _ w hL e0 h cCertWrong5x14
theorem walkCertWrong_6 (a0 : Int) (a1 : Int) (w : World) (hL : LibVars w) (e0 : a0 % 9 = 6) : Calls Tryd.prog 3 #[.int .i64 a0, .int .i64 a1] w fun e w' => e = .returned (.bool true) ∧ Below w.heap.size w w' := by
  have h : a1 % 15 = 0 ∨ a1 % 15 = 1 ∨ a1 % 15 = 2 ∨ a1 % 15 = 3 ∨ a1 % 15 = 4 ∨ a1 % 15 = 5 ∨ a1 % 15 = 6 ∨ a1 % 15 = 7 ∨ a1 % 15 = 8 ∨ a1 % 15 = 9 ∨ a1 % 15 = 10 ∨ a1 % 15 = 11 ∨ a1 % 15 = 12 ∨ a1 % 15 = 13 ∨ a1 % 15 = 14 := by omega
  rcases h with h | h | h | h | h | h | h | h | h | h | h | h | h | h | h
  · exact caseCertWrong a0 a1 _ _ w hL e0 h cCertWrong6x0
  · exact caseCertWrong a0 a1 _ _ w hL e0 h cCertWrong6x1
  · exact caseCertWrong a0 a1 _ _ w hL e0 h cCertWrong6x2
  · exact caseCertWrong a0 a1 _ _ w hL e0 h cCertWrong6x3
  · exact caseCertWrong a0 a1 _ _ w hL e0 h cCertWrong6x4
  · exact caseCertWrong a0 a1 _ _ w hL e0 h cCertWrong6x5
  · exact caseCertWrong a0 a1 _ _ w hL e0 h cCertWrong6x6
  · exact caseCertWrong a0 a1 _ _ w hL e0 h cCertWrong6x7
  · exact caseCertWrong a0 a1 _ _ w hL e0 h cCertWrong6x8
  · exact caseCertWrong a0 a1 _ _ w hL e0 h cCertWrong6x9
  · exact caseCertWrong a0 a1 _ _ w hL e0 h cCertWrong6x10
  · exact caseCertWrong a0 a1 _ _ w hL e0 h cCertWrong6x11
  · exact caseCertWrong a0 a1 _ _ w hL e0 h cCertWrong6x12
  · exact caseCertWrong a0 a1 _ _ w hL e0 h cCertWrong6x13
  · exact caseCertWrong a0 a1 _ _ w hL e0 h cCertWrong6x14
theorem walkCertWrong_7 (a0 : Int) (a1 : Int) (w : World) (hL : LibVars w) (e0 : a0 % 9 = 7) : Calls Tryd.prog 3 #[.int .i64 a0, .int .i64 a1] w fun e w' => e = .returned (.bool true) ∧ Below w.heap.size w w' := by
  have h : a1 % 15 = 0 ∨ a1 % 15 = 1 ∨ a1 % 15 = 2 ∨ a1 % 15 = 3 ∨ a1 % 15 = 4 ∨ a1 % 15 = 5 ∨ a1 % 15 = 6 ∨ a1 % 15 = 7 ∨ a1 % 15 = 8 ∨ a1 % 15 = 9 ∨ a1 % 15 = 10 ∨ a1 % 15 = 11 ∨ a1 % 15 = 12 ∨ a1 % 15 = 13 ∨ a1 % 15 = 14 := by omega
  rcases h with h | h | h | h | h | h | h | h | h | h | h | h | h | h | h
  · exact caseCertWrong a0 a1 _ _ w hL e0 h cCertWrong7x0
  · exact caseCertWrong a0 a1 _ _ w hL e0 h cCertWrong7x1
  · exact caseCertWrong a0 a1 _ _ w hL e0 h cCertWrong7x2
  · exact caseCertWrong a0 a1 _ _ w hL e0 h cCertWrong7x3
  · exact caseCertWrong a0 a1 _ _ w hL e0 h cCertWrong7x4
  · exact caseCertWrong a0 a1 _ _ w hL e0 h cCertWrong7x5
  · exact caseCertWrong a0 a1 _ _ w hL e0 h cCertWrong7x6
  · exact caseCertWrong a0 a1 _ _ w hL e0 h cCertWrong7x7
  · exact caseCertWrong a0 a1 _ _ w hL e0 h cCertWrong7x8
  · exact caseCertWrong a0 a1 _ _ w hL e0 h cCertWrong7x9
  · exact caseCertWrong a0 a1 _ _ w hL e0 h cCertWrong7x10
  · exact caseCertWrong a0 a1 _ _ w hL e0 h cCertWrong7x11
  · exact caseCertWrong a0 a1 _ _ w hL e0 h cCertWrong7x12
  · exact caseCertWrong a0 a1 _ _ w hL e0 h cCertWrong7x13
  · exact caseCertWrong a0 a1 _ _ w hL e0 h cCertWrong7x14
theorem walkCertWrong_8 (a0 : Int) (a1 : Int) (w : World) (hL : LibVars w) (e0 : a0 % 9 = 8) : Calls Tryd.prog 3 #[.int .i64 a0, .int .i64 a1] w fun e w' => e = .returned (.bool true) ∧ Below w.heap.size w w' := by
  have h : a1 % 15 = 0 ∨ a1 % 15 = 1 ∨ a1 % 15 = 2 ∨ a1 % 15 = 3 ∨ a1 % 15 = 4 ∨ a1 % 15 = 5 ∨ a1 % 15 = 6 ∨ a1 % 15 = 7 ∨ a1 % 15 = 8 ∨ a1 % 15 = 9 ∨ a1 % 15 = 10 ∨ a1 % 15 = 11 ∨ a1 % 15 = 12 ∨ a1 % 15 = 13 ∨ a1 % 15 = 14 := by omega
  rcases h with h | h | h | h | h | h | h | h | h | h | h | h | h | h | h
  · exact caseCertWrong a0 a1 _ _ w hL e0 h cCertWrong8x0
  · exact caseCertWrong a0 a1 _ _ w hL e0 h cCertWrong8x1
  · exact caseCertWrong a0 a1 _ _ w hL e0 h cCertWrong8x2
  · exact caseCertWrong a0 a1 _ _ w hL e0 h cCertWrong8x3
  · exact caseCertWrong a0 a1 _ _ w hL e0 h cCertWrong8x4
  · exact caseCertWrong a0 a1 _ _ w hL e0 h cCertWrong8x5
  · exact caseCertWrong a0 a1 _ _ w hL e0 h cCertWrong8x6
  · exact caseCertWrong a0 a1 _ _ w hL e0 h cCertWrong8x7
  · exact caseCertWrong a0 a1 _ _ w hL e0 h cCertWrong8x8
  · exact caseCertWrong a0 a1 _ _ w hL e0 h cCertWrong8x9
  · exact caseCertWrong a0 a1 _ _ w hL e0 h cCertWrong8x10
  · exact caseCertWrong a0 a1 _ _ w hL e0 h cCertWrong8x11
  · exact caseCertWrong a0 a1 _ _ w hL e0 h cCertWrong8x12
  · exact caseCertWrong a0 a1 _ _ w hL e0 h cCertWrong8x13
  · exact caseCertWrong a0 a1 _ _ w hL e0 h cCertWrong8x14
theorem walkCertWrong (a0 : Int) (a1 : Int) (w : World) (hL : LibVars w)  : Calls Tryd.prog 3 #[.int .i64 a0, .int .i64 a1] w fun e w' => e = .returned (.bool true) ∧ Below w.heap.size w w' := by
  have h : a0 % 9 = 0 ∨ a0 % 9 = 1 ∨ a0 % 9 = 2 ∨ a0 % 9 = 3 ∨ a0 % 9 = 4 ∨ a0 % 9 = 5 ∨ a0 % 9 = 6 ∨ a0 % 9 = 7 ∨ a0 % 9 = 8 := by omega
  rcases h with h | h | h | h | h | h | h | h | h
  · exact walkCertWrong_0 a0 a1 w hL  h
  · exact walkCertWrong_1 a0 a1 w hL  h
  · exact walkCertWrong_2 a0 a1 w hL  h
  · exact walkCertWrong_3 a0 a1 w hL  h
  · exact walkCertWrong_4 a0 a1 w hL  h
  · exact walkCertWrong_5 a0 a1 w hL  h
  · exact walkCertWrong_6 a0 a1 w hL  h
  · exact walkCertWrong_7 a0 a1 w hL  h
  · exact walkCertWrong_8 a0 a1 w hL  h
end Go.Proofs.YtccacodlhpoegaaDoor.XCodeL
