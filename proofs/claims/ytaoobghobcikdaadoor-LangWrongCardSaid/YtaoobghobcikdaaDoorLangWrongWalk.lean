/- LangWrong returns true at every input: its way through the program. -/
import Derived.Test.YtaoobghobcikdaaDoorLangWrongC0
import Derived.Test.YtaoobghobcikdaaDoorLangWrongC1
import Derived.Test.YtaoobghobcikdaaDoorLangWrongC2
import Derived.Test.YtaoobghobcikdaaDoorLangWrongC3
set_option maxRecDepth 100000
namespace Go.Proofs.YtaoobghobcikdaaDoor.XCodeL
open Go Go.X Go.RowKit
theorem walkLangWrong_0 (a0 a1 : Int) (w : World) (hL : LibVars w) (e0 : a0 % 14 = 0) : Calls Tryd.prog 4 #[.int .i64 a0, .int .i64 a1] w fun e w' => e = .returned (.bool true) ∧ Below w.heap.size w w' := by
  have h : a1 % 20 = 0 ∨ a1 % 20 = 1 ∨ a1 % 20 = 2 ∨ a1 % 20 = 3 ∨ a1 % 20 = 4 ∨ a1 % 20 = 5 ∨ a1 % 20 = 6 ∨ a1 % 20 = 7 ∨ a1 % 20 = 8 ∨ a1 % 20 = 9 ∨ a1 % 20 = 10 ∨ a1 % 20 = 11 ∨ a1 % 20 = 12 ∨ a1 % 20 = 13 ∨ a1 % 20 = 14 ∨ a1 % 20 = 15 ∨ a1 % 20 = 16 ∨ a1 % 20 = 17 ∨ a1 % 20 = 18 ∨ a1 % 20 = 19 := by omega
  rcases h with h | h | h | h | h | h | h | h | h | h | h | h | h | h | h | h | h | h | h | h
  · exact caseLangWrong a0 a1 _ _ w hL e0 h cLangWrong0x0
  · exact caseLangWrong a0 a1 _ _ w hL e0 h cLangWrong0x1
  · exact caseLangWrong a0 a1 _ _ w hL e0 h cLangWrong0x2
  · exact caseLangWrong a0 a1 _ _ w hL e0 h cLangWrong0x3
  · exact caseLangWrong a0 a1 _ _ w hL e0 h cLangWrong0x4
  · exact caseLangWrong a0 a1 _ _ w hL e0 h cLangWrong0x5
  · exact caseLangWrong a0 a1 _ _ w hL e0 h cLangWrong0x6
  · exact caseLangWrong a0 a1 _ _ w hL e0 h cLangWrong0x7
  · exact caseLangWrong a0 a1 _ _ w hL e0 h cLangWrong0x8
  · exact caseLangWrong a0 a1 _ _ w hL e0 h cLangWrong0x9
  · exact caseLangWrong a0 a1 _ _ w hL e0 h cLangWrong0x10
  · exact caseLangWrong a0 a1 _ _ w hL e0 h cLangWrong0x11
  · exact caseLangWrong a0 a1 _ _ w hL e0 h cLangWrong0x12
  · exact caseLangWrong a0 a1 _ _ w hL e0 h cLangWrong0x13
  · exact caseLangWrong a0 a1 _ _ w hL e0 h cLangWrong0x14
  · exact caseLangWrong a0 a1 _ _ w hL e0 h cLangWrong0x15
  · exact caseLangWrong a0 a1 _ _ w hL e0 h cLangWrong0x16
  · exact caseLangWrong a0 a1 _ _ w hL e0 h cLangWrong0x17
  · exact caseLangWrong a0 a1 _ _ w hL e0 h cLangWrong0x18
  · exact caseLangWrong a0 a1 _ _ w hL e0 h cLangWrong0x19
theorem walkLangWrong_1 (a0 a1 : Int) (w : World) (hL : LibVars w) (e0 : a0 % 14 = 1) : Calls Tryd.prog 4 #[.int .i64 a0, .int .i64 a1] w fun e w' => e = .returned (.bool true) ∧ Below w.heap.size w w' := by
  have h : a1 % 20 = 0 ∨ a1 % 20 = 1 ∨ a1 % 20 = 2 ∨ a1 % 20 = 3 ∨ a1 % 20 = 4 ∨ a1 % 20 = 5 ∨ a1 % 20 = 6 ∨ a1 % 20 = 7 ∨ a1 % 20 = 8 ∨ a1 % 20 = 9 ∨ a1 % 20 = 10 ∨ a1 % 20 = 11 ∨ a1 % 20 = 12 ∨ a1 % 20 = 13 ∨ a1 % 20 = 14 ∨ a1 % 20 = 15 ∨ a1 % 20 = 16 ∨ a1 % 20 = 17 ∨ a1 % 20 = 18 ∨ a1 % 20 = 19 := by omega
  rcases h with h | h | h | h | h | h | h | h | h | h | h | h | h | h | h | h | h | h | h | h
  · exact caseLangWrong a0 a1 _ _ w hL e0 h cLangWrong1x0
  · exact caseLangWrong a0 a1 _ _ w hL e0 h cLangWrong1x1
  · exact caseLangWrong a0 a1 _ _ w hL e0 h cLangWrong1x2
  · exact caseLangWrong a0 a1 _ _ w hL e0 h cLangWrong1x3
  · exact caseLangWrong a0 a1 _ _ w hL e0 h cLangWrong1x4
  · exact caseLangWrong a0 a1 _ _ w hL e0 h cLangWrong1x5
  · exact caseLangWrong a0 a1 _ _ w hL e0 h cLangWrong1x6
  · exact caseLangWrong a0 a1 _ _ w hL e0 h cLangWrong1x7
  · exact caseLangWrong a0 a1 _ _ w hL e0 h cLangWrong1x8
  · exact caseLangWrong a0 a1 _ _ w hL e0 h cLangWrong1x9
  · exact caseLangWrong a0 a1 _ _ w hL e0 h cLangWrong1x10
  · exact caseLangWrong a0 a1 _ _ w hL e0 h cLangWrong1x11
  · exact caseLangWrong a0 a1 _ _ w hL e0 h cLangWrong1x12
  · exact caseLangWrong a0 a1 _ _ w hL e0 h cLangWrong1x13
  · exact caseLangWrong a0 a1 _ _ w hL e0 h cLangWrong1x14
  · exact caseLangWrong a0 a1 _ _ w hL e0 h cLangWrong1x15
  · exact caseLangWrong a0 a1 _ _ w hL e0 h cLangWrong1x16
  · exact caseLangWrong a0 a1 _ _ w hL e0 h cLangWrong1x17
  · exact caseLangWrong a0 a1 _ _ w hL e0 h cLangWrong1x18
  · exact caseLangWrong a0 a1 _ _ w hL e0 h cLangWrong1x19
theorem walkLangWrong_2 (a0 a1 : Int) (w : World) (hL : LibVars w) (e0 : a0 % 14 = 2) : Calls Tryd.prog 4 #[.int .i64 a0, .int .i64 a1] w fun e w' => e = .returned (.bool true) ∧ Below w.heap.size w w' := by
  have h : a1 % 20 = 0 ∨ a1 % 20 = 1 ∨ a1 % 20 = 2 ∨ a1 % 20 = 3 ∨ a1 % 20 = 4 ∨ a1 % 20 = 5 ∨ a1 % 20 = 6 ∨ a1 % 20 = 7 ∨ a1 % 20 = 8 ∨ a1 % 20 = 9 ∨ a1 % 20 = 10 ∨ a1 % 20 = 11 ∨ a1 % 20 = 12 ∨ a1 % 20 = 13 ∨ a1 % 20 = 14 ∨ a1 % 20 = 15 ∨ a1 % 20 = 16 ∨ a1 % 20 = 17 ∨ a1 % 20 = 18 ∨ a1 % 20 = 19 := by omega
  rcases h with h | h | h | h | h | h | h | h | h | h | h | h | h | h | h | h | h | h | h | h
  · exact caseLangWrong a0 a1 _ _ w hL e0 h cLangWrong2x0
  · exact caseLangWrong a0 a1 _ _ w hL e0 h cLangWrong2x1
  · exact caseLangWrong a0 a1 _ _ w hL e0 h cLangWrong2x2
  · exact caseLangWrong a0 a1 _ _ w hL e0 h cLangWrong2x3
  · exact caseLangWrong a0 a1 _ _ w hL e0 h cLangWrong2x4
  · exact caseLangWrong a0 a1 _ _ w hL e0 h cLangWrong2x5
  · exact caseLangWrong a0 a1 _ _ w hL e0 h cLangWrong2x6
  · exact caseLangWrong a0 a1 _ _ w hL e0 h cLangWrong2x7
  · exact caseLangWrong a0 a1 _ _ w hL e0 h cLangWrong2x8
  · exact caseLangWrong a0 a1 _ _ w hL e0 h cLangWrong2x9
  · exact caseLangWrong a0 a1 _ _ w hL e0 h cLangWrong2x10
  · exact caseLangWrong a0 a1 _ _ w hL e0 h cLangWrong2x11
  · exact caseLangWrong a0 a1 _ _ w hL e0 h cLangWrong2x12
  · exact caseLangWrong a0 a1 _ _ w hL e0 h cLangWrong2x13
  · exact caseLangWrong a0 a1 _ _ w hL e0 h cLangWrong2x14
  · exact caseLangWrong a0 a1 _ _ w hL e0 h cLangWrong2x15
  · exact caseLangWrong a0 a1 _ _ w hL e0 h cLangWrong2x16
  · exact caseLangWrong a0 a1 _ _ w hL e0 h cLangWrong2x17
  · exact caseLangWrong a0 a1 _ _ w hL e0 h cLangWrong2x18
  · exact caseLangWrong a0 a1 _ _ w hL e0 h cLangWrong2x19
theorem walkLangWrong_3 (a0 a1 : Int) (w : World) (hL : LibVars w) (e0 : a0 % 14 = 3) : Calls Tryd.prog 4 #[.int .i64 a0, .int .i64 a1] w fun e w' => e = .returned (.bool true) ∧ Below w.heap.size w w' := by
  have h : a1 % 20 = 0 ∨ a1 % 20 = 1 ∨ a1 % 20 = 2 ∨ a1 % 20 = 3 ∨ a1 % 20 = 4 ∨ a1 % 20 = 5 ∨ a1 % 20 = 6 ∨ a1 % 20 = 7 ∨ a1 % 20 = 8 ∨ a1 % 20 = 9 ∨ a1 % 20 = 10 ∨ a1 % 20 = 11 ∨ a1 % 20 = 12 ∨ a1 % 20 = 13 ∨ a1 % 20 = 14 ∨ a1 % 20 = 15 ∨ a1 % 20 = 16 ∨ a1 % 20 = 17 ∨ a1 % 20 = 18 ∨ a1 % 20 = 19 := by omega
  rcases h with h | h | h | h | h | h | h | h | h | h | h | h | h | h | h | h | h | h | h | h
  · exact caseLangWrong a0 a1 _ _ w hL e0 h cLangWrong3x0
  · exact caseLangWrong a0 a1 _ _ w hL e0 h cLangWrong3x1
  · exact caseLangWrong a0 a1 _ _ w hL e0 h cLangWrong3x2
  · exact caseLangWrong a0 a1 _ _ w hL e0 h cLangWrong3x3
  · exact caseLangWrong a0 a1 _ _ w hL e0 h cLangWrong3x4
  · exact caseLangWrong a0 a1 _ _ w hL e0 h cLangWrong3x5
  · exact caseLangWrong a0 a1 _ _ w hL e0 h cLangWrong3x6
  · exact caseLangWrong a0 a1 _ _ w hL e0 h cLangWrong3x7
  · exact caseLangWrong a0 a1 _ _ w hL e0 h cLangWrong3x8
  · exact caseLangWrong a0 a1 _ _ w hL e0 h cLangWrong3x9
  · exact caseLangWrong a0 a1 _ _ w hL e0 h cLangWrong3x10
  · exact caseLangWrong a0 a1 _ _ w hL e0 h cLangWrong3x11
  · exact caseLangWrong a0 a1 _ _ w hL e0 h cLangWrong3x12
  · exact caseLangWrong a0 a1 _ _ w hL e0 h cLangWrong3x13
  · exact caseLangWrong a0 a1 _ _ w hL e0 h cLangWrong3x14
  · exact caseLangWrong a0 a1 _ _ w hL e0 h cLangWrong3x15
  · exact caseLangWrong a0 a1 _ _ w hL e0 h cLangWrong3x16
  · exact caseLangWrong a0 a1 _ _ w hL e0 h cLangWrong3x17
  · exact caseLangWrong a0 a1 _ _ w hL e0 h cLangWrong3x18
  · exact caseLangWrong a0 a1 _ _ w hL e0 h cLangWrong3x19
theorem walkLangWrong_4 (a0 a1 : Int) (w : World) (hL : LibVars w) (e0 : a0 % 14 = 4) : Calls Tryd.prog 4 #[.int .i64 a0, .int .i64 a1] w fun e w' => e = .returned (.bool true) ∧ Below w.heap.size w w' := by
  have h : a1 % 20 = 0 ∨ a1 % 20 = 1 ∨ a1 % 20 = 2 ∨ a1 % 20 = 3 ∨ a1 % 20 = 4 ∨ a1 % 20 = 5 ∨ a1 % 20 = 6 ∨ a1 % 20 = 7 ∨ a1 % 20 = 8 ∨ a1 % 20 = 9 ∨ a1 % 20 = 10 ∨ a1 % 20 = 11 ∨ a1 % 20 = 12 ∨ a1 % 20 = 13 ∨ a1 % 20 = 14 ∨ a1 % 20 = 15 ∨ a1 % 20 = 16 ∨ a1 % 20 = 17 ∨ a1 % 20 = 18 ∨ a1 % 20 = 19 := by omega
  rcases h with h | h | h | h | h | h | h | h | h | h | h | h | h | h | h | h | h | h | h | h
  · exact caseLangWrong a0 a1 _ _ w hL e0 h cLangWrong4x0
  · exact caseLangWrong a0 a1 _ _ w hL e0 h cLangWrong4x1
  · exact caseLangWrong a0 a1 _ _ w hL e0 h cLangWrong4x2
  · exact caseLangWrong a0 a1 _ _ w hL e0 h cLangWrong4x3
  · exact caseLangWrong a0 a1 _ _ w hL e0 h cLangWrong4x4
  · exact caseLangWrong a0 a1 _ _ w hL e0 h cLangWrong4x5
  · exact caseLangWrong a0 a1 _ _ w hL e0 h cLangWrong4x6
  · exact caseLangWrong a0 a1 _ _ w hL e0 h cLangWrong4x7
  · exact caseLangWrong a0 a1 _ _ w hL e0 h cLangWrong4x8
  · exact caseLangWrong a0 a1 _ _ w hL e0 h cLangWrong4x9
  · exact caseLangWrong a0 a1 _ _ w hL e0 h cLangWrong4x10
  · exact caseLangWrong a0 a1 _ _ w hL e0 h cLangWrong4x11
  · exact caseLangWrong a0 a1 _ _ w hL e0 h cLangWrong4x12
  · exact caseLangWrong a0 a1 _ _ w hL e0 h cLangWrong4x13
  · exact caseLangWrong a0 a1 _ _ w hL e0 h cLangWrong4x14
  · exact caseLangWrong a0 a1 _ _ w hL e0 h cLangWrong4x15
  · exact caseLangWrong a0 a1 _ _ w hL e0 h cLangWrong4x16
  · exact caseLangWrong a0 a1 _ _ w hL e0 h cLangWrong4x17
  · exact caseLangWrong a0 a1 _ _ w hL e0 h cLangWrong4x18
  · exact caseLangWrong a0 a1 _ _ w hL e0 h cLangWrong4x19
theorem walkLangWrong_5 (a0 a1 : Int) (w : World) (hL : LibVars w) (e0 : a0 % 14 = 5) : Calls Tryd.prog 4 #[.int .i64 a0, .int .i64 a1] w fun e w' => e = .returned (.bool true) ∧ Below w.heap.size w w' := by
  have h : a1 % 20 = 0 ∨ a1 % 20 = 1 ∨ a1 % 20 = 2 ∨ a1 % 20 = 3 ∨ a1 % 20 = 4 ∨ a1 % 20 = 5 ∨ a1 % 20 = 6 ∨ a1 % 20 = 7 ∨ a1 % 20 = 8 ∨ a1 % 20 = 9 ∨ a1 % 20 = 10 ∨ a1 % 20 = 11 ∨ a1 % 20 = 12 ∨ a1 % 20 = 13 ∨ a1 % 20 = 14 ∨ a1 % 20 = 15 ∨ a1 % 20 = 16 ∨ a1 % 20 = 17 ∨ a1 % 20 = 18 ∨ a1 % 20 = 19 := by omega
  rcases h with h | h | h | h | h | h | h | h | h | h | h | h | h | h | h | h | h | h | h | h
  · exact caseLangWrong a0 a1 _ _ w hL e0 h cLangWrong5x0
  · exact caseLangWrong a0 a1 _ _ w hL e0 h cLangWrong5x1
  · exact caseLangWrong a0 a1 _ _ w hL e0 h cLangWrong5x2
  · exact caseLangWrong a0 a1 _ _ w hL e0 h cLangWrong5x3
  · exact caseLangWrong a0 a1 _ _ w hL e0 h cLangWrong5x4
  · exact caseLangWrong a0 a1 _ _ w hL e0 h cLangWrong5x5
  · exact caseLangWrong a0 a1 _ _ w hL e0 h cLangWrong5x6
  · exact caseLangWrong a0 a1 _ _ w hL e0 h cLangWrong5x7
  · exact caseLangWrong a0 a1 _ _ w hL e0 h cLangWrong5x8
  · exact caseLangWrong a0 a1 _ _ w hL e0 h cLangWrong5x9
  · exact caseLangWrong a0 a1 _ _ w hL e0 h cLangWrong5x10
  · exact caseLangWrong a0 a1 _ _ w hL e0 h cLangWrong5x11
  · exact caseLangWrong a0 a1 _ _ w hL e0 h cLangWrong5x12
  · exact caseLangWrong a0 a1 _ _ w hL e0 h cLangWrong5x13
  · exact caseLangWrong a0 a1 _ _ w hL e0 h cLangWrong5x14
  · exact caseLangWrong a0 a1 _ _ w hL e0 h cLangWrong5x15
  · exact caseLangWrong a0 a1 _ _ w hL e0 h cLangWrong5x16
  · exact caseLangWrong a0 a1 _ _ w hL e0 h cLangWrong5x17
  · exact caseLangWrong a0 a1 _ _ w hL e0 h cLangWrong5x18
  · exact caseLangWrong a0 a1 _ _ w hL e0 h cLangWrong5x19
theorem walkLangWrong_6 (a0 a1 : Int) (w : World) (hL : LibVars w) (e0 : a0 % 14 = 6) : Calls Tryd.prog 4 #[.int .i64 a0, .int .i64 a1] w fun e w' => e = .returned (.bool true) ∧ Below w.heap.size w w' := by
  have h : a1 % 20 = 0 ∨ a1 % 20 = 1 ∨ a1 % 20 = 2 ∨ a1 % 20 = 3 ∨ a1 % 20 = 4 ∨ a1 % 20 = 5 ∨ a1 % 20 = 6 ∨ a1 % 20 = 7 ∨ a1 % 20 = 8 ∨ a1 % 20 = 9 ∨ a1 % 20 = 10 ∨ a1 % 20 = 11 ∨ a1 % 20 = 12 ∨ a1 % 20 = 13 ∨ a1 % 20 = 14 ∨ a1 % 20 = 15 ∨ a1 % 20 = 16 ∨ a1 % 20 = 17 ∨ a1 % 20 = 18 ∨ a1 % 20 = 19 := by omega
  rcases h with h | h | h | h | h | h | h | h | h | h | h | h | h | h | h | h | h | h | h | h
  · exact caseLangWrong a0 a1 _ _ w hL e0 h cLangWrong6x0
  · exact caseLangWrong a0 a1 _ _ w hL e0 h cLangWrong6x1
  · exact caseLangWrong a0 a1 _ _ w hL e0 h cLangWrong6x2
  · exact caseLangWrong a0 a1 _ _ w hL e0 h cLangWrong6x3
  · exact caseLangWrong a0 a1 _ _ w hL e0 h cLangWrong6x4
  · exact caseLangWrong a0 a1 _ _ w hL e0 h cLangWrong6x5
  · exact caseLangWrong a0 a1 _ _ w hL e0 h cLangWrong6x6
  · exact caseLangWrong a0 a1 _ _ w hL e0 h cLangWrong6x7
  · exact caseLangWrong a0 a1 _ _ w hL e0 h cLangWrong6x8
  · exact caseLangWrong a0 a1 _ _ w hL e0 h cLangWrong6x9
  · exact caseLangWrong a0 a1 _ _ w hL e0 h cLangWrong6x10
  · exact caseLangWrong a0 a1 _ _ w hL e0 h cLangWrong6x11
  · exact caseLangWrong a0 a1 _ _ w hL e0 h cLangWrong6x12
  · exact caseLangWrong a0 a1 _ _ w hL e0 h cLangWrong6x13
  · exact caseLangWrong a0 a1 _ _ w hL e0 h cLangWrong6x14
  · exact caseLangWrong a0 a1 _ _ w hL e0 h cLangWrong6x15
  · exact caseLangWrong a0 a1 _ _ w hL e0 h cLangWrong6x16
  · exact caseLangWrong a0 a1 _ _ w hL e0 h cLangWrong6x17
  · exact caseLangWrong a0 a1 _ _ w hL e0 h cLangWrong6x18
  · exact caseLangWrong a0 a1 _ _ w hL e0 h cLangWrong6x19
theorem walkLangWrong_7 (a0 a1 : Int) (w : World) (hL : LibVars w) (e0 : a0 % 14 = 7) : Calls Tryd.prog 4 #[.int .i64 a0, .int .i64 a1] w fun e w' => e = .returned (.bool true) ∧ Below w.heap.size w w' := by
  have h : a1 % 20 = 0 ∨ a1 % 20 = 1 ∨ a1 % 20 = 2 ∨ a1 % 20 = 3 ∨ a1 % 20 = 4 ∨ a1 % 20 = 5 ∨ a1 % 20 = 6 ∨ a1 % 20 = 7 ∨ a1 % 20 = 8 ∨ a1 % 20 = 9 ∨ a1 % 20 = 10 ∨ a1 % 20 = 11 ∨ a1 % 20 = 12 ∨ a1 % 20 = 13 ∨ a1 % 20 = 14 ∨ a1 % 20 = 15 ∨ a1 % 20 = 16 ∨ a1 % 20 = 17 ∨ a1 % 20 = 18 ∨ a1 % 20 = 19 := by omega
  rcases h with h | h | h | h | h | h | h | h | h | h | h | h | h | h | h | h | h | h | h | h
  · exact caseLangWrong a0 a1 _ _ w hL e0 h cLangWrong7x0
  · exact caseLangWrong a0 a1 _ _ w hL e0 h cLangWrong7x1
  · exact caseLangWrong a0 a1 _ _ w hL e0 h cLangWrong7x2
  · exact caseLangWrong a0 a1 _ _ w hL e0 h cLangWrong7x3
  · exact caseLangWrong a0 a1 _ _ w hL e0 h cLangWrong7x4
  · exact caseLangWrong a0 a1 _ _ w hL e0 h cLangWrong7x5
  · exact caseLangWrong a0 a1 _ _ w hL e0 h cLangWrong7x6
  · exact caseLangWrong a0 a1 _ _ w hL e0 h cLangWrong7x7
  · exact caseLangWrong a0 a1 _ _ w hL e0 h cLangWrong7x8
  · exact caseLangWrong a0 a1 _ _ w hL e0 h cLangWrong7x9
  · exact caseLangWrong a0 a1 _ _ w hL e0 h cLangWrong7x10
  · exact caseLangWrong a0 a1 _ _ w hL e0 h cLangWrong7x11
  · exact caseLangWrong a0 a1 _ _ w hL e0 h cLangWrong7x12
  · exact caseLangWrong a0 a1 _ _ w hL e0 h cLangWrong7x13
  · exact caseLangWrong a0 a1 _ _ w hL e0 h cLangWrong7x14
  · exact caseLangWrong a0 a1 _ _ w hL e0 h cLangWrong7x15
  · exact caseLangWrong a0 a1 _ _ w hL e0 h cLangWrong7x16
  · exact caseLangWrong a0 a1 _ _ w hL e0 h cLangWrong7x17
  · exact caseLangWrong a0 a1 _ _ w hL e0 h cLangWrong7x18
  · exact caseLangWrong a0 a1 _ _ w hL e0 h cLangWrong7x19
theorem walkLangWrong_8 (a0 a1 : Int) (w : World) (hL : LibVars w) (e0 : a0 % 14 = 8) : Calls Tryd.prog 4 #[.int .i64 a0, .int .i64 a1] w fun e w' => e = .returned (.bool true) ∧ Below w.heap.size w w' := by
  have h : a1 % 20 = 0 ∨ a1 % 20 = 1 ∨ a1 % 20 = 2 ∨ a1 % 20 = 3 ∨ a1 % 20 = 4 ∨ a1 % 20 = 5 ∨ a1 % 20 = 6 ∨ a1 % 20 = 7 ∨ a1 % 20 = 8 ∨ a1 % 20 = 9 ∨ a1 % 20 = 10 ∨ a1 % 20 = 11 ∨ a1 % 20 = 12 ∨ a1 % 20 = 13 ∨ a1 % 20 = 14 ∨ a1 % 20 = 15 ∨ a1 % 20 = 16 ∨ a1 % 20 = 17 ∨ a1 % 20 = 18 ∨ a1 % 20 = 19 := by omega
  rcases h with h | h | h | h | h | h | h | h | h | h | h | h | h | h | h | h | h | h | h | h
  · exact caseLangWrong a0 a1 _ _ w hL e0 h cLangWrong8x0
  · exact caseLangWrong a0 a1 _ _ w hL e0 h cLangWrong8x1
  · exact caseLangWrong a0 a1 _ _ w hL e0 h cLangWrong8x2
  · exact caseLangWrong a0 a1 _ _ w hL e0 h cLangWrong8x3
  · exact caseLangWrong a0 a1 _ _ w hL e0 h cLangWrong8x4
  · exact caseLangWrong a0 a1 _ _ w hL e0 h cLangWrong8x5
  · exact caseLangWrong a0 a1 _ _ w hL e0 h cLangWrong8x6
  · exact caseLangWrong a0 a1 _ _ w hL e0 h cLangWrong8x7
  · exact caseLangWrong a0 a1 _ _ w hL e0 h cLangWrong8x8
  · exact caseLangWrong a0 a1 _ _ w hL e0 h cLangWrong8x9
  · exact caseLangWrong a0 a1 _ _ w hL e0 h cLangWrong8x10
  · exact caseLangWrong a0 a1 _ _ w hL e0 h cLangWrong8x11
  · exact caseLangWrong a0 a1 _ _ w hL e0 h cLangWrong8x12
  · exact caseLangWrong a0 a1 _ _ w hL e0 h cLangWrong8x13
  · exact caseLangWrong a0 a1 _ _ w hL e0 h cLangWrong8x14
  · exact caseLangWrong a0 a1 _ _ w hL e0 h cLangWrong8x15
  · exact caseLangWrong a0 a1 _ _ w hL e0 h cLangWrong8x16
  · exact caseLangWrong a0 a1 _ _ w hL e0 h cLangWrong8x17
  · exact caseLangWrong a0 a1 _ _ w hL e0 h cLangWrong8x18
  · exact caseLangWrong a0 a1 _ _ w hL e0 h cLangWrong8x19
theorem walkLangWrong_9 (a0 a1 : Int) (w : World) (hL : LibVars w) (e0 : a0 % 14 = 9) : Calls Tryd.prog 4 #[.int .i64 a0, .int .i64 a1] w fun e w' => e = .returned (.bool true) ∧ Below w.heap.size w w' := by
  have h : a1 % 20 = 0 ∨ a1 % 20 = 1 ∨ a1 % 20 = 2 ∨ a1 % 20 = 3 ∨ a1 % 20 = 4 ∨ a1 % 20 = 5 ∨ a1 % 20 = 6 ∨ a1 % 20 = 7 ∨ a1 % 20 = 8 ∨ a1 % 20 = 9 ∨ a1 % 20 = 10 ∨ a1 % 20 = 11 ∨ a1 % 20 = 12 ∨ a1 % 20 = 13 ∨ a1 % 20 = 14 ∨ a1 % 20 = 15 ∨ a1 % 20 = 16 ∨ a1 % 20 = 17 ∨ a1 % 20 = 18 ∨ a1 % 20 = 19 := by omega
  rcases h with h | h | h | h | h | h | h | h | h | h | h | h | h | h | h | h | h | h | h | h
  · exact caseLangWrong a0 a1 _ _ w hL e0 h cLangWrong9x0
  · exact caseLangWrong a0 a1 _ _ w hL e0 h cLangWrong9x1
  · exact caseLangWrong a0 a1 _ _ w hL e0 h cLangWrong9x2
  · exact caseLangWrong a0 a1 _ _ w hL e0 h cLangWrong9x3
  · exact caseLangWrong a0 a1 _ _ w hL e0 h cLangWrong9x4
  · exact caseLangWrong a0 a1 _ _ w hL e0 h cLangWrong9x5
  · exact caseLangWrong a0 a1 _ _ w hL e0 h cLangWrong9x6
  · exact caseLangWrong a0 a1 _ _ w hL e0 h cLangWrong9x7
  · exact caseLangWrong a0 a1 _ _ w hL e0 h cLangWrong9x8
  · exact caseLangWrong a0 a1 _ _ w hL e0 h cLangWrong9x9
  · exact caseLangWrong a0 a1 _ _ w hL e0 h cLangWrong9x10
  · exact caseLangWrong a0 a1 _ _ w hL e0 h cLangWrong9x11
  · exact caseLangWrong a0 a1 _ _ w hL e0 h cLangWrong9x12
  · exact caseLangWrong a0 a1 _ _ w hL e0 h cLangWrong9x13
  · exact caseLangWrong a0 a1 _ _ w hL e0 h cLangWrong9x14
  · exact caseLangWrong a0 a1 _ _ w hL e0 h cLangWrong9x15
  · exact caseLangWrong a0 a1 _ _ w hL e0 h cLangWrong9x16
  · exact caseLangWrong a0 a1 _ _ w hL e0 h cLangWrong9x17
  · exact caseLangWrong a0 a1 _ _ w hL e0 h cLangWrong9x18
  · exact caseLangWrong a0 a1 _ _ w hL e0 h cLangWrong9x19
theorem walkLangWrong_10 (a0 a1 : Int) (w : World) (hL : LibVars w) (e0 : a0 % 14 = 10) : Calls Tryd.prog 4 #[.int .i64 a0, .int .i64 a1] w fun e w' => e = .returned (.bool true) ∧ Below w.heap.size w w' := by
  have h : a1 % 20 = 0 ∨ a1 % 20 = 1 ∨ a1 % 20 = 2 ∨ a1 % 20 = 3 ∨ a1 % 20 = 4 ∨ a1 % 20 = 5 ∨ a1 % 20 = 6 ∨ a1 % 20 = 7 ∨ a1 % 20 = 8 ∨ a1 % 20 = 9 ∨ a1 % 20 = 10 ∨ a1 % 20 = 11 ∨ a1 % 20 = 12 ∨ a1 % 20 = 13 ∨ a1 % 20 = 14 ∨ a1 % 20 = 15 ∨ a1 % 20 = 16 ∨ a1 % 20 = 17 ∨ a1 % 20 = 18 ∨ a1 % 20 = 19 := by omega
  rcases h with h | h | h | h | h | h | h | h | h | h | h | h | h | h | h | h | h | h | h | h
  · exact caseLangWrong a0 a1 _ _ w hL e0 h cLangWrong10x0
  · exact caseLangWrong a0 a1 _ _ w hL e0 h cLangWrong10x1
  · exact caseLangWrong a0 a1 _ _ w hL e0 h cLangWrong10x2
  · exact caseLangWrong a0 a1 _ _ w hL e0 h cLangWrong10x3
  · exact caseLangWrong a0 a1 _ _ w hL e0 h cLangWrong10x4
  · exact caseLangWrong a0 a1 _ _ w hL e0 h cLangWrong10x5
  · exact caseLangWrong a0 a1 _ _ w hL e0 h cLangWrong10x6
  · exact caseLangWrong a0 a1 _ _ w hL e0 h cLangWrong10x7
  · exact caseLangWrong a0 a1 _ _ w hL e0 h cLangWrong10x8
  · exact caseLangWrong a0 a1 _ _ w hL e0 h cLangWrong10x9
  · exact caseLangWrong a0 a1 _ _ w hL e0 h cLangWrong10x10
  · exact caseLangWrong a0 a1 _ _ w hL e0 h cLangWrong10x11
  · exact caseLangWrong a0 a1 _ _ w hL e0 h cLangWrong10x12
  · exact caseLangWrong a0 a1 _ _ w hL e0 h cLangWrong10x13
  · exact caseLangWrong a0 a1 _ _ w hL e0 h cLangWrong10x14
  · exact caseLangWrong a0 a1 _ _ w hL e0 h cLangWrong10x15
  · exact caseLangWrong a0 a1 _ _ w hL e0 h cLangWrong10x16
  · exact caseLangWrong a0 a1 _ _ w hL e0 h cLangWrong10x17
  · exact caseLangWrong a0 a1 _ _ w hL e0 h cLangWrong10x18
  · exact caseLangWrong a0 a1 _ _ w hL e0 h cLangWrong10x19
theorem walkLangWrong_11 (a0 a1 : Int) (w : World) (hL : LibVars w) (e0 : a0 % 14 = 11) : Calls Tryd.prog 4 #[.int .i64 a0, .int .i64 a1] w fun e w' => e = .returned (.bool true) ∧ Below w.heap.size w w' := by
  have h : a1 % 20 = 0 ∨ a1 % 20 = 1 ∨ a1 % 20 = 2 ∨ a1 % 20 = 3 ∨ a1 % 20 = 4 ∨ a1 % 20 = 5 ∨ a1 % 20 = 6 ∨ a1 % 20 = 7 ∨ a1 % 20 = 8 ∨ a1 % 20 = 9 ∨ a1 % 20 = 10 ∨ a1 % 20 = 11 ∨ a1 % 20 = 12 ∨ a1 % 20 = 13 ∨ a1 % 20 = 14 ∨ a1 % 20 = 15 ∨ a1 % 20 = 16 ∨ a1 % 20 = 17 ∨ a1 % 20 = 18 ∨ a1 % 20 = 19 := by omega
  rcases h with h | h | h | h | h | h | h | h | h | h | h | h | h | h | h | h | h | h | h | h
  · exact caseLangWrong a0 a1 _ _ w hL e0 h cLangWrong11x0
  · exact caseLangWrong a0 a1 _ _ w hL e0 h cLangWrong11x1
  · exact caseLangWrong a0 a1 _ _ w hL e0 h cLangWrong11x2
  · exact caseLangWrong a0 a1 _ _ w hL e0 h cLangWrong11x3
  · exact caseLangWrong a0 a1 _ _ w hL e0 h cLangWrong11x4
  · exact caseLangWrong a0 a1 _ _ w hL e0 h cLangWrong11x5
  · exact caseLangWrong a0 a1 _ _ w hL e0 h cLangWrong11x6
  · exact caseLangWrong a0 a1 _ _ w hL e0 h cLangWrong11x7
  · exact caseLangWrong a0 a1 _ _ w hL e0 h cLangWrong11x8
  · exact caseLangWrong a0 a1 _ _ w hL e0 h cLangWrong11x9
  · exact caseLangWrong a0 a1 _ _ w hL e0 h cLangWrong11x10
  · exact caseLangWrong a0 a1 _ _ w hL e0 h cLangWrong11x11
  · exact caseLangWrong a0 a1 _ _ w hL e0 h cLangWrong11x12
  · exact caseLangWrong a0 a1 _ _ w hL e0 h cLangWrong11x13
  · exact caseLangWrong a0 a1 _ _ w hL e0 h cLangWrong11x14
  · exact caseLangWrong a0 a1 _ _ w hL e0 h cLangWrong11x15
  · exact caseLangWrong a0 a1 _ _ w hL e0 h cLangWrong11x16
  · exact caseLangWrong a0 a1 _ _ w hL e0 h cLangWrong11x17
  · exact caseLangWrong a0 a1 _ _ w hL e0 h cLangWrong11x18
  · exact caseLangWrong a0 a1 _ _ w hL e0 h cLangWrong11x19
theorem walkLangWrong_12 (a0 a1 : Int) (w : World) (hL : LibVars w) (e0 : a0 % 14 = 12) : Calls Tryd.prog 4 #[.int .i64 a0, .int .i64 a1] w fun e w' => e = .returned (.bool true) ∧ Below w.heap.size w w' := by
  have h : a1 % 20 = 0 ∨ a1 % 20 = 1 ∨ a1 % 20 = 2 ∨ a1 % 20 = 3 ∨ a1 % 20 = 4 ∨ a1 % 20 = 5 ∨ a1 % 20 = 6 ∨ a1 % 20 = 7 ∨ a1 % 20 = 8 ∨ a1 % 20 = 9 ∨ a1 % 20 = 10 ∨ a1 % 20 = 11 ∨ a1 % 20 = 12 ∨ a1 % 20 = 13 ∨ a1 % 20 = 14 ∨ a1 % 20 = 15 ∨ a1 % 20 = 16 ∨ a1 % 20 = 17 ∨ a1 % 20 = 18 ∨ a1 % 20 = 19 := by omega
  rcases h with h | h | h | h | h | h | h | h | h | h | h | h | h | h | h | h | h | h | h | h
  · exact caseLangWrong a0 a1 _ _ w hL e0 h cLangWrong12x0
  · exact caseLangWrong a0 a1 _ _ w hL e0 h cLangWrong12x1
  · exact caseLangWrong a0 a1 _ _ w hL e0 h cLangWrong12x2
  · exact caseLangWrong a0 a1 _ _ w hL e0 h cLangWrong12x3
  · exact caseLangWrong a0 a1 _ _ w hL e0 h cLangWrong12x4
  · exact caseLangWrong a0 a1 _ _ w hL e0 h cLangWrong12x5
  · exact caseLangWrong a0 a1 _ _ w hL e0 h cLangWrong12x6
  · exact caseLangWrong a0 a1 _ _ w hL e0 h cLangWrong12x7
  · exact caseLangWrong a0 a1 _ _ w hL e0 h cLangWrong12x8
  · exact caseLangWrong a0 a1 _ _ w hL e0 h cLangWrong12x9
  · exact caseLangWrong a0 a1 _ _ w hL e0 h cLangWrong12x10
  · exact caseLangWrong a0 a1 _ _ w hL e0 h cLangWrong12x11
  · exact caseLangWrong a0 a1 _ _ w hL e0 h cLangWrong12x12
  · exact caseLangWrong a0 a1 _ _ w hL e0 h cLangWrong12x13
  · exact caseLangWrong a0 a1 _ _ w hL e0 h cLangWrong12x14
  · exact caseLangWrong a0 a1 _ _ w hL e0 h cLangWrong12x15
  · exact caseLangWrong a0 a1 _ _ w hL e0 h cLangWrong12x16
  · exact caseLangWrong a0 a1 _ _ w hL e0 h cLangWrong12x17
  · exact caseLangWrong a0 a1 _ _ w hL e0 h cLangWrong12x18
  · exact caseLangWrong a0 a1 _ _ w hL e0 h cLangWrong12x19
theorem walkLangWrong_13 (a0 a1 : Int) (w : World) (hL : LibVars w) (e0 : a0 % 14 = 13) : Calls Tryd.prog 4 #[.int .i64 a0, .int .i64 a1] w fun e w' => e = .returned (.bool true) ∧ Below w.heap.size w w' := by
  have h : a1 % 20 = 0 ∨ a1 % 20 = 1 ∨ a1 % 20 = 2 ∨ a1 % 20 = 3 ∨ a1 % 20 = 4 ∨ a1 % 20 = 5 ∨ a1 % 20 = 6 ∨ a1 % 20 = 7 ∨ a1 % 20 = 8 ∨ a1 % 20 = 9 ∨ a1 % 20 = 10 ∨ a1 % 20 = 11 ∨ a1 % 20 = 12 ∨ a1 % 20 = 13 ∨ a1 % 20 = 14 ∨ a1 % 20 = 15 ∨ a1 % 20 = 16 ∨ a1 % 20 = 17 ∨ a1 % 20 = 18 ∨ a1 % 20 = 19 := by omega
  rcases h with h | h | h | h | h | h | h | h | h | h | h | h | h | h | h | h | h | h | h | h
  · exact caseLangWrong a0 a1 _ _ w hL e0 h cLangWrong13x0
  · exact caseLangWrong a0 a1 _ _ w hL e0 h cLangWrong13x1
  · exact caseLangWrong a0 a1 _ _ w hL e0 h cLangWrong13x2
  · exact caseLangWrong a0 a1 _ _ w hL e0 h cLangWrong13x3
  · exact caseLangWrong a0 a1 _ _ w hL e0 h cLangWrong13x4
  · exact caseLangWrong a0 a1 _ _ w hL e0 h cLangWrong13x5
  · exact caseLangWrong a0 a1 _ _ w hL e0 h cLangWrong13x6
  · exact caseLangWrong a0 a1 _ _ w hL e0 h cLangWrong13x7
  · exact caseLangWrong a0 a1 _ _ w hL e0 h cLangWrong13x8
  · exact caseLangWrong a0 a1 _ _ w hL e0 h cLangWrong13x9
  · exact caseLangWrong a0 a1 _ _ w hL e0 h cLangWrong13x10
  · exact caseLangWrong a0 a1 _ _ w hL e0 h cLangWrong13x11
  · exact caseLangWrong a0 a1 _ _ w hL e0 h cLangWrong13x12
  · exact caseLangWrong a0 a1 _ _ w hL e0 h cLangWrong13x13
  · exact caseLangWrong a0 a1 _ _ w hL e0 h cLangWrong13x14
  · exact caseLangWrong a0 a1 _ _ w hL e0 h cLangWrong13x15
  · exact caseLangWrong a0 a1 _ _ w hL e0 h cLangWrong13x16
  · exact caseLangWrong a0 a1 _ _ w hL e0 h cLangWrong13x17
  · exact caseLangWrong a0 a1 _ _ w hL e0 h cLangWrong13x18
  · exact caseLangWrong a0 a1 _ _ w hL e0 h cLangWrong13x19
theorem walkLangWrong (a0 a1 : Int) (w : World) (hL : LibVars w)  : Calls Tryd.prog 4 #[.int .i64 a0, .int .i64 a1] w fun e w' => e = .returned (.bool true) ∧ Below w.heap.size w w' := by
  have h : a0 % 14 = 0 ∨ a0 % 14 = 1 ∨ a0 % 14 = 2 ∨ a0 % 14 = 3 ∨ a0 % 14 = 4 ∨ a0 % 14 = 5 ∨ a0 % 14 = 6 ∨ a0 % 14 = 7 ∨ a0 % 14 = 8 ∨ a0 % 14 = 9 ∨ a0 % 14 = 10 ∨ a0 % 14 = 11 ∨ a0 % 14 = 12 ∨ a0 % 14 = 13 := by omega
  rcases h with h | h | h | h | h | h | h | h | h | h | h | h | h | h
  · exact walkLangWrong_0 a0 a1 w hL  h
  · exact walkLangWrong_1 a0 a1 w hL  h
  · exact walkLangWrong_2 a0 a1 w hL  h
  · exact walkLangWrong_3 a0 a1 w hL  h
  · exact walkLangWrong_4 a0 a1 w hL  h
  · exact walkLangWrong_5 a0 a1 w hL  h
  · exact walkLangWrong_6 a0 a1 w hL  h
  · exact walkLangWrong_7 a0 a1 w hL  h
  · exact walkLangWrong_8 a0 a1 w hL  h
  · exact walkLangWrong_9 a0 a1 w hL  h
  · exact walkLangWrong_10 a0 a1 w hL  h
  · exact walkLangWrong_11 a0 a1 w hL  h
  · exact walkLangWrong_12 a0 a1 w hL  h
  · exact walkLangWrong_13 a0 a1 w hL  h
end Go.Proofs.YtaoobghobcikdaaDoor.XCodeL
