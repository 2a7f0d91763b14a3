/- AsmPairs returns true at every input: its way through the program. -/
import Derived.Test.YtaoobghobcikdaaDoorAsmPairsC0
import Derived.Test.YtaoobghobcikdaaDoorAsmPairsC1
set_option maxRecDepth 100000
namespace Go.Proofs.YtaoobghobcikdaaDoor.XCodeL
open Go Go.X Go.RowKit
theorem walkAsmPairs_0 (a0 a1 : Int) (w : World) (hL : LibVars w) (e0 : a0 % 7 = 0) : Calls Tryd.prog 5 #[.int .i64 a0, .int .i64 a1] w fun e w' => e = .returned (.bool true) ∧ Below w.heap.size w w' := by
  have h : a1 % 20 = 0 ∨ a1 % 20 = 1 ∨ a1 % 20 = 2 ∨ a1 % 20 = 3 ∨ a1 % 20 = 4 ∨ a1 % 20 = 5 ∨ a1 % 20 = 6 ∨ a1 % 20 = 7 ∨ a1 % 20 = 8 ∨ a1 % 20 = 9 ∨ a1 % 20 = 10 ∨ a1 % 20 = 11 ∨ a1 % 20 = 12 ∨ a1 % 20 = 13 ∨ a1 % 20 = 14 ∨ a1 % 20 = 15 ∨ a1 % 20 = 16 ∨ a1 % 20 = 17 ∨ a1 % 20 = 18 ∨ a1 % 20 = 19 := by omega
  rcases h with h | h | h | h | h | h | h | h | h | h | h | h | h | h | h | h | h | h | h | h
  · exact caseAsmPairs a0 a1 _ _ w hL e0 h cAsmPairs0x0
  · exact caseAsmPairs a0 a1 _ _ w hL e0 h cAsmPairs0x1
  · exact caseAsmPairs a0 a1 _ _ w hL e0 h cAsmPairs0x2
  · exact caseAsmPairs a0 a1 _ _ w hL e0 h cAsmPairs0x3
  · exact caseAsmPairs a0 a1 _ _ w hL e0 h cAsmPairs0x4
  · exact caseAsmPairs a0 a1 _ _ w hL e0 h cAsmPairs0x5
  · exact caseAsmPairs a0 a1 _ _ w hL e0 h cAsmPairs0x6
  · exact caseAsmPairs a0 a1 _ _ w hL e0 h cAsmPairs0x7
  · exact caseAsmPairs a0 a1 _ _ w hL e0 h cAsmPairs0x8
  · exact caseAsmPairs a0 a1 _ _ w hL e0 h cAsmPairs0x9
  · exact caseAsmPairs a0 a1 _ _ w hL e0 h cAsmPairs0x10
  · exact caseAsmPairs a0 a1 _ _ w hL e0 h cAsmPairs0x11
  · exact caseAsmPairs a0 a1 _ _ w hL e0 h cAsmPairs0x12
  · exact caseAsmPairs a0 a1 _ _ w hL e0 h cAsmPairs0x13
  · exact caseAsmPairs a0 a1 _ _ w hL e0 h cAsmPairs0x14
  · exact caseAsmPairs a0 a1 _ _ w hL e0 h cAsmPairs0x15
  · exact caseAsmPairs a0 a1 _ _ w hL e0 h cAsmPairs0x16
  · exact caseAsmPairs a0 a1 _ _ w hL e0 h cAsmPairs0x17
  · exact caseAsmPairs a0 a1 _ _ w hL e0 h cAsmPairs0x18
  · exact caseAsmPairs a0 a1 _ _ w hL e0 h cAsmPairs0x19
theorem walkAsmPairs_1 (a0 a1 : Int) (w : World) (hL : LibVars w) (e0 : a0 % 7 = 1) : Calls Tryd.prog 5 #[.int .i64 a0, .int .i64 a1] w fun e w' => e = .returned (.bool true) ∧ Below w.heap.size w w' := by
  have h : a1 % 20 = 0 ∨ a1 % 20 = 1 ∨ a1 % 20 = 2 ∨ a1 % 20 = 3 ∨ a1 % 20 = 4 ∨ a1 % 20 = 5 ∨ a1 % 20 = 6 ∨ a1 % 20 = 7 ∨ a1 % 20 = 8 ∨ a1 % 20 = 9 ∨ a1 % 20 = 10 ∨ a1 % 20 = 11 ∨ a1 % 20 = 12 ∨ a1 % 20 = 13 ∨ a1 % 20 = 14 ∨ a1 % 20 = 15 ∨ a1 % 20 = 16 ∨ a1 % 20 = 17 ∨ a1 % 20 = 18 ∨ a1 % 20 = 19 := by omega
  rcases h with h | h | h | h | h | h | h | h | h | h | h | h | h | h | h | h | h | h | h | h
  · exact caseAsmPairs a0 a1 _ _ w hL e0 h cAsmPairs1x0
  · exact caseAsmPairs a0 a1 _ _ w hL e0 h cAsmPairs1x1
  · exact caseAsmPairs a0 a1 _ _ w hL e0 h cAsmPairs1x2
  · exact caseAsmPairs a0 a1 _ _ w hL e0 h cAsmPairs1x3
  · exact caseAsmPairs a0 a1 _ _ w hL e0 h cAsmPairs1x4
  · exact caseAsmPairs a0 a1 _ _ w hL e0 h cAsmPairs1x5
  · exact caseAsmPairs a0 a1 _ _ w hL e0 h cAsmPairs1x6
  · exact caseAsmPairs a0 a1 _ _ w hL e0 h cAsmPairs1x7
  · exact caseAsmPairs a0 a1 _ _ w hL e0 h cAsmPairs1x8
  · exact caseAsmPairs a0 a1 _ _ w hL e0 h cAsmPairs1x9
  · exact caseAsmPairs a0 a1 _ _ w hL e0 h cAsmPairs1x10
  · exact caseAsmPairs a0 a1 _ _ w hL e0 h cAsmPairs1x11
  · exact caseAsmPairs a0 a1 _ _ w hL e0 h cAsmPairs1x12
  · exact caseAsmPairs a0 a1 _ _ w hL e0 h cAsmPairs1x13
  · exact caseAsmPairs a0 a1 _ _ w hL e0 h cAsmPairs1x14
  · exact caseAsmPairs a0 a1 _ _ w hL e0 h cAsmPairs1x15
  · exact caseAsmPairs a0 a1 _ _ w hL e0 h cAsmPairs1x16
  · exact caseAsmPairs a0 a1 _ _ w hL e0 h cAsmPairs1x17
  · exact caseAsmPairs a0 a1 _ _ w hL e0 h cAsmPairs1x18
  · exact caseAsmPairs a0 a1 _ _ w hL e0 h cAsmPairs1x19
theorem walkAsmPairs_2 (a0 a1 : Int) (w : World) (hL : LibVars w) (e0 : a0 % 7 = 2) : Calls Tryd.prog 5 #[.int .i64 a0, .int .i64 a1] w fun e w' => e = .returned (.bool true) ∧ Below w.heap.size w w' := by
  have h : a1 % 20 = 0 ∨ a1 % 20 = 1 ∨ a1 % 20 = 2 ∨ a1 % 20 = 3 ∨ a1 % 20 = 4 ∨ a1 % 20 = 5 ∨ a1 % 20 = 6 ∨ a1 % 20 = 7 ∨ a1 % 20 = 8 ∨ a1 % 20 = 9 ∨ a1 % 20 = 10 ∨ a1 % 20 = 11 ∨ a1 % 20 = 12 ∨ a1 % 20 = 13 ∨ a1 % 20 = 14 ∨ a1 % 20 = 15 ∨ a1 % 20 = 16 ∨ a1 % 20 = 17 ∨ a1 % 20 = 18 ∨ a1 % 20 = 19 := by omega
  rcases h with h | h | h | h | h | h | h | h | h | h | h | h | h | h | h | h | h | h | h | h
  · exact caseAsmPairs a0 a1 _ _ w hL e0 h cAsmPairs2x0
  · exact caseAsmPairs a0 a1 _ _ w hL e0 h cAsmPairs2x1
  · exact caseAsmPairs a0 a1 _ _ w hL e0 h cAsmPairs2x2
  · exact caseAsmPairs a0 a1 _ _ w hL e0 h cAsmPairs2x3
  · exact caseAsmPairs a0 a1 _ _ w hL e0 h cAsmPairs2x4
  · exact caseAsmPairs a0 a1 _ _ w hL e0 h cAsmPairs2x5
  · exact caseAsmPairs a0 a1 _ _ w hL e0 h cAsmPairs2x6
  · exact caseAsmPairs a0 a1 _ _ w hL e0 h cAsmPairs2x7
  · exact caseAsmPairs a0 a1 _ _ w hL e0 h cAsmPairs2x8
  · exact caseAsmPairs a0 a1 _ _ w hL e0 h cAsmPairs2x9
  · exact caseAsmPairs a0 a1 _ _ w hL e0 h cAsmPairs2x10
  · exact caseAsmPairs a0 a1 _ _ w hL e0 h cAsmPairs2x11
  · exact caseAsmPairs a0 a1 _ _ w hL e0 h cAsmPairs2x12
  · exact caseAsmPairs a0 a1 _ _ w hL e0 h cAsmPairs2x13
  · exact caseAsmPairs a0 a1 _ _ w hL e0 h cAsmPairs2x14
  · exact caseAsmPairs a0 a1 _ _ w hL e0 h cAsmPairs2x15
  · exact caseAsmPairs a0 a1 _ _ w hL e0 h cAsmPairs2x16
  · exact caseAsmPairs a0 a1 _ _ w hL e0 h cAsmPairs2x17
  · exact caseAsmPairs a0 a1 _ _ w hL e0 h cAsmPairs2x18
  · exact caseAsmPairs a0 a1 _ _ w hL e0 h cAsmPairs2x19
theorem walkAsmPairs_3 (a0 a1 : Int) (w : World) (hL : LibVars w) (e0 : a0 % 7 = 3) : Calls Tryd.prog 5 #[.int .i64 a0, .int .i64 a1] w fun e w' => e = .returned (.bool true) ∧ Below w.heap.size w w' := by
  have h : a1 % 20 = 0 ∨ a1 % 20 = 1 ∨ a1 % 20 = 2 ∨ a1 % 20 = 3 ∨ a1 % 20 = 4 ∨ a1 % 20 = 5 ∨ a1 % 20 = 6 ∨ a1 % 20 = 7 ∨ a1 % 20 = 8 ∨ a1 % 20 = 9 ∨ a1 % 20 = 10 ∨ a1 % 20 = 11 ∨ a1 % 20 = 12 ∨ a1 % 20 = 13 ∨ a1 % 20 = 14 ∨ a1 % 20 = 15 ∨ a1 % 20 = 16 ∨ a1 % 20 = 17 ∨ a1 % 20 = 18 ∨ a1 % 20 = 19 := by omega
  rcases h with h | h | h | h | h | h | h | h | h | h | h | h | h | h | h | h | h | h | h | h
  · exact caseAsmPairs a0 a1 _ _ w hL e0 h cAsmPairs3x0
  · exact caseAsmPairs a0 a1 _ _ w hL e0 h cAsmPairs3x1
  · exact caseAsmPairs a0 a1 _ _ w hL e0 h cAsmPairs3x2
  · exact caseAsmPairs a0 a1 _ _ w hL e0 h cAsmPairs3x3
  · exact caseAsmPairs a0 a1 _ _ w hL e0 h cAsmPairs3x4
  · exact caseAsmPairs a0 a1 _ _ w hL e0 h cAsmPairs3x5
  · exact caseAsmPairs a0 a1 _ _ w hL e0 h cAsmPairs3x6
  · exact caseAsmPairs a0 a1 _ _ w hL e0 h cAsmPairs3x7
  · exact caseAsmPairs a0 a1 _ _ w hL e0 h cAsmPairs3x8
  · exact caseAsmPairs a0 a1 _ _ w hL e0 h cAsmPairs3x9
  · exact caseAsmPairs a0 a1 _ _ w hL e0 h cAsmPairs3x10
  · exact caseAsmPairs a0 a1 _ _ w hL e0 h cAsmPairs3x11
  · exact caseAsmPairs a0 a1 _ _ w hL e0 h cAsmPairs3x12
  · exact caseAsmPairs a0 a1 _ _ w hL e0 h cAsmPairs3x13
  · exact caseAsmPairs a0 a1 _ _ w hL e0 h cAsmPairs3x14
  · exact caseAsmPairs a0 a1 _ _ w hL e0 h cAsmPairs3x15
  · exact caseAsmPairs a0 a1 _ _ w hL e0 h cAsmPairs3x16
  · exact caseAsmPairs a0 a1 _ _ w hL e0 h cAsmPairs3x17
  · exact caseAsmPairs a0 a1 _ _ w hL e0 h cAsmPairs3x18
  · exact caseAsmPairs a0 a1 _ _ w hL e0 h cAsmPairs3x19
theorem walkAsmPairs_4 (a0 a1 : Int) (w : World) (hL : LibVars w) (e0 : a0 % 7 = 4) : Calls Tryd.prog 5 #[.int .i64 a0, .int .i64 a1] w fun e w' => e = .returned (.bool true) ∧ Below w.heap.size w w' := by
  have h : a1 % 20 = 0 ∨ a1 % 20 = 1 ∨ a1 % 20 = 2 ∨ a1 % 20 = 3 ∨ a1 % 20 = 4 ∨ a1 % 20 = 5 ∨ a1 % 20 = 6 ∨ a1 % 20 = 7 ∨ a1 % 20 = 8 ∨ a1 % 20 = 9 ∨ a1 % 20 = 10 ∨ a1 % 20 = 11 ∨ a1 % 20 = 12 ∨ a1 % 20 = 13 ∨ a1 % 20 = 14 ∨ a1 % 20 = 15 ∨ a1 % 20 = 16 ∨ a1 % 20 = 17 ∨ a1 % 20 = 18 ∨ a1 % 20 = 19 := by omega
  rcases h with h | h | h | h | h | h | h | h | h | h | h | h | h | h | h | h | h | h | h | h
  · exact caseAsmPairs a0 a1 _ _ w hL e0 h cAsmPairs4x0
  · exact caseAsmPairs a0 a1 _ _ w hL e0 h cAsmPairs4x1
  · exact caseAsmPairs a0 a1 _ _ w hL e0 h cAsmPairs4x2
  · exact caseAsmPairs a0 a1 _ _ w hL e0 h cAsmPairs4x3
  · exact caseAsmPairs a0 a1 _ _ w hL e0 h cAsmPairs4x4
  · exact caseAsmPairs a0 a1 _ _ w hL e0 h cAsmPairs4x5
  · exact caseAsmPairs a0 a1 _ _ w hL e0 h cAsmPairs4x6
  · exact caseAsmPairs a0 a1 _ _ w hL e0 h cAsmPairs4x7
  · exact caseAsmPairs a0 a1 _ _ w hL e0 h cAsmPairs4x8
  · exact caseAsmPairs a0 a1 _ _ w hL e0 h cAsmPairs4x9
  · exact caseAsmPairs a0 a1 _ _ w hL e0 h cAsmPairs4x10
  · exact caseAsmPairs a0 a1 _ _ w hL e0 h cAsmPairs4x11
  · exact caseAsmPairs a0 a1 _ _ w hL e0 h cAsmPairs4x12
  · exact caseAsmPairs a0 a1 _ _ w hL e0 h cAsmPairs4x13
  · exact caseAsmPairs a0 a1 _ _ w hL e0 h cAsmPairs4x14
  · exact caseAsmPairs a0 a1 _ _ w hL e0 h cAsmPairs4x15
  · exact caseAsmPairs a0 a1 _ _ w hL e0 h cAsmPairs4x16
  · exact caseAsmPairs a0 a1 _ _ w hL e0 h cAsmPairs4x17
  · exact caseAsmPairs a0 a1 _ _ w hL e0 h cAsmPairs4x18
  · exact caseAsmPairs a0 a1 _ _ w hL e0 h cAsmPairs4x19
theorem walkAsmPairs_5 (a0 a1 : Int) (w : World) (hL : LibVars w) (e0 : a0 % 7 = 5) : Calls Tryd.prog 5 #[.int .i64 a0, .int .i64 a1] w fun e w' => e = .returned (.bool true) ∧ Below w.heap.size w w' := by
  have h : a1 % 20 = 0 ∨ a1 % 20 = 1 ∨ a1 % 20 = 2 ∨ a1 % 20 = 3 ∨ a1 % 20 = 4 ∨ a1 % 20 = 5 ∨ a1 % 20 = 6 ∨ a1 % 20 = 7 ∨ a1 % 20 = 8 ∨ a1 % 20 = 9 ∨ a1 % 20 = 10 ∨ a1 % 20 = 11 ∨ a1 % 20 = 12 ∨ a1 % 20 = 13 ∨ a1 % 20 = 14 ∨ a1 % 20 = 15 ∨ a1 % 20 = 16 ∨ a1 % 20 = 17 ∨ a1 % 20 = 18 ∨ a1 % 20 = 19 := by omega
  rcases h with h | h | h | h | h | h | h | h | h | h | h | h | h | h | h | h | h | h | h | h
  · exact caseAsmPairs a0 a1 _ _ w hL e0 h cAsmPairs5x0
  · exact caseAsmPairs a0 a1 _ _ w hL e0 h cAsmPairs5x1
  · exact caseAsmPairs a0 a1 _ _ w hL e0 h cAsmPairs5x2
  · exact caseAsmPairs a0 a1 _ _ w hL e0 h cAsmPairs5x3
  · exact caseAsmPairs a0 a1 _ _ w hL e0 h cAsmPairs5x4
  · exact caseAsmPairs a0 a1 _ _ w hL e0 h cAsmPairs5x5
  · exact caseAsmPairs a0 a1 _ _ w hL e0 h cAsmPairs5x6
  · exact caseAsmPairs a0 a1 _ _ w hL e0 h cAsmPairs5x7
  · exact caseAsmPairs a0 a1 _ _ w hL e0 h cAsmPairs5x8
  · exact caseAsmPairs a0 a1 _ _ w hL e0 h cAsmPairs5x9
  · exact caseAsmPairs a0 a1 _ _ w hL e0 h cAsmPairs5x10
  · exact caseAsmPairs a0 a1 _ _ w hL e0 h cAsmPairs5x11
  · exact caseAsmPairs a0 a1 _ _ w hL e0 h cAsmPairs5x12
  · exact caseAsmPairs a0 a1 _ _ w hL e0 h cAsmPairs5x13
  · exact caseAsmPairs a0 a1 _ _ w hL e0 h cAsmPairs5x14
  · exact caseAsmPairs a0 a1 _ _ w hL e0 h cAsmPairs5x15
  · exact caseAsmPairs a0 a1 _ _ w hL e0 h cAsmPairs5x16
  · exact caseAsmPairs a0 a1 _ _ w hL e0 h cAsmPairs5x17
  · exact caseAsmPairs a0 a1 _ _ w hL e0 h cAsmPairs5x18
  · exact caseAsmPairs a0 a1 _ _ w hL e0 h cAsmPairs5x19
theorem walkAsmPairs_6 (a0 a1 : Int) (w : World) (hL : LibVars w) (e0 : a0 % 7 = 6) : Calls Tryd.prog 5 #[.int .i64 a0, .int .i64 a1] w fun e w' => e = .returned (.bool true) ∧ Below w.heap.size w w' := by
  have h : a1 % 20 = 0 ∨ a1 % 20 = 1 ∨ a1 % 20 = 2 ∨ a1 % 20 = 3 ∨ a1 % 20 = 4 ∨ a1 % 20 = 5 ∨ a1 % 20 = 6 ∨ a1 % 20 = 7 ∨ a1 % 20 = 8 ∨ a1 % 20 = 9 ∨ a1 % 20 = 10 ∨ a1 % 20 = 11 ∨ a1 % 20 = 12 ∨ a1 % 20 = 13 ∨ a1 % 20 = 14 ∨ a1 % 20 = 15 ∨ a1 % 20 = 16 ∨ a1 % 20 = 17 ∨ a1 % 20 = 18 ∨ a1 % 20 = 19 := by omega
  rcases h with h | h | h | h | h | h | h | h | h | h | h | h | h | h | h | h | h | h | h | h
  · exact caseAsmPairs a0 a1 _ _ w hL e0 h cAsmPairs6x0
  · exact caseAsmPairs a0 a1 _ _ w hL e0 h cAsmPairs6x1
  · exact caseAsmPairs a0 a1 _ _ w hL e0 h cAsmPairs6x2
  · exact caseAsmPairs a0 a1 _ _ w hL e0 h cAsmPairs6x3
  · exact caseAsmPairs a0 a1 _ _ w hL e0 h cAsmPairs6x4
  · exact caseAsmPairs a0 a1 _ _ w hL e0 h cAsmPairs6x5
  · exact caseAsmPairs a0 a1 _ _ w hL e0 h cAsmPairs6x6
  · exact caseAsmPairs a0 a1 _ _ w hL e0 h cAsmPairs6x7
  · exact caseAsmPairs a0 a1 _ _ w hL e0 h cAsmPairs6x8
  · exact caseAsmPairs a0 a1 _ _ w hL e0 h cAsmPairs6x9
  · exact caseAsmPairs a0 a1 _ _ w hL e0 h cAsmPairs6x10
  · exact caseAsmPairs a0 a1 _ _ w hL e0 h cAsmPairs6x11
  · exact caseAsmPairs a0 a1 _ _ w hL e0 h cAsmPairs6x12
  · exact caseAsmPairs a0 a1 _ _ w hL e0 h cAsmPairs6x13
  · exact caseAsmPairs a0 a1 _ _ w hL e0 h cAsmPairs6x14
  · exact caseAsmPairs a0 a1 _ _ w hL e0 h cAsmPairs6x15
  · exact caseAsmPairs a0 a1 _ _ w hL e0 h cAsmPairs6x16
  · exact caseAsmPairs a0 a1 _ _ w hL e0 h cAsmPairs6x17
  · exact caseAsmPairs a0 a1 _ _ w hL e0 h cAsmPairs6x18
  · exact caseAsmPairs a0 a1 _ _ w hL e0 h cAsmPairs6x19
theorem walkAsmPairs (a0 a1 : Int) (w : World) (hL : LibVars w)  : Calls Tryd.prog 5 #[.int .i64 a0, .int .i64 a1] w fun e w' => e = .returned (.bool true) ∧ Below w.heap.size w w' := by
  have h : a0 % 7 = 0 ∨ a0 % 7 = 1 ∨ a0 % 7 = 2 ∨ a0 % 7 = 3 ∨ a0 % 7 = 4 ∨ a0 % 7 = 5 ∨ a0 % 7 = 6 := by omega
  rcases h with h | h | h | h | h | h | h
  · exact walkAsmPairs_0 a0 a1 w hL  h
  · exact walkAsmPairs_1 a0 a1 w hL  h
  · exact walkAsmPairs_2 a0 a1 w hL  h
  · exact walkAsmPairs_3 a0 a1 w hL  h
  · exact walkAsmPairs_4 a0 a1 w hL  h
  · exact walkAsmPairs_5 a0 a1 w hL  h
  · exact walkAsmPairs_6 a0 a1 w hL  h
end Go.Proofs.YtaoobghobcikdaaDoor.XCodeL
