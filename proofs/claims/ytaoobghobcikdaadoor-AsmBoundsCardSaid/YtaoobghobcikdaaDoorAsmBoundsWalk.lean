/- AsmBounds returns true at every input: its way through the program. -/
import Derived.Test.YtaoobghobcikdaaDoorAsmBoundsC0
set_option maxRecDepth 100000
namespace Go.Proofs.YtaoobghobcikdaaDoor.XCodeL
open Go Go.X Go.RowKit
theorem walkAsmBounds_0 (a0 a1 : Int) (w : World) (hL : LibVars w) (e0 : a0 % 4 = 0) : Calls Tryd.prog 6 #[.int .i64 a0, .int .i64 a1] w fun e w' => e = .returned (.bool true) ∧ Below w.heap.size w w' := by
  have h : a1 % 3 = 0 ∨ a1 % 3 = 1 ∨ a1 % 3 = 2 := by omega
  rcases h with h | h | h
  · exact caseAsmBounds a0 a1 _ _ w hL e0 h cAsmBounds0x0
  · exact caseAsmBounds a0 a1 _ _ w hL e0 h cAsmBounds0x1
  · exact caseAsmBounds a0 a1 _ _ w hL e0 h cAsmBounds0x2
theorem walkAsmBounds_1 (a0 a1 : Int) (w : World) (hL : LibVars w) (e0 : a0 % 4 = 1) : Calls Tryd.prog 6 #[.int .i64 a0, .int .i64 a1] w fun e w' => e = .returned (.bool true) ∧ Below w.heap.size w w' := by
  have h : a1 % 3 = 0 ∨ a1 % 3 = 1 ∨ a1 % 3 = 2 := by omega
  rcases h with h | h | h
  · exact caseAsmBounds a0 a1 _ _ w hL e0 h cAsmBounds1x0
  · exact caseAsmBounds a0 a1 _ _ w hL e0 h cAsmBounds1x1
  · exact caseAsmBounds a0 a1 _ _ w hL e0 h cAsmBounds1x2
theorem walkAsmBounds_2 (a0 a1 : Int) (w : World) (hL : LibVars w) (e0 : a0 % 4 = 2) : Calls Tryd.prog 6 #[.int .i64 a0, .int .i64 a1] w fun e w' => e = .returned (.bool true) ∧ Below w.heap.size w w' := by
  have h : a1 % 3 = 0 ∨ a1 % 3 = 1 ∨ a1 % 3 = 2 := by omega
  rcases h with h | h | h
  · exact caseAsmBounds a0 a1 _ _ w hL e0 h cAsmBounds2x0
  · exact caseAsmBounds a0 a1 _ _ w hL e0 h cAsmBounds2x1
  · exact caseAsmBounds a0 a1 _ _ w hL e0 h cAsmBounds2x2
theorem walkAsmBounds_3 (a0 a1 : Int) (w : World) (hL : LibVars w) (e0 : a0 % 4 = 3) : Calls Tryd.prog 6 #[.int .i64 a0, .int .i64 a1] w fun e w' => e = .returned (.bool true) ∧ Below w.heap.size w w' := by
  have h : a1 % 3 = 0 ∨ a1 % 3 = 1 ∨ a1 % 3 = 2 := by omega
  rcases h with h | h | h
  · exact caseAsmBounds a0 a1 _ _ w hL e0 h cAsmBounds3x0
  · exact caseAsmBounds a0 a1 _ _ w hL e0 h cAsmBounds3x1
  · exact caseAsmBounds a0 a1 _ _ w hL e0 h cAsmBounds3x2
theorem walkAsmBounds (a0 a1 : Int) (w : World) (hL : LibVars w)  : Calls Tryd.prog 6 #[.int .i64 a0, .int .i64 a1] w fun e w' => e = .returned (.bool true) ∧ Below w.heap.size w w' := by
  have h : a0 % 4 = 0 ∨ a0 % 4 = 1 ∨ a0 % 4 = 2 ∨ a0 % 4 = 3 := by omega
  rcases h with h | h | h | h
  · exact walkAsmBounds_0 a0 a1 w hL  h
  · exact walkAsmBounds_1 a0 a1 w hL  h
  · exact walkAsmBounds_2 a0 a1 w hL  h
  · exact walkAsmBounds_3 a0 a1 w hL  h
end Go.Proofs.YtaoobghobcikdaaDoor.XCodeL
