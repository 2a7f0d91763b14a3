/- GenCounts returns true at every input: its way through the program. -/
import Derived.Test.YtaoobghobcikdaaGenCountsC0
import Derived.Test.YtaoobghobcikdaaGenCountsC1
import Derived.Test.YtaoobghobcikdaaGenCountsC2
import Derived.Test.YtaoobghobcikdaaGenCountsC3
import Derived.Test.YtaoobghobcikdaaGenCountsC4
import Derived.Test.YtaoobghobcikdaaGenCountsC5
set_option maxRecDepth 100000
namespace Go.Proofs.Ytaoobghobcikdaa.XCodeG
open Go Go.X Go.RowKit
theorem walkGenCounts_0x0 (a0 : Int) (a1 : Int) (a2 : Int) (w : World) (e0 : a0 % 4 = 0) (e1 : a1 % 9 = 0) : Calls Try.prog 4 #[.int .i64 a0, .int .i64 a1, .int .i64 a2] w fun e w' => e = .returned (.bool true) ∧ Below w.heap.size w w' := by
  have h : a2 % 1 = 0 := by omega
  · exact caseGenCounts a0 a1 a2 _ _ _ _ w (by decide) (by decide) e0 e1 h cGenCounts0x0x0
theorem walkGenCounts_0x1 (a0 : Int) (a1 : Int) (a2 : Int) (w : World) (e0 : a0 % 4 = 0) (e1 : a1 % 9 = 1) : Calls Try.prog 4 #[.int .i64 a0, .int .i64 a1, .int .i64 a2] w fun e w' => e = .returned (.bool true) ∧ Below w.heap.size w w' := by
  have h : a2 % 1 = 0 := by omega
  · exact caseGenCounts a0 a1 a2 _ _ _ _ w (by decide) (by decide) e0 e1 h cGenCounts0x1x0
theorem walkGenCounts_0x2 (a0 : Int) (a1 : Int) (a2 : Int) (w : World) (e0 : a0 % 4 = 0) (e1 : a1 % 9 = 2) : Calls Try.prog 4 #[.int .i64 a0, .int .i64 a1, .int .i64 a2] w fun e w' => e = .returned (.bool true) ∧ Below w.heap.size w w' := by
  have h : a2 % 1 = 0 := by omega
  · exact caseGenCounts a0 a1 a2 _ _ _ _ w (by decide) (by decide) e0 e1 h cGenCounts0x2x0
theorem walkGenCounts_0x3 (a0 : Int) (a1 : Int) (a2 : Int) (w : World) (e0 : a0 % 4 = 0) (e1 : a1 % 9 = 3) : Calls Try.prog 4 #[.int .i64 a0, .int .i64 a1, .int .i64 a2] w fun e w' => e = .returned (.bool true) ∧ Below w.heap.size w w' := by
  have h : a2 % 1 = 0 := by omega
  · exact caseGenCounts a0 a1 a2 _ _ _ _ w (by decide) (by decide) e0 e1 h cGenCounts0x3x0
theorem walkGenCounts_0x4 (a0 : Int) (a1 : Int) (a2 : Int) (w : World) (e0 : a0 % 4 = 0) (e1 : a1 % 9 = 4) : Calls Try.prog 4 #[.int .i64 a0, .int .i64 a1, .int .i64 a2] w fun e w' => e = .returned (.bool true) ∧ Below w.heap.size w w' := by
  have h : a2 % 1 = 0 := by omega
  · exact caseGenCounts a0 a1 a2 _ _ _ _ w (by decide) (by decide) e0 e1 h cGenCounts0x4x0
theorem walkGenCounts_0x5 (a0 : Int) (a1 : Int) (a2 : Int) (w : World) (e0 : a0 % 4 = 0) (e1 : a1 % 9 = 5) : Calls Try.prog 4 #[.int .i64 a0, .int .i64 a1, .int .i64 a2] w fun e w' => e = .returned (.bool true) ∧ Below w.heap.size w w' := by
  have h : a2 % 1 = 0 := by omega
  · exact caseGenCounts a0 a1 a2 _ _ _ _ w (by decide) (by decide) e0 e1 h cGenCounts0x5x0
theorem walkGenCounts_0x6 (a0 : Int) (a1 : Int) (a2 : Int) (w : World) (e0 : a0 % 4 = 0) (e1 : a1 % 9 = 6) : Calls Try.prog 4 #[.int .i64 a0, .int .i64 a1, .int .i64 a2] w fun e w' => e = .returned (.bool true) ∧ Below w.heap.size w w' := by
  have h : a2 % 1 = 0 := by omega
  · exact caseGenCounts a0 a1 a2 _ _ _ _ w (by decide) (by decide) e0 e1 h cGenCounts0x6x0
theorem walkGenCounts_0x7 (a0 : Int) (a1 : Int) (a2 : Int) (w : World) (e0 : a0 % 4 = 0) (e1 : a1 % 9 = 7) : Calls Try.prog 4 #[.int .i64 a0, .int .i64 a1, .int .i64 a2] w fun e w' => e = .returned (.bool true) ∧ Below w.heap.size w w' := by
  have h : a2 % 1 = 0 := by omega
  · exact caseGenCounts a0 a1 a2 _ _ _ _ w (by decide) (by decide) e0 e1 h cGenCounts0x7x0
theorem walkGenCounts_0x8 (a0 : Int) (a1 : Int) (a2 : Int) (w : World) (e0 : a0 % 4 = 0) (e1 : a1 % 9 = 8) : Calls Try.prog 4 #[.int .i64 a0, .int .i64 a1, .int .i64 a2] w fun e w' => e = .returned (.bool true) ∧ Below w.heap.size w w' := by
  have h : a2 % 1 = 0 := by omega
  · exact caseGenCounts a0 a1 a2 _ _ _ _ w (by decide) (by decide) e0 e1 h cGenCounts0x8x0
theorem walkGenCounts_0 (a0 : Int) (a1 : Int) (a2 : Int) (w : World) (e0 : a0 % 4 = 0) : Calls Try.prog 4 #[.int .i64 a0, .int .i64 a1, .int .i64 a2] w fun e w' => e = .returned (.bool true) ∧ Below w.heap.size w w' := by
  have h : a1 % 9 = 0 ∨ a1 % 9 = 1 ∨ a1 % 9 = 2 ∨ a1 % 9 = 3 ∨ a1 % 9 = 4 ∨ a1 % 9 = 5 ∨ a1 % 9 = 6 ∨ a1 % 9 = 7 ∨ a1 % 9 = 8 := by omega
  rcases h with h | h | h | h | h | h | h | h | h
  · exact walkGenCounts_0x0 a0 a1 a2 w e0 h
  · exact walkGenCounts_0x1 a0 a1 a2 w e0 h
  · exact walkGenCounts_0x2 a0 a1 a2 w e0 h
  · exact walkGenCounts_0x3 a0 a1 a2 w e0 h
  · exact walkGenCounts_0x4 a0 a1 a2 w e0 h
  · exact walkGenCounts_0x5 a0 a1 a2 w e0 h
  · exact walkGenCounts_0x6 a0 a1 a2 w e0 h
  · exact walkGenCounts_0x7 a0 a1 a2 w e0 h
  · exact walkGenCounts_0x8 a0 a1 a2 w e0 h
theorem walkGenCounts_1x0 (a0 : Int) (a1 : Int) (a2 : Int) (w : World) (e0 : a0 % 4 = 1) (e1 : a1 % 9 = 0) : Calls Try.prog 4 #[.int .i64 a0, .int .i64 a1, .int .i64 a2] w fun e w' => e = .returned (.bool true) ∧ Below w.heap.size w w' := by
  have h : a2 % 2 = 0 ∨ a2 % 2 = 1 := by omega
  rcases h with h | h
  · exact caseGenCounts a0 a1 a2 _ _ _ _ w (by decide) (by decide) e0 e1 h cGenCounts1x0x0
  · exact caseGenCounts a0 a1 a2 _ _ _ _ w (by decide) (by decide) e0 e1 h cGenCounts1x0x1
theorem walkGenCounts_1x1 (a0 : Int) (a1 : Int) (a2 : Int) (w : World) (e0 : a0 % 4 = 1) (e1 : a1 % 9 = 1) : Calls Try.prog 4 #[.int .i64 a0, .int .i64 a1, .int .i64 a2] w fun e w' => e = .returned (.bool true) ∧ Below w.heap.size w w' := by
  have h : a2 % 2 = 0 ∨ a2 % 2 = 1 := by omega
  rcases h with h | h
  · exact caseGenCounts a0 a1 a2 _ _ _ _ w (by decide) (by decide) e0 e1 h cGenCounts1x1x0
  · exact caseGenCounts a0 a1 a2 _ _ _ _ w (by decide) (by decide) e0 e1 h cGenCounts1x1x1
theorem walkGenCounts_1x2 (a0 : Int) (a1 : Int) (a2 : Int) (w : World) (e0 : a0 % 4 = 1) (e1 : a1 % 9 = 2) : Calls Try.prog 4 #[.int .i64 a0, .int .i64 a1, .int .i64 a2] w fun e w' => e = .returned (.bool true) ∧ Below w.heap.size w w' := by
  have h : a2 % 2 = 0 ∨ a2 % 2 = 1 := by omega
  rcases h with h | h
  · exact caseGenCounts a0 a1 a2 _ _ _ _ w (by decide) (by decide) e0 e1 h cGenCounts1x2x0
  · exact caseGenCounts a0 a1 a2 _ _ _ _ w (by decide) (by decide) e0 e1 h cGenCounts1x2x1
theorem walkGenCounts_1x3 (a0 : Int) (a1 : Int) (a2 : Int) (w : World) (e0 : a0 % 4 = 1) (e1 : a1 % 9 = 3) : Calls Try.prog 4 #[.int .i64 a0, .int .i64 a1, .int .i64 a2] w fun e w' => e = .returned (.bool true) ∧ Below w.heap.size w w' := by
  have h : a2 % 2 = 0 ∨ a2 % 2 = 1 := by omega
  rcases h with h | h
  · exact caseGenCounts a0 a1 a2 _ _ _ _ w (by decide) (by decide) e0 e1 h cGenCounts1x3x0
  · exact caseGenCounts a0 a1 a2 _ _ _ _ w (by decide) (by decide) e0 e1 h cGenCounts1x3x1
theorem walkGenCounts_1x4 (a0 : Int) (a1 : Int) (a2 : Int) (w : World) (e0 : a0 % 4 = 1) (e1 : a1 % 9 = 4) : Calls Try.prog 4 #[.int .i64 a0, .int .i64 a1, .int .i64 a2] w fun e w' => e = .returned (.bool true) ∧ Below w.heap.size w w' := by
  have h : a2 % 2 = 0 ∨ a2 % 2 = 1 := by omega
  rcases h with h | h
  · exact caseGenCounts a0 a1 a2 _ _ _ _ w (by decide) (by decide) e0 e1 h cGenCounts1x4x0
  · exact caseGenCounts a0 a1 a2 _ _ _ _ w (by decide) (by decide) e0 e1 h cGenCounts1x4x1
theorem walkGenCounts_1x5 (a0 : Int) (a1 : Int) (a2 : Int) (w : World) (e0 : a0 % 4 = 1) (e1 : a1 % 9 = 5) : Calls Try.prog 4 #[.int .i64 a0, .int .i64 a1, .int .i64 a2] w fun e w' => e = .returned (.bool true) ∧ Below w.heap.size w w' := by
  have h : a2 % 2 = 0 ∨ a2 % 2 = 1 := by omega
  rcases h with h | h
  · exact caseGenCounts a0 a1 a2 _ _ _ _ w (by decide) (by decide) e0 e1 h cGenCounts1x5x0
  · exact caseGenCounts a0 a1 a2 _ _ _ _ w (by decide) (by decide) e0 e1 h cGenCounts1x5x1
theorem walkGenCounts_1x6 (a0 : Int) (a1 : Int) (a2 : Int) (w : World) (e0 : a0 % 4 = 1) (e1 : a1 % 9 = 6) : Calls Try.prog 4 #[.int .i64 a0, .int .i64 a1, .int .i64 a2] w fun e w' => e = .returned (.bool true) ∧ Below w.heap.size w w' := by
  have h : a2 % 2 = 0 ∨ a2 % 2 = 1 := by omega
  rcases h with h | h
  · exact caseGenCounts a0 a1 a2 _ _ _ _ w (by decide) (by decide) e0 e1 h cGenCounts1x6x0
  · exact caseGenCounts a0 a1 a2 _ _ _ _ w (by decide) (by decide) e0 e1 h cGenCounts1x6x1
theorem walkGenCounts_1x7 (a0 : Int) (a1 : Int) (a2 : Int) (w : World) (e0 : a0 % 4 = 1) (e1 : a1 % 9 = 7) : Calls Try.prog 4 #[.int .i64 a0, .int .i64 a1, .int .i64 a2] w fun e w' => e = .returned (.bool true) ∧ Below w.heap.size w w' := by
  have h : a2 % 2 = 0 ∨ a2 % 2 = 1 := by omega
  rcases h with h | h
  · exact caseGenCounts a0 a1 a2 _ _ _ _ w (by decide) (by decide) e0 e1 h cGenCounts1x7x0
  · exact caseGenCounts a0 a1 a2 _ _ _ _ w (by decide) (by decide) e0 e1 h cGenCounts1x7x1
theorem walkGenCounts_1x8 (a0 : Int) (a1 : Int) (a2 : Int) (w : World) (e0 : a0 % 4 = 1) (e1 : a1 % 9 = 8) : Calls Try.prog 4 #[.int .i64 a0, .int .i64 a1, .int .i64 a2] w fun e w' => e = .returned (.bool true) ∧ Below w.heap.size w w' := by
  have h : a2 % 2 = 0 ∨ a2 % 2 = 1 := by omega
  rcases h with h | h
  · exact caseGenCounts a0 a1 a2 _ _ _ _ w (by decide) (by decide) e0 e1 h cGenCounts1x8x0
  · exact caseGenCounts a0 a1 a2 _ _ _ _ w (by decide) (by decide) e0 e1 h cGenCounts1x8x1
theorem walkGenCounts_1 (a0 : Int) (a1 : Int) (a2 : Int) (w : World) (e0 : a0 % 4 = 1) : Calls Try.prog 4 #[.int .i64 a0, .int .i64 a1, .int .i64 a2] w fun e w' => e = .returned (.bool true) ∧ Below w.heap.size w w' := by
  have h : a1 % 9 = 0 ∨ a1 % 9 = 1 ∨ a1 % 9 = 2 ∨ a1 % 9 = 3 ∨ a1 % 9 = 4 ∨ a1 % 9 = 5 ∨ a1 % 9 = 6 ∨ a1 % 9 = 7 ∨ a1 % 9 = 8 := by omega
  rcases h with h | h | h | h | h | h | h | h | h
  · exact walkGenCounts_1x0 a0 a1 a2 w e0 h
  · exact walkGenCounts_1x1 a0 a1 a2 w e0 h
  · exact walkGenCounts_1x2 a0 a1 a2 w e0 h
  · exact walkGenCounts_1x3 a0 a1 a2 w e0 h
  · exact walkGenCounts_1x4 a0 a1 a2 w e0 h
  · exact walkGenCounts_1x5 a0 a1 a2 w e0 h
  · exact walkGenCounts_1x6 a0 a1 a2 w e0 h
  · exact walkGenCounts_1x7 a0 a1 a2 w e0 h
  · exact walkGenCounts_1x8 a0 a1 a2 w e0 h
theorem walkGenCounts_2x0 (a0 : Int) (a1 : Int) (a2 : Int) (w : World) (e0 : a0 % 4 = 2) (e1 : a1 % 9 = 0) : Calls Try.prog 4 #[.int .i64 a0, .int .i64 a1, .int .i64 a2] w fun e w' => e = .returned (.bool true) ∧ Below w.heap.size w w' := by
  have h : a2 % 3 = 0 ∨ a2 % 3 = 1 ∨ a2 % 3 = 2 := by omega
  rcases h with h | h | h
  · exact caseGenCounts a0 a1 a2 _ _ _ _ w (by decide) (by decide) e0 e1 h cGenCounts2x0x0
  · exact caseGenCounts a0 a1 a2 _ _ _ _ w (by decide) (by decide) e0 e1 h cGenCounts2x0x1
  · exact caseGenCounts a0 a1 a2 _ _ _ _ w (by decide) (by decide) e0 e1 h cGenCounts2x0x2
theorem walkGenCounts_2x1 (a0 : Int) (a1 : Int) (a2 : Int) (w : World) (e0 : a0 % 4 = 2) (e1 : a1 % 9 = 1) : Calls Try.prog 4 #[.int .i64 a0, .int .i64 a1, .int .i64 a2] w fun e w' => e = .returned (.bool true) ∧ Below w.heap.size w w' := by
  have h : a2 % 3 = 0 ∨ a2 % 3 = 1 ∨ a2 % 3 = 2 := by omega
  rcases h with h | h | h
  · exact caseGenCounts a0 a1 a2 _ _ _ _ w (by decide) (by decide) e0 e1 h cGenCounts2x1x0
  · exact caseGenCounts a0 a1 a2 _ _ _ _ w (by decide) (by decide) e0 e1 h cGenCounts2x1x1
  · exact caseGenCounts a0 a1 a2 _ _ _ _ w (by decide) (by decide) e0 e1 h cGenCounts2x1x2
theorem walkGenCounts_2x2 (a0 : Int) (a1 : Int) (a2 : Int) (w : World) (e0 : a0 % 4 = 2) (e1 : a1 % 9 = 2) : Calls Try.prog 4 #[.int .i64 a0, .int .i64 a1, .int .i64 a2] w fun e w' => e = .returned (.bool true) ∧ Below w.heap.size w w' := by
  have h : a2 % 3 = 0 ∨ a2 % 3 = 1 ∨ a2 % 3 = 2 := by omega
  rcases h with h | h | h
  · exact caseGenCounts a0 a1 a2 _ _ _ _ w (by decide) (by decide) e0 e1 h cGenCounts2x2x0
  · exact caseGenCounts a0 a1 a2 _ _ _ _ w (by decide) (by decide) e0 e1 h cGenCounts2x2x1
  · exact caseGenCounts a0 a1 a2 _ _ _ _ w (by decide) (by decide) e0 e1 h cGenCounts2x2x2
theorem walkGenCounts_2x3 (a0 : Int) (a1 : Int) (a2 : Int) (w : World) (e0 : a0 % 4 = 2) (e1 : a1 % 9 = 3) : Calls Try.prog 4 #[.int .i64 a0, .int .i64 a1, .int .i64 a2] w fun e w' => e = .returned (.bool true) ∧ Below w.heap.size w w' := by
  have h : a2 % 3 = 0 ∨ a2 % 3 = 1 ∨ a2 % 3 = 2 := by omega
  rcases h with h | h | h
  · exact caseGenCounts a0 a1 a2 _ _ _ _ w (by decide) (by decide) e0 e1 h cGenCounts2x3x0
  · exact caseGenCounts a0 a1 a2 _ _ _ _ w (by decide) (by decide) e0 e1 h cGenCounts2x3x1
  · exact caseGenCounts a0 a1 a2 _ _ _ _ w (by decide) (by decide) e0 e1 h cGenCounts2x3x2
theorem walkGenCounts_2x4 (a0 : Int) (a1 : Int) (a2 : Int) (w : World) (e0 : a0 % 4 = 2) (e1 : a1 % 9 = 4) : Calls Try.prog 4 #[.int .i64 a0, .int .i64 a1, .int .i64 a2] w fun e w' => e = .returned (.bool true) ∧ Below w.heap.size w w' := by
  have h : a2 % 3 = 0 ∨ a2 % 3 = 1 ∨ a2 % 3 = 2 := by omega
  rcases h with h | h | h
  · exact caseGenCounts a0 a1 a2 _ _ _ _ w (by decide) (by decide) e0 e1 h cGenCounts2x4x0
  · exact caseGenCounts a0 a1 a2 _ _ _ _ w (by decide) (by decide) e0 e1 h cGenCounts2x4x1
  · exact caseGenCounts a0 a1 a2 _ _ _ _ w (by decide) (by decide) e0 e1 h cGenCounts2x4x2
theorem walkGenCounts_2x5 (a0 : Int) (a1 : Int) (a2 : Int) (w : World) (e0 : a0 % 4 = 2) (e1 : a1 % 9 = 5) : Calls Try.prog 4 #[.int .i64 a0, .int .i64 a1, .int .i64 a2] w fun e w' => e = .returned (.bool true) ∧ Below w.heap.size w w' := by
  have h : a2 % 3 = 0 ∨ a2 % 3 = 1 ∨ a2 % 3 = 2 := by omega
  rcases h with h | h | h
  · exact caseGenCounts a0 a1 a2 _ _ _ _ w (by decide) (by decide) e0 e1 h cGenCounts2x5x0
  · exact caseGenCounts a0 a1 a2 _ _ _ _ w (by decide) (by decide) e0 e1 h cGenCounts2x5x1
  · exact caseGenCounts a0 a1 a2 _ _ _ _ w (by decide) (by decide) e0 e1 h cGenCounts2x5x2
theorem walkGenCounts_2x6 (a0 : Int) (a1 : Int) (a2 : Int) (w : World) (e0 : a0 % 4 = 2) (e1 : a1 % 9 = 6) : Calls Try.prog 4 #[.int .i64 a0, .int .i64 a1, .int .i64 a2] w fun e w' => e = .returned (.bool true) ∧ Below w.heap.size w w' := by
  have h : a2 % 3 = 0 ∨ a2 % 3 = 1 ∨ a2 % 3 = 2 := by omega
  rcases h with h | h | h
  · exact caseGenCounts a0 a1 a2 _ _ _ _ w (by decide) (by decide) e0 e1 h cGenCounts2x6x0
  · exact caseGenCounts a0 a1 a2 _ _ _ _ w (by decide) (by decide) e0 e1 h cGenCounts2x6x1
  · exact caseGenCounts a0 a1 a2 _ _ _ _ w (by decide) (by decide) e0 e1 h cGenCounts2x6x2
theorem walkGenCounts_2x7 (a0 : Int) (a1 : Int) (a2 : Int) (w : World) (e0 : a0 % 4 = 2) (e1 : a1 % 9 = 7) : Calls Try.prog 4 #[.int .i64 a0, .int .i64 a1, .int .i64 a2] w fun e w' => e = .returned (.bool true) ∧ Below w.heap.size w w' := by
  have h : a2 % 3 = 0 ∨ a2 % 3 = 1 ∨ a2 % 3 = 2 := by omega
  rcases h with h | h | h
  · exact caseGenCounts a0 a1 a2 _ _ _ _ w (by decide) (by decide) e0 e1 h cGenCounts2x7x0
  · exact caseGenCounts a0 a1 a2 _ _ _ _ w (by decide) (by decide) e0 e1 h cGenCounts2x7x1
  · exact caseGenCounts a0 a1 a2 _ _ _ _ w (by decide) (by decide) e0 e1 h cGenCounts2x7x2
theorem walkGenCounts_2x8 (a0 : Int) (a1 : Int) (a2 : Int) (w : World) (e0 : a0 % 4 = 2) (e1 : a1 % 9 = 8) : Calls Try.prog 4 #[.int .i64 a0, .int .i64 a1, .int .i64 a2] w fun e w' => e = .returned (.bool true) ∧ Below w.heap.size w w' := by
  have h : a2 % 3 = 0 ∨ a2 % 3 = 1 ∨ a2 % 3 = 2 := by omega
  rcases h with h | h | h
  · exact caseGenCounts a0 a1 a2 _ _ _ _ w (by decide) (by decide) e0 e1 h cGenCounts2x8x0
  · exact caseGenCounts a0 a1 a2 _ _ _ _ w (by decide) (by decide) e0 e1 h cGenCounts2x8x1
  · exact caseGenCounts a0 a1 a2 _ _ _ _ w (by decide) (by decide) e0 e1 h cGenCounts2x8x2
theorem walkGenCounts_2 (a0 : Int) (a1 : Int) (a2 : Int) (w : World) (e0 : a0 % 4 = 2) : Calls Try.prog 4 #[.int .i64 a0, .int .i64 a1, .int .i64 a2] w fun e w' => e = .returned (.bool true) ∧ Below w.heap.size w w' := by
  have h : a1 % 9 = 0 ∨ a1 % 9 = 1 ∨ a1 % 9 = 2 ∨ a1 % 9 = 3 ∨ a1 % 9 = 4 ∨ a1 % 9 = 5 ∨ a1 % 9 = 6 ∨ a1 % 9 = 7 ∨ a1 % 9 = 8 := by omega
  rcases h with h | h | h | h | h | h | h | h | h
  · exact walkGenCounts_2x0 a0 a1 a2 w e0 h
  · exact walkGenCounts_2x1 a0 a1 a2 w e0 h
  · exact walkGenCounts_2x2 a0 a1 a2 w e0 h
  · exact walkGenCounts_2x3 a0 a1 a2 w e0 h
  · exact walkGenCounts_2x4 a0 a1 a2 w e0 h
  · exact walkGenCounts_2x5 a0 a1 a2 w e0 h
  · exact walkGenCounts_2x6 a0 a1 a2 w e0 h
  · exact walkGenCounts_2x7 a0 a1 a2 w e0 h
  · exact walkGenCounts_2x8 a0 a1 a2 w e0 h
theorem walkGenCounts_3x0 (a0 : Int) (a1 : Int) (a2 : Int) (w : World) (e0 : a0 % 4 = 3) (e1 : a1 % 9 = 0) : Calls Try.prog 4 #[.int .i64 a0, .int .i64 a1, .int .i64 a2] w fun e w' => e = .returned (.bool true) ∧ Below w.heap.size w w' := by
  have h : a2 % 4 = 0 ∨ a2 % 4 = 1 ∨ a2 % 4 = 2 ∨ a2 % 4 = 3 := by omega
  rcases h with h | h | h | h
  · exact caseGenCounts a0 a1 a2 _ _ _ _ w (by decide) (by decide) e0 e1 h cGenCounts3x0x0
  · exact caseGenCounts a0 a1 a2 _ _ _ _ w (by decide) (by decide) e0 e1 h cGenCounts3x0x1
  · exact caseGenCounts a0 a1 a2 _ _ _ _ w (by decide) (by decide) e0 e1 h cGenCounts3x0x2
  · exact caseGenCounts a0 a1 a2 _ _ _ _ w (by decide) (by decide) e0 e1 h cGenCounts3x0x3
theorem walkGenCounts_3x1 (a0 : Int) (a1 : Int) (a2 : Int) (w : World) (e0 : a0 % 4 = 3) (e1 : a1 % 9 = 1) : Calls Try.prog 4 #[.int .i64 a0, .int .i64 a1, .int .i64 a2] w fun e w' => e = .returned (.bool true) ∧ Below w.heap.size w w' := by
  have h : a2 % 4 = 0 ∨ a2 % 4 = 1 ∨ a2 % 4 = 2 ∨ a2 % 4 = 3 := by omega
  rcases h with h | h | h | h
  · exact caseGenCounts a0 a1 a2 _ _ _ _ w (by decide) (by decide) e0 e1 h cGenCounts3x1x0
  · exact caseGenCounts a0 a1 a2 _ _ _ _ w (by decide) (by decide) e0 e1 h cGenCounts3x1x1
  · exact caseGenCounts a0 a1 a2 _ _ _ _ w (by decide) (by decide) e0 e1 h cGenCounts3x1x2
  · exact caseGenCounts a0 a1 a2 _ _ _ _ w (by decide) (by decide) e0 e1 h cGenCounts3x1x3
theorem walkGenCounts_3x2 (a0 : Int) (a1 : Int) (a2 : Int) (w : World) (e0 : a0 % 4 = 3) (e1 : a1 % 9 = 2) : Calls Try.prog 4 #[.int .i64 a0, .int .i64 a1, .int .i64 a2] w fun e w' => e = .returned (.bool true) ∧ Below w.heap.size w w' := by
  have h : a2 % 4 = 0 ∨ a2 % 4 = 1 ∨ a2 % 4 = 2 ∨ a2 % 4 = 3 := by omega
  rcases h with h | h | h | h
  · exact caseGenCounts a0 a1 a2 _ _ _ _ w (by decide) (by decide) e0 e1 h cGenCounts3x2x0
  · exact caseGenCounts a0 a1 a2 _ _ _ _ w (by decide) (by decide) e0 e1 h cGenCounts3x2x1
  · exact caseGenCounts a0 a1 a2 _ _ _ _ w (by decide) (by decide) e0 e1 h cGenCounts3x2x2
  · exact caseGenCounts a0 a1 a2 _ _ _ _ w (by decide) (by decide) e0 e1 h cGenCounts3x2x3
theorem walkGenCounts_3x3 (a0 : Int) (a1 : Int) (a2 : Int) (w : World) (e0 : a0 % 4 = 3) (e1 : a1 % 9 = 3) : Calls Try.prog 4 #[.int .i64 a0, .int .i64 a1, .int .i64 a2] w fun e w' => e = .returned (.bool true) ∧ Below w.heap.size w w' := by
  have h : a2 % 4 = 0 ∨ a2 % 4 = 1 ∨ a2 % 4 = 2 ∨ a2 % 4 = 3 := by omega
  rcases h with h | h | h | h
  · exact caseGenCounts a0 a1 a2 _ _ _ _ w (by decide) (by decide) e0 e1 h cGenCounts3x3x0
  · exact caseGenCounts a0 a1 a2 _ _ _ _ w (by decide) (by decide) e0 e1 h cGenCounts3x3x1
  · exact caseGenCounts a0 a1 a2 _ _ _ _ w (by decide) (by decide) e0 e1 h cGenCounts3x3x2
  · exact caseGenCounts a0 a1 a2 _ _ _ _ w (by decide) (by decide) e0 e1 h cGenCounts3x3x3
theorem walkGenCounts_3x4 (a0 : Int) (a1 : Int) (a2 : Int) (w : World) (e0 : a0 % 4 = 3) (e1 : a1 % 9 = 4) : Calls Try.prog 4 #[.int .i64 a0, .int .i64 a1, .int .i64 a2] w fun e w' => e = .returned (.bool true) ∧ Below w.heap.size w w' := by
  have h : a2 % 4 = 0 ∨ a2 % 4 = 1 ∨ a2 % 4 = 2 ∨ a2 % 4 = 3 := by omega
  rcases h with h | h | h | h
  · exact caseGenCounts a0 a1 a2 _ _ _ _ w (by decide) (by decide) e0 e1 h cGenCounts3x4x0
  · exact caseGenCounts a0 a1 a2 _ _ _ _ w (by decide) (by decide) e0 e1 h cGenCounts3x4x1
  · exact caseGenCounts a0 a1 a2 _ _ _ _ w (by decide) (by decide) e0 e1 h cGenCounts3x4x2
  · exact caseGenCounts a0 a1 a2 _ _ _ _ w (by decide) (by decide) e0 e1 h cGenCounts3x4x3
theorem walkGenCounts_3x5 (a0 : Int) (a1 : Int) (a2 : Int) (w : World) (e0 : a0 % 4 = 3) (e1 : a1 % 9 = 5) : Calls Try.prog 4 #[.int .i64 a0, .int .i64 a1, .int .i64 a2] w fun e w' => e = .returned (.bool true) ∧ Below w.heap.size w w' := by
  have h : a2 % 4 = 0 ∨ a2 % 4 = 1 ∨ a2 % 4 = 2 ∨ a2 % 4 = 3 := by omega
  rcases h with h | h | h | h
  · exact caseGenCounts a0 a1 a2 _ _ _ _ w (by decide) (by decide) e0 e1 h cGenCounts3x5x0
  · exact caseGenCounts a0 a1 a2 _ _ _ _ w (by decide) (by decide) e0 e1 h cGenCounts3x5x1
  · exact caseGenCounts a0 a1 a2 _ _ _ _ w (by decide) (by decide) e0 e1 h cGenCounts3x5x2
  · exact caseGenCounts a0 a1 a2 _ _ _ _ w (by decide) (by decide) e0 e1 h cGenCounts3x5x3
theorem walkGenCounts_3x6 (a0 : Int) (a1 : Int) (a2 : Int) (w : World) (e0 : a0 % 4 = 3) (e1 : a1 % 9 = 6) : Calls Try.prog 4 #[.int .i64 a0, .int .i64 a1, .int .i64 a2] w fun e w' => e = .returned (.bool true) ∧ Below w.heap.size w w' := by
  have h : a2 % 4 = 0 ∨ a2 % 4 = 1 ∨ a2 % 4 = 2 ∨ a2 % 4 = 3 := by omega
  rcases h with h | h | h | h
  · exact caseGenCounts a0 a1 a2 _ _ _ _ w (by decide) (by decide) e0 e1 h cGenCounts3x6x0
  · exact caseGenCounts a0 a1 a2 _ _ _ _ w (by decide) (by decide) e0 e1 h cGenCounts3x6x1
  · exact caseGenCounts a0 a1 a2 _ _ _ _ w (by decide) (by decide) e0 e1 h cGenCounts3x6x2
  · exact caseGenCounts a0 a1 a2 _ _ _ _ w (by decide) (by decide) e0 e1 h cGenCounts3x6x3
theorem walkGenCounts_3x7 (a0 : Int) (a1 : Int) (a2 : Int) (w : World) (e0 : a0 % 4 = 3) (e1 : a1 % 9 = 7) : Calls Try.prog 4 #[.int .i64 a0, .int .i64 a1, .int .i64 a2] w fun e w' => e = .returned (.bool true) ∧ Below w.heap.size w w' := by
  have h : a2 % 4 = 0 ∨ a2 % 4 = 1 ∨ a2 % 4 = 2 ∨ a2 % 4 = 3 := by omega
  rcases h with h | h | h | h
  · exact caseGenCounts a0 a1 a2 _ _ _ _ w (by decide) (by decide) e0 e1 h cGenCounts3x7x0
  · exact caseGenCounts a0 a1 a2 _ _ _ _ w (by decide) (by decide) e0 e1 h cGenCounts3x7x1
  · exact caseGenCounts a0 a1 a2 _ _ _ _ w (by decide) (by decide) e0 e1 h cGenCounts3x7x2
  · exact caseGenCounts a0 a1 a2 _ _ _ _ w (by decide) (by decide) e0 e1 h cGenCounts3x7x3
theorem walkGenCounts_3x8 (a0 : Int) (a1 : Int) (a2 : Int) (w : World) (e0 : a0 % 4 = 3) (e1 : a1 % 9 = 8) : Calls Try.prog 4 #[.int .i64 a0, .int .i64 a1, .int .i64 a2] w fun e w' => e = .returned (.bool true) ∧ Below w.heap.size w w' := by
  have h : a2 % 4 = 0 ∨ a2 % 4 = 1 ∨ a2 % 4 = 2 ∨ a2 % 4 = 3 := by omega
  rcases h with h | h | h | h
  · exact caseGenCounts a0 a1 a2 _ _ _ _ w (by decide) (by decide) e0 e1 h cGenCounts3x8x0
  · exact caseGenCounts a0 a1 a2 _ _ _ _ w (by decide) (by decide) e0 e1 h cGenCounts3x8x1
  · exact caseGenCounts a0 a1 a2 _ _ _ _ w (by decide) (by decide) e0 e1 h cGenCounts3x8x2
  · exact caseGenCounts a0 a1 a2 _ _ _ _ w (by decide) (by decide) e0 e1 h cGenCounts3x8x3
theorem walkGenCounts_3 (a0 : Int) (a1 : Int) (a2 : Int) (w : World) (e0 : a0 % 4 = 3) : Calls Try.prog 4 #[.int .i64 a0, .int .i64 a1, .int .i64 a2] w fun e w' => e = .returned (.bool true) ∧ Below w.heap.size w w' := by
  have h : a1 % 9 = 0 ∨ a1 % 9 = 1 ∨ a1 % 9 = 2 ∨ a1 % 9 = 3 ∨ a1 % 9 = 4 ∨ a1 % 9 = 5 ∨ a1 % 9 = 6 ∨ a1 % 9 = 7 ∨ a1 % 9 = 8 := by omega
  rcases h with h | h | h | h | h | h | h | h | h
  · exact walkGenCounts_3x0 a0 a1 a2 w e0 h
  · exact walkGenCounts_3x1 a0 a1 a2 w e0 h
  · exact walkGenCounts_3x2 a0 a1 a2 w e0 h
  · exact walkGenCounts_3x3 a0 a1 a2 w e0 h
  · exact walkGenCounts_3x4 a0 a1 a2 w e0 h
  · exact walkGenCounts_3x5 a0 a1 a2 w e0 h
  · exact walkGenCounts_3x6 a0 a1 a2 w e0 h
  · exact walkGenCounts_3x7 a0 a1 a2 w e0 h
  · exact walkGenCounts_3x8 a0 a1 a2 w e0 h
theorem walkGenCounts (a0 : Int) (a1 : Int) (a2 : Int) (w : World)  : Calls Try.prog 4 #[.int .i64 a0, .int .i64 a1, .int .i64 a2] w fun e w' => e = .returned (.bool true) ∧ Below w.heap.size w w' := by
  have h : a0 % 4 = 0 ∨ a0 % 4 = 1 ∨ a0 % 4 = 2 ∨ a0 % 4 = 3 := by omega
  rcases h with h | h | h | h
  · exact walkGenCounts_0 a0 a1 a2 w  h
  · exact walkGenCounts_1 a0 a1 a2 w  h
  · exact walkGenCounts_2 a0 a1 a2 w  h
  · exact walkGenCounts_3 a0 a1 a2 w  h
end Go.Proofs.Ytaoobghobcikdaa.XCodeG
