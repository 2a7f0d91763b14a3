/- PgraphWrong returns true at every input: its way through the program. -/
import Derived.Test.YtheojbhaajbecaaGreatDoorPgraphWrongC0
import Derived.Test.YtheojbhaajbecaaGreatDoorPgraphWrongC1
set_option maxRecDepth 100000
namespace Go.Proofs.YtheojbhaajbecaaGreatDoor.XCodeP
open Go Go.X Go.RowKit
theorem walkPgraphWrong_0 (a0 : Int) (a1 : Int) (w : World) (hL : LibVars w) (e0 : a0 % 6 = 0) : Calls Tryz.prog 4 #[.int .i64 a0, .int .i64 a1] w fun e w' => e = .returned (.bool true) ∧ Below w.heap.size w w' := by
  have h : a1 % 1 = 0 := by omega
  · exact casePgraphWrong a0 a1 _ _ _ w hL (by decide) (by decide) e0 h cPgraphWrong0x0
theorem walkPgraphWrong_1 (a0 : Int) (a1 : Int) (w : World) (hL : LibVars w) (e0 : a0 % 6 = 1) : Calls Tryz.prog 4 #[.int .i64 a0, .int .i64 a1] w fun e w' => e = .returned (.bool true) ∧ Below w.heap.size w w' := by
  have h : a1 % 1 = 0 := by omega
  · exact casePgraphWrong a0 a1 _ _ _ w hL (by decide) (by decide) e0 h cPgraphWrong1x0
theorem walkPgraphWrong_2 (a0 : Int) (a1 : Int) (w : World) (hL : LibVars w) (e0 : a0 % 6 = 2) : Calls Tryz.prog 4 #[.int .i64 a0, .int .i64 a1] w fun e w' => e = .returned (.bool true) ∧ Below w.heap.size w w' := by
  have h : a1 % 2 = 0 ∨ a1 % 2 = 1 := by omega
  rcases h with h | h
  · exact casePgraphWrong a0 a1 _ _ _ w hL (by decide) (by decide) e0 h cPgraphWrong2x0
  · exact casePgraphWrong a0 a1 _ _ _ w hL (by decide) (by decide) e0 h cPgraphWrong2x1
theorem walkPgraphWrong_3 (a0 : Int) (a1 : Int) (w : World) (hL : LibVars w) (e0 : a0 % 6 = 3) : Calls Tryz.prog 4 #[.int .i64 a0, .int .i64 a1] w fun e w' => e = .returned (.bool true) ∧ Below w.heap.size w w' := by
  have h : a1 % 3 = 0 ∨ a1 % 3 = 1 ∨ a1 % 3 = 2 := by omega
  rcases h with h | h | h
  · exact casePgraphWrong a0 a1 _ _ _ w hL (by decide) (by decide) e0 h cPgraphWrong3x0
  · exact casePgraphWrong a0 a1 _ _ _ w hL (by decide) (by decide) e0 h cPgraphWrong3x1
  · exact casePgraphWrong a0 a1 _ _ _ w hL (by decide) (by decide) e0 h cPgraphWrong3x2
theorem walkPgraphWrong_4 (a0 : Int) (a1 : Int) (w : World) (hL : LibVars w) (e0 : a0 % 6 = 4) : Calls Tryz.prog 4 #[.int .i64 a0, .int .i64 a1] w fun e w' => e = .returned (.bool true) ∧ Below w.heap.size w w' := by
  have h : a1 % 4 = 0 ∨ a1 % 4 = 1 ∨ a1 % 4 = 2 ∨ a1 % 4 = 3 := by omega
  rcases h with h | h | h | h
  · exact casePgraphWrong a0 a1 _ _ _ w hL (by decide) (by decide) e0 h cPgraphWrong4x0
  · exact casePgraphWrong a0 a1 _ _ _ w hL (by decide) (by decide) e0 h cPgraphWrong4x1
  · exact casePgraphWrong a0 a1 _ _ _ w hL (by decide) (by decide) e0 h cPgraphWrong4x2
  · exact casePgraphWrong a0 a1 _ _ _ w hL (by decide) (by decide) e0 h cPgraphWrong4x3
theorem walkPgraphWrong_5 (a0 : Int) (a1 : Int) (w : World) (hL : LibVars w) (e0 : a0 % 6 = 5) : Calls Tryz.prog 4 #[.int .i64 a0, .int .i64 a1] w fun e w' => e = .returned (.bool true) ∧ Below w.heap.size w w' := by
  have h : a1 % 5 = 0 ∨ a1 % 5 = 1 ∨ a1 % 5 = 2 ∨ a1 % 5 = 3 ∨ a1 % 5 = 4 := by omega
  rcases h with h | h | h | h | h
  · exact casePgraphWrong a0 a1 _ _ _ w hL (by decide) (by decide) e0 h cPgraphWrong5x0
  · exact casePgraphWrong a0 a1 _ _ _ w hL (by decide) (by decide) e0 h cPgraphWrong5x1
  · exact casePgraphWrong a0 a1 _ _ _ w hL (by decide) (by decide) e0 h cPgraphWrong5x2
  · exact casePgraphWrong a0 a1 _ _ _ w hL (by decide) (by decide) e0 h cPgraphWrong5x3
  · exact casePgraphWrong a0 a1 _ _ _ w hL (by decide) (by decide) e0 h cPgraphWrong5x4
theorem walkPgraphWrong (a0 : Int) (a1 : Int) (w : World) (hL : LibVars w)  : Calls Tryz.prog 4 #[.int .i64 a0, .int .i64 a1] w fun e w' => e = .returned (.bool true) ∧ Below w.heap.size w w' := by
  have h : a0 % 6 = 0 ∨ a0 % 6 = 1 ∨ a0 % 6 = 2 ∨ a0 % 6 = 3 ∨ a0 % 6 = 4 ∨ a0 % 6 = 5 := by omega
  rcases h with h | h | h | h | h | h
  · exact walkPgraphWrong_0 a0 a1 w hL  h
  · exact walkPgraphWrong_1 a0 a1 w hL  h
  · exact walkPgraphWrong_2 a0 a1 w hL  h
  · exact walkPgraphWrong_3 a0 a1 w hL  h
  · exact walkPgraphWrong_4 a0 a1 w hL  h
  · exact walkPgraphWrong_5 a0 a1 w hL  h
end Go.Proofs.YtheojbhaajbecaaGreatDoor.XCodeP
