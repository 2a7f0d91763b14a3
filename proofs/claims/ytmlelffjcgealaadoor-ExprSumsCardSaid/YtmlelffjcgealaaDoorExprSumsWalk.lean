/- ExprSums returns true at every input: its way through the program; the two registers have only names. -/
import Derived.Test.YtmlelffjcgealaaDoorXAwakeLE
set_option maxRecDepth 100000
namespace Go.Proofs.YtmlelffjcgealaaDoor.XCodeE
open Go Go.X Go.RowKit
noncomputable def orcSums [Nu] (l : List ARow) : Orc := rowsOrc [] (yesRow 9 :: lib) l
theorem sums0 [Nu] : isTrue (run ((callN (orcSums [⟨.add, .s 0, .s 1, .sym .i64 2⟩, ⟨.sub, .s 0, .s 1, .sym .i64 3⟩, ⟨.mul, .s 0, .s 1, .sym .i64 4⟩, ⟨.xor, .s 0, .s 1, .sym .i64 5⟩, ⟨.eql, .s 0, .s 1, .bool true⟩, ⟨.lss, .s 0, .s 1, .bool false⟩, ⟨.eql, .s 2, .s 2, .bool true⟩, ⟨.eql, .s 3, .s 3, .bool true⟩, ⟨.eql, .s 4, .s 4, .bool true⟩, ⟨.eql, .s 5, .s 5, .bool true⟩]) code 60).call 3 [.sym .i64 0, .sym .i64 1]) h0) = true := by kernel_rfl
theorem sums1 [Nu] : isTrue (run ((callN (orcSums [⟨.add, .s 0, .s 1, .sym .i64 2⟩, ⟨.sub, .s 0, .s 1, .sym .i64 3⟩, ⟨.mul, .s 0, .s 1, .sym .i64 4⟩, ⟨.xor, .s 0, .s 1, .sym .i64 5⟩, ⟨.eql, .s 0, .s 1, .bool false⟩, ⟨.lss, .s 0, .s 1, .bool true⟩, ⟨.eql, .s 2, .s 2, .bool true⟩, ⟨.eql, .s 3, .s 3, .bool true⟩, ⟨.eql, .s 4, .s 4, .bool true⟩, ⟨.eql, .s 5, .s 5, .bool true⟩]) code 60).call 3 [.sym .i64 0, .sym .i64 1]) h0) = true := by kernel_rfl
theorem sums2 [Nu] : isTrue (run ((callN (orcSums [⟨.add, .s 0, .s 1, .sym .i64 2⟩, ⟨.sub, .s 0, .s 1, .sym .i64 3⟩, ⟨.mul, .s 0, .s 1, .sym .i64 4⟩, ⟨.xor, .s 0, .s 1, .sym .i64 5⟩, ⟨.eql, .s 0, .s 1, .bool false⟩, ⟨.lss, .s 0, .s 1, .bool false⟩, ⟨.eql, .s 2, .s 2, .bool true⟩, ⟨.eql, .s 3, .s 3, .bool true⟩, ⟨.eql, .s 4, .s 4, .bool true⟩, ⟨.eql, .s 5, .s 5, .bool true⟩]) code 60).call 3 [.sym .i64 0, .sym .i64 1]) h0) = true := by kernel_rfl
theorem same_row [Nu] (i : Nat) : ARow.OK ⟨.eql, .s i, .s i, .bool true⟩ := ARow.yesno (ARow.ofB (by rw [arith_eql]; exact congrArg (fun b => some (V.bool b)) (decide_eq_true rfl)))
theorem xor_row [Nu] (i j k : Nat) (h : Nu.val k = bits .xor .i64 (Nu.val i) (Nu.val j)) : ARow.OK ⟨.xor, .s i, .s j, .sym .i64 k⟩ := ARow.named fun P t w => by
  show (binOp .xor t (.int .i64 (Nu.val i)) (.int .i64 (Nu.val j))).run P w = .ok (.int .i64 (Nu.val k)) w
  rw [binOp_xor, intBits_xor, h]
  rfl
theorem walkExprSums (a0 a1 : Int) (w : World) (hL : LibVars w) : Calls Tryd.prog 3 #[.int .i64 a0, .int .i64 a1] w fun e w' => e = .returned (.bool true) ∧ Below w.heap.size w w' := by
  letI : Nu := ⟨fun i => match i with | 0 => a0 | 1 => a1 | 2 => IntKind.i64.wrap (a0 + a1) | 3 => IntKind.i64.wrap (a0 - a1) | 4 => IntKind.i64.wrap (a0 * a1) | _ => bits .xor .i64 a0 a1, w⟩
  have ha : RVs ⟨fun _ => none, fun _ => 0⟩ [V.sym .i64 0, .sym .i64 1] [.int .i64 a0, .int .i64 a1] := RVs_mk (by rw [RV]; rfl) (RVs_mk (by rw [RV]; rfl) RVs_none)
  have r0 : ARow.OK ⟨.add, .s 0, .s 1, .sym .i64 2⟩ := ARow.named (ARow.ofI (arith_add a0 a1))
  have r1 : ARow.OK ⟨.sub, .s 0, .s 1, .sym .i64 3⟩ := ARow.named (ARow.ofI (arith_sub a0 a1))
  have r2 : ARow.OK ⟨.mul, .s 0, .s 1, .sym .i64 4⟩ := ARow.named (ARow.ofI (arith_mul a0 a1))
  have r3 : ARow.OK ⟨.xor, .s 0, .s 1, .sym .i64 5⟩ := xor_row 0 1 5 rfl
  have fin : ∀ (x y : Bool) (hx : decide (a0 = a1) = x) (hy : decide (a0 < a1) = y) (hr : isTrue (run ((callN (orcSums [⟨.add, .s 0, .s 1, .sym .i64 2⟩, ⟨.sub, .s 0, .s 1, .sym .i64 3⟩, ⟨.mul, .s 0, .s 1, .sym .i64 4⟩, ⟨.xor, .s 0, .s 1, .sym .i64 5⟩, ⟨.eql, .s 0, .s 1, .bool x⟩, ⟨.lss, .s 0, .s 1, .bool y⟩, ⟨.eql, .s 2, .s 2, .bool true⟩, ⟨.eql, .s 3, .s 3, .bool true⟩, ⟨.eql, .s 4, .s 4, .bool true⟩, ⟨.eql, .s 5, .s 5, .bool true⟩]) code 60).call 3 [.sym .i64 0, .sym .i64 1]) h0) = true),
      Calls Tryd.prog 3 #[.int .i64 a0, .int .i64 a1] w fun e w' => e = .returned (.bool true) ∧ Below w.heap.size w w' := by
    intro x y hx hy hr
    have r4 : ARow.OK ⟨.eql, .s 0, .s 1, .bool x⟩ := ARow.yesno (ARow.ofB (by rw [arith_eql]; exact congrArg (fun b => some (V.bool b)) hx))
    have r5 : ARow.OK ⟨.lss, .s 0, .s 1, .bool y⟩ := ARow.yesno (ARow.ofB (by rw [arith_lss]; exact congrArg (fun b => some (V.bool b)) hy))
    exact calls_true cx_ok cx_mixed table (rowsOrc_ok all0 (allC (awakel_row9 hL) (lib_ok hL)) (allC r0 (allC r1 (allC r2 (allC r3 (allC r4 (allC r5 (allC (same_row 2) (allC (same_row 3) (allC (same_row 4) (all1 (same_row 5))))))))))))  hr w (Below.refl _ _) ha
  by_cases h1 : a0 = a1
  · exact fin true false (decide_eq_true h1) (decide_eq_false (by omega)) sums0
  · by_cases h2 : a0 < a1
    · exact fin false true (decide_eq_false h1) (decide_eq_true h2) sums1
    · exact fin false false (decide_eq_false h1) (decide_eq_false h2) sums2
end Go.Proofs.YtmlelffjcgealaaDoor.XCodeE
