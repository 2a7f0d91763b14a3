/- PthreadDeps returns true at every input: its way through the program; the values that are read have only names. -/
import Derived.Test.YtmlelffjcgealaaXAwakeB
set_option maxRecDepth 100000
namespace Go.Proofs.Ytmlelffjcgealaa.XCodeB
open Go Go.X Go.RowKit

theorem pd0x0 : isTrue (run ((callN (rowOrc [⟨7, [.s 0, .n 6], .int .i64 0⟩, ⟨9, [], .bool true⟩] [⟨.eql, .s 2, .s 2, .bool true⟩, ⟨.neq, .s 2, .s 2, .bool false⟩, ⟨.eql, .s 1, .n 0, .bool false⟩, ⟨.neq, .s 1, .n 0, .bool true⟩]) code 60).call 3 [.sym .i64 0, .sym .i64 1, .sym .i64 2]) h0) = true := by kernel_rfl
theorem pd0x1 : isTrue (run ((callN (rowOrc [⟨7, [.s 0, .n 6], .int .i64 0⟩, ⟨9, [], .bool true⟩] [⟨.eql, .s 2, .s 2, .bool true⟩, ⟨.neq, .s 2, .s 2, .bool false⟩, ⟨.eql, .s 1, .n 0, .bool true⟩, ⟨.neq, .s 1, .n 0, .bool false⟩]) code 60).call 3 [.sym .i64 0, .sym .i64 1, .sym .i64 2]) h0) = true := by kernel_rfl
theorem pd1x0 : isTrue (run ((callN (rowOrc [⟨7, [.s 0, .n 6], .int .i64 1⟩, ⟨9, [], .bool true⟩] [⟨.eql, .s 2, .s 2, .bool true⟩, ⟨.neq, .s 2, .s 2, .bool false⟩, ⟨.eql, .s 1, .n 0, .bool false⟩, ⟨.neq, .s 1, .n 0, .bool true⟩]) code 60).call 3 [.sym .i64 0, .sym .i64 1, .sym .i64 2]) h0) = true := by kernel_rfl
theorem pd1x1 : isTrue (run ((callN (rowOrc [⟨7, [.s 0, .n 6], .int .i64 1⟩, ⟨9, [], .bool true⟩] [⟨.eql, .s 2, .s 2, .bool true⟩, ⟨.neq, .s 2, .s 2, .bool false⟩, ⟨.eql, .s 1, .n 0, .bool true⟩, ⟨.neq, .s 1, .n 0, .bool false⟩]) code 60).call 3 [.sym .i64 0, .sym .i64 1, .sym .i64 2]) h0) = true := by kernel_rfl
theorem pd2x0 : isTrue (run ((callN (rowOrc [⟨7, [.s 0, .n 6], .int .i64 2⟩, ⟨9, [], .bool true⟩] [⟨.eql, .s 2, .s 2, .bool true⟩, ⟨.neq, .s 2, .s 2, .bool false⟩, ⟨.eql, .s 1, .n 0, .bool false⟩, ⟨.neq, .s 1, .n 0, .bool true⟩]) code 60).call 3 [.sym .i64 0, .sym .i64 1, .sym .i64 2]) h0) = true := by kernel_rfl
theorem pd2x1 : isTrue (run ((callN (rowOrc [⟨7, [.s 0, .n 6], .int .i64 2⟩, ⟨9, [], .bool true⟩] [⟨.eql, .s 2, .s 2, .bool true⟩, ⟨.neq, .s 2, .s 2, .bool false⟩, ⟨.eql, .s 1, .n 0, .bool true⟩, ⟨.neq, .s 1, .n 0, .bool false⟩]) code 60).call 3 [.sym .i64 0, .sym .i64 1, .sym .i64 2]) h0) = true := by kernel_rfl
theorem pd3x0 : isTrue (run ((callN (rowOrc [⟨7, [.s 0, .n 6], .int .i64 3⟩, ⟨9, [], .bool true⟩] [⟨.eql, .s 2, .s 2, .bool true⟩, ⟨.neq, .s 2, .s 2, .bool false⟩, ⟨.eql, .s 1, .n 0, .bool false⟩, ⟨.neq, .s 1, .n 0, .bool true⟩]) code 60).call 3 [.sym .i64 0, .sym .i64 1, .sym .i64 2]) h0) = true := by kernel_rfl
theorem pd3x1 : isTrue (run ((callN (rowOrc [⟨7, [.s 0, .n 6], .int .i64 3⟩, ⟨9, [], .bool true⟩] [⟨.eql, .s 2, .s 2, .bool true⟩, ⟨.neq, .s 2, .s 2, .bool false⟩, ⟨.eql, .s 1, .n 0, .bool true⟩, ⟨.neq, .s 1, .n 0, .bool false⟩]) code 60).call 3 [.sym .i64 0, .sym .i64 1, .sym .i64 2]) h0) = true := by kernel_rfl
theorem pd4x0 : isTrue (run ((callN (rowOrc [⟨7, [.s 0, .n 6], .int .i64 4⟩, ⟨9, [], .bool true⟩] [⟨.eql, .s 2, .s 2, .bool true⟩, ⟨.neq, .s 2, .s 2, .bool false⟩, ⟨.eql, .s 1, .n 0, .bool false⟩, ⟨.neq, .s 1, .n 0, .bool true⟩]) code 60).call 3 [.sym .i64 0, .sym .i64 1, .sym .i64 2]) h0) = true := by kernel_rfl
theorem pd4x1 : isTrue (run ((callN (rowOrc [⟨7, [.s 0, .n 6], .int .i64 4⟩, ⟨9, [], .bool true⟩] [⟨.eql, .s 2, .s 2, .bool true⟩, ⟨.neq, .s 2, .s 2, .bool false⟩, ⟨.eql, .s 1, .n 0, .bool true⟩, ⟨.neq, .s 1, .n 0, .bool false⟩]) code 60).call 3 [.sym .i64 0, .sym .i64 1, .sym .i64 2]) h0) = true := by kernel_rfl
theorem pd5x0 : isTrue (run ((callN (rowOrc [⟨7, [.s 0, .n 6], .int .i64 5⟩, ⟨9, [], .bool true⟩] [⟨.eql, .s 2, .s 2, .bool true⟩, ⟨.neq, .s 2, .s 2, .bool false⟩, ⟨.eql, .s 1, .n 0, .bool false⟩, ⟨.neq, .s 1, .n 0, .bool true⟩]) code 60).call 3 [.sym .i64 0, .sym .i64 1, .sym .i64 2]) h0) = true := by kernel_rfl
theorem pd5x1 : isTrue (run ((callN (rowOrc [⟨7, [.s 0, .n 6], .int .i64 5⟩, ⟨9, [], .bool true⟩] [⟨.eql, .s 2, .s 2, .bool true⟩, ⟨.neq, .s 2, .s 2, .bool false⟩, ⟨.eql, .s 1, .n 0, .bool true⟩, ⟨.neq, .s 1, .n 0, .bool false⟩]) code 60).call 3 [.sym .i64 0, .sym .i64 1, .sym .i64 2]) h0) = true := by kernel_rfl
theorem walkPthreadDeps (n v u : Int) (w : World) : Calls Try.prog 3 #[.int .i64 n, .int .i64 v, .int .i64 u] w fun e w' => e = .returned (.bool true) ∧ Below w.heap.size w w' := by
  letI : Nu := ⟨fun i => match i with | 0 => n | 1 => v | _ => u⟩
  have ha : RVs ⟨fun _ => none, fun _ => 0⟩ [V.sym .i64 0, .sym .i64 1, .sym .i64 2] [.int .i64 n, .int .i64 v, .int .i64 u] := RVs_mk (by rw [RV]; rfl) (RVs_mk (by rw [RV]; rfl) (RVs_mk (by rw [RV]; rfl) RVs_none))
  have r2 : ARow.OK ⟨.eql, .s 2, .s 2, .bool true⟩ := ARow.yesno (ARow.ofB (by rw [arith_eql]; exact congrArg (fun b => some (V.bool b)) (decide_eq_true rfl)))
  have r3 : ARow.OK ⟨.neq, .s 2, .s 2, .bool false⟩ := ARow.yesno (ARow.ofB (by rw [arith_neq]; exact congrArg (fun b => some (V.bool b)) (decide_eq_false fun h => h rfl)))
  have hk : n % 6 = 0 ∨ n % 6 = 1 ∨ n % 6 = 2 ∨ n % 6 = 3 ∨ n % 6 = 4 ∨ n % 6 = 5 := by omega
  by_cases hv : v = 0
  · have r4 : ARow.OK ⟨.eql, .s 1, .n 0, .bool true⟩ := ARow.yesno (ARow.ofB (by rw [arith_eql]; exact congrArg (fun b => some (V.bool b)) (decide_eq_true hv)))
    have r5 : ARow.OK ⟨.neq, .s 1, .n 0, .bool false⟩ := ARow.yesno (ARow.ofB (by rw [arith_neq]; exact congrArg (fun b => some (V.bool b)) (decide_eq_false fun h => h hv)))
    rcases hk with hk | hk | hk | hk | hk | hk
    · have ho : OrcOK Try.prog (rowOrc [⟨7, [.s 0, .n 6], .int .i64 0⟩, ⟨9, [], .bool true⟩] [⟨.eql, .s 2, .s 2, .bool true⟩, ⟨.neq, .s 2, .s 2, .bool false⟩, ⟨.eql, .s 1, .n 0, .bool true⟩, ⟨.neq, .s 1, .n 0, .bool false⟩]) := rowOrc_ok (allC (place_row _ 0 6 0 (by omega) (by omega) hk) (all1 (awake_row9 _))) (allC r2 (allC r3 (allC r4 (all1 r5))))
      exact calls_true cx_ok cx_mixed table ho pd0x1 w ha
    · have ho : OrcOK Try.prog (rowOrc [⟨7, [.s 0, .n 6], .int .i64 1⟩, ⟨9, [], .bool true⟩] [⟨.eql, .s 2, .s 2, .bool true⟩, ⟨.neq, .s 2, .s 2, .bool false⟩, ⟨.eql, .s 1, .n 0, .bool true⟩, ⟨.neq, .s 1, .n 0, .bool false⟩]) := rowOrc_ok (allC (place_row _ 0 6 1 (by omega) (by omega) hk) (all1 (awake_row9 _))) (allC r2 (allC r3 (allC r4 (all1 r5))))
      exact calls_true cx_ok cx_mixed table ho pd1x1 w ha
    · have ho : OrcOK Try.prog (rowOrc [⟨7, [.s 0, .n 6], .int .i64 2⟩, ⟨9, [], .bool true⟩] [⟨.eql, .s 2, .s 2, .bool true⟩, ⟨.neq, .s 2, .s 2, .bool false⟩, ⟨.eql, .s 1, .n 0, .bool true⟩, ⟨.neq, .s 1, .n 0, .bool false⟩]) := rowOrc_ok (allC (place_row _ 0 6 2 (by omega) (by omega) hk) (all1 (awake_row9 _))) (allC r2 (allC r3 (allC r4 (all1 r5))))
      exact calls_true cx_ok cx_mixed table ho pd2x1 w ha
    · have ho : OrcOK Try.prog (rowOrc [⟨7, [.s 0, .n 6], .int .i64 3⟩, ⟨9, [], .bool true⟩] [⟨.eql, .s 2, .s 2, .bool true⟩, ⟨.neq, .s 2, .s 2, .bool false⟩, ⟨.eql, .s 1, .n 0, .bool true⟩, ⟨.neq, .s 1, .n 0, .bool false⟩]) := rowOrc_ok (allC (place_row _ 0 6 3 (by omega) (by omega) hk) (all1 (awake_row9 _))) (allC r2 (allC r3 (allC r4 (all1 r5))))
      exact calls_true cx_ok cx_mixed table ho pd3x1 w ha
    · have ho : OrcOK Try.prog (rowOrc [⟨7, [.s 0, .n 6], .int .i64 4⟩, ⟨9, [], .bool true⟩] [⟨.eql, .s 2, .s 2, .bool true⟩, ⟨.neq, .s 2, .s 2, .bool false⟩, ⟨.eql, .s 1, .n 0, .bool true⟩, ⟨.neq, .s 1, .n 0, .bool false⟩]) := rowOrc_ok (allC (place_row _ 0 6 4 (by omega) (by omega) hk) (all1 (awake_row9 _))) (allC r2 (allC r3 (allC r4 (all1 r5))))
      exact calls_true cx_ok cx_mixed table ho pd4x1 w ha
    · have ho : OrcOK Try.prog (rowOrc [⟨7, [.s 0, .n 6], .int .i64 5⟩, ⟨9, [], .bool true⟩] [⟨.eql, .s 2, .s 2, .bool true⟩, ⟨.neq, .s 2, .s 2, .bool false⟩, ⟨.eql, .s 1, .n 0, .bool true⟩, ⟨.neq, .s 1, .n 0, .bool false⟩]) := rowOrc_ok (allC (place_row _ 0 6 5 (by omega) (by omega) hk) (all1 (awake_row9 _))) (allC r2 (allC r3 (allC r4 (all1 r5))))
      exact calls_true cx_ok cx_mixed table ho pd5x1 w ha
  · have r4 : ARow.OK ⟨.eql, .s 1, .n 0, .bool false⟩ := ARow.yesno (ARow.ofB (by rw [arith_eql]; exact congrArg (fun b => some (V.bool b)) (decide_eq_false hv)))
    have r5 : ARow.OK ⟨.neq, .s 1, .n 0, .bool true⟩ := ARow.yesno (ARow.ofB (by rw [arith_neq]; exact congrArg (fun b => some (V.bool b)) (decide_eq_true hv)))
    rcases hk with hk | hk | hk | hk | hk | hk
    · have ho : OrcOK Try.prog (rowOrc [⟨7, [.s 0, .n 6], .int .i64 0⟩, ⟨9, [], .bool true⟩] [⟨.eql, .s 2, .s 2, .bool true⟩, ⟨.neq, .s 2, .s 2, .bool false⟩, ⟨.eql, .s 1, .n 0, .bool false⟩, ⟨.neq, .s 1, .n 0, .bool true⟩]) := rowOrc_ok (allC (place_row _ 0 6 0 (by omega) (by omega) hk) (all1 (awake_row9 _))) (allC r2 (allC r3 (allC r4 (all1 r5))))
      exact calls_true cx_ok cx_mixed table ho pd0x0 w ha
    · have ho : OrcOK Try.prog (rowOrc [⟨7, [.s 0, .n 6], .int .i64 1⟩, ⟨9, [], .bool true⟩] [⟨.eql, .s 2, .s 2, .bool true⟩, ⟨.neq, .s 2, .s 2, .bool false⟩, ⟨.eql, .s 1, .n 0, .bool false⟩, ⟨.neq, .s 1, .n 0, .bool true⟩]) := rowOrc_ok (allC (place_row _ 0 6 1 (by omega) (by omega) hk) (all1 (awake_row9 _))) (allC r2 (allC r3 (allC r4 (all1 r5))))
      exact calls_true cx_ok cx_mixed table ho pd1x0 w ha
    · have ho : OrcOK Try.prog (rowOrc [⟨7, [.s 0, .n 6], .int .i64 2⟩, ⟨9, [], .bool true⟩] [⟨.eql, .s 2, .s 2, .bool true⟩, ⟨.neq, .s 2, .s 2, .bool false⟩, ⟨.eql, .s 1, .n 0, .bool false⟩, ⟨.neq, .s 1, .n 0, .bool true⟩]) := rowOrc_ok (allC (place_row _ 0 6 2 (by omega) (by omega) hk) (all1 (awake_row9 _))) (allC r2 (allC r3 (allC r4 (all1 r5))))
      exact calls_true cx_ok cx_mixed table ho pd2x0 w ha
    · have ho : OrcOK Try.prog (rowOrc [⟨7, [.s 0, .n 6], .int .i64 3⟩, ⟨9, [], .bool true⟩] [⟨.eql, .s 2, .s 2, .bool true⟩, ⟨.neq, .s 2, .s 2, .bool false⟩, ⟨.eql, .s 1, .n 0, .bool false⟩, ⟨.neq, .s 1, .n 0, .bool true⟩]) := rowOrc_ok (allC (place_row _ 0 6 3 (by omega) (by omega) hk) (all1 (awake_row9 _))) (allC r2 (allC r3 (allC r4 (all1 r5))))
      exact calls_true cx_ok cx_mixed table ho pd3x0 w ha
    · have ho : OrcOK Try.prog (rowOrc [⟨7, [.s 0, .n 6], .int .i64 4⟩, ⟨9, [], .bool true⟩] [⟨.eql, .s 2, .s 2, .bool true⟩, ⟨.neq, .s 2, .s 2, .bool false⟩, ⟨.eql, .s 1, .n 0, .bool false⟩, ⟨.neq, .s 1, .n 0, .bool true⟩]) := rowOrc_ok (allC (place_row _ 0 6 4 (by omega) (by omega) hk) (all1 (awake_row9 _))) (allC r2 (allC r3 (allC r4 (all1 r5))))
      exact calls_true cx_ok cx_mixed table ho pd4x0 w ha
    · have ho : OrcOK Try.prog (rowOrc [⟨7, [.s 0, .n 6], .int .i64 5⟩, ⟨9, [], .bool true⟩] [⟨.eql, .s 2, .s 2, .bool true⟩, ⟨.neq, .s 2, .s 2, .bool false⟩, ⟨.eql, .s 1, .n 0, .bool false⟩, ⟨.neq, .s 1, .n 0, .bool true⟩]) := rowOrc_ok (allC (place_row _ 0 6 5 (by omega) (by omega) hk) (all1 (awake_row9 _))) (allC r2 (allC r3 (allC r4 (all1 r5))))
      exact calls_true cx_ok cx_mixed table ho pd5x0 w ha
end Go.Proofs.Ytmlelffjcgealaa.XCodeB
