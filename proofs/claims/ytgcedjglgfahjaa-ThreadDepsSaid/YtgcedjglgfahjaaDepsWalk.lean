/- ThreadDeps returns true at every input: its way through the program; the value that is read has only a name. -/
import Derived.Test.YtgcedjglgfahjaaAwakeT
import Derived.Test.YtgcedjglgfahjaaXMore
set_option maxRecDepth 100000
namespace Go.Proofs.Ytgcedjglgfahjaa.XCodeT
open Go Go.X Go.RowKit

theorem dp0f : isTrue (run ((callN (rowOrc [⟨20, [.s 0, .n 7], .int .i64 0⟩, ⟨22, [], .bool true⟩] [⟨.sub, .s 1, .s 1, .int .i64 0⟩, ⟨.eql, .s 1, .s 1, .bool true⟩, ⟨.neq, .s 1, .s 1, .bool false⟩]) code 60).call 8 [.sym .i64 0, .sym .i64 1, .bool false]) h0) = true := by kernel_rfl
theorem dp0t : isTrue (run ((callN (rowOrc [⟨20, [.s 0, .n 7], .int .i64 0⟩, ⟨22, [], .bool true⟩] [⟨.sub, .s 1, .s 1, .int .i64 0⟩, ⟨.eql, .s 1, .s 1, .bool true⟩, ⟨.neq, .s 1, .s 1, .bool false⟩]) code 60).call 8 [.sym .i64 0, .sym .i64 1, .bool true]) h0) = true := by kernel_rfl
theorem dp1f : isTrue (run ((callN (rowOrc [⟨20, [.s 0, .n 7], .int .i64 1⟩, ⟨22, [], .bool true⟩] [⟨.sub, .s 1, .s 1, .int .i64 0⟩, ⟨.eql, .s 1, .s 1, .bool true⟩, ⟨.neq, .s 1, .s 1, .bool false⟩]) code 60).call 8 [.sym .i64 0, .sym .i64 1, .bool false]) h0) = true := by kernel_rfl
theorem dp1t : isTrue (run ((callN (rowOrc [⟨20, [.s 0, .n 7], .int .i64 1⟩, ⟨22, [], .bool true⟩] [⟨.sub, .s 1, .s 1, .int .i64 0⟩, ⟨.eql, .s 1, .s 1, .bool true⟩, ⟨.neq, .s 1, .s 1, .bool false⟩]) code 60).call 8 [.sym .i64 0, .sym .i64 1, .bool true]) h0) = true := by kernel_rfl
theorem dp2f : isTrue (run ((callN (rowOrc [⟨20, [.s 0, .n 7], .int .i64 2⟩, ⟨22, [], .bool true⟩] [⟨.sub, .s 1, .s 1, .int .i64 0⟩, ⟨.eql, .s 1, .s 1, .bool true⟩, ⟨.neq, .s 1, .s 1, .bool false⟩]) code 60).call 8 [.sym .i64 0, .sym .i64 1, .bool false]) h0) = true := by kernel_rfl
theorem dp2t : isTrue (run ((callN (rowOrc [⟨20, [.s 0, .n 7], .int .i64 2⟩, ⟨22, [], .bool true⟩] [⟨.sub, .s 1, .s 1, .int .i64 0⟩, ⟨.eql, .s 1, .s 1, .bool true⟩, ⟨.neq, .s 1, .s 1, .bool false⟩]) code 60).call 8 [.sym .i64 0, .sym .i64 1, .bool true]) h0) = true := by kernel_rfl
theorem dp3f : isTrue (run ((callN (rowOrc [⟨20, [.s 0, .n 7], .int .i64 3⟩, ⟨22, [], .bool true⟩] [⟨.sub, .s 1, .s 1, .int .i64 0⟩, ⟨.eql, .s 1, .s 1, .bool true⟩, ⟨.neq, .s 1, .s 1, .bool false⟩]) code 60).call 8 [.sym .i64 0, .sym .i64 1, .bool false]) h0) = true := by kernel_rfl
theorem dp3t : isTrue (run ((callN (rowOrc [⟨20, [.s 0, .n 7], .int .i64 3⟩, ⟨22, [], .bool true⟩] [⟨.sub, .s 1, .s 1, .int .i64 0⟩, ⟨.eql, .s 1, .s 1, .bool true⟩, ⟨.neq, .s 1, .s 1, .bool false⟩]) code 60).call 8 [.sym .i64 0, .sym .i64 1, .bool true]) h0) = true := by kernel_rfl
theorem dp4f : isTrue (run ((callN (rowOrc [⟨20, [.s 0, .n 7], .int .i64 4⟩, ⟨22, [], .bool true⟩] [⟨.sub, .s 1, .s 1, .int .i64 0⟩, ⟨.eql, .s 1, .s 1, .bool true⟩, ⟨.neq, .s 1, .s 1, .bool false⟩]) code 60).call 8 [.sym .i64 0, .sym .i64 1, .bool false]) h0) = true := by kernel_rfl
theorem dp4t : isTrue (run ((callN (rowOrc [⟨20, [.s 0, .n 7], .int .i64 4⟩, ⟨22, [], .bool true⟩] [⟨.sub, .s 1, .s 1, .int .i64 0⟩, ⟨.eql, .s 1, .s 1, .bool true⟩, ⟨.neq, .s 1, .s 1, .bool false⟩]) code 60).call 8 [.sym .i64 0, .sym .i64 1, .bool true]) h0) = true := by kernel_rfl
theorem dp5f : isTrue (run ((callN (rowOrc [⟨20, [.s 0, .n 7], .int .i64 5⟩, ⟨22, [], .bool true⟩] [⟨.sub, .s 1, .s 1, .int .i64 0⟩, ⟨.eql, .s 1, .s 1, .bool true⟩, ⟨.neq, .s 1, .s 1, .bool false⟩]) code 60).call 8 [.sym .i64 0, .sym .i64 1, .bool false]) h0) = true := by kernel_rfl
theorem dp5t : isTrue (run ((callN (rowOrc [⟨20, [.s 0, .n 7], .int .i64 5⟩, ⟨22, [], .bool true⟩] [⟨.sub, .s 1, .s 1, .int .i64 0⟩, ⟨.eql, .s 1, .s 1, .bool true⟩, ⟨.neq, .s 1, .s 1, .bool false⟩]) code 60).call 8 [.sym .i64 0, .sym .i64 1, .bool true]) h0) = true := by kernel_rfl
theorem dp6f : isTrue (run ((callN (rowOrc [⟨20, [.s 0, .n 7], .int .i64 6⟩, ⟨22, [], .bool true⟩] [⟨.sub, .s 1, .s 1, .int .i64 0⟩, ⟨.eql, .s 1, .s 1, .bool true⟩, ⟨.neq, .s 1, .s 1, .bool false⟩]) code 60).call 8 [.sym .i64 0, .sym .i64 1, .bool false]) h0) = true := by kernel_rfl
theorem dp6t : isTrue (run ((callN (rowOrc [⟨20, [.s 0, .n 7], .int .i64 6⟩, ⟨22, [], .bool true⟩] [⟨.sub, .s 1, .s 1, .int .i64 0⟩, ⟨.eql, .s 1, .s 1, .bool true⟩, ⟨.neq, .s 1, .s 1, .bool false⟩]) code 60).call 8 [.sym .i64 0, .sym .i64 1, .bool true]) h0) = true := by kernel_rfl
theorem walkThreadDeps (n v : Int) (taken : Bool) (w : World) : Calls Try.prog 8 #[.int .i64 n, .int .i64 v, .bool taken] w fun e w' => e = .returned (.bool true) ∧ Below w.heap.size w w' := by
  letI : Nu := ⟨fun i => match i with | 0 => n | _ => v⟩
  have ha : RVs ⟨fun _ => none, fun _ => 0⟩ [V.sym .i64 0, .sym .i64 1, .bool taken] [.int .i64 n, .int .i64 v, .bool taken] := RVs_mk (by rw [RV]; rfl) (RVs_mk (by rw [RV]; rfl) (RVs_mk (by rw [RV]) RVs_none))
  have r1 : ARow.OK ⟨.sub, .s 1, .s 1, .int .i64 0⟩ := ARow.num (ARow.ofI (by rw [arith_sub]; show some (V.int .i64 (IntKind.i64.wrap (v - v))) = _; rw [Int.sub_self]; rfl))
  have r2 : ARow.OK ⟨.eql, .s 1, .s 1, .bool true⟩ := ARow.yesno (ARow.ofB (by rw [arith_eql]; exact congrArg (fun b => some (V.bool b)) (decide_eq_true rfl)))
  have r3 : ARow.OK ⟨.neq, .s 1, .s 1, .bool false⟩ := ARow.yesno (ARow.ofB (by rw [arith_neq]; exact congrArg (fun b => some (V.bool b)) (decide_eq_false fun h => h rfl)))
  have hk : n % 7 = 0 ∨ n % 7 = 1 ∨ n % 7 = 2 ∨ n % 7 = 3 ∨ n % 7 = 4 ∨ n % 7 = 5 ∨ n % 7 = 6 := by omega
  rcases hk with hk | hk | hk | hk | hk | hk | hk
  · have ho : OrcOK Try.prog (rowOrc [⟨20, [.s 0, .n 7], .int .i64 0⟩, ⟨22, [], .bool true⟩] [⟨.sub, .s 1, .s 1, .int .i64 0⟩, ⟨.eql, .s 1, .s 1, .bool true⟩, ⟨.neq, .s 1, .s 1, .bool false⟩]) := rowOrc_ok (allC (place_row _ 0 7 0 (by omega) (by omega) hk) (all1 (awake_row _))) (allC r1 (allC r2 (all1 r3)))
    cases taken
    · exact calls_true cx_ok cx_mixed table ho dp0f w ha
    · exact calls_true cx_ok cx_mixed table ho dp0t w ha
  · have ho : OrcOK Try.prog (rowOrc [⟨20, [.s 0, .n 7], .int .i64 1⟩, ⟨22, [], .bool true⟩] [⟨.sub, .s 1, .s 1, .int .i64 0⟩, ⟨.eql, .s 1, .s 1, .bool true⟩, ⟨.neq, .s 1, .s 1, .bool false⟩]) := rowOrc_ok (allC (place_row _ 0 7 1 (by omega) (by omega) hk) (all1 (awake_row _))) (allC r1 (allC r2 (all1 r3)))
    cases taken
    · exact calls_true cx_ok cx_mixed table ho dp1f w ha
    · exact calls_true cx_ok cx_mixed table ho dp1t w ha
  · have ho : OrcOK Try.prog (rowOrc [⟨20, [.s 0, .n 7], .int .i64 2⟩, ⟨22, [], .bool true⟩] [⟨.sub, .s 1, .s 1, .int .i64 0⟩, ⟨.eql, .s 1, .s 1, .bool true⟩, ⟨.neq, .s 1, .s 1, .bool false⟩]) := rowOrc_ok (allC (place_row _ 0 7 2 (by omega) (by omega) hk) (all1 (awake_row _))) (allC r1 (allC r2 (all1 r3)))
    cases taken
    · exact calls_true cx_ok cx_mixed table ho dp2f w ha
    · exact calls_true cx_ok cx_mixed table ho dp2t w ha
  · have ho : OrcOK Try.prog (rowOrc [⟨20, [.s 0, .n 7], .int .i64 3⟩, ⟨22, [], .bool true⟩] [⟨.sub, .s 1, .s 1, .int .i64 0⟩, ⟨.eql, .s 1, .s 1, .bool true⟩, ⟨.neq, .s 1, .s 1, .bool false⟩]) := rowOrc_ok (allC (place_row _ 0 7 3 (by omega) (by omega) hk) (all1 (awake_row _))) (allC r1 (allC r2 (all1 r3)))
    cases taken
    · exact calls_true cx_ok cx_mixed table ho dp3f w ha
    · exact calls_true cx_ok cx_mixed table ho dp3t w ha
  · have ho : OrcOK Try.prog (rowOrc [⟨20, [.s 0, .n 7], .int .i64 4⟩, ⟨22, [], .bool true⟩] [⟨.sub, .s 1, .s 1, .int .i64 0⟩, ⟨.eql, .s 1, .s 1, .bool true⟩, ⟨.neq, .s 1, .s 1, .bool false⟩]) := rowOrc_ok (allC (place_row _ 0 7 4 (by omega) (by omega) hk) (all1 (awake_row _))) (allC r1 (allC r2 (all1 r3)))
    cases taken
    · exact calls_true cx_ok cx_mixed table ho dp4f w ha
    · exact calls_true cx_ok cx_mixed table ho dp4t w ha
  · have ho : OrcOK Try.prog (rowOrc [⟨20, [.s 0, .n 7], .int .i64 5⟩, ⟨22, [], .bool true⟩] [⟨.sub, .s 1, .s 1, .int .i64 0⟩, ⟨.eql, .s 1, .s 1, .bool true⟩, ⟨.neq, .s 1, .s 1, .bool false⟩]) := rowOrc_ok (allC (place_row _ 0 7 5 (by omega) (by omega) hk) (all1 (awake_row _))) (allC r1 (allC r2 (all1 r3)))
    cases taken
    · exact calls_true cx_ok cx_mixed table ho dp5f w ha
    · exact calls_true cx_ok cx_mixed table ho dp5t w ha
  · have ho : OrcOK Try.prog (rowOrc [⟨20, [.s 0, .n 7], .int .i64 6⟩, ⟨22, [], .bool true⟩] [⟨.sub, .s 1, .s 1, .int .i64 0⟩, ⟨.eql, .s 1, .s 1, .bool true⟩, ⟨.neq, .s 1, .s 1, .bool false⟩]) := rowOrc_ok (allC (place_row _ 0 7 6 (by omega) (by omega) hk) (all1 (awake_row _))) (allC r1 (allC r2 (all1 r3)))
    cases taken
    · exact calls_true cx_ok cx_mixed table ho dp6f w ha
    · exact calls_true cx_ok cx_mixed table ho dp6t w ha
end Go.Proofs.Ytgcedjglgfahjaa.XCodeT
