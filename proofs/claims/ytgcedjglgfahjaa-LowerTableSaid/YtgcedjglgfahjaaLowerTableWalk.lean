/- LowerTable returns true at every input: its way through the program, told by the executor case by case (the location's last bit, the three modes). -/
import Derived.Test.YtgcedjglgfahjaaXTold
import Derived.Test.YtgcedjglgfahjaaXRow
set_option maxRecDepth 100000
namespace Go.Proofs.Ytgcedjglgfahjaa
open Go Go.X XCode Go.RowKit

theorem awake15 (w : World) : Calls Try.prog 15 #[] w fun e w' => e = .returned (.bool true) ∧ Below w.heap.size w w' :=
  letI : Nu := ⟨fun _ => 0⟩
  calls_true cx_ok cx_mixed table (noOrc_ok _) (n := 40) (vs := []) (args := []) (by kernel_rfl) w RVs_none

theorem bits_and_one (x : Int) : bits .and .i64 x 1 = x % 2 := by
  have e : (BitVec.ofInt 64 x &&& BitVec.ofInt 64 1).toNat = (x % 2).toNat := by
    have h1 : (BitVec.ofInt 64 1) = 1#64 := rfl
    rw [h1, BitVec.toNat_and, BitVec.toNat_ofInt]
    show (x % ((2 ^ 64 : Nat) : Int)).toNat &&& 1 = _
    rw [Nat.and_one_is_mod]
    omega
  show IntKind.i64.wrap ((BitVec.ofInt 64 x &&& BitVec.ofInt 64 1).toNat : Int) = _
  rw [e, IntKind.wrap_i64]
  omega

theorem lt0fff : isTrue (run ((callN (rowOrc [⟨15, [], .bool true⟩] [⟨.and, .s 0, .n 1, .int .i64 0⟩]) code 40).call 5 [.sym .i64 0, .bool false, .bool false, .bool false]) h0) = true := by kernel_rfl
theorem lt0fft : isTrue (run ((callN (rowOrc [⟨15, [], .bool true⟩] [⟨.and, .s 0, .n 1, .int .i64 0⟩]) code 40).call 5 [.sym .i64 0, .bool false, .bool false, .bool true]) h0) = true := by kernel_rfl
theorem lt0ftf : isTrue (run ((callN (rowOrc [⟨15, [], .bool true⟩] [⟨.and, .s 0, .n 1, .int .i64 0⟩]) code 40).call 5 [.sym .i64 0, .bool false, .bool true, .bool false]) h0) = true := by kernel_rfl
theorem lt0ftt : isTrue (run ((callN (rowOrc [⟨15, [], .bool true⟩] [⟨.and, .s 0, .n 1, .int .i64 0⟩]) code 40).call 5 [.sym .i64 0, .bool false, .bool true, .bool true]) h0) = true := by kernel_rfl
theorem lt0tff : isTrue (run ((callN (rowOrc [⟨15, [], .bool true⟩] [⟨.and, .s 0, .n 1, .int .i64 0⟩]) code 40).call 5 [.sym .i64 0, .bool true, .bool false, .bool false]) h0) = true := by kernel_rfl
theorem lt0tft : isTrue (run ((callN (rowOrc [⟨15, [], .bool true⟩] [⟨.and, .s 0, .n 1, .int .i64 0⟩]) code 40).call 5 [.sym .i64 0, .bool true, .bool false, .bool true]) h0) = true := by kernel_rfl
theorem lt0ttf : isTrue (run ((callN (rowOrc [⟨15, [], .bool true⟩] [⟨.and, .s 0, .n 1, .int .i64 0⟩]) code 40).call 5 [.sym .i64 0, .bool true, .bool true, .bool false]) h0) = true := by kernel_rfl
theorem lt0ttt : isTrue (run ((callN (rowOrc [⟨15, [], .bool true⟩] [⟨.and, .s 0, .n 1, .int .i64 0⟩]) code 40).call 5 [.sym .i64 0, .bool true, .bool true, .bool true]) h0) = true := by kernel_rfl
theorem lt1fff : isTrue (run ((callN (rowOrc [⟨15, [], .bool true⟩] [⟨.and, .s 0, .n 1, .int .i64 1⟩]) code 40).call 5 [.sym .i64 0, .bool false, .bool false, .bool false]) h0) = true := by kernel_rfl
theorem lt1fft : isTrue (run ((callN (rowOrc [⟨15, [], .bool true⟩] [⟨.and, .s 0, .n 1, .int .i64 1⟩]) code 40).call 5 [.sym .i64 0, .bool false, .bool false, .bool true]) h0) = true := by kernel_rfl
theorem lt1ftf : isTrue (run ((callN (rowOrc [⟨15, [], .bool true⟩] [⟨.and, .s 0, .n 1, .int .i64 1⟩]) code 40).call 5 [.sym .i64 0, .bool false, .bool true, .bool false]) h0) = true := by kernel_rfl
theorem lt1ftt : isTrue (run ((callN (rowOrc [⟨15, [], .bool true⟩] [⟨.and, .s 0, .n 1, .int .i64 1⟩]) code 40).call 5 [.sym .i64 0, .bool false, .bool true, .bool true]) h0) = true := by kernel_rfl
theorem lt1tff : isTrue (run ((callN (rowOrc [⟨15, [], .bool true⟩] [⟨.and, .s 0, .n 1, .int .i64 1⟩]) code 40).call 5 [.sym .i64 0, .bool true, .bool false, .bool false]) h0) = true := by kernel_rfl
theorem lt1tft : isTrue (run ((callN (rowOrc [⟨15, [], .bool true⟩] [⟨.and, .s 0, .n 1, .int .i64 1⟩]) code 40).call 5 [.sym .i64 0, .bool true, .bool false, .bool true]) h0) = true := by kernel_rfl
theorem lt1ttf : isTrue (run ((callN (rowOrc [⟨15, [], .bool true⟩] [⟨.and, .s 0, .n 1, .int .i64 1⟩]) code 40).call 5 [.sym .i64 0, .bool true, .bool true, .bool false]) h0) = true := by kernel_rfl
theorem lt1ttt : isTrue (run ((callN (rowOrc [⟨15, [], .bool true⟩] [⟨.and, .s 0, .n 1, .int .i64 1⟩]) code 40).call 5 [.sym .i64 0, .bool true, .bool true, .bool true]) h0) = true := by kernel_rfl

theorem lowerTable_row (w0 : Nat → Int) (r : Int) (h : w0 0 % 2 = r) : letI : Nu := ⟨w0⟩; OrcOK Try.prog (rowOrc [⟨15, [], .bool true⟩] [⟨.and, .s 0, .n 1, .int .i64 r⟩]) :=
  letI : Nu := ⟨w0⟩
  rowOrc_ok (fun p hp => by
    rw [List.mem_singleton] at hp
    subst hp
    exact CRow.yes Try.func15 (by kernel_rfl) (by kernel_rfl) awake15) (fun p hp => by
    rw [List.mem_singleton] at hp
    subst hp
    refine ARow.num fun P t w => ?_
    show (binOp .and t (.int .i64 (w0 0)) (.int .i64 1)).run P w = _
    rw [binOp_and, intBits_and, bits_and_one, h]
    rfl)
theorem walkLowerTable (loc : Int) (a b c : Bool) (w : World) : Calls Try.prog 5 #[.int .i64 loc, .bool a, .bool b, .bool c] w fun e w' => e = .returned (.bool true) ∧ Below w.heap.size w w' := by
  letI : Nu := ⟨fun _ => loc⟩
  have ha : RVs ⟨fun _ => none, fun _ => 0⟩ [V.sym .i64 0, .bool a, .bool b, .bool c] [.int .i64 loc, .bool a, .bool b, .bool c] :=
    RVs_mk (by rw [RV]; rfl) (RVs_mk (by rw [RV]) (RVs_mk (by rw [RV]) (RVs_mk (by rw [RV]) RVs_none)))
  rcases Int.emod_two_eq loc with h | h
  · have ho := lowerTable_row (fun _ => loc) 0 h
    cases a <;> cases b <;> cases c
    · exact calls_true cx_ok cx_mixed table ho lt0fff w ha
    · exact calls_true cx_ok cx_mixed table ho lt0fft w ha
    · exact calls_true cx_ok cx_mixed table ho lt0ftf w ha
    · exact calls_true cx_ok cx_mixed table ho lt0ftt w ha
    · exact calls_true cx_ok cx_mixed table ho lt0tff w ha
    · exact calls_true cx_ok cx_mixed table ho lt0tft w ha
    · exact calls_true cx_ok cx_mixed table ho lt0ttf w ha
    · exact calls_true cx_ok cx_mixed table ho lt0ttt w ha
  · have ho := lowerTable_row (fun _ => loc) 1 h
    cases a <;> cases b <;> cases c
    · exact calls_true cx_ok cx_mixed table ho lt1fff w ha
    · exact calls_true cx_ok cx_mixed table ho lt1fft w ha
    · exact calls_true cx_ok cx_mixed table ho lt1ftf w ha
    · exact calls_true cx_ok cx_mixed table ho lt1ftt w ha
    · exact calls_true cx_ok cx_mixed table ho lt1tff w ha
    · exact calls_true cx_ok cx_mixed table ho lt1tft w ha
    · exact calls_true cx_ok cx_mixed table ho lt1ttf w ha
    · exact calls_true cx_ok cx_mixed table ho lt1ttt w ha
end Go.Proofs.Ytgcedjglgfahjaa
