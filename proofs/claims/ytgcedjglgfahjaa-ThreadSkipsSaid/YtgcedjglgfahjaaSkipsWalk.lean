/- ThreadSkips returns true at every input: its way through the program. -/
import Derived.Test.YtgcedjglgfahjaaSkips1
import Derived.Test.YtgcedjglgfahjaaSkips2
import Derived.Test.YtgcedjglgfahjaaSkips3
set_option maxRecDepth 100000
namespace Go.Proofs.Ytgcedjglgfahjaa.XCodeT
open Go Go.X Go.RowKit

theorem walkThreadSkips (n m : Int) (taken : Bool) (w : World) : Calls Try.prog 10 #[.int .i64 n, .int .i64 m, .bool taken] w fun e w' => e = .returned (.bool true) ∧ Below w.heap.size w w' := by
  letI : Nu := ⟨fun i => match i with | 0 => n | _ => m⟩
  have ha : RVs ⟨fun _ => none, fun _ => 0⟩ [V.sym .i64 0, .sym .i64 1, .bool taken] [.int .i64 n, .int .i64 m, .bool taken] := RVs_mk (by rw [RV]; rfl) (RVs_mk (by rw [RV]; rfl) (RVs_mk (by rw [RV]) RVs_none))
  have hk : m % 11 = 0 ∨ m % 11 = 1 ∨ m % 11 = 2 ∨ m % 11 = 3 ∨ m % 11 = 4 ∨ m % 11 = 5 ∨ m % 11 = 6 ∨ m % 11 = 7 ∨ m % 11 = 8 ∨ m % 11 = 9 ∨ m % 11 = 10 := by omega
  rcases hk with hk | hk | hk | hk | hk | hk | hk | hk | hk | hk | hk
  · have hj : n % 1 = 0 := by omega
    have ho : OrcOK Try.prog (rowOrc [⟨20, [.s 1, .n 11], .int .i64 0⟩, ⟨20, [.s 0, .n 1], .int .i64 0⟩, ⟨22, [], .bool true⟩] []) := rowOrc_ok (allC (place_row _ 1 11 0 (by omega) (by omega) hk) (allC (place_row _ 0 1 0 (by omega) (by omega) hj) (all1 (awake_row _)))) all0
    cases taken
    · exact calls_true cx_ok cx_mixed table ho sk0x0f w ha
    · exact calls_true cx_ok cx_mixed table ho sk0x0t w ha
  · have hj : n % 2 = 0 ∨ n % 2 = 1 := by omega
    rcases hj with hj | hj
    · have ho : OrcOK Try.prog (rowOrc [⟨20, [.s 1, .n 11], .int .i64 1⟩, ⟨20, [.s 0, .n 2], .int .i64 0⟩, ⟨22, [], .bool true⟩] []) := rowOrc_ok (allC (place_row _ 1 11 1 (by omega) (by omega) hk) (allC (place_row _ 0 2 0 (by omega) (by omega) hj) (all1 (awake_row _)))) all0
      cases taken
      · exact calls_true cx_ok cx_mixed table ho sk1x0f w ha
      · exact calls_true cx_ok cx_mixed table ho sk1x0t w ha
    · have ho : OrcOK Try.prog (rowOrc [⟨20, [.s 1, .n 11], .int .i64 1⟩, ⟨20, [.s 0, .n 2], .int .i64 1⟩, ⟨22, [], .bool true⟩] []) := rowOrc_ok (allC (place_row _ 1 11 1 (by omega) (by omega) hk) (allC (place_row _ 0 2 1 (by omega) (by omega) hj) (all1 (awake_row _)))) all0
      cases taken
      · exact calls_true cx_ok cx_mixed table ho sk1x1f w ha
      · exact calls_true cx_ok cx_mixed table ho sk1x1t w ha
  · have hj : n % 3 = 0 ∨ n % 3 = 1 ∨ n % 3 = 2 := by omega
    rcases hj with hj | hj | hj
    · have ho : OrcOK Try.prog (rowOrc [⟨20, [.s 1, .n 11], .int .i64 2⟩, ⟨20, [.s 0, .n 3], .int .i64 0⟩, ⟨22, [], .bool true⟩] []) := rowOrc_ok (allC (place_row _ 1 11 2 (by omega) (by omega) hk) (allC (place_row _ 0 3 0 (by omega) (by omega) hj) (all1 (awake_row _)))) all0
      cases taken
      · exact calls_true cx_ok cx_mixed table ho sk2x0f w ha
      · exact calls_true cx_ok cx_mixed table ho sk2x0t w ha
    · have ho : OrcOK Try.prog (rowOrc [⟨20, [.s 1, .n 11], .int .i64 2⟩, ⟨20, [.s 0, .n 3], .int .i64 1⟩, ⟨22, [], .bool true⟩] []) := rowOrc_ok (allC (place_row _ 1 11 2 (by omega) (by omega) hk) (allC (place_row _ 0 3 1 (by omega) (by omega) hj) (all1 (awake_row _)))) all0
      cases taken
      · exact calls_true cx_ok cx_mixed table ho sk2x1f w ha
      · exact calls_true cx_ok cx_mixed table ho sk2x1t w ha
    · have ho : OrcOK Try.prog (rowOrc [⟨20, [.s 1, .n 11], .int .i64 2⟩, ⟨20, [.s 0, .n 3], .int .i64 2⟩, ⟨22, [], .bool true⟩] []) := rowOrc_ok (allC (place_row _ 1 11 2 (by omega) (by omega) hk) (allC (place_row _ 0 3 2 (by omega) (by omega) hj) (all1 (awake_row _)))) all0
      cases taken
      · exact calls_true cx_ok cx_mixed table ho sk2x2f w ha
      · exact calls_true cx_ok cx_mixed table ho sk2x2t w ha
  · have hj : n % 4 = 0 ∨ n % 4 = 1 ∨ n % 4 = 2 ∨ n % 4 = 3 := by omega
    rcases hj with hj | hj | hj | hj
    · have ho : OrcOK Try.prog (rowOrc [⟨20, [.s 1, .n 11], .int .i64 3⟩, ⟨20, [.s 0, .n 4], .int .i64 0⟩, ⟨22, [], .bool true⟩] []) := rowOrc_ok (allC (place_row _ 1 11 3 (by omega) (by omega) hk) (allC (place_row _ 0 4 0 (by omega) (by omega) hj) (all1 (awake_row _)))) all0
      cases taken
      · exact calls_true cx_ok cx_mixed table ho sk3x0f w ha
      · exact calls_true cx_ok cx_mixed table ho sk3x0t w ha
    · have ho : OrcOK Try.prog (rowOrc [⟨20, [.s 1, .n 11], .int .i64 3⟩, ⟨20, [.s 0, .n 4], .int .i64 1⟩, ⟨22, [], .bool true⟩] []) := rowOrc_ok (allC (place_row _ 1 11 3 (by omega) (by omega) hk) (allC (place_row _ 0 4 1 (by omega) (by omega) hj) (all1 (awake_row _)))) all0
      cases taken
      · exact calls_true cx_ok cx_mixed table ho sk3x1f w ha
      · exact calls_true cx_ok cx_mixed table ho sk3x1t w ha
    · have ho : OrcOK Try.prog (rowOrc [⟨20, [.s 1, .n 11], .int .i64 3⟩, ⟨20, [.s 0, .n 4], .int .i64 2⟩, ⟨22, [], .bool true⟩] []) := rowOrc_ok (allC (place_row _ 1 11 3 (by omega) (by omega) hk) (allC (place_row _ 0 4 2 (by omega) (by omega) hj) (all1 (awake_row _)))) all0
      cases taken
      · exact calls_true cx_ok cx_mixed table ho sk3x2f w ha
      · exact calls_true cx_ok cx_mixed table ho sk3x2t w ha
    · have ho : OrcOK Try.prog (rowOrc [⟨20, [.s 1, .n 11], .int .i64 3⟩, ⟨20, [.s 0, .n 4], .int .i64 3⟩, ⟨22, [], .bool true⟩] []) := rowOrc_ok (allC (place_row _ 1 11 3 (by omega) (by omega) hk) (allC (place_row _ 0 4 3 (by omega) (by omega) hj) (all1 (awake_row _)))) all0
      cases taken
      · exact calls_true cx_ok cx_mixed table ho sk3x3f w ha
      · exact calls_true cx_ok cx_mixed table ho sk3x3t w ha
  · have hj : n % 5 = 0 ∨ n % 5 = 1 ∨ n % 5 = 2 ∨ n % 5 = 3 ∨ n % 5 = 4 := by omega
    rcases hj with hj | hj | hj | hj | hj
    · have ho : OrcOK Try.prog (rowOrc [⟨20, [.s 1, .n 11], .int .i64 4⟩, ⟨20, [.s 0, .n 5], .int .i64 0⟩, ⟨22, [], .bool true⟩] []) := rowOrc_ok (allC (place_row _ 1 11 4 (by omega) (by omega) hk) (allC (place_row _ 0 5 0 (by omega) (by omega) hj) (all1 (awake_row _)))) all0
      cases taken
      · exact calls_true cx_ok cx_mixed table ho sk4x0f w ha
      · exact calls_true cx_ok cx_mixed table ho sk4x0t w ha
    · have ho : OrcOK Try.prog (rowOrc [⟨20, [.s 1, .n 11], .int .i64 4⟩, ⟨20, [.s 0, .n 5], .int .i64 1⟩, ⟨22, [], .bool true⟩] []) := rowOrc_ok (allC (place_row _ 1 11 4 (by omega) (by omega) hk) (allC (place_row _ 0 5 1 (by omega) (by omega) hj) (all1 (awake_row _)))) all0
      cases taken
      · exact calls_true cx_ok cx_mixed table ho sk4x1f w ha
      · exact calls_true cx_ok cx_mixed table ho sk4x1t w ha
    · have ho : OrcOK Try.prog (rowOrc [⟨20, [.s 1, .n 11], .int .i64 4⟩, ⟨20, [.s 0, .n 5], .int .i64 2⟩, ⟨22, [], .bool true⟩] []) := rowOrc_ok (allC (place_row _ 1 11 4 (by omega) (by omega) hk) (allC (place_row _ 0 5 2 (by omega) (by omega) hj) (all1 (awake_row _)))) all0
      cases taken
      · exact calls_true cx_ok cx_mixed table ho sk4x2f w ha
      · exact calls_true cx_ok cx_mixed table ho sk4x2t w ha
    · have ho : OrcOK Try.prog (rowOrc [⟨20, [.s 1, .n 11], .int .i64 4⟩, ⟨20, [.s 0, .n 5], .int .i64 3⟩, ⟨22, [], .bool true⟩] []) := rowOrc_ok (allC (place_row _ 1 11 4 (by omega) (by omega) hk) (allC (place_row _ 0 5 3 (by omega) (by omega) hj) (all1 (awake_row _)))) all0
      cases taken
      · exact calls_true cx_ok cx_mixed table ho sk4x3f w ha
      · exact calls_true cx_ok cx_mixed table ho sk4x3t w ha
    · have ho : OrcOK Try.prog (rowOrc [⟨20, [.s 1, .n 11], .int .i64 4⟩, ⟨20, [.s 0, .n 5], .int .i64 4⟩, ⟨22, [], .bool true⟩] []) := rowOrc_ok (allC (place_row _ 1 11 4 (by omega) (by omega) hk) (allC (place_row _ 0 5 4 (by omega) (by omega) hj) (all1 (awake_row _)))) all0
      cases taken
      · exact calls_true cx_ok cx_mixed table ho sk4x4f w ha
      · exact calls_true cx_ok cx_mixed table ho sk4x4t w ha
  · have hj : n % 6 = 0 ∨ n % 6 = 1 ∨ n % 6 = 2 ∨ n % 6 = 3 ∨ n % 6 = 4 ∨ n % 6 = 5 := by omega
    rcases hj with hj | hj | hj | hj | hj | hj
    · have ho : OrcOK Try.prog (rowOrc [⟨20, [.s 1, .n 11], .int .i64 5⟩, ⟨20, [.s 0, .n 6], .int .i64 0⟩, ⟨22, [], .bool true⟩] []) := rowOrc_ok (allC (place_row _ 1 11 5 (by omega) (by omega) hk) (allC (place_row _ 0 6 0 (by omega) (by omega) hj) (all1 (awake_row _)))) all0
      cases taken
      · exact calls_true cx_ok cx_mixed table ho sk5x0f w ha
      · exact calls_true cx_ok cx_mixed table ho sk5x0t w ha
    · have ho : OrcOK Try.prog (rowOrc [⟨20, [.s 1, .n 11], .int .i64 5⟩, ⟨20, [.s 0, .n 6], .int .i64 1⟩, ⟨22, [], .bool true⟩] []) := rowOrc_ok (allC (place_row _ 1 11 5 (by omega) (by omega) hk) (allC (place_row _ 0 6 1 (by omega) (by omega) hj) (all1 (awake_row _)))) all0
      cases taken
      · exact calls_true cx_ok cx_mixed table ho sk5x1f w ha
      · exact calls_true cx_ok cx_mixed table ho sk5x1t w ha
    · have ho : OrcOK Try.prog (rowOrc [⟨20, [.s 1, .n 11], .int .i64 5⟩, ⟨20, [.s 0, .n 6], .int .i64 2⟩, ⟨22, [], .bool true⟩] []) := rowOrc_ok (allC (place_row _ 1 11 5 (by omega) (by omega) hk) (allC (place_row _ 0 6 2 (by omega) (by omega) hj) (all1 (awake_row _)))) all0
      cases taken
      · exact calls_true cx_ok cx_mixed table ho sk5x2f w ha
      · exact calls_true cx_ok cx_mixed table ho sk5x2t w ha
    · have ho : OrcOK Try.prog (rowOrc [⟨20, [.s 1, .n 11], .int .i64 5⟩, ⟨20, [.s 0, .n 6], .int .i64 3⟩, ⟨22, [], .bool true⟩] []) := rowOrc_ok (allC (place_row _ 1 11 5 (by omega) (by omega) hk) (allC (place_row _ 0 6 3 (by omega) (by omega) hj) (all1 (awake_row _)))) all0
      cases taken
      · exact calls_true cx_ok cx_mixed table ho sk5x3f w ha
      · exact calls_true cx_ok cx_mixed table ho sk5x3t w ha
    · have ho : OrcOK Try.prog (rowOrc [⟨20, [.s 1, .n 11], .int .i64 5⟩, ⟨20, [.s 0, .n 6], .int .i64 4⟩, ⟨22, [], .bool true⟩] []) := rowOrc_ok (allC (place_row _ 1 11 5 (by omega) (by omega) hk) (allC (place_row _ 0 6 4 (by omega) (by omega) hj) (all1 (awake_row _)))) all0
      cases taken
      · exact calls_true cx_ok cx_mixed table ho sk5x4f w ha
      · exact calls_true cx_ok cx_mixed table ho sk5x4t w ha
    · have ho : OrcOK Try.prog (rowOrc [⟨20, [.s 1, .n 11], .int .i64 5⟩, ⟨20, [.s 0, .n 6], .int .i64 5⟩, ⟨22, [], .bool true⟩] []) := rowOrc_ok (allC (place_row _ 1 11 5 (by omega) (by omega) hk) (allC (place_row _ 0 6 5 (by omega) (by omega) hj) (all1 (awake_row _)))) all0
      cases taken
      · exact calls_true cx_ok cx_mixed table ho sk5x5f w ha
      · exact calls_true cx_ok cx_mixed table ho sk5x5t w ha
  · have hj : n % 7 = 0 ∨ n % 7 = 1 ∨ n % 7 = 2 ∨ n % 7 = 3 ∨ n % 7 = 4 ∨ n % 7 = 5 ∨ n % 7 = 6 := by omega
    rcases hj with hj | hj | hj | hj | hj | hj | hj
    · have ho : OrcOK Try.prog (rowOrc [⟨20, [.s 1, .n 11], .int .i64 6⟩, ⟨20, [.s 0, .n 7], .int .i64 0⟩, ⟨22, [], .bool true⟩] []) := rowOrc_ok (allC (place_row _ 1 11 6 (by omega) (by omega) hk) (allC (place_row _ 0 7 0 (by omega) (by omega) hj) (all1 (awake_row _)))) all0
      cases taken
      · exact calls_true cx_ok cx_mixed table ho sk6x0f w ha
      · exact calls_true cx_ok cx_mixed table ho sk6x0t w ha
    · have ho : OrcOK Try.prog (rowOrc [⟨20, [.s 1, .n 11], .int .i64 6⟩, ⟨20, [.s 0, .n 7], .int .i64 1⟩, ⟨22, [], .bool true⟩] []) := rowOrc_ok (allC (place_row _ 1 11 6 (by omega) (by omega) hk) (allC (place_row _ 0 7 1 (by omega) (by omega) hj) (all1 (awake_row _)))) all0
      cases taken
      · exact calls_true cx_ok cx_mixed table ho sk6x1f w ha
      · exact calls_true cx_ok cx_mixed table ho sk6x1t w ha
    · have ho : OrcOK Try.prog (rowOrc [⟨20, [.s 1, .n 11], .int .i64 6⟩, ⟨20, [.s 0, .n 7], .int .i64 2⟩, ⟨22, [], .bool true⟩] []) := rowOrc_ok (allC (place_row _ 1 11 6 (by omega) (by omega) hk) (allC (place_row _ 0 7 2 (by omega) (by omega) hj) (all1 (awake_row _)))) all0
      cases taken
      · exact calls_true cx_ok cx_mixed table ho sk6x2f w ha
      · exact calls_true cx_ok cx_mixed table ho sk6x2t w ha
    · have ho : OrcOK Try.prog (rowOrc [⟨20, [.s 1, .n 11], .int .i64 6⟩, ⟨20, [.s 0, .n 7], .int .i64 3⟩, ⟨22, [], .bool true⟩] []) := rowOrc_ok (allC (place_row _ 1 11 6 (by omega) (by omega) hk) (allC (place_row _ 0 7 3 (by omega) (by omega) hj) (all1 (awake_row _)))) all0
      cases taken
      · exact calls_true cx_ok cx_mixed table ho sk6x3f w ha
      · exact calls_true cx_ok cx_mixed table ho sk6x3t w ha
    · have ho : OrcOK Try.prog (rowOrc [⟨20, [.s 1, .n 11], .int .i64 6⟩, ⟨20, [.s 0, .n 7], .int .i64 4⟩, ⟨22, [], .bool true⟩] []) := rowOrc_ok (allC (place_row _ 1 11 6 (by omega) (by omega) hk) (allC (place_row _ 0 7 4 (by omega) (by omega) hj) (all1 (awake_row _)))) all0
      cases taken
      · exact calls_true cx_ok cx_mixed table ho sk6x4f w ha
      · exact calls_true cx_ok cx_mixed table ho sk6x4t w ha
    · have ho : OrcOK Try.prog (rowOrc [⟨20, [.s 1, .n 11], .int .i64 6⟩, ⟨20, [.s 0, .n 7], .int .i64 5⟩, ⟨22, [], .bool true⟩] []) := rowOrc_ok (allC (place_row _ 1 11 6 (by omega) (by omega) hk) (allC (place_row _ 0 7 5 (by omega) (by omega) hj) (all1 (awake_row _)))) all0
      cases taken
      · exact calls_true cx_ok cx_mixed table ho sk6x5f w ha
      · exact calls_true cx_ok cx_mixed table ho sk6x5t w ha
    · have ho : OrcOK Try.prog (rowOrc [⟨20, [.s 1, .n 11], .int .i64 6⟩, ⟨20, [.s 0, .n 7], .int .i64 6⟩, ⟨22, [], .bool true⟩] []) := rowOrc_ok (allC (place_row _ 1 11 6 (by omega) (by omega) hk) (allC (place_row _ 0 7 6 (by omega) (by omega) hj) (all1 (awake_row _)))) all0
      cases taken
      · exact calls_true cx_ok cx_mixed table ho sk6x6f w ha
      · exact calls_true cx_ok cx_mixed table ho sk6x6t w ha
  · have hj : n % 8 = 0 ∨ n % 8 = 1 ∨ n % 8 = 2 ∨ n % 8 = 3 ∨ n % 8 = 4 ∨ n % 8 = 5 ∨ n % 8 = 6 ∨ n % 8 = 7 := by omega
    rcases hj with hj | hj | hj | hj | hj | hj | hj | hj
    · have ho : OrcOK Try.prog (rowOrc [⟨20, [.s 1, .n 11], .int .i64 7⟩, ⟨20, [.s 0, .n 8], .int .i64 0⟩, ⟨22, [], .bool true⟩] []) := rowOrc_ok (allC (place_row _ 1 11 7 (by omega) (by omega) hk) (allC (place_row _ 0 8 0 (by omega) (by omega) hj) (all1 (awake_row _)))) all0
      cases taken
      · exact calls_true cx_ok cx_mixed table ho sk7x0f w ha
      · exact calls_true cx_ok cx_mixed table ho sk7x0t w ha
    · have ho : OrcOK Try.prog (rowOrc [⟨20, [.s 1, .n 11], .int .i64 7⟩, ⟨20, [.s 0, .n 8], .int .i64 1⟩, ⟨22, [], .bool true⟩] []) := rowOrc_ok (allC (place_row _ 1 11 7 (by omega) (by omega) hk) (allC (place_row _ 0 8 1 (by omega) (by omega) hj) (all1 (awake_row _)))) all0
      cases taken
      · exact calls_true cx_ok cx_mixed table ho sk7x1f w ha
      · exact calls_true cx_ok cx_mixed table ho sk7x1t w ha
    · have ho : OrcOK Try.prog (rowOrc [⟨20, [.s 1, .n 11], .int .i64 7⟩, ⟨20, [.s 0, .n 8], .int .i64 2⟩, ⟨22, [], .bool true⟩] []) := rowOrc_ok (allC (place_row _ 1 11 7 (by omega) (by omega) hk) (allC (place_row _ 0 8 2 (by omega) (by omega) hj) (all1 (awake_row _)))) all0
      cases taken
      · exact calls_true cx_ok cx_mixed table ho sk7x2f w ha
      · exact calls_true cx_ok cx_mixed table ho sk7x2t w ha
    · have ho : OrcOK Try.prog (rowOrc [⟨20, [.s 1, .n 11], .int .i64 7⟩, ⟨20, [.s 0, .n 8], .int .i64 3⟩, ⟨22, [], .bool true⟩] []) := rowOrc_ok (allC (place_row _ 1 11 7 (by omega) (by omega) hk) (allC (place_row _ 0 8 3 (by omega) (by omega) hj) (all1 (awake_row _)))) all0
      cases taken
      · exact calls_true cx_ok cx_mixed table ho sk7x3f w ha
      · exact calls_true cx_ok cx_mixed table ho sk7x3t w ha
    · have ho : OrcOK Try.prog (rowOrc [⟨20, [.s 1, .n 11], .int .i64 7⟩, ⟨20, [.s 0, .n 8], .int .i64 4⟩, ⟨22, [], .bool true⟩] []) := rowOrc_ok (allC (place_row _ 1 11 7 (by omega) (by omega) hk) (allC (place_row _ 0 8 4 (by omega) (by omega) hj) (all1 (awake_row _)))) all0
      cases taken
      · exact calls_true cx_ok cx_mixed table ho sk7x4f w ha
      · exact calls_true cx_ok cx_mixed table ho sk7x4t w ha
    · have ho : OrcOK Try.prog (rowOrc [⟨20, [.s 1, .n 11], .int .i64 7⟩, ⟨20, [.s 0, .n 8], .int .i64 5⟩, ⟨22, [], .bool true⟩] []) := rowOrc_ok (allC (place_row _ 1 11 7 (by omega) (by omega) hk) (allC (place_row _ 0 8 5 (by omega) (by omega) hj) (all1 (awake_row _)))) all0
      cases taken
      · exact calls_true cx_ok cx_mixed table ho sk7x5f w ha
      · exact calls_true cx_ok cx_mixed table ho sk7x5t w ha
    · have ho : OrcOK Try.prog (rowOrc [⟨20, [.s 1, .n 11], .int .i64 7⟩, ⟨20, [.s 0, .n 8], .int .i64 6⟩, ⟨22, [], .bool true⟩] []) := rowOrc_ok (allC (place_row _ 1 11 7 (by omega) (by omega) hk) (allC (place_row _ 0 8 6 (by omega) (by omega) hj) (all1 (awake_row _)))) all0
      cases taken
      · exact calls_true cx_ok cx_mixed table ho sk7x6f w ha
      · exact calls_true cx_ok cx_mixed table ho sk7x6t w ha
    · have ho : OrcOK Try.prog (rowOrc [⟨20, [.s 1, .n 11], .int .i64 7⟩, ⟨20, [.s 0, .n 8], .int .i64 7⟩, ⟨22, [], .bool true⟩] []) := rowOrc_ok (allC (place_row _ 1 11 7 (by omega) (by omega) hk) (allC (place_row _ 0 8 7 (by omega) (by omega) hj) (all1 (awake_row _)))) all0
      cases taken
      · exact calls_true cx_ok cx_mixed table ho sk7x7f w ha
      · exact calls_true cx_ok cx_mixed table ho sk7x7t w ha
  · have hj : n % 9 = 0 ∨ n % 9 = 1 ∨ n % 9 = 2 ∨ n % 9 = 3 ∨ n % 9 = 4 ∨ n % 9 = 5 ∨ n % 9 = 6 ∨ n % 9 = 7 ∨ n % 9 = 8 := by omega
    rcases hj with hj | hj | hj | hj | hj | hj | hj | hj | hj
    · have ho : OrcOK Try.prog (rowOrc [⟨20, [.s 1, .n 11], .int .i64 8⟩, ⟨20, [.s 0, .n 9], .int .i64 0⟩, ⟨22, [], .bool true⟩] []) := rowOrc_ok (allC (place_row _ 1 11 8 (by omega) (by omega) hk) (allC (place_row _ 0 9 0 (by omega) (by omega) hj) (all1 (awake_row _)))) all0
      cases taken
      · exact calls_true cx_ok cx_mixed table ho sk8x0f w ha
      · exact calls_true cx_ok cx_mixed table ho sk8x0t w ha
    · have ho : OrcOK Try.prog (rowOrc [⟨20, [.s 1, .n 11], .int .i64 8⟩, ⟨20, [.s 0, .n 9], .int .i64 1⟩, ⟨22, [], .bool true⟩] []) := rowOrc_ok (allC (place_row _ 1 11 8 (by omega) (by omega) hk) (allC (place_row _ 0 9 1 (by omega) (by omega) hj) (all1 (awake_row _)))) all0
      cases taken
      · exact calls_true cx_ok cx_mixed table ho sk8x1f w ha
      · exact calls_true cx_ok cx_mixed table ho sk8x1t w ha
    · have ho : OrcOK Try.prog (rowOrc [⟨20, [.s 1, .n 11], .int .i64 8⟩, ⟨20, [.s 0, .n 9], .int .i64 2⟩, ⟨22, [], .bool true⟩] []) := rowOrc_ok (allC (place_row _ 1 11 8 (by omega) (by omega) hk) (allC (place_row _ 0 9 2 (by omega) (by omega) hj) (all1 (awake_row _)))) all0
      cases taken
      · exact calls_true cx_ok cx_mixed table ho sk8x2f w ha
      · exact calls_true cx_ok cx_mixed table ho sk8x2t w ha
    · have ho : OrcOK Try.prog (rowOrc [⟨20, [.s 1, .n 11], .int .i64 8⟩, ⟨20, [.s 0, .n 9], .int .i64 3⟩, ⟨22, [], .bool true⟩] []) := rowOrc_ok (allC (place_row _ 1 11 8 (by omega) (by omega) hk) (allC (place_row _ 0 9 3 (by omega) (by omega) hj) (all1 (awake_row _)))) all0
      cases taken
      · exact calls_true cx_ok cx_mixed table ho sk8x3f w ha
      · exact calls_true cx_ok cx_mixed table ho sk8x3t w ha
    · have ho : OrcOK Try.prog (rowOrc [⟨20, [.s 1, .n 11], .int .i64 8⟩, ⟨20, [.s 0, .n 9], .int .i64 4⟩, ⟨22, [], .bool true⟩] []) := rowOrc_ok (allC (place_row _ 1 11 8 (by omega) (by omega) hk) (allC (place_row _ 0 9 4 (by omega) (by omega) hj) (all1 (awake_row _)))) all0
      cases taken
      · exact calls_true cx_ok cx_mixed table ho sk8x4f w ha
      · exact calls_true cx_ok cx_mixed table ho sk8x4t w ha
    · have ho : OrcOK Try.prog (rowOrc [⟨20, [.s 1, .n 11], .int .i64 8⟩, ⟨20, [.s 0, .n 9], .int .i64 5⟩, ⟨22, [], .bool true⟩] []) := rowOrc_ok (allC (place_row _ 1 11 8 (by omega) (by omega) hk) (allC (place_row _ 0 9 5 (by omega) (by omega) hj) (all1 (awake_row _)))) all0
      cases taken
      · exact calls_true cx_ok cx_mixed table ho sk8x5f w ha
      · exact calls_true cx_ok cx_mixed table ho sk8x5t w ha
    · have ho : OrcOK Try.prog (rowOrc [⟨20, [.s 1, .n 11], .int .i64 8⟩, ⟨20, [.s 0, .n 9], .int .i64 6⟩, ⟨22, [], .bool true⟩] []) := rowOrc_ok (allC (place_row _ 1 11 8 (by omega) (by omega) hk) (allC (place_row _ 0 9 6 (by omega) (by omega) hj) (all1 (awake_row _)))) all0
      cases taken
      · exact calls_true cx_ok cx_mixed table ho sk8x6f w ha
      · exact calls_true cx_ok cx_mixed table ho sk8x6t w ha
    · have ho : OrcOK Try.prog (rowOrc [⟨20, [.s 1, .n 11], .int .i64 8⟩, ⟨20, [.s 0, .n 9], .int .i64 7⟩, ⟨22, [], .bool true⟩] []) := rowOrc_ok (allC (place_row _ 1 11 8 (by omega) (by omega) hk) (allC (place_row _ 0 9 7 (by omega) (by omega) hj) (all1 (awake_row _)))) all0
      cases taken
      · exact calls_true cx_ok cx_mixed table ho sk8x7f w ha
      · exact calls_true cx_ok cx_mixed table ho sk8x7t w ha
    · have ho : OrcOK Try.prog (rowOrc [⟨20, [.s 1, .n 11], .int .i64 8⟩, ⟨20, [.s 0, .n 9], .int .i64 8⟩, ⟨22, [], .bool true⟩] []) := rowOrc_ok (allC (place_row _ 1 11 8 (by omega) (by omega) hk) (allC (place_row _ 0 9 8 (by omega) (by omega) hj) (all1 (awake_row _)))) all0
      cases taken
      · exact calls_true cx_ok cx_mixed table ho sk8x8f w ha
      · exact calls_true cx_ok cx_mixed table ho sk8x8t w ha
  · have hj : n % 10 = 0 ∨ n % 10 = 1 ∨ n % 10 = 2 ∨ n % 10 = 3 ∨ n % 10 = 4 ∨ n % 10 = 5 ∨ n % 10 = 6 ∨ n % 10 = 7 ∨ n % 10 = 8 ∨ n % 10 = 9 := by omega
    rcases hj with hj | hj | hj | hj | hj | hj | hj | hj | hj | hj
    · have ho : OrcOK Try.prog (rowOrc [⟨20, [.s 1, .n 11], .int .i64 9⟩, ⟨20, [.s 0, .n 10], .int .i64 0⟩, ⟨22, [], .bool true⟩] []) := rowOrc_ok (allC (place_row _ 1 11 9 (by omega) (by omega) hk) (allC (place_row _ 0 10 0 (by omega) (by omega) hj) (all1 (awake_row _)))) all0
      cases taken
      · exact calls_true cx_ok cx_mixed table ho sk9x0f w ha
      · exact calls_true cx_ok cx_mixed table ho sk9x0t w ha
    · have ho : OrcOK Try.prog (rowOrc [⟨20, [.s 1, .n 11], .int .i64 9⟩, ⟨20, [.s 0, .n 10], .int .i64 1⟩, ⟨22, [], .bool true⟩] []) := rowOrc_ok (allC (place_row _ 1 11 9 (by omega) (by omega) hk) (allC (place_row _ 0 10 1 (by omega) (by omega) hj) (all1 (awake_row _)))) all0
      cases taken
      · exact calls_true cx_ok cx_mixed table ho sk9x1f w ha
      · exact calls_true cx_ok cx_mixed table ho sk9x1t w ha
    · have ho : OrcOK Try.prog (rowOrc [⟨20, [.s 1, .n 11], .int .i64 9⟩, ⟨20, [.s 0, .n 10], .int .i64 2⟩, ⟨22, [], .bool true⟩] []) := rowOrc_ok (allC (place_row _ 1 11 9 (by omega) (by omega) hk) (allC (place_row _ 0 10 2 (by omega) (by omega) hj) (all1 (awake_row _)))) all0
      cases taken
      · exact calls_true cx_ok cx_mixed table ho sk9x2f w ha
      · exact calls_true cx_ok cx_mixed table ho sk9x2t w ha
    · have ho : OrcOK Try.prog (rowOrc [⟨20, [.s 1, .n 11], .int .i64 9⟩, ⟨20, [.s 0, .n 10], .int .i64 3⟩, ⟨22, [], .bool true⟩] []) := rowOrc_ok (allC (place_row _ 1 11 9 (by omega) (by omega) hk) (allC (place_row _ 0 10 3 (by omega) (by omega) hj) (all1 (awake_row _)))) all0
      cases taken
      · exact calls_true cx_ok cx_mixed table ho sk9x3f w ha
      · exact calls_true cx_ok cx_mixed table ho sk9x3t w ha
    · have ho : OrcOK Try.prog (rowOrc [⟨20, [.s 1, .n 11], .int .i64 9⟩, ⟨20, [.s 0, .n 10], .int .i64 4⟩, ⟨22, [], .bool true⟩] []) := rowOrc_ok (allC (place_row _ 1 11 9 (by omega) (by omega) hk) (allC (place_row _ 0 10 4 (by omega) (by omega) hj) (all1 (awake_row _)))) all0
      cases taken
      · exact calls_true cx_ok cx_mixed table ho sk9x4f w ha
      · exact calls_true cx_ok cx_mixed table ho sk9x4t w ha
    · have ho : OrcOK Try.prog (rowOrc [⟨20, [.s 1, .n 11], .int .i64 9⟩, ⟨20, [.s 0, .n 10], .int .i64 5⟩, ⟨22, [], .bool true⟩] []) := rowOrc_ok (allC (place_row _ 1 11 9 (by omega) (by omega) hk) (allC (place_row _ 0 10 5 (by omega) (by omega) hj) (all1 (awake_row _)))) all0
      cases taken
      · exact calls_true cx_ok cx_mixed table ho sk9x5f w ha
      · exact calls_true cx_ok cx_mixed table ho sk9x5t w ha
    · have ho : OrcOK Try.prog (rowOrc [⟨20, [.s 1, .n 11], .int .i64 9⟩, ⟨20, [.s 0, .n 10], .int .i64 6⟩, ⟨22, [], .bool true⟩] []) := rowOrc_ok (allC (place_row _ 1 11 9 (by omega) (by omega) hk) (allC (place_row _ 0 10 6 (by omega) (by omega) hj) (all1 (awake_row _)))) all0
      cases taken
      · exact calls_true cx_ok cx_mixed table ho sk9x6f w ha
      · exact calls_true cx_ok cx_mixed table ho sk9x6t w ha
    · have ho : OrcOK Try.prog (rowOrc [⟨20, [.s 1, .n 11], .int .i64 9⟩, ⟨20, [.s 0, .n 10], .int .i64 7⟩, ⟨22, [], .bool true⟩] []) := rowOrc_ok (allC (place_row _ 1 11 9 (by omega) (by omega) hk) (allC (place_row _ 0 10 7 (by omega) (by omega) hj) (all1 (awake_row _)))) all0
      cases taken
      · exact calls_true cx_ok cx_mixed table ho sk9x7f w ha
      · exact calls_true cx_ok cx_mixed table ho sk9x7t w ha
    · have ho : OrcOK Try.prog (rowOrc [⟨20, [.s 1, .n 11], .int .i64 9⟩, ⟨20, [.s 0, .n 10], .int .i64 8⟩, ⟨22, [], .bool true⟩] []) := rowOrc_ok (allC (place_row _ 1 11 9 (by omega) (by omega) hk) (allC (place_row _ 0 10 8 (by omega) (by omega) hj) (all1 (awake_row _)))) all0
      cases taken
      · exact calls_true cx_ok cx_mixed table ho sk9x8f w ha
      · exact calls_true cx_ok cx_mixed table ho sk9x8t w ha
    · have ho : OrcOK Try.prog (rowOrc [⟨20, [.s 1, .n 11], .int .i64 9⟩, ⟨20, [.s 0, .n 10], .int .i64 9⟩, ⟨22, [], .bool true⟩] []) := rowOrc_ok (allC (place_row _ 1 11 9 (by omega) (by omega) hk) (allC (place_row _ 0 10 9 (by omega) (by omega) hj) (all1 (awake_row _)))) all0
      cases taken
      · exact calls_true cx_ok cx_mixed table ho sk9x9f w ha
      · exact calls_true cx_ok cx_mixed table ho sk9x9t w ha
  · have hj : n % 11 = 0 ∨ n % 11 = 1 ∨ n % 11 = 2 ∨ n % 11 = 3 ∨ n % 11 = 4 ∨ n % 11 = 5 ∨ n % 11 = 6 ∨ n % 11 = 7 ∨ n % 11 = 8 ∨ n % 11 = 9 ∨ n % 11 = 10 := by omega
    rcases hj with hj | hj | hj | hj | hj | hj | hj | hj | hj | hj | hj
    · have ho : OrcOK Try.prog (rowOrc [⟨20, [.s 1, .n 11], .int .i64 10⟩, ⟨20, [.s 0, .n 11], .int .i64 0⟩, ⟨22, [], .bool true⟩] []) := rowOrc_ok (allC (place_row _ 1 11 10 (by omega) (by omega) hk) (allC (place_row _ 0 11 0 (by omega) (by omega) hj) (all1 (awake_row _)))) all0
      cases taken
      · exact calls_true cx_ok cx_mixed table ho sk10x0f w ha
      · exact calls_true cx_ok cx_mixed table ho sk10x0t w ha
    · have ho : OrcOK Try.prog (rowOrc [⟨20, [.s 1, .n 11], .int .i64 10⟩, ⟨20, [.s 0, .n 11], .int .i64 1⟩, ⟨22, [], .bool true⟩] []) := rowOrc_ok (allC (place_row _ 1 11 10 (by omega) (by omega) hk) (allC (place_row _ 0 11 1 (by omega) (by omega) hj) (all1 (awake_row _)))) all0
      cases taken
      · exact calls_true cx_ok cx_mixed table ho sk10x1f w ha
      · exact calls_true cx_ok cx_mixed table ho sk10x1t w ha
    · have ho : OrcOK Try.prog (rowOrc [⟨20, [.s 1, .n 11], .int .i64 10⟩, ⟨20, [.s 0, .n 11], .int .i64 2⟩, ⟨22, [], .bool true⟩] []) := rowOrc_ok (allC (place_row _ 1 11 10 (by omega) (by omega) hk) (allC (place_row _ 0 11 2 (by omega) (by omega) hj) (all1 (awake_row _)))) all0
      cases taken
      · exact calls_true cx_ok cx_mixed table ho sk10x2f w ha
      · exact calls_true cx_ok cx_mixed table ho sk10x2t w ha
    · have ho : OrcOK Try.prog (rowOrc [⟨20, [.s 1, .n 11], .int .i64 10⟩, ⟨20, [.s 0, .n 11], .int .i64 3⟩, ⟨22, [], .bool true⟩] []) := rowOrc_ok (allC (place_row _ 1 11 10 (by omega) (by omega) hk) (allC (place_row _ 0 11 3 (by omega) (by omega) hj) (all1 (awake_row _)))) all0
      cases taken
      · exact calls_true cx_ok cx_mixed table ho sk10x3f w ha
      · exact calls_true cx_ok cx_mixed table ho sk10x3t w ha
    · have ho : OrcOK Try.prog (rowOrc [⟨20, [.s 1, .n 11], .int .i64 10⟩, ⟨20, [.s 0, .n 11], .int .i64 4⟩, ⟨22, [], .bool true⟩] []) := rowOrc_ok (allC (place_row _ 1 11 10 (by omega) (by omega) hk) (allC (place_row _ 0 11 4 (by omega) (by omega) hj) (all1 (awake_row _)))) all0
      cases taken
      · exact calls_true cx_ok cx_mixed table ho sk10x4f w ha
      · exact calls_true cx_ok cx_mixed table ho sk10x4t w ha
    · have ho : OrcOK Try.prog (rowOrc [⟨20, [.s 1, .n 11], .int .i64 10⟩, ⟨20, [.s 0, .n 11], .int .i64 5⟩, ⟨22, [], .bool true⟩] []) := rowOrc_ok (allC (place_row _ 1 11 10 (by omega) (by omega) hk) (allC (place_row _ 0 11 5 (by omega) (by omega) hj) (all1 (awake_row _)))) all0
      cases taken
      · exact calls_true cx_ok cx_mixed table ho sk10x5f w ha
      · exact calls_true cx_ok cx_mixed table ho sk10x5t w ha
    · have ho : OrcOK Try.prog (rowOrc [⟨20, [.s 1, .n 11], .int .i64 10⟩, ⟨20, [.s 0, .n 11], .int .i64 6⟩, ⟨22, [], .bool true⟩] []) := rowOrc_ok (allC (place_row _ 1 11 10 (by omega) (by omega) hk) (allC (place_row _ 0 11 6 (by omega) (by omega) hj) (all1 (awake_row _)))) all0
      cases taken
      · exact calls_true cx_ok cx_mixed table ho sk10x6f w ha
      · exact calls_true cx_ok cx_mixed table ho sk10x6t w ha
    · have ho : OrcOK Try.prog (rowOrc [⟨20, [.s 1, .n 11], .int .i64 10⟩, ⟨20, [.s 0, .n 11], .int .i64 7⟩, ⟨22, [], .bool true⟩] []) := rowOrc_ok (allC (place_row _ 1 11 10 (by omega) (by omega) hk) (allC (place_row _ 0 11 7 (by omega) (by omega) hj) (all1 (awake_row _)))) all0
      cases taken
      · exact calls_true cx_ok cx_mixed table ho sk10x7f w ha
      · exact calls_true cx_ok cx_mixed table ho sk10x7t w ha
    · have ho : OrcOK Try.prog (rowOrc [⟨20, [.s 1, .n 11], .int .i64 10⟩, ⟨20, [.s 0, .n 11], .int .i64 8⟩, ⟨22, [], .bool true⟩] []) := rowOrc_ok (allC (place_row _ 1 11 10 (by omega) (by omega) hk) (allC (place_row _ 0 11 8 (by omega) (by omega) hj) (all1 (awake_row _)))) all0
      cases taken
      · exact calls_true cx_ok cx_mixed table ho sk10x8f w ha
      · exact calls_true cx_ok cx_mixed table ho sk10x8t w ha
    · have ho : OrcOK Try.prog (rowOrc [⟨20, [.s 1, .n 11], .int .i64 10⟩, ⟨20, [.s 0, .n 11], .int .i64 9⟩, ⟨22, [], .bool true⟩] []) := rowOrc_ok (allC (place_row _ 1 11 10 (by omega) (by omega) hk) (allC (place_row _ 0 11 9 (by omega) (by omega) hj) (all1 (awake_row _)))) all0
      cases taken
      · exact calls_true cx_ok cx_mixed table ho sk10x9f w ha
      · exact calls_true cx_ok cx_mixed table ho sk10x9t w ha
    · have ho : OrcOK Try.prog (rowOrc [⟨20, [.s 1, .n 11], .int .i64 10⟩, ⟨20, [.s 0, .n 11], .int .i64 10⟩, ⟨22, [], .bool true⟩] []) := rowOrc_ok (allC (place_row _ 1 11 10 (by omega) (by omega) hk) (allC (place_row _ 0 11 10 (by omega) (by omega) hj) (all1 (awake_row _)))) all0
      cases taken
      · exact calls_true cx_ok cx_mixed table ho sk10x10f w ha
      · exact calls_true cx_ok cx_mixed table ho sk10x10t w ha
end Go.Proofs.Ytgcedjglgfahjaa.XCodeT
