/- The layers that are met are awake. -/
import Derived.Test.YtojfkhhebedeoaaGreatDoorXLibsS
import Derived.Test.YtojfkhhebedeoaaGreatDoorXPlaceS
set_option maxRecDepth 100000
namespace Go.Proofs.YtojfkhhebedeoaaGreatDoor.XCodeS
open Go Go.X Go.RowKit
theorem place_row (v : Nat → Int) (old : World) (i : Nat) (m r : Int) (hm : 1 ≤ m) (hm2 : m ≤ 4611686018427387904) (h : v i % m = r) (hi : i < 2000 := by decide) : letI : Nu := ⟨v, old, Tryz.prog⟩; CRow.OK Tryz.prog ⟨4, [.s i, .n m], .int .i64 r⟩ :=
  letI : Nu := ⟨v, old, Tryz.prog⟩
  CRow.num Tryz.func4 (by kernel_rfl) (by kernel_rfl) fun w => by
    rw [← h]
    show Calls Tryz.prog 4 #[.int .i64 (Nu.v i), .int .i64 m] w _
    rw [Nu.v_lt hi]
    exact placeIs (v i) m hm hm2 w

theorem awakeRun6 [Nu] : isTrue (run ((callD (rowsOrc [] lib []) code 90).call 6 []) h0) = true := by kernel_rfl
theorem awakel6 (w : World) (hL : LibVars w) : Calls Tryz.prog 6 #[] w fun e w' => e = .returned (.bool true) ∧ Below w.heap.size w w' :=
  letI : Nu := ⟨fun _ => 0, w, Tryz.prog⟩
  calls_trueD (cx_ok rfl) cx_mixed (allD rfl) (rowsOrc_ok all0 (lib_ok hL) all0) (n := 90) (vs := []) (args := []) awakeRun6 w (Below.refl _ _) RVs_none
theorem awakel_row6 [Nu] (hL : LibVars Nu.old) : (yesRow 6).OK Tryz.prog :=
  yesRow_ok ⟨Tryz.f6, Tryz.func6, by kernel_rfl, by kernel_rfl⟩ fun w hb => awakel6 w (hL.below hb)
end Go.Proofs.YtojfkhhebedeoaaGreatDoor.XCodeS
