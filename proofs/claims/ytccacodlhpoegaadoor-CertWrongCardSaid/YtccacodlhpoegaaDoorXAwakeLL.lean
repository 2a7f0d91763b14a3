/- The layers that are met are awake. -/
import Derived.Test.YtccacodlhpoegaaDoorXLibsL
import Derived.Test.YtccacodlhpoegaaDoorXPlaceL
set_option maxRecDepth 100000
namespace Go.Proofs.YtccacodlhpoegaaDoor.XCodeL
open Go Go.X Go.RowKit
theorem place_row (v : Nat → Int) (old : World) (i : Nat) (m r : Int) (hm : 1 ≤ m) (hm2 : m ≤ 4611686018427387904) (h : v i % m = r) : letI : Nu := ⟨v, old, Tryd.prog⟩; CRow.OK Tryd.prog ⟨4, [.s i, .n m], .int .i64 r⟩ :=
  letI : Nu := ⟨v, old, Tryd.prog⟩
  CRow.num Tryd.func4 (by kernel_rfl) (by kernel_rfl) fun w => by
    rw [← h]
    exact placeIs (v i) m hm hm2 w

theorem awakeRun8 [Nu] : isTrue (run ((callD (rowsOrc [] lib []) code 90).call 8 []) h0) = true := by kernel_rfl
theorem awakel8 (w : World) (hL : LibVars w) : Calls Tryd.prog 8 #[] w fun e w' => e = .returned (.bool true) ∧ Below w.heap.size w w' :=
  letI : Nu := ⟨fun _ => 0, w, Tryd.prog⟩
  calls_trueD (cx_ok rfl) cx_mixed (allD rfl) (rowsOrc_ok all0 (lib_ok hL) all0) (n := 90) (vs := []) (args := []) awakeRun8 w (Below.refl _ _) RVs_none
theorem awakel_row8 [Nu] (hL : LibVars Nu.old) : (yesRow 8).OK Tryd.prog :=
  yesRow_ok ⟨Tryd.f8, Tryd.func8, by kernel_rfl, by kernel_rfl⟩ fun w hb => awakel8 w (hL.below hb)
end Go.Proofs.YtccacodlhpoegaaDoor.XCodeL
