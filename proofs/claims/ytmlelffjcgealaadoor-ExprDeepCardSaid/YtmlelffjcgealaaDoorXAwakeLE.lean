/- The layers that are met are awake. -/
import Derived.Test.YtmlelffjcgealaaDoorXLibsE
import Derived.Test.YtmlelffjcgealaaDoorXPlaceE
set_option maxRecDepth 100000
namespace Go.Proofs.YtmlelffjcgealaaDoor.XCodeE
open Go Go.X Go.RowKit
theorem place_row (v : Nat → Int) (old : World) (i : Nat) (m r : Int) (hm : 1 ≤ m) (hm2 : m ≤ 4611686018427387904) (h : v i % m = r) : letI : Nu := ⟨v, old⟩; CRow.OK Tryd.prog ⟨10, [.s i, .n m], .int .i64 r⟩ :=
  letI : Nu := ⟨v, old⟩
  CRow.num Tryd.func10 (by kernel_rfl) (by kernel_rfl) fun w => by
    rw [← h]
    exact placeIs (v i) m hm hm2 w

theorem awakeRun9 [Nu] : isTrue (run ((callN (rowsOrc [] lib []) code 60).call 9 []) h0) = true := by kernel_rfl
theorem awakel9 (w : World) (hL : LibVars w) : Calls Tryd.prog 9 #[] w fun e w' => e = .returned (.bool true) ∧ Below w.heap.size w w' :=
  letI : Nu := ⟨fun _ => 0, w⟩
  calls_true cx_ok cx_mixed table (rowsOrc_ok all0 (lib_ok hL) all0) (n := 60) (vs := []) (args := []) awakeRun9 w (Below.refl _ _) RVs_none
theorem awakel_row9 [Nu] (hL : LibVars Nu.old) : (yesRow 9).OK Tryd.prog :=
  yesRow_ok ⟨Tryd.f9, Tryd.func9, by kernel_rfl, by kernel_rfl⟩ fun w hb => awakel9 w (hL.below hb)
end Go.Proofs.YtmlelffjcgealaaDoor.XCodeE
