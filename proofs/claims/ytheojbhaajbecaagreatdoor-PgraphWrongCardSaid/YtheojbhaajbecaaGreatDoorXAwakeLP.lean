/- The layers that are met are awake. -/
import Derived.Test.YtheojbhaajbecaaGreatDoorXLibsP
import Derived.Test.YtheojbhaajbecaaGreatDoorXPlaceP
set_option maxRecDepth 100000
namespace Go.Proofs.YtheojbhaajbecaaGreatDoor.XCodeP
open Go Go.X Go.RowKit
theorem place_row (v : Nat → Int) (old : World) (i : Nat) (m r : Int) (hm : 1 ≤ m) (hm2 : m ≤ 4611686018427387904) (h : v i % m = r) : letI : Nu := ⟨v, old, Tryz.prog⟩; CRow.OK Tryz.prog ⟨7, [.s i, .n m], .int .i64 r⟩ :=
  letI : Nu := ⟨v, old, Tryz.prog⟩
  CRow.num Tryz.func7 (by kernel_rfl) (by kernel_rfl) fun w => by
    rw [← h]
    exact placeIs (v i) m hm hm2 w

theorem awakeRun10 [Nu] : isTrue (run ((callN (rowsOrc [] lib []) code 60).call 10 []) h0) = true := by kernel_rfl
theorem awakel10 (w : World) (hL : LibVars w) : Calls Tryz.prog 10 #[] w fun e w' => e = .returned (.bool true) ∧ Below w.heap.size w w' :=
  letI : Nu := ⟨fun _ => 0, w, Tryz.prog⟩
  calls_true (cx_ok rfl) cx_mixed table (rowsOrc_ok all0 (lib_ok hL) all0) (n := 60) (vs := []) (args := []) awakeRun10 w (Below.refl _ _) RVs_none
theorem awakel_row10 [Nu] (hL : LibVars Nu.old) : (yesRow 10).OK Tryz.prog :=
  yesRow_ok ⟨Tryz.f10, Tryz.func10, by kernel_rfl, by kernel_rfl⟩ fun w hb => awakel10 w (hL.below hb)
end Go.Proofs.YtheojbhaajbecaaGreatDoor.XCodeP
