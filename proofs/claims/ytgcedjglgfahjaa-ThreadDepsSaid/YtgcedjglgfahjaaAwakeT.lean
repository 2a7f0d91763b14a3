/- Layer 5 is awake. -/
import Derived.Test.YtgcedjglgfahjaaXPlaceT
set_option maxRecDepth 100000
namespace Go.Proofs.Ytgcedjglgfahjaa.XCodeT
open Go Go.X Go.RowKit

theorem awake22 (w : World) : Calls Try.prog 22 #[] w fun e w' => e = .returned (.bool true) ∧ Below w.heap.size w w' :=
  letI : Nu := ⟨fun _ => 0⟩
  calls_true cx_ok cx_mixed table (noOrc_ok _) (n := 60) (vs := []) (args := []) (by kernel_rfl) w RVs_none
theorem place_row (v : Nat → Int) (i : Nat) (m r : Int) (hm : 1 ≤ m) (hm2 : m ≤ 4611686018427387904) (h : v i % m = r) : letI : Nu := ⟨v⟩; CRow.OK Try.prog ⟨20, [.s i, .n m], .int .i64 r⟩ :=
  letI : Nu := ⟨v⟩
  CRow.num Try.func20 (by kernel_rfl) (by kernel_rfl) fun w => by
    rw [← h]
    exact placeIs (v i) m hm hm2 w
theorem awake_row (v : Nat → Int) : letI : Nu := ⟨v⟩; CRow.OK Try.prog ⟨22, [], .bool true⟩ :=
  letI : Nu := ⟨v⟩
  CRow.yes Try.func22 (by kernel_rfl) (by kernel_rfl) awake22
end Go.Proofs.Ytgcedjglgfahjaa.XCodeT
