/- Rows of Place; the layers that are met are awake. -/
import Derived.Test.YtheojbhaajbecaaGreatXPlaceB
import Derived.Test.YtheojbhaajbecaaGreatXMore
set_option maxRecDepth 100000
namespace Go.Proofs.YtheojbhaajbecaaGreat.XCodeB
open Go Go.X Go.RowKit
theorem place_row (v : Nat → Int) (old : World) (i : Nat) (m r : Int) (hm : 1 ≤ m) (hm2 : m ≤ 4611686018427387904) (h : v i % m = r) : letI : Nu := ⟨v, old, Tryz.prog⟩; CRow.OK Tryz.prog ⟨8, [.s i, .n m], .int .i64 r⟩ :=
  letI : Nu := ⟨v, old, Tryz.prog⟩
  CRow.num Tryz.func8 (by kernel_rfl) (by kernel_rfl) fun w => by
    rw [← h]
    exact placeIs (v i) m hm hm2 w
theorem place_named (v : Nat → Int) (old : World) (i j : Nat) (m : Int) (hm : 1 ≤ m) (hm2 : m ≤ 4611686018427387904) (h : v i % m = v j) : letI : Nu := ⟨v, old, Tryz.prog⟩; CRow.OK Tryz.prog ⟨8, [.s i, .n m], .sym .i64 j⟩ :=
  letI : Nu := ⟨v, old, Tryz.prog⟩
  ⟨⟨Tryz.f8, Tryz.func8, by kernel_rfl, by kernel_rfl⟩, fun E w => (placeIs (v i) m hm hm2 w).mono fun e w' ⟨q1, q2⟩ => ⟨_, q1, q2, by rw [RV, h]; rfl⟩⟩

theorem awake16 (w : World) : Calls Tryz.prog 16 #[] w fun e w' => e = .returned (.bool true) ∧ Below w.heap.size w w' :=
  letI : Nu := ⟨fun _ => 0, w, Tryz.prog⟩
  calls_trueD (cx_ok rfl) cx_mixed (allD rfl) (noOrc_ok _) (n := 60) (vs := []) (args := []) (by kernel_rfl) w (Below.refl _ _) RVs_none
theorem awake_row16 (v : Nat → Int) (old : World) : letI : Nu := ⟨v, old, Tryz.prog⟩; CRow.OK Tryz.prog ⟨16, [], .bool true⟩ :=
  letI : Nu := ⟨v, old, Tryz.prog⟩
  CRow.yes Tryz.func16 (by kernel_rfl) (by kernel_rfl) awake16
end Go.Proofs.YtheojbhaajbecaaGreat.XCodeB
