/- Rows of Place; the layers that are met are awake. -/
import Derived.Test.YtmlelffjcgealaaXPlaceB
import Derived.Test.YtmlelffjcgealaaXMore
set_option maxRecDepth 100000
namespace Go.Proofs.Ytmlelffjcgealaa.XCodeB
open Go Go.X Go.RowKit
theorem place_row (v : Nat → Int) (old : World) (i : Nat) (m r : Int) (hm : 1 ≤ m) (hm2 : m ≤ 4611686018427387904) (h : v i % m = r) : letI : Nu := ⟨v, old⟩; CRow.OK Try.prog ⟨7, [.s i, .n m], .int .i64 r⟩ :=
  letI : Nu := ⟨v, old⟩
  CRow.num Try.func7 (by kernel_rfl) (by kernel_rfl) fun w => by
    rw [← h]
    exact placeIs (v i) m hm hm2 w
theorem place_named (v : Nat → Int) (old : World) (i j : Nat) (m : Int) (hm : 1 ≤ m) (hm2 : m ≤ 4611686018427387904) (h : v i % m = v j) : letI : Nu := ⟨v, old⟩; CRow.OK Try.prog ⟨7, [.s i, .n m], .sym .i64 j⟩ :=
  letI : Nu := ⟨v, old⟩
  ⟨⟨Try.f7, Try.func7, by kernel_rfl, by kernel_rfl⟩, fun E w => (placeIs (v i) m hm hm2 w).mono fun e w' ⟨q1, q2⟩ => ⟨_, q1, q2, by rw [RV, h]; rfl⟩⟩

theorem awake9 (w : World) : Calls Try.prog 9 #[] w fun e w' => e = .returned (.bool true) ∧ Below w.heap.size w w' :=
  letI : Nu := ⟨fun _ => 0, w⟩
  calls_true cx_ok cx_mixed table (noOrc_ok _) (n := 60) (vs := []) (args := []) (by kernel_rfl) w (Below.refl _ _) RVs_none
theorem awake_row9 (v : Nat → Int) (old : World) : letI : Nu := ⟨v, old⟩; CRow.OK Try.prog ⟨9, [], .bool true⟩ :=
  letI : Nu := ⟨v, old⟩
  CRow.yes Try.func9 (by kernel_rfl) (by kernel_rfl) awake9
theorem awake11 (w : World) : Calls Try.prog 11 #[] w fun e w' => e = .returned (.bool true) ∧ Below w.heap.size w w' :=
  letI : Nu := ⟨fun _ => 0, w⟩
  calls_true cx_ok cx_mixed table (noOrc_ok _) (n := 60) (vs := []) (args := []) (by kernel_rfl) w (Below.refl _ _) RVs_none
theorem awake_row11 (v : Nat → Int) (old : World) : letI : Nu := ⟨v, old⟩; CRow.OK Try.prog ⟨11, [], .bool true⟩ :=
  letI : Nu := ⟨v, old⟩
  CRow.yes Try.func11 (by kernel_rfl) (by kernel_rfl) awake11
end Go.Proofs.Ytmlelffjcgealaa.XCodeB
