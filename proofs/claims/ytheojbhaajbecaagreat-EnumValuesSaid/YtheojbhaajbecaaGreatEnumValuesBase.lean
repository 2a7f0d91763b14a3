/- EnumValues: what its cases lean on. -/
import Derived.Test.YtheojbhaajbecaaGreatXAwakeN
set_option maxRecDepth 100000
namespace Go.Proofs.YtheojbhaajbecaaGreat.XCodeN
open Go Go.X Go.RowKit

noncomputable def orcEnumValues [Nu] (r0 r1 : Int) : Orc := rowOrc [⟨8, [.s 0, .n 4], .int .i64 r0⟩, ⟨8, [.s 1, .n 5], .int .i64 r1⟩, ⟨10, [], .bool true⟩] []
theorem caseEnumValues (a0 : Int) (a1 : Int) (r0 r1 : Int) (w : World) (e0 : a0 % 4 = r0) (e1 : a1 % 5 = r1) (hr : ∀ [Nu], isTrue (run ((callN (orcEnumValues r0 r1) code 90).call 4 [.sym .i64 0, .sym .i64 1]) h0) = true) :
    Calls Tryz.prog 4 #[.int .i64 a0, .int .i64 a1] w fun e w' => e = .returned (.bool true) ∧ Below w.heap.size w w' := by
  letI : Nu := ⟨fun i => match i with | 0 => a0 | _ => a1, w, Tryz.prog⟩
  have ha : RVs ⟨fun _ => none, fun _ => 0, []⟩ [V.sym .i64 0, V.sym .i64 1] [.int .i64 a0, .int .i64 a1] := RVs_mk (by rw [RV]; try rfl) (RVs_mk (by rw [RV]; try rfl) (RVs_none))
  have ho : OrcOK Tryz.prog (orcEnumValues r0 r1) := rowOrc_ok (allC (place_row _ _ 0 4 r0 (by omega) (by omega) e0) (allC (place_row _ _ 1 5 r1 (by omega) (by omega) e1) (all1 (awake_row10 _ _)))) all0
  exact calls_true (cx_ok rfl) cx_mixed table ho hr w (Below.refl _ _) ha
end Go.Proofs.YtheojbhaajbecaaGreat.XCodeN
