/- BehaveKnown: what its cases lean on. -/
import Derived.Test.YtheojbhaajbecaaGreatXAwakeB
import Derived.Test.YtheojbhaajbecaaGreatXRelC
set_option maxRecDepth 100000
namespace Go.Proofs.YtheojbhaajbecaaGreat.XCodeB
open Go Go.X Go.RowKit

noncomputable def orcBehaveKnown [Nu] (r0 : Int) : Orc := rowOrc [⟨8, [.s 0, .n 3], .int .i64 r0⟩, ⟨16, [], .bool true⟩] []
theorem caseBehaveKnown (a0 : Int) (a1 : Bool) (r0 : Int) (w : World)  (e0 : a0 % 3 = r0) (hr : ∀ [Nu], isTrue (run ((callD (orcBehaveKnown r0) code 300).call 6 [.sym .i64 0, .bool a1]) h0) = true) :
    Calls Tryz.prog 6 #[.int .i64 a0, .bool a1] w fun e w' => e = .returned (.bool true) ∧ Below w.heap.size w w' := by
  letI : Nu := ⟨fun i => match i with  | _ => a0, w, Tryz.prog⟩
  have ha : RVs ⟨fun _ => none, fun _ => 0, []⟩ [V.sym .i64 0, V.bool a1] [.int .i64 a0, .bool a1] := RVs_mk (by rw [RV]; try rfl) (RVs_mk (by rw [RV]; try rfl) (RVs_none))
  have ho : OrcOK Tryz.prog (orcBehaveKnown r0) := rowOrc_ok (allC (place_row _ _ 0 3 r0 (by omega) (by omega) e0) (all1 (awake_row16 _ _))) all0
  exact calls_trueD (cx_ok rfl) cx_mixed (allD rfl) ho hr w (Below.refl _ _) ha
noncomputable def orcBehaveKnownK [Nu] (r0 : Int) (ks : List KRow) : Orc := rowsOrc [⟨8, [.s 0, .n 3], .int .i64 r0⟩, ⟨16, [], .bool true⟩] ks []
theorem caseBehaveKnownK (a0 : Int) (a1 : Bool) (r0 : Int) (w : World) (ks : List KRow) (hk : ∀ M : Nu, Tryz.prog = M.prog → ∀ p ∈ ks, @KRow.OK M Tryz.prog p)  (e0 : a0 % 3 = r0) (hr : ∀ [Nu], isTrue (run ((callD (orcBehaveKnownK r0 ks) code 300).call 6 [.sym .i64 0, .bool a1]) h0) = true) :
    Calls Tryz.prog 6 #[.int .i64 a0, .bool a1] w fun e w' => e = .returned (.bool true) ∧ Below w.heap.size w w' := by
  letI : Nu := ⟨fun i => match i with  | _ => a0, w, Tryz.prog⟩
  have ha : RVs ⟨fun _ => none, fun _ => 0, []⟩ [V.sym .i64 0, V.bool a1] [.int .i64 a0, .bool a1] := RVs_mk (by rw [RV]; try rfl) (RVs_mk (by rw [RV]; try rfl) (RVs_none))
  have ho : OrcOK Tryz.prog (orcBehaveKnownK r0 ks) := rowsOrc_ok (allC (place_row _ _ 0 3 r0 (by omega) (by omega) e0) (all1 (awake_row16 _ _))) (hk _ rfl) all0
  exact calls_trueD (cx_ok rfl) cx_mixed (allD rfl) ho hr w (Below.refl _ _) ha
end Go.Proofs.YtheojbhaajbecaaGreat.XCodeB
