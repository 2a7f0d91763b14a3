/- BehaveFences: what its cases lean on. -/
import Derived.Test.YtheojbhaajbecaaGreatXAwakeB
import Derived.Test.YtheojbhaajbecaaGreatXCut
import Derived.Test.YtheojbhaajbecaaGreatXRelC
set_option maxRecDepth 100000
namespace Go.Proofs.YtheojbhaajbecaaGreat.XCodeB
open Go Go.X Go.RowKit

noncomputable def orcBehaveFences [Nu] (r0 r1 : Int) : Orc := rowOrc [⟨8, [.s 0, .n 3], .int .i64 r0⟩, ⟨8, [.s 1, .n 4], .int .i64 r1⟩, ⟨16, [], .bool true⟩] []
theorem caseBehaveFences (a0 : Int) (a1 : Int) (r0 r1 : Int) (w : World)  (e0 : a0 % 3 = r0) (e1 : a1 % 4 = r1) (hr : ∀ [Nu], isTrue (run ((callD (orcBehaveFences r0 r1) code 300).call 7 [.sym .i64 0, .sym .i64 1]) h0) = true) :
    Calls Tryz.prog 7 #[.int .i64 a0, .int .i64 a1] w fun e w' => e = .returned (.bool true) ∧ Below w.heap.size w w' := by
  letI : Nu := ⟨fun i => match i with | 0 => a0 | _ => a1, w, Tryz.prog⟩
  have ha : RVs ⟨fun _ => none, fun _ => 0, []⟩ [V.sym .i64 0, V.sym .i64 1] [.int .i64 a0, .int .i64 a1] := RVs_mk (by rw [RV]; try rfl) (RVs_mk (by rw [RV]; try rfl) (RVs_none))
  have ho : OrcOK Tryz.prog (orcBehaveFences r0 r1) := rowOrc_ok (allC (place_row _ _ 0 3 r0 (by omega) (by omega) e0) (allC (place_row _ _ 1 4 r1 (by omega) (by omega) e1) (all1 (awake_row16 _ _)))) all0
  exact calls_trueD (cx_ok rfl) cx_mixed (allD rfl) ho hr w (Below.refl _ _) ha
noncomputable def orcBehaveFencesK [Nu] (r0 r1 : Int) (ks : List KRow) : Orc := rowsOrc [⟨8, [.s 0, .n 3], .int .i64 r0⟩, ⟨8, [.s 1, .n 4], .int .i64 r1⟩, ⟨16, [], .bool true⟩] ks []
theorem caseBehaveFencesK (a0 : Int) (a1 : Int) (r0 r1 : Int) (w : World) (ks : List KRow) (hk : ∀ M : Nu, Tryz.prog = M.prog → ∀ p ∈ ks, @KRow.OK M Tryz.prog p)  (e0 : a0 % 3 = r0) (e1 : a1 % 4 = r1) (hr : ∀ [Nu], isTrue (run ((callD (orcBehaveFencesK r0 r1 ks) code 300).call 7 [.sym .i64 0, .sym .i64 1]) h0) = true) :
    Calls Tryz.prog 7 #[.int .i64 a0, .int .i64 a1] w fun e w' => e = .returned (.bool true) ∧ Below w.heap.size w w' := by
  letI : Nu := ⟨fun i => match i with | 0 => a0 | _ => a1, w, Tryz.prog⟩
  have ha : RVs ⟨fun _ => none, fun _ => 0, []⟩ [V.sym .i64 0, V.sym .i64 1] [.int .i64 a0, .int .i64 a1] := RVs_mk (by rw [RV]; try rfl) (RVs_mk (by rw [RV]; try rfl) (RVs_none))
  have ho : OrcOK Tryz.prog (orcBehaveFencesK r0 r1 ks) := rowsOrc_ok (allC (place_row _ _ 0 3 r0 (by omega) (by omega) e0) (allC (place_row _ _ 1 4 r1 (by omega) (by omega) e1) (all1 (awake_row16 _ _)))) (hk _ rfl) all0
  exact calls_trueD (cx_ok rfl) cx_mixed (allD rfl) ho hr w (Below.refl _ _) ha
end Go.Proofs.YtheojbhaajbecaaGreat.XCodeB
