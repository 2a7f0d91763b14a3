/- EnumThreads: what its cases lean on. -/
import Derived.Test.YtheojbhaajbecaaGreatXAwakeN
import Derived.Test.YtheojbhaajbecaaGreatXCut
set_option maxRecDepth 100000
namespace Go.Proofs.YtheojbhaajbecaaGreat.XCodeN
open Go Go.X Go.RowKit

noncomputable def orcEnumThreads [Nu] (r0 r1 r2 : Int) : Orc := rowOrc [⟨8, [.s 0, .n 4], .int .i64 r0⟩, ⟨8, [.s 1, .n 3], .int .i64 r1⟩, ⟨8, [.s 2, .n 3], .int .i64 r2⟩, ⟨10, [], .bool true⟩] []
theorem caseEnumThreads (a0 : Int) (a1 : Int) (a2 : Int) (r0 r1 r2 : Int) (w : World)  (e0 : a0 % 4 = r0) (e1 : a1 % 3 = r1) (e2 : a2 % 3 = r2) (hr : ∀ [Nu], isTrue (run ((callD (orcEnumThreads r0 r1 r2) code 90).call 5 [.sym .i64 0, .sym .i64 1, .sym .i64 2]) h0) = true) :
    Calls Tryz.prog 5 #[.int .i64 a0, .int .i64 a1, .int .i64 a2] w fun e w' => e = .returned (.bool true) ∧ Below w.heap.size w w' := by
  letI : Nu := ⟨fun i => match i with | 0 => a0 | 1 => a1 | _ => a2, w, Tryz.prog⟩
  have ha : RVs ⟨fun _ => none, fun _ => 0, []⟩ [V.sym .i64 0, V.sym .i64 1, V.sym .i64 2] [.int .i64 a0, .int .i64 a1, .int .i64 a2] := RVs_mk (by rw [RV]; try rfl) (RVs_mk (by rw [RV]; try rfl) (RVs_mk (by rw [RV]; try rfl) (RVs_none)))
  have ho : OrcOK Tryz.prog (orcEnumThreads r0 r1 r2) := rowOrc_ok (allC (place_row _ _ 0 4 r0 (by omega) (by omega) e0) (allC (place_row _ _ 1 3 r1 (by omega) (by omega) e1) (allC (place_row _ _ 2 3 r2 (by omega) (by omega) e2) (all1 (awake_row10 _ _))))) all0
  exact calls_trueD (cx_ok rfl) cx_mixed (allD rfl) ho hr w (Below.refl _ _) ha
noncomputable def orcEnumThreadsK [Nu] (r0 r1 r2 : Int) (ks : List KRow) : Orc := rowsOrc [⟨8, [.s 0, .n 4], .int .i64 r0⟩, ⟨8, [.s 1, .n 3], .int .i64 r1⟩, ⟨8, [.s 2, .n 3], .int .i64 r2⟩, ⟨10, [], .bool true⟩] ks []
theorem caseEnumThreadsK (a0 : Int) (a1 : Int) (a2 : Int) (r0 r1 r2 : Int) (w : World) (ks : List KRow) (hk : ∀ M : Nu, Tryz.prog = M.prog → ∀ p ∈ ks, @KRow.OK M Tryz.prog p)  (e0 : a0 % 4 = r0) (e1 : a1 % 3 = r1) (e2 : a2 % 3 = r2) (hr : ∀ [Nu], isTrue (run ((callD (orcEnumThreadsK r0 r1 r2 ks) code 90).call 5 [.sym .i64 0, .sym .i64 1, .sym .i64 2]) h0) = true) :
    Calls Tryz.prog 5 #[.int .i64 a0, .int .i64 a1, .int .i64 a2] w fun e w' => e = .returned (.bool true) ∧ Below w.heap.size w w' := by
  letI : Nu := ⟨fun i => match i with | 0 => a0 | 1 => a1 | _ => a2, w, Tryz.prog⟩
  have ha : RVs ⟨fun _ => none, fun _ => 0, []⟩ [V.sym .i64 0, V.sym .i64 1, V.sym .i64 2] [.int .i64 a0, .int .i64 a1, .int .i64 a2] := RVs_mk (by rw [RV]; try rfl) (RVs_mk (by rw [RV]; try rfl) (RVs_mk (by rw [RV]; try rfl) (RVs_none)))
  have ho : OrcOK Tryz.prog (orcEnumThreadsK r0 r1 r2 ks) := rowsOrc_ok (allC (place_row _ _ 0 4 r0 (by omega) (by omega) e0) (allC (place_row _ _ 1 3 r1 (by omega) (by omega) e1) (allC (place_row _ _ 2 3 r2 (by omega) (by omega) e2) (all1 (awake_row10 _ _))))) (hk _ rfl) all0
  exact calls_trueD (cx_ok rfl) cx_mixed (allD rfl) ho hr w (Below.refl _ _) ha
end Go.Proofs.YtheojbhaajbecaaGreat.XCodeN
