/- PgraphWrong: what its cases lean on. -/
import Derived.Test.YtheojbhaajbecaaGreatDoorXAwakeLP
set_option maxRecDepth 100000
namespace Go.Proofs.YtheojbhaajbecaaGreatDoor.XCodeP
open Go Go.X Go.RowKit

noncomputable def orcPgraphWrong [Nu] (r0 r1 m1 : Int) : Orc := rowsOrc [⟨7, [.s 0, .n 6], .int .i64 r0⟩, ⟨7, [.s 1, .n m1], .int .i64 r1⟩] (yesRow 10 :: lib) []
theorem casePgraphWrong (a0 : Int) (a1 : Int) (r0 r1 m1 : Int) (w : World) (hL : LibVars w) (p1 : 1 ≤ m1) (q1 : m1 ≤ 1000) (e0 : a0 % 6 = r0) (e1 : a1 % m1 = r1) (hr : ∀ [Nu], isTrue (run ((callN (orcPgraphWrong r0 r1 m1) code 90).call 4 [.sym .i64 0, .sym .i64 1]) h0) = true) :
    Calls Tryz.prog 4 #[.int .i64 a0, .int .i64 a1] w fun e w' => e = .returned (.bool true) ∧ Below w.heap.size w w' := by
  letI : Nu := ⟨fun i => match i with | 0 => a0 | _ => a1, w, Tryz.prog⟩
  have ha : RVs ⟨fun _ => none, fun _ => 0, []⟩ [V.sym .i64 0, V.sym .i64 1] [.int .i64 a0, .int .i64 a1] := RVs_mk (by rw [RV]; try rfl) (RVs_mk (by rw [RV]; try rfl) (RVs_none))
  have ho : OrcOK Tryz.prog (orcPgraphWrong r0 r1 m1) := rowsOrc_ok (allC (place_row _ _ 0 6 r0 (by omega) (by omega) e0) (allC (place_row _ _ 1 m1 r1 (by omega) (by omega) e1) all0)) (allC (awakel_row10 hL) (lib_ok hL)) all0
  exact calls_true (cx_ok rfl) cx_mixed table ho hr w (Below.refl _ _) ha
end Go.Proofs.YtheojbhaajbecaaGreatDoor.XCodeP
