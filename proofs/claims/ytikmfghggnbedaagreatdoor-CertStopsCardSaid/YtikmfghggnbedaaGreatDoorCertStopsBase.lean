/- CertStops: what its cases lean on. -/
import Derived.Test.YtikmfghggnbedaaGreatDoorXAwakeLL
set_option maxRecDepth 100000
namespace Go.Proofs.YtikmfghggnbedaaGreatDoor.XCodeL
open Go Go.X Go.RowKit

noncomputable def orcCertStops [Nu] (r0 r1 : Int) : Orc := rowsOrc [⟨4, [.s 0, .n 9], .int .i64 r0⟩, ⟨4, [.s 1, .n 4], .int .i64 r1⟩] (yesRow 6 :: lib) []
theorem caseCertStops (a0 : Int) (a1 : Int) (r0 r1 : Int) (w : World) (hL : LibVars w)  (e0 : a0 % 9 = r0) (e1 : a1 % 4 = r1) (hr : ∀ [Nu], isTrue (run ((callD (orcCertStops r0 r1) code 200).call 3 [.sym .i64 0, .sym .i64 1]) h0) = true) :
    Calls Tryz.prog 3 #[.int .i64 a0, .int .i64 a1] w fun e w' => e = .returned (.bool true) ∧ Below w.heap.size w w' := by
  letI : Nu := ⟨fun i => match i with | 0 => a0 | _ => a1, w, Tryz.prog⟩
  have ha : RVs ⟨fun _ => none, fun _ => 0, []⟩ [V.sym .i64 0, V.sym .i64 1] [.int .i64 a0, .int .i64 a1] := RVs_mk (by rw [RV]; try rfl) (RVs_mk (by rw [RV]; try rfl) (RVs_none))
  have ho : OrcOK Tryz.prog (orcCertStops r0 r1) := rowsOrc_ok (allC (place_row _ _ 0 9 r0 (by omega) (by omega) e0) (allC (place_row _ _ 1 4 r1 (by omega) (by omega) e1) all0)) (allC (awakel_row6 hL) (lib_ok hL)) all0
  exact calls_trueD (cx_ok rfl) cx_mixed (allD rfl) ho hr w (Below.refl _ _) ha
end Go.Proofs.YtikmfghggnbedaaGreatDoor.XCodeL
