/- LangWrong: what its cases lean on. -/
import Derived.Test.YtaoobghobcikdaaDoorXAwakeLL
set_option maxRecDepth 100000
namespace Go.Proofs.YtaoobghobcikdaaDoor.XCodeL
open Go Go.X Go.RowKit

noncomputable def orcLangWrong [Nu] (r0 r1 : Int) : Orc := rowsOrc [⟨8, [.s 0, .n 14], .int .i64 r0⟩, ⟨8, [.s 1, .n 20], .int .i64 r1⟩] (yesRow 10 :: lib) []
theorem caseLangWrong (a0 a1 r0 r1 : Int) (w : World) (hL : LibVars w) (e0 : a0 % 14 = r0) (e1 : a1 % 20 = r1) (hr : ∀ [Nu], isTrue (run ((callN (orcLangWrong r0 r1) code 60).call 4 [.sym .i64 0, .sym .i64 1]) h0) = true) :
    Calls Tryd.prog 4 #[.int .i64 a0, .int .i64 a1] w fun e w' => e = .returned (.bool true) ∧ Below w.heap.size w w' := by
  letI : Nu := ⟨fun i => match i with | 0 => a0 | _ => a1, w⟩
  have ha : RVs ⟨fun _ => none, fun _ => 0⟩ [V.sym .i64 0, V.sym .i64 1] [.int .i64 a0, .int .i64 a1] := RVs_mk (by rw [RV]; rfl) (RVs_mk (by rw [RV]; rfl) (RVs_none))
  have ho : OrcOK Tryd.prog (orcLangWrong r0 r1) := rowsOrc_ok (allC (place_row _ _ 0 14 r0 (by omega) (by omega) e0) (allC (place_row _ _ 1 20 r1 (by omega) (by omega) e1) all0)) (allC (awakel_row10 hL) (lib_ok hL)) all0
  exact calls_true cx_ok cx_mixed table ho hr w (Below.refl _ _) ha
end Go.Proofs.YtaoobghobcikdaaDoor.XCodeL
