/- LangHeads: what its cases lean on. -/
import Derived.Test.YtaoobghobcikdaaDoorXAwakeLL
set_option maxRecDepth 100000
namespace Go.Proofs.YtaoobghobcikdaaDoor.XCodeL
open Go Go.X Go.RowKit

noncomputable def orcLangHeads [Nu] (r0 : Int) : Orc := rowsOrc [⟨8, [.s 0, .n 7], .int .i64 r0⟩] (yesRow 10 :: lib) []
theorem caseLangHeads (a0 r0 : Int) (w : World) (hL : LibVars w) (e0 : a0 % 7 = r0) (hr : ∀ [Nu], isTrue (run ((callN (orcLangHeads r0) code 60).call 3 [.sym .i64 0]) h0) = true) :
    Calls Tryd.prog 3 #[.int .i64 a0] w fun e w' => e = .returned (.bool true) ∧ Below w.heap.size w w' := by
  letI : Nu := ⟨fun i => match i with  | _ => a0, w⟩
  have ha : RVs ⟨fun _ => none, fun _ => 0⟩ [V.sym .i64 0] [.int .i64 a0] := RVs_mk (by rw [RV]; rfl) (RVs_none)
  have ho : OrcOK Tryd.prog (orcLangHeads r0) := rowsOrc_ok (allC (place_row _ _ 0 7 r0 (by omega) (by omega) e0) all0) (allC (awakel_row10 hL) (lib_ok hL)) all0
  exact calls_true cx_ok cx_mixed table ho hr w (Below.refl _ _) ha
end Go.Proofs.YtaoobghobcikdaaDoor.XCodeL
