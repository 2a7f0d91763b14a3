/- The compact code is told. Printed by a program of mine (wip/tools/mkcode.py). -/
import Derived.Test.YtccacodlhpoegaaDoorXToldL0
set_option maxRecDepth 100000
namespace Go.Proofs.YtccacodlhpoegaaDoor.XCodeL
open Go Go.X
theorem cx_ok [Nu] (hp : cx.P = Nu.prog) : cx.Ok := ⟨rfl, hp, fun _ _ => ⟨[], RVs_none, rfl, fun _ _ _ _ h => (nomatch h)⟩, fun t ht => by
  rcases List.mem_cons.1 ht with rfl | ht
  · exact ⟨Tryd.stoodInHeld42, Tryd.eqGuardType42⟩
  exact nomatch ht⟩
theorem cx_mixed : cx.P.follows .mixedOrders = true := by kernel_rfl
theorem allD [Nu] (hp : cx.P = Nu.prog) : AllD cx codeL := ⟨dF_ok (cx_ok hp) cx_mixed Tryd.func3 told3, dF_ok (cx_ok hp) cx_mixed Tryd.func4 told4, dF_ok (cx_ok hp) cx_mixed Tryd.func5 told5, dF_ok (cx_ok hp) cx_mixed Tryd.func6 told6, dF_ok (cx_ok hp) cx_mixed Tryd.func7 told7, dF_ok (cx_ok hp) cx_mixed Tryd.func8 told8, dF_ok (cx_ok hp) cx_mixed Tryd.func9 told9, dF_ok (cx_ok hp) cx_mixed Tryd.func10 told10, dF_ok (cx_ok hp) cx_mixed Tryd.func11 told11, dF_ok (cx_ok hp) cx_mixed Tryd.func13 told13, dF_ok (cx_ok hp) cx_mixed Tryd.func14 told14, dF_ok (cx_ok hp) cx_mixed Tryd.func15 told15, dF_ok (cx_ok hp) cx_mixed Tryd.func16 told16, dF_ok (cx_ok hp) cx_mixed Tryd.func17 told17, dF_ok (cx_ok hp) cx_mixed Tryd.func18 told18, dF_ok (cx_ok hp) cx_mixed Tryd.func19 told19, dF_ok (cx_ok hp) cx_mixed Tryd.func20 told20, dF_ok (cx_ok hp) cx_mixed Tryd.func21 told21, dF_ok (cx_ok hp) cx_mixed Tryd.func22 told22, dF_ok (cx_ok hp) cx_mixed Tryd.func23 told23, dF_ok (cx_ok hp) cx_mixed Tryd.func25 told25, dF_ok (cx_ok hp) cx_mixed Tryd.func26 told26, dF_ok (cx_ok hp) cx_mixed Tryd.func31 told31, dF_ok (cx_ok hp) cx_mixed Tryd.func42 told42, trivial⟩
end Go.Proofs.YtccacodlhpoegaaDoor.XCodeL
