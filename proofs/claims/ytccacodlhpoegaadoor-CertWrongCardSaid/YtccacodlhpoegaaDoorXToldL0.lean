/- Each piece of compact code is what the executor makes of the loaded function. Printed by a program of mine (wip/tools/mkcode.py). -/
import Derived.Test.YtccacodlhpoegaaDoorXCodeL
import Derived.Test.YtccacodlhpoegaaDoorRows
import Derived.WalkKit
import Derived.ProofKit
set_option maxRecDepth 100000
namespace Go.Proofs.YtccacodlhpoegaaDoor.XCodeL
open Go Go.X
noncomputable def cx : Cx := ⟨Tryd.prog, [42], path, fun _ => []⟩
theorem told3 : dF cx 8 3 Tryd.f3 (.mk none .nil (.mk none .nil (.mk none .nil (.mk none (.mk none .nil (.mk none (.mk (some [0, 5, 6, 7]) .nil .nil) .nil)) .nil)))) [] = some d3 := by kernel_rfl
theorem told4 : dF cx 8 4 Tryd.f4 (.mk none .nil (.mk none .nil (.mk none (.mk none .nil (.mk (some [5]) .nil .nil)) .nil))) [] = some d4 := by kernel_rfl
theorem told5 : dF cx 8 5 Tryd.f5 .nil [] = some d5 := by kernel_rfl
theorem told6 : dF cx 8 6 Tryd.f6 (.mk none .nil (.mk none .nil (.mk none .nil (.mk none (.mk none (.mk (some [0, 4, 5]) .nil .nil) .nil) .nil)))) [] = some d6 := by kernel_rfl
theorem told7 : dF cx 8 7 Tryd.f7 (.mk none .nil (.mk none .nil (.mk none (.mk none .nil (.mk none (.mk (some [0, 3, 9, 10, 11]) .nil .nil) .nil)) .nil))) [] = some d7 := by kernel_rfl
theorem told8 : dF cx 8 8 Tryd.f8 .nil [] = some d8 := by kernel_rfl
theorem told9 : dF cx 8 9 Tryd.f9 .nil [] = some d9 := by kernel_rfl
theorem told10 : dF cx 8 10 Tryd.f10 .nil [] = some d10 := by kernel_rfl
theorem told11 : dF cx 8 11 Tryd.f11 .nil [] = some d11 := by kernel_rfl
theorem told13 : dF cx 8 13 Tryd.f13 .nil [] = some d13 := by kernel_rfl
theorem told14 : dF cx 8 14 Tryd.f14 .nil [] = some d14 := by kernel_rfl
theorem told15 : dF cx 8 15 Tryd.f15 .nil [] = some d15 := by kernel_rfl
theorem told16 : dF cx 8 16 Tryd.f16 .nil [] = some d16 := by kernel_rfl
theorem told17 : dF cx 8 17 Tryd.f17 .nil [] = some d17 := by kernel_rfl
theorem told18 : dF cx 8 18 Tryd.f18 (.mk none .nil (.mk none .nil (.mk none (.mk none .nil (.mk none (.mk (some [0, 1, 12, 13]) .nil .nil) .nil)) .nil))) [] = some d18 := by kernel_rfl
theorem told19 : dF cx 8 19 Tryd.f19 .nil [] = some d19 := by kernel_rfl
theorem told20 : dF cx 8 20 Tryd.f20 (.mk none .nil (.mk none (.mk none .nil (.mk none (.mk (some [0, 1, 7, 8]) .nil .nil) .nil)) .nil)) [] = some d20 := by kernel_rfl
theorem told21 : dF cx 8 21 Tryd.f21 .nil [] = some d21 := by kernel_rfl
theorem told22 : dF cx 8 22 Tryd.f22 .nil [] = some d22 := by kernel_rfl
theorem told23 : dF cx 8 23 Tryd.f23 (.mk none .nil (.mk (some []) .nil .nil)) [] = some d23 := by kernel_rfl
theorem told25 : dF cx 8 25 Tryd.f25 .nil [] = some d25 := by kernel_rfl
theorem told26 : dF cx 8 26 Tryd.f26 (.mk none .nil (.mk none .nil (.mk none .nil (.mk none (.mk none .nil (.mk (some [0, 1, 2, 3]) .nil .nil)) (.mk none .nil (.mk none .nil (.mk none .nil (.mk none .nil (.mk none (.mk (some [0, 9, 10]) (.mk (some [0, 1, 2, 3, 9, 10]) .nil .nil) .nil) .nil))))))))) [] = some d26 := by kernel_rfl
theorem told31 : dF cx 8 31 Tryd.f31 (.mk none .nil (.mk none (.mk none .nil (.mk none (.mk none .nil (.mk none .nil (.mk none .nil (.mk none (.mk none .nil (.mk (some [0, 5, 6]) .nil .nil)) .nil)))) .nil)) .nil)) [] = some d31 := by kernel_rfl
theorem told42 : dF cx 8 42 Tryd.f42 .nil [] = some d42 := by kernel_rfl
end Go.Proofs.YtccacodlhpoegaaDoor.XCodeL
