/- Each piece of compact code is what the executor makes of the loaded function. Printed by a program of mine (wip/tools/mkcode.py). -/
import Derived.Test.YtheojbhaajbecaaGreatXCodeN
import Derived.Test.YtheojbhaajbecaaGreatRows
import Derived.WalkKit
import Derived.ProofKit
set_option maxRecDepth 100000
namespace Go.Proofs.YtheojbhaajbecaaGreat.XCodeN
open Go Go.X
noncomputable def cx : Cx := ⟨Tryz.prog, [108, 87], path, fun _ => []⟩
theorem told3 : dF cx 8 3 Tryz.f3 (.mk none .nil (.mk none .nil (.mk none .nil (.mk none .nil (.mk none (.mk none .nil (.mk none (.mk (some [5, 6, 7, 8, 9]) .nil .nil) .nil)) (.mk none (.mk none .nil (.mk none (.mk (some [5, 6, 7, 8, 10]) .nil .nil) .nil)) .nil)))))) [] = some d3 := by kernel_rfl
theorem told4 : dF cx 8 4 Tryz.f4 (.mk none .nil (.mk none .nil (.mk none .nil (.mk none .nil (.mk none .nil (.mk none (.mk none .nil (.mk none (.mk (some [5, 6, 7, 8, 9, 10]) .nil .nil) .nil)) (.mk none (.mk none .nil (.mk none (.mk (some [5, 6, 7, 8, 9, 11]) .nil .nil) .nil)) (.mk none .nil (.mk none .nil (.mk none (.mk none .nil (.mk none (.mk (some [5, 6, 9, 12, 13]) (.mk none .nil (.mk none (.mk none (.mk none .nil (.mk none .nil (.mk none (.mk (some [5, 6, 9, 12, 13, 14, 15]) .nil .nil) .nil))) .nil) .nil)) .nil) .nil)) .nil)))))))))) [] = some d4 := by kernel_rfl
theorem told5 : dF cx 8 5 Tryz.f5 (.mk none .nil (.mk none .nil (.mk none .nil (.mk none .nil (.mk none (.mk none .nil (.mk none (.mk (some [7, 8, 9, 10, 11, 12]) .nil .nil) .nil)) (.mk none (.mk none .nil (.mk none (.mk (some [7, 8, 9, 10, 11, 13]) .nil .nil) .nil)) (.mk none (.mk none .nil (.mk none (.mk (some [7, 8, 9, 10, 11, 14]) .nil .nil) .nil)) (.mk none .nil (.mk none (.mk none .nil (.mk none (.mk (some [7, 8, 9, 10, 15, 16]) .nil .nil) .nil)) (.mk none (.mk none .nil (.mk none (.mk (some [9, 10, 15, 17]) .nil .nil) .nil)) .nil)))))))))) [] = some d5 := by kernel_rfl
theorem told8 : dF cx 8 8 Tryz.f8 (.mk none .nil (.mk none .nil (.mk none (.mk none .nil (.mk (some [5]) .nil .nil)) .nil))) [] = some d8 := by kernel_rfl
theorem told9 : dF cx 8 9 Tryz.f9 (.mk none .nil (.mk none .nil (.mk none .nil (.mk none (.mk none .nil (.mk none (.mk (some [1, 2, 4, 5, 6, 18, 19, 20]) .nil .nil) .nil)) (.mk none .nil (.mk none (.mk none .nil (.mk (some [4, 5, 9]) .nil .nil)) .nil)))))) [.nil, .nil] = some d9 := by kernel_rfl
theorem told10 : dF cx 8 10 Tryz.f10 .nil [] = some d10 := by kernel_rfl
theorem told11 : dF cx 8 11 Tryz.f11 .nil [] = some d11 := by kernel_rfl
theorem told12 : dF cx 8 12 Tryz.f12 .nil [] = some d12 := by kernel_rfl
theorem told18 : dF cx 8 18 Tryz.f18 (.mk none .nil (.mk none .nil (.mk none .nil (.mk none .nil (.mk none (.mk none .nil (.mk none (.mk (some [1, 3, 4, 30, 31, 32]) (.mk none .nil (.mk none .nil (.mk none (.mk none (.mk none .nil (.mk none (.mk none .nil (.mk none (.mk (some [1, 3, 4, 6, 30, 31, 32, 36, 37, 38]) .nil .nil) .nil)) .nil)) .nil) .nil))) .nil) .nil)) .nil))))) [] = some d18 := by kernel_rfl
theorem told19 : dF cx 8 19 Tryz.f19 .nil [] = some d19 := by kernel_rfl
theorem told20 : dF cx 8 20 Tryz.f20 (.mk none .nil (.mk none .nil (.mk none (.mk none .nil (.mk none (.mk (some [3, 10, 11, 12]) (.mk none .nil (.mk none .nil (.mk none (.mk none (.mk none .nil (.mk none .nil (.mk (some [3, 10, 11, 12]) .nil .nil))) .nil) .nil))) .nil) .nil)) .nil))) [] = some d20 := by kernel_rfl
theorem told21 : dF cx 8 21 Tryz.f21 .nil [] = some d21 := by kernel_rfl
theorem told22 : dF cx 8 22 Tryz.f22 (.mk none .nil (.mk none .nil (.mk none .nil (.mk none (.mk none .nil (.mk none (.mk (some [1, 2, 4, 5, 6, 23, 24]) .nil .nil) .nil)) (.mk none (.mk none .nil (.mk (some [4, 5, 6]) .nil .nil)) .nil))))) [(.mk none .nil (.mk none (.mk none .nil (.mk none .nil (.mk none .nil (.mk none (.mk none .nil (.mk none (.mk (some [6, 8, 10, 12, 64, 65, 66]) .nil .nil) .nil)) .nil)))) .nil))] = some d22 := by kernel_rfl
theorem told23 : dF cx 8 23 Tryz.f23 .nil [] = some d23 := by kernel_rfl
theorem told24 : dF cx 8 24 Tryz.f24 .nil [] = some d24 := by kernel_rfl
theorem told36 : dF cx 8 36 Tryz.f36 .nil [] = some d36 := by kernel_rfl
theorem told37 : dF cx 8 37 Tryz.f37 (.mk none .nil (.mk none .nil (.mk none (.mk none .nil (.mk none (.mk (some [3, 6, 7, 8]) .nil .nil) .nil)) .nil))) [] = some d37 := by kernel_rfl
theorem told38 : dF cx 8 38 Tryz.f38 (.mk none .nil (.mk none .nil (.mk none (.mk none .nil (.mk none (.mk (some [3, 6, 7, 8]) (.mk none .nil (.mk none .nil (.mk none (.mk none (.mk none .nil (.mk none .nil (.mk (some [3, 6, 7, 8]) .nil .nil))) .nil) .nil))) .nil) .nil)) .nil))) [] = some d38 := by kernel_rfl
theorem told39 : dF cx 8 39 Tryz.f39 (.mk none .nil (.mk none .nil (.mk none .nil (.mk (some []) (.mk (some [1, 2, 3, 4, 21, 22, 23]) (.mk none .nil (.mk none .nil (.mk none (.mk (some [1, 2, 3, 4, 21, 22, 23]) .nil .nil) .nil))) .nil) .nil)))) [.nil] = some d39 := by kernel_rfl
theorem told40 : dF cx 8 40 Tryz.f40 (.mk none .nil (.mk none .nil (.mk none .nil (.mk none .nil (.mk none (.mk none (.mk (some [0, 4, 6, 7]) (.mk none .nil (.mk none (.mk none (.mk none (.mk none .nil (.mk none .nil (.mk (some [0, 4, 6, 7]) .nil .nil))) .nil) .nil) .nil)) .nil) .nil) (.mk none (.mk none .nil (.mk none (.mk (some [4, 7, 77, 78, 79]) .nil .nil) .nil)) .nil)))))) [] = some d40 := by kernel_rfl
theorem told41 : dF cx 8 41 Tryz.f41 .nil [] = some d41 := by kernel_rfl
theorem told42 : dF cx 8 42 Tryz.f42 .nil [] = some d42 := by kernel_rfl
theorem told43 : dF cx 8 43 Tryz.f43 .nil [] = some d43 := by kernel_rfl
theorem told44 : dF cx 8 44 Tryz.f44 (.mk none .nil (.mk none .nil (.mk none .nil (.mk (some []) .nil .nil)))) [.nil, .nil] = some d44 := by kernel_rfl
theorem told45 : dF cx 8 45 Tryz.f45 .nil [] = some d45 := by kernel_rfl
theorem told46 : dF cx 8 46 Tryz.f46 (.mk none .nil (.mk none .nil (.mk none (.mk none .nil (.mk none (.mk (some [1, 5, 8, 9, 10]) .nil .nil) .nil)) .nil))) [] = some d46 := by kernel_rfl
theorem told47 : dF cx 8 47 Tryz.f47 (.mk none .nil (.mk none .nil (.mk (some []) .nil .nil))) [.nil, .nil] = some d47 := by kernel_rfl
end Go.Proofs.YtheojbhaajbecaaGreat.XCodeN
