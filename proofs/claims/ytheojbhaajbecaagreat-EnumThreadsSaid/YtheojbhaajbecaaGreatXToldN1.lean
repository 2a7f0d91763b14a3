/- Each piece of compact code is what the executor makes of the loaded function. Printed by a program of mine (wip/tools/mkcode.py). -/
import Derived.Test.YtheojbhaajbecaaGreatXToldN0
import Derived.Test.YtheojbhaajbecaaGreatXCodeN
import Derived.Test.YtheojbhaajbecaaGreatRows
import Derived.WalkKit
import Derived.ProofKit
set_option maxRecDepth 100000
namespace Go.Proofs.YtheojbhaajbecaaGreat.XCodeN
open Go Go.X
theorem told48 : dF cx 8 48 Tryz.f48 .nil [] = some d48 := by kernel_rfl
theorem told49 : dF cx 8 49 Tryz.f49 (.mk none .nil (.mk none .nil (.mk none (.mk none .nil (.mk none (.mk (some [1, 3, 10, 11, 12]) (.mk none .nil (.mk none .nil (.mk none (.mk none (.mk none .nil (.mk none .nil (.mk none (.mk none .nil (.mk (some [1, 3, 5, 6, 10, 11, 12]) .nil .nil)) (.mk none (.mk none .nil (.mk none (.mk (some [1, 3, 5, 6, 10, 11, 12, 24, 25, 26]) (.mk none .nil (.mk none .nil (.mk none (.mk none (.mk none .nil (.mk none .nil (.mk (some [1, 3, 5, 6, 10, 11, 12, 24, 25, 26]) .nil .nil))) .nil) .nil))) .nil) .nil)) .nil)))) .nil) .nil))) .nil) .nil)) .nil))) [] = some d49 := by kernel_rfl
theorem told50 : dF cx 8 50 Tryz.f50 (.mk none .nil (.mk none .nil (.mk none (.mk none .nil (.mk none (.mk (some [1, 3, 9, 10]) (.mk none .nil (.mk none .nil (.mk none (.mk none (.mk none .nil (.mk none .nil (.mk none (.mk none .nil (.mk none (.mk (some [1, 3, 4, 5, 9, 10, 17, 18, 19]) (.mk none .nil (.mk none .nil (.mk none (.mk none (.mk none .nil (.mk none .nil (.mk (some [1, 3, 4, 5, 9, 10, 17, 18, 19]) .nil .nil))) .nil) .nil))) .nil) .nil)) .nil))) .nil) .nil))) .nil) .nil)) .nil))) [] = some d50 := by kernel_rfl
theorem told51 : dF cx 8 51 Tryz.f51 (.mk none .nil (.mk none (.mk none .nil (.mk (some [2]) .nil .nil)) .nil)) [.nil] = some d51 := by kernel_rfl
theorem told62 : dF cx 8 62 Tryz.f62 .nil [] = some d62 := by kernel_rfl
theorem told63 : dF cx 8 63 Tryz.f63 .nil [] = some d63 := by kernel_rfl
theorem told64 : dF cx 8 64 Tryz.f64 .nil [] = some d64 := by kernel_rfl
theorem told65 : dF cx 8 65 Tryz.f65 (.mk none .nil (.mk none (.mk none .nil (.mk (some [1, 2]) .nil .nil)) .nil)) [] = some d65 := by kernel_rfl
theorem told66 : dF cx 8 66 Tryz.f66 (.mk none .nil (.mk none .nil (.mk none (.mk none .nil (.mk none (.mk (some [3, 6, 7, 8]) (.mk none .nil (.mk none .nil (.mk none (.mk none (.mk none .nil (.mk none .nil (.mk (some [3, 6, 7, 8]) .nil .nil))) .nil) .nil))) .nil) .nil)) .nil))) [] = some d66 := by kernel_rfl
theorem told67 : dF cx 8 67 Tryz.f67 (.mk none .nil (.mk none .nil (.mk none (.mk none .nil (.mk none (.mk (some [0, 3, 6, 7, 8]) (.mk none .nil (.mk none .nil (.mk none (.mk none (.mk none .nil (.mk none .nil (.mk none .nil (.mk (some [0, 3, 6, 7, 8]) .nil .nil)))) .nil) .nil))) .nil) .nil)) .nil))) [] = some d67 := by kernel_rfl
theorem told68 : dF cx 8 68 Tryz.f68 .nil [] = some d68 := by kernel_rfl
theorem told69 : dF cx 8 69 Tryz.f69 .nil [] = some d69 := by kernel_rfl
theorem told70 : dF cx 8 70 Tryz.f70 .nil [] = some d70 := by kernel_rfl
theorem told71 : dF cx 8 71 Tryz.f71 .nil [] = some d71 := by kernel_rfl
theorem told72 : dF cx 8 72 Tryz.f72 .nil [] = some d72 := by kernel_rfl
theorem told73 : dF cx 8 73 Tryz.f73 (.mk none .nil (.mk none .nil (.mk none .nil (.mk (some []) .nil .nil)))) [] = some d73 := by kernel_rfl
theorem told74 : dF cx 8 74 Tryz.f74 .nil [] = some d74 := by kernel_rfl
theorem told75 : dF cx 8 75 Tryz.f75 .nil [] = some d75 := by kernel_rfl
theorem told76 : dF cx 8 76 Tryz.f76 (.mk none .nil (.mk none (.mk none .nil (.mk none (.mk (some [0, 1, 7, 8]) .nil .nil) .nil)) .nil)) [] = some d76 := by kernel_rfl
theorem told77 : dF cx 8 77 Tryz.f77 (.mk none .nil (.mk none (.mk (some [0, 2, 8, 9]) (.mk none .nil (.mk none .nil (.mk none (.mk none (.mk none .nil (.mk none .nil (.mk none (.mk none .nil (.mk (some [0, 2, 4, 5, 8, 9]) .nil .nil)) .nil))) .nil) .nil))) .nil) .nil)) [] = some d77 := by kernel_rfl
theorem told78 : dF cx 8 78 Tryz.f78 (.mk none .nil (.mk none .nil (.mk none .nil (.mk (some []) .nil .nil)))) [.nil, .nil] = some d78 := by kernel_rfl
theorem told79 : dF cx 8 79 Tryz.f79 .nil [] = some d79 := by kernel_rfl
theorem told80 : dF cx 8 80 Tryz.f80 .nil [] = some d80 := by kernel_rfl
theorem told82 : dF cx 8 82 Tryz.f82 .nil [] = some d82 := by kernel_rfl
theorem told105 : dF cx 8 105 Tryz.f105 .nil [] = some d105 := by kernel_rfl
theorem told106 : dF cx 8 106 Tryz.f106 .nil [] = some d106 := by kernel_rfl
theorem told107 : dF cx 8 107 Tryz.f107 (.mk none .nil (.mk none .nil (.mk none (.mk none .nil (.mk none (.mk (some [0, 3]) (.mk none .nil (.mk none (.mk none (.mk none .nil (.mk none (.mk none .nil (.mk none (.mk none .nil (.mk none (.mk (some [0, 3, 4, 5]) (.mk none .nil (.mk none (.mk none (.mk none .nil (.mk (some [0, 3, 4, 5]) .nil .nil)) .nil) .nil)) .nil) .nil)) .nil)) .nil)) .nil) .nil)) .nil) .nil)) .nil))) [] = some d107 := by kernel_rfl
end Go.Proofs.YtheojbhaajbecaaGreat.XCodeN
