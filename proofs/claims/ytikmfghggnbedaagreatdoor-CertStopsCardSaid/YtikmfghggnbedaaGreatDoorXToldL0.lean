/- Each piece of compact code is what the executor makes of the loaded function. Printed by a program of mine (wip/tools/mkcode.py). -/
import Derived.Test.YtikmfghggnbedaaGreatDoorXCodeL
import Derived.Test.YtikmfghggnbedaaGreatDoorRows
import Derived.WalkKit
import Derived.ProofKit
set_option maxRecDepth 100000
namespace Go.Proofs.YtikmfghggnbedaaGreatDoor.XCodeL
open Go Go.X
noncomputable def cx : Cx := ⟨Tryz.prog, [79, 28], path, fun _ => []⟩
theorem told3 : dF cx 8 3 Tryz.f3 (.mk none .nil (.mk none .nil (.mk none .nil (.mk none .nil (.mk none (.mk none .nil (.mk none (.mk (some [1, 5, 6, 7, 8]) .nil .nil) .nil)) .nil))))) [] = some d3 := by kernel_rfl
theorem told4 : dF cx 8 4 Tryz.f4 (.mk none .nil (.mk none .nil (.mk none (.mk none .nil (.mk (some [5]) .nil .nil)) .nil))) [] = some d4 := by kernel_rfl
theorem told5 : dF cx 8 5 Tryz.f5 (.mk none .nil (.mk none .nil (.mk none .nil (.mk none (.mk none .nil (.mk none (.mk (some [1, 2, 4, 22, 23, 24]) .nil .nil) .nil)) .nil)))) [] = some d5 := by kernel_rfl
theorem told6 : dF cx 8 6 Tryz.f6 .nil [] = some d6 := by kernel_rfl
theorem told7 : dF cx 8 7 Tryz.f7 (.mk none .nil (.mk none .nil (.mk none .nil (.mk none .nil (.mk none (.mk none .nil (.mk none (.mk (some [1, 3, 4, 30, 31, 32]) (.mk none .nil (.mk none .nil (.mk none (.mk none (.mk none .nil (.mk none (.mk none .nil (.mk none (.mk (some [1, 3, 4, 6, 30, 31, 32, 36, 37, 38]) .nil .nil) .nil)) .nil)) .nil) .nil))) .nil) .nil)) .nil))))) [] = some d7 := by kernel_rfl
theorem told8 : dF cx 8 8 Tryz.f8 (.mk none .nil (.mk none .nil (.mk none .nil (.mk none .nil (.mk none .nil (.mk none .nil (.mk none (.mk none .nil (.mk none (.mk (some [2, 3, 4, 6, 7, 8, 9, 48, 49, 50]) (.mk none .nil (.mk none .nil (.mk none (.mk none (.mk none .nil (.mk none (.mk none .nil (.mk (some [2, 3, 4, 6, 7, 8, 9, 11, 48, 49, 50]) .nil .nil)) .nil)) .nil) .nil))) .nil) .nil)) .nil))))))) [] = some d8 := by kernel_rfl
theorem told9 : dF cx 8 9 Tryz.f9 (.mk none .nil (.mk none .nil (.mk none .nil (.mk none (.mk none (.mk (some [0, 4, 5]) .nil .nil) .nil) .nil)))) [] = some d9 := by kernel_rfl
theorem told10 : dF cx 8 10 Tryz.f10 (.mk none .nil (.mk none .nil (.mk none (.mk none .nil (.mk none (.mk (some [0, 3, 9, 10, 11]) .nil .nil) .nil)) .nil))) [] = some d10 := by kernel_rfl
theorem told11 : dF cx 8 11 Tryz.f11 .nil [] = some d11 := by kernel_rfl
theorem told12 : dF cx 8 12 Tryz.f12 (.mk none .nil (.mk none .nil (.mk none (.mk none .nil (.mk none (.mk (some [3, 6, 7, 8]) .nil .nil) .nil)) .nil))) [] = some d12 := by kernel_rfl
theorem told13 : dF cx 8 13 Tryz.f13 (.mk none .nil (.mk none .nil (.mk none (.mk none .nil (.mk none (.mk (some [3, 6, 7, 8]) (.mk none .nil (.mk none .nil (.mk none (.mk none (.mk none .nil (.mk none .nil (.mk (some [3, 6, 7, 8]) .nil .nil))) .nil) .nil))) .nil) .nil)) .nil))) [] = some d13 := by kernel_rfl
theorem told14 : dF cx 8 14 Tryz.f14 .nil [] = some d14 := by kernel_rfl
theorem told15 : dF cx 8 15 Tryz.f15 .nil [] = some d15 := by kernel_rfl
theorem told16 : dF cx 8 16 Tryz.f16 .nil [] = some d16 := by kernel_rfl
theorem told17 : dF cx 8 17 Tryz.f17 .nil [] = some d17 := by kernel_rfl
theorem told18 : dF cx 8 18 Tryz.f18 .nil [] = some d18 := by kernel_rfl
theorem told19 : dF cx 8 19 Tryz.f19 .nil [] = some d19 := by kernel_rfl
theorem told21 : dF cx 8 21 Tryz.f21 .nil [] = some d21 := by kernel_rfl
theorem told22 : dF cx 8 22 Tryz.f22 .nil [] = some d22 := by kernel_rfl
theorem told23 : dF cx 8 23 Tryz.f23 .nil [] = some d23 := by kernel_rfl
theorem told24 : dF cx 8 24 Tryz.f24 .nil [] = some d24 := by kernel_rfl
theorem told25 : dF cx 8 25 Tryz.f25 .nil [] = some d25 := by kernel_rfl
theorem told26 : dF cx 8 26 Tryz.f26 (.mk none .nil (.mk none .nil (.mk none (.mk none .nil (.mk none (.mk (some [0, 1, 12, 13]) .nil .nil) .nil)) .nil))) [] = some d26 := by kernel_rfl
theorem told27 : dF cx 8 27 Tryz.f27 .nil [] = some d27 := by kernel_rfl
theorem told28 : dF cx 8 28 Tryz.f28 .nil [] = some d28 := by kernel_rfl
theorem told29 : dF cx 8 29 Tryz.f29 .nil [] = some d29 := by kernel_rfl
theorem told30 : dF cx 8 30 Tryz.f30 (.mk none .nil (.mk none (.mk none .nil (.mk (some [1, 2]) .nil .nil)) .nil)) [] = some d30 := by kernel_rfl
theorem told31 : dF cx 8 31 Tryz.f31 .nil [] = some d31 := by kernel_rfl
theorem told34 : dF cx 8 34 Tryz.f34 .nil [] = some d34 := by kernel_rfl
theorem told46 : dF cx 8 46 Tryz.f46 .nil [] = some d46 := by kernel_rfl
theorem told47 : dF cx 8 47 Tryz.f47 .nil [] = some d47 := by kernel_rfl
theorem told50 : dF cx 8 50 Tryz.f50 .nil [] = some d50 := by kernel_rfl
theorem told51 : dF cx 8 51 Tryz.f51 (.mk none .nil (.mk none (.mk none .nil (.mk none (.mk (some [0, 1, 7, 8]) .nil .nil) .nil)) .nil)) [] = some d51 := by kernel_rfl
theorem told52 : dF cx 8 52 Tryz.f52 .nil [] = some d52 := by kernel_rfl
theorem told53 : dF cx 8 53 Tryz.f53 .nil [] = some d53 := by kernel_rfl
theorem told54 : dF cx 8 54 Tryz.f54 (.mk none .nil (.mk (some []) .nil .nil)) [] = some d54 := by kernel_rfl
theorem told56 : dF cx 8 56 Tryz.f56 .nil [] = some d56 := by kernel_rfl
theorem told57 : dF cx 8 57 Tryz.f57 .nil [] = some d57 := by kernel_rfl
theorem told58 : dF cx 8 58 Tryz.f58 (.mk none .nil (.mk none (.mk none .nil (.mk none (.mk (some [0, 1, 7, 8]) .nil .nil) .nil)) .nil)) [] = some d58 := by kernel_rfl
theorem told59 : dF cx 8 59 Tryz.f59 .nil [] = some d59 := by kernel_rfl
theorem told60 : dF cx 8 60 Tryz.f60 (.mk none .nil (.mk none .nil (.mk none (.mk none .nil (.mk none (.mk (some [0, 3]) (.mk none .nil (.mk none (.mk none (.mk none .nil (.mk none (.mk none .nil (.mk none (.mk none .nil (.mk none (.mk (some [0, 3, 4, 5]) (.mk none .nil (.mk none (.mk none (.mk none .nil (.mk (some [0, 3, 4, 5]) .nil .nil)) .nil) .nil)) .nil) .nil)) .nil)) .nil)) .nil) .nil)) .nil) .nil)) .nil))) [] = some d60 := by kernel_rfl
theorem told62 : dF cx 8 62 Tryz.f62 .nil [] = some d62 := by kernel_rfl
theorem told63 : dF cx 8 63 Tryz.f63 .nil [] = some d63 := by kernel_rfl
theorem told64 : dF cx 8 64 Tryz.f64 .nil [] = some d64 := by kernel_rfl
theorem told65 : dF cx 8 65 Tryz.f65 .nil [] = some d65 := by kernel_rfl
theorem told70 : dF cx 8 70 Tryz.f70 .nil [] = some d70 := by kernel_rfl
theorem told71 : dF cx 8 71 Tryz.f71 .nil [] = some d71 := by kernel_rfl
theorem told73 : dF cx 8 73 Tryz.f73 (.mk none .nil (.mk none .nil (.mk none .nil (.mk none (.mk none .nil (.mk (some [0, 1, 2, 3]) .nil .nil)) (.mk none .nil (.mk none .nil (.mk none .nil (.mk none .nil (.mk none (.mk (some [0, 9, 10]) (.mk (some [0, 1, 2, 3, 9, 10]) .nil .nil) .nil) .nil))))))))) [] = some d73 := by kernel_rfl
theorem told78 : dF cx 8 78 Tryz.f78 (.mk none .nil (.mk none (.mk none .nil (.mk none (.mk none .nil (.mk none .nil (.mk none .nil (.mk none (.mk none .nil (.mk (some [0, 5, 6]) .nil .nil)) .nil)))) .nil)) .nil)) [] = some d78 := by kernel_rfl
theorem told79 : dF cx 8 79 Tryz.f79 (.mk none .nil (.mk none .nil (.mk none (.mk (some [0, 1, 2, 3, 8, 9]) (.mk none (.mk none .nil (.mk none .nil (.mk none .nil (.mk none (.mk none .nil (.mk (some [0, 1, 2, 3, 8, 9, 10]) .nil .nil)) (.mk none .nil (.mk none (.mk none .nil (.mk (some [0, 1, 2, 3, 8, 9, 10, 11, 12]) .nil .nil)) (.mk none (.mk none .nil (.mk (some [0, 1, 2, 3, 8, 9, 10, 11]) .nil .nil)) .nil))))))) .nil) .nil) .nil))) [] = some d79 := by kernel_rfl
theorem told80 : dF cx 8 80 Tryz.f80 .nil [] = some d80 := by kernel_rfl
theorem told81 : dF cx 8 81 Tryz.f81 (.mk none .nil (.mk none .nil (.mk none (.mk none .nil (.mk none (.mk (some [3, 6, 7, 8]) (.mk none .nil (.mk none .nil (.mk none (.mk none (.mk none .nil (.mk none .nil (.mk (some [3, 6, 7, 8]) .nil .nil))) .nil) .nil))) .nil) .nil)) .nil))) [] = some d81 := by kernel_rfl
theorem told94 : dF cx 8 94 Tryz.f94 .nil [] = some d94 := by kernel_rfl
theorem told98 : dF cx 8 98 Tryz.f98 (.mk none .nil (.mk none (.mk (some [0, 1, 2, 6]) (.mk none .nil (.mk none (.mk none (.mk none .nil (.mk none (.mk (some [0, 1, 2, 6, 7]) .nil .nil) .nil)) .nil) .nil)) .nil) .nil)) [] = some d98 := by kernel_rfl
theorem told108 : dF cx 8 108 Tryz.f108 (.mk none .nil (.mk none (.mk none .nil (.mk (some [0, 2]) .nil .nil)) (.mk none (.mk none .nil (.mk (some [0, 2]) .nil .nil)) (.mk none (.mk none .nil (.mk (some [0, 2]) .nil .nil)) .nil)))) [] = some d108 := by kernel_rfl
end Go.Proofs.YtikmfghggnbedaaGreatDoor.XCodeL
