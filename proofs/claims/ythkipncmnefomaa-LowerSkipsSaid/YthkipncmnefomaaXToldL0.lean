/- A text of the verified executor, of contracts, or of this law; joined and trimmed by a program of mine (wip/gen). -/
import Derived.Test.YthkipncmnefomaaXCodeL
import Derived.Test.YthkipncmnefomaaRows
import Derived.WalkKit
import Derived.ProofKit
set_option linter.unusedVariables false
set_option linter.unusedSimpArgs false
set_option linter.unusedSectionVars false
set_option maxRecDepth 100000
namespace Go.Proofs.Ythkipncmnefomaa.XCodeL
open Go Go.X
noncomputable def cx : Cx := ⟨Try.prog, [63], path, fun _ => []⟩
theorem told4 : dF cx 8 4 Try.f4 (.mk none .nil (.mk none .nil (.mk none (.mk none .nil (.mk none (.mk (some [0, 1, 5, 6]) (.mk none .nil (.mk none (.mk none (.mk none .nil (.mk none (.mk none .nil (.mk (some [0, 1, 5, 6, 7]) .nil .nil)) .nil)) .nil) .nil)) .nil) .nil)) .nil))) [] = some d4 := by kernel_rfl
theorem told6 : dF cx 8 6 Try.f6 .nil [] = some d6 := by kernel_rfl
theorem told7 : dF cx 8 7 Try.f7 (.mk none .nil (.mk none .nil (.mk none .nil (.mk none (.mk none .nil (.mk none (.mk (some [2, 5, 27, 28, 29]) (.mk none .nil (.mk none .nil (.mk none (.mk none (.mk none .nil (.mk none .nil (.mk none .nil (.mk none (.mk none .nil (.mk none (.mk (some [2, 5, 8, 9, 27, 28, 29, 35, 36, 37]) (.mk none .nil (.mk none .nil (.mk none (.mk none (.mk none .nil (.mk none .nil (.mk none (.mk none .nil (.mk (some [2, 5, 8, 9, 12, 27, 28, 29, 35, 36, 37]) (.mk none .nil (.mk none (.mk (some [2, 5, 8, 9, 12, 27, 28, 29, 35, 36, 37, 55, 56, 57]) .nil .nil) .nil)) .nil)) (.mk none .nil (.mk none (.mk (some [2, 5, 8, 9, 27, 28, 29, 35, 36, 37, 70, 71, 72]) .nil .nil) .nil))))) .nil) .nil))) .nil) .nil)) .nil)))) .nil) .nil))) .nil) .nil)) .nil)))) [] = some d7 := by kernel_rfl
theorem told10 : dF cx 8 10 Try.f10 .nil [] = some d10 := by kernel_rfl
theorem told11 : dF cx 8 11 Try.f11 (.mk none .nil (.mk none .nil (.mk none (.mk none .nil (.mk (some [5]) .nil .nil)) .nil))) [] = some d11 := by kernel_rfl
theorem told12 : dF cx 8 12 Try.f12 (.mk none .nil (.mk none .nil (.mk none (.mk none .nil (.mk none (.mk (some [3, 6, 7, 8]) .nil .nil) .nil)) .nil))) [] = some d12 := by kernel_rfl
theorem told13 : dF cx 8 13 Try.f13 (.mk none .nil (.mk none .nil (.mk none .nil (.mk none .nil (.mk none (.mk none .nil (.mk none (.mk (some [1, 3, 4, 30, 31, 32]) (.mk none .nil (.mk none .nil (.mk none (.mk none (.mk none .nil (.mk none (.mk none .nil (.mk none (.mk (some [1, 3, 4, 6, 30, 31, 32, 36, 37, 38]) .nil .nil) .nil)) .nil)) .nil) .nil))) .nil) .nil)) .nil))))) [] = some d13 := by kernel_rfl
theorem told14 : dF cx 8 14 Try.f14 (.mk none .nil (.mk none .nil (.mk none .nil (.mk none .nil (.mk none .nil (.mk none .nil (.mk none (.mk none .nil (.mk none .nil (.mk (some [6]) .nil .nil))) .nil))))))) [] = some d14 := by kernel_rfl
theorem told19 : dF cx 8 19 Try.f19 (.mk none .nil (.mk none .nil (.mk none .nil (.mk none (.mk none .nil (.mk none (.mk none (.mk none .nil (.mk (some [4, 5, 17, 18]) .nil .nil)) (.mk none .nil (.mk none (.mk none .nil (.mk (some [4, 5, 17, 24]) .nil .nil)) .nil))) .nil)) .nil)))) [] = some d19 := by kernel_rfl
theorem told20 : dF cx 8 20 Try.f20 .nil [] = some d20 := by kernel_rfl
theorem told21 : dF cx 8 21 Try.f21 .nil [] = some d21 := by kernel_rfl
theorem told22 : dF cx 8 22 Try.f22 (.mk none .nil (.mk none .nil (.mk none (.mk none .nil (.mk none (.mk (some [3, 6, 7, 8]) .nil .nil) .nil)) .nil))) [] = some d22 := by kernel_rfl
theorem told23 : dF cx 8 23 Try.f23 (.mk none .nil (.mk none .nil (.mk none (.mk none .nil (.mk none (.mk (some [3, 6, 7, 8]) (.mk none .nil (.mk none .nil (.mk none (.mk none (.mk none .nil (.mk none .nil (.mk (some [3, 6, 7, 8]) .nil .nil))) .nil) .nil))) .nil) .nil)) .nil))) [] = some d23 := by kernel_rfl
theorem told24 : dF cx 8 24 Try.f24 .nil [] = some d24 := by kernel_rfl
theorem told25 : dF cx 8 25 Try.f25 (.mk none .nil (.mk (some []) .nil .nil)) [] = some d25 := by kernel_rfl
theorem told26 : dF cx 8 26 Try.f26 .nil [] = some d26 := by kernel_rfl
theorem told27 : dF cx 8 27 Try.f27 .nil [] = some d27 := by kernel_rfl
theorem told28 : dF cx 8 28 Try.f28 .nil [] = some d28 := by kernel_rfl
theorem told29 : dF cx 8 29 Try.f29 .nil [] = some d29 := by kernel_rfl
theorem told30 : dF cx 8 30 Try.f30 .nil [] = some d30 := by kernel_rfl
theorem told31 : dF cx 8 31 Try.f31 .nil [] = some d31 := by kernel_rfl
theorem told37 : dF cx 8 37 Try.f37 .nil [] = some d37 := by kernel_rfl
theorem told38 : dF cx 8 38 Try.f38 .nil [] = some d38 := by kernel_rfl
theorem told39 : dF cx 8 39 Try.f39 .nil [] = some d39 := by kernel_rfl
theorem told40 : dF cx 8 40 Try.f40 .nil [] = some d40 := by kernel_rfl
theorem told41 : dF cx 8 41 Try.f41 .nil [] = some d41 := by kernel_rfl
theorem told42 : dF cx 8 42 Try.f42 (.mk none .nil (.mk none (.mk none .nil (.mk (some [1, 2]) .nil .nil)) .nil)) [] = some d42 := by kernel_rfl
theorem told43 : dF cx 8 43 Try.f43 .nil [] = some d43 := by kernel_rfl
theorem told44 : dF cx 8 44 Try.f44 (.mk none .nil (.mk none .nil (.mk none (.mk none .nil (.mk none (.mk (some [3, 6, 7, 8]) (.mk none .nil (.mk none .nil (.mk none (.mk none (.mk none .nil (.mk none .nil (.mk (some [3, 6, 7, 8]) .nil .nil))) .nil) .nil))) .nil) .nil)) .nil))) [] = some d44 := by kernel_rfl
theorem told45 : dF cx 8 45 Try.f45 (.mk none .nil (.mk none .nil (.mk none (.mk none .nil (.mk none (.mk (some [0, 3, 6, 7, 8]) (.mk none .nil (.mk none .nil (.mk none (.mk none (.mk none .nil (.mk none .nil (.mk none .nil (.mk (some [0, 3, 6, 7, 8]) .nil .nil)))) .nil) .nil))) .nil) .nil)) .nil))) [] = some d45 := by kernel_rfl
theorem told49 : dF cx 8 49 Try.f49 .nil [] = some d49 := by kernel_rfl
theorem told50 : dF cx 8 50 Try.f50 (.mk none .nil (.mk none (.mk none .nil (.mk none (.mk (some [0, 1, 7, 8]) .nil .nil) .nil)) .nil)) [] = some d50 := by kernel_rfl
theorem told51 : dF cx 8 51 Try.f51 .nil [] = some d51 := by kernel_rfl
theorem told52 : dF cx 8 52 Try.f52 (.mk none .nil (.mk none .nil (.mk none (.mk none .nil (.mk none (.mk (some [0, 3]) (.mk none .nil (.mk none (.mk none (.mk none .nil (.mk none (.mk none .nil (.mk none (.mk none .nil (.mk none (.mk (some [0, 3, 4, 5]) (.mk none .nil (.mk none (.mk none (.mk none .nil (.mk (some [0, 3, 4, 5]) .nil .nil)) .nil) .nil)) .nil) .nil)) .nil)) .nil)) .nil) .nil)) .nil) .nil)) .nil))) [] = some d52 := by kernel_rfl
theorem told53 : dF cx 8 53 Try.f53 .nil [] = some d53 := by kernel_rfl
theorem told56 : dF cx 8 56 Try.f56 (.mk none .nil (.mk none .nil (.mk none (.mk (some [0, 1, 2, 3, 8, 9]) (.mk none (.mk none .nil (.mk none .nil (.mk none .nil (.mk none (.mk none .nil (.mk (some [0, 1, 2, 3, 8, 9, 10]) .nil .nil)) (.mk none .nil (.mk none (.mk none .nil (.mk (some [0, 1, 2, 3, 8, 9, 10, 11, 12]) .nil .nil)) (.mk none (.mk none .nil (.mk (some [0, 1, 2, 3, 8, 9, 10, 11]) .nil .nil)) .nil))))))) .nil) .nil) .nil))) [] = some d56 := by kernel_rfl
theorem told57 : dF cx 8 57 Try.f57 .nil [] = some d57 := by kernel_rfl
theorem told58 : dF cx 8 58 Try.f58 (.mk none .nil (.mk none (.mk (some [0, 1, 2, 6]) (.mk none .nil (.mk none (.mk none (.mk none .nil (.mk none (.mk (some [0, 1, 2, 6, 7]) .nil .nil) .nil)) .nil) .nil)) .nil) .nil)) [] = some d58 := by kernel_rfl
theorem told59 : dF cx 8 59 Try.f59 (.mk none .nil (.mk none .nil (.mk none .nil (.mk none (.mk none .nil (.mk none (.mk (some [0, 6, 7, 8, 9]) .nil .nil) .nil)) (.mk none .nil (.mk none (.mk (some [0, 6, 7, 10]) .nil .nil) .nil)))))) [] = some d59 := by kernel_rfl
theorem told60 : dF cx 8 60 Try.f60 (.mk none .nil (.mk none .nil (.mk (some []) (.mk none .nil (.mk none .nil (.mk none .nil (.mk none (.mk (some [0, 1, 6, 7, 8, 9]) (.mk none .nil (.mk none (.mk none (.mk none .nil (.mk none (.mk none .nil (.mk (some [0, 1, 6, 7, 8, 9, 10]) .nil .nil)) .nil)) .nil) .nil)) .nil) .nil)))) .nil))) [] = some d60 := by kernel_rfl
theorem told61 : dF cx 8 61 Try.f61 (.mk none .nil (.mk none .nil (.mk none .nil (.mk none .nil (.mk none .nil (.mk none .nil (.mk none (.mk none .nil (.mk (some [9, 11]) (.mk none (.mk none .nil (.mk (some [0, 9, 10, 11, 12]) .nil .nil)) .nil) .nil)) .nil))))))) [] = some d61 := by kernel_rfl
theorem told62 : dF cx 8 62 Try.f62 (.mk none .nil (.mk none .nil (.mk none (.mk (some [0, 6, 7]) .nil .nil) .nil))) [] = some d62 := by kernel_rfl
theorem told63 : dF cx 8 63 Try.f63 (.mk none .nil (.mk none .nil (.mk none (.mk none .nil (.mk none (.mk (some [0, 1, 2, 7, 8]) (.mk none .nil (.mk none (.mk none (.mk none (.mk none (.mk (some [0, 1, 2, 7, 8]) .nil .nil) .nil) (.mk none .nil (.mk none .nil (.mk none .nil (.mk none (.mk none .nil (.mk (some [0, 1, 2, 7, 8]) (.mk none .nil (.mk none (.mk (some [0, 1, 2, 7, 8, 9]) .nil .nil) .nil)) .nil)) (.mk none .nil (.mk (some [0, 1, 2, 7, 8]) (.mk none .nil (.mk none (.mk (some [0, 1, 2, 7, 8, 10]) .nil .nil) .nil)) .nil))))))) .nil) .nil)) .nil) .nil)) .nil))) [] = some d63 := by kernel_rfl
theorem told64 : dF cx 8 64 Try.f64 .nil [] = some d64 := by kernel_rfl
theorem told65 : dF cx 8 65 Try.f65 (.mk none .nil (.mk none .nil (.mk none .nil (.mk none (.mk none (.mk (some [0, 1, 9, 10]) (.mk none (.mk none (.mk none (.mk (some [0, 1, 9, 10]) .nil .nil) .nil) (.mk none (.mk none (.mk (some [0, 1, 9, 10]) .nil .nil) .nil) .nil)) .nil) .nil) .nil) .nil)))) [] = some d65 := by kernel_rfl
theorem told66 : dF cx 8 66 Try.f66 (.mk none .nil (.mk none .nil (.mk none .nil (.mk none (.mk none (.mk (some [0, 1, 10, 11]) .nil .nil) .nil) (.mk none (.mk none (.mk (some [0, 1, 10, 11]) .nil .nil) .nil) (.mk none .nil (.mk none .nil (.mk none .nil (.mk none .nil (.mk none (.mk none (.mk (some [0, 1, 10, 11]) (.mk none (.mk none (.mk none (.mk (some [0, 1, 10, 11]) .nil .nil) .nil) (.mk none (.mk none (.mk (some [0, 1, 10, 11]) .nil .nil) .nil) .nil)) .nil) .nil) .nil) .nil)))))))))) [] = some d66 := by kernel_rfl
theorem told67 : dF cx 8 67 Try.f67 (.mk none .nil (.mk none (.mk none .nil (.mk (some [0, 2]) .nil .nil)) (.mk none (.mk none .nil (.mk (some [0, 2]) .nil .nil)) .nil))) [] = some d67 := by kernel_rfl
theorem told68 : dF cx 8 68 Try.f68 (.mk none .nil (.mk none (.mk none .nil (.mk (some [0, 2]) .nil .nil)) (.mk none (.mk none .nil (.mk (some [0, 2]) .nil .nil)) (.mk none (.mk none .nil (.mk (some [0, 2]) .nil .nil)) .nil)))) [] = some d68 := by kernel_rfl
theorem told69 : dF cx 8 69 Try.f69 (.mk none .nil (.mk none (.mk (some [0, 2, 3, 8]) (.mk none (.mk none .nil (.mk none .nil (.mk none (.mk none .nil (.mk (some [0, 2, 3, 8, 9]) .nil .nil)) .nil))) .nil) .nil) .nil)) [] = some d69 := by kernel_rfl
theorem told70 : dF cx 8 70 Try.f70 .nil [] = some d70 := by kernel_rfl
theorem told71 : dF cx 8 71 Try.f71 .nil [] = some d71 := by kernel_rfl
theorem told72 : dF cx 8 72 Try.f72 .nil [] = some d72 := by kernel_rfl
theorem told73 : dF cx 8 73 Try.f73 .nil [] = some d73 := by kernel_rfl
theorem told74 : dF cx 8 74 Try.f74 .nil [] = some d74 := by kernel_rfl
theorem told75 : dF cx 8 75 Try.f75 .nil [] = some d75 := by kernel_rfl
end Go.Proofs.Ythkipncmnefomaa.XCodeL
