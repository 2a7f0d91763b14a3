/- Each piece of compact code is what the executor makes of the loaded function. Printed by a program of mine (wip/tools/mkcode.py). -/
import Derived.Test.YtheojbhaajbecaaGreatXCodeB
import Derived.Test.YtheojbhaajbecaaGreatRows
import Derived.WalkKit
import Derived.ProofKit
set_option maxRecDepth 100000
namespace Go.Proofs.YtheojbhaajbecaaGreat.XCodeB
open Go Go.X
noncomputable def cx : Cx := ⟨Tryz.prog, [108, 87], path, fun _ => []⟩
theorem told6 : dF cx 8 6 Tryz.f6 .nil [] = some d6 := by kernel_rfl
theorem told7 : dF cx 8 7 Tryz.f7 (.mk none .nil (.mk none .nil (.mk none .nil (.mk none .nil (.mk none (.mk none .nil (.mk none (.mk (some [6, 7, 8, 9, 10]) (.mk none .nil (.mk none (.mk none (.mk none .nil (.mk none (.mk (some [6, 7, 8, 9, 10, 11]) (.mk none .nil (.mk none (.mk none (.mk none .nil (.mk (some [6, 7, 8, 9, 10, 11]) .nil .nil)) .nil) .nil)) .nil) .nil)) .nil) .nil)) .nil) .nil)) .nil))))) [] = some d7 := by kernel_rfl
theorem told8 : dF cx 8 8 Tryz.f8 (.mk none .nil (.mk none .nil (.mk none (.mk none .nil (.mk (some [5]) .nil .nil)) .nil))) [] = some d8 := by kernel_rfl
theorem told9 : dF cx 8 9 Tryz.f9 (.mk none .nil (.mk none .nil (.mk none .nil (.mk none (.mk none .nil (.mk none (.mk (some [1, 2, 4, 5, 6, 18, 19, 20]) .nil .nil) .nil)) (.mk none .nil (.mk none (.mk none .nil (.mk (some [4, 5, 9]) .nil .nil)) .nil)))))) [.nil, .nil] = some d9 := by kernel_rfl
theorem told13 : dF cx 8 13 Tryz.f13 (.mk none .nil (.mk none .nil (.mk none .nil (.mk none .nil (.mk none (.mk none .nil (.mk none (.mk (some [8, 22, 23, 24]) (.mk none .nil (.mk none .nil (.mk none (.mk none (.mk none .nil (.mk none .nil (.mk none .nil (.mk (some [8, 22, 23, 24]) .nil .nil)))) .nil) .nil))) .nil) .nil)) .nil))))) [] = some d13 := by kernel_rfl
theorem told14 : dF cx 8 14 Tryz.f14 (.mk none .nil (.mk none .nil (.mk none .nil (.mk none .nil (.mk none .nil (.mk none .nil (.mk none (.mk none .nil (.mk (some [0, 4, 6, 7, 8, 9]) .nil .nil)) (.mk none .nil (.mk none (.mk none .nil (.mk none (.mk none .nil (.mk (some [4, 10]) .nil .nil)) .nil)) .nil))))))))) [] = some d14 := by kernel_rfl
theorem told15 : dF cx 8 15 Tryz.f15 (.mk none .nil (.mk none (.mk none .nil (.mk none (.mk (some [0, 1, 5]) .nil .nil) .nil)) .nil)) [] = some d15 := by kernel_rfl
theorem told16 : dF cx 8 16 Tryz.f16 .nil [] = some d16 := by kernel_rfl
theorem told17 : dF cx 8 17 Tryz.f17 (.mk none .nil (.mk none (.mk none .nil (.mk none (.mk (some [0, 1, 5]) .nil .nil) .nil)) .nil)) [] = some d17 := by kernel_rfl
theorem told18 : dF cx 8 18 Tryz.f18 (.mk none .nil (.mk none .nil (.mk none .nil (.mk none .nil (.mk none (.mk none .nil (.mk none (.mk (some [1, 3, 4, 30, 31, 32]) (.mk none .nil (.mk none .nil (.mk none (.mk none (.mk none .nil (.mk none (.mk none .nil (.mk none (.mk (some [1, 3, 4, 6, 30, 31, 32, 36, 37, 38]) .nil .nil) .nil)) .nil)) .nil) .nil))) .nil) .nil)) .nil))))) [] = some d18 := by kernel_rfl
theorem told19 : dF cx 8 19 Tryz.f19 .nil [] = some d19 := by kernel_rfl
theorem told20 : dF cx 8 20 Tryz.f20 (.mk none .nil (.mk none .nil (.mk none (.mk none .nil (.mk none (.mk (some [3, 10, 11, 12]) (.mk none .nil (.mk none .nil (.mk none (.mk none (.mk none .nil (.mk none .nil (.mk (some [3, 10, 11, 12]) .nil .nil))) .nil) .nil))) .nil) .nil)) .nil))) [] = some d20 := by kernel_rfl
theorem told21 : dF cx 8 21 Tryz.f21 .nil [] = some d21 := by kernel_rfl
theorem told22 : dF cx 8 22 Tryz.f22 (.mk none .nil (.mk none .nil (.mk none .nil (.mk none (.mk none .nil (.mk none (.mk (some [1, 2, 4, 5, 6, 23, 24]) .nil .nil) .nil)) (.mk none (.mk none .nil (.mk (some [4, 5, 6]) .nil .nil)) .nil))))) [(.mk none .nil (.mk none (.mk none .nil (.mk none .nil (.mk none .nil (.mk none (.mk none .nil (.mk none (.mk (some [6, 8, 10, 12, 64, 65, 66]) .nil .nil) .nil)) .nil)))) .nil))] = some d22 := by kernel_rfl
theorem told23 : dF cx 8 23 Tryz.f23 .nil [] = some d23 := by kernel_rfl
theorem told25 : dF cx 8 25 Tryz.f25 (.mk none .nil (.mk none .nil (.mk none (.mk none .nil (.mk none (.mk (some [3, 6, 7, 8]) .nil .nil) .nil)) .nil))) [] = some d25 := by kernel_rfl
theorem told26 : dF cx 8 26 Tryz.f26 (.mk none .nil (.mk none .nil (.mk none (.mk none .nil (.mk none (.mk (some [1, 3, 9, 10, 11]) (.mk none .nil (.mk none .nil (.mk none (.mk none (.mk none .nil (.mk none .nil (.mk none (.mk none .nil (.mk none .nil (.mk (some [1, 3, 6, 9, 10, 11]) .nil .nil))) .nil))) .nil) .nil))) .nil) .nil)) .nil))) [] = some d26 := by kernel_rfl
theorem told27 : dF cx 8 27 Tryz.f27 .nil [] = some d27 := by kernel_rfl
theorem told28 : dF cx 8 28 Tryz.f28 (.mk none .nil (.mk none .nil (.mk none .nil (.mk none (.mk none .nil (.mk none (.mk (some [20, 21, 22]) .nil .nil) .nil)) .nil)))) [] = some d28 := by kernel_rfl
theorem told29 : dF cx 8 29 Tryz.f29 .nil [] = some d29 := by kernel_rfl
theorem told30 : dF cx 8 30 Tryz.f30 .nil [] = some d30 := by kernel_rfl
theorem told31 : dF cx 8 31 Tryz.f31 .nil [] = some d31 := by kernel_rfl
theorem told32 : dF cx 8 32 Tryz.f32 .nil [] = some d32 := by kernel_rfl
theorem told33 : dF cx 8 33 Tryz.f33 .nil [] = some d33 := by kernel_rfl
theorem told34 : dF cx 8 34 Tryz.f34 .nil [] = some d34 := by kernel_rfl
theorem told35 : dF cx 8 35 Tryz.f35 (.mk none .nil (.mk none .nil (.mk none (.mk none .nil (.mk none (.mk (some [0, 1, 5]) .nil .nil) .nil)) .nil))) [] = some d35 := by kernel_rfl
theorem told36 : dF cx 8 36 Tryz.f36 .nil [] = some d36 := by kernel_rfl
theorem told37 : dF cx 8 37 Tryz.f37 (.mk none .nil (.mk none .nil (.mk none (.mk none .nil (.mk none (.mk (some [3, 6, 7, 8]) .nil .nil) .nil)) .nil))) [] = some d37 := by kernel_rfl
theorem told38 : dF cx 8 38 Tryz.f38 (.mk none .nil (.mk none .nil (.mk none (.mk none .nil (.mk none (.mk (some [3, 6, 7, 8]) (.mk none .nil (.mk none .nil (.mk none (.mk none (.mk none .nil (.mk none .nil (.mk (some [3, 6, 7, 8]) .nil .nil))) .nil) .nil))) .nil) .nil)) .nil))) [] = some d38 := by kernel_rfl
theorem told39 : dF cx 8 39 Tryz.f39 (.mk none .nil (.mk none .nil (.mk none .nil (.mk (some []) (.mk (some [1, 2, 3, 4, 21, 22, 23]) (.mk none .nil (.mk none .nil (.mk none (.mk (some [1, 2, 3, 4, 21, 22, 23]) .nil .nil) .nil))) .nil) .nil)))) [.nil] = some d39 := by kernel_rfl
theorem told40 : dF cx 8 40 Tryz.f40 (.mk none .nil (.mk none .nil (.mk none .nil (.mk none .nil (.mk none (.mk none (.mk (some [0, 4, 6, 7]) (.mk none .nil (.mk none (.mk none (.mk none (.mk none .nil (.mk none .nil (.mk (some [0, 4, 6, 7]) .nil .nil))) .nil) .nil) .nil)) .nil) .nil) (.mk none (.mk none .nil (.mk none (.mk (some [4, 7, 77, 78, 79]) .nil .nil) .nil)) .nil)))))) [] = some d40 := by kernel_rfl
theorem told41 : dF cx 8 41 Tryz.f41 .nil [] = some d41 := by kernel_rfl
theorem told42 : dF cx 8 42 Tryz.f42 .nil [] = some d42 := by kernel_rfl
theorem told43 : dF cx 8 43 Tryz.f43 .nil [] = some d43 := by kernel_rfl
theorem told44 : dF cx 8 44 Tryz.f44 (.mk none .nil (.mk none .nil (.mk none .nil (.mk (some []) .nil .nil)))) [.nil, .nil] = some d44 := by kernel_rfl
theorem told45 : dF cx 8 45 Tryz.f45 .nil [] = some d45 := by kernel_rfl
theorem told46 : dF cx 8 46 Tryz.f46 (.mk none .nil (.mk none .nil (.mk none (.mk none .nil (.mk none (.mk (some [1, 5, 8, 9, 10]) .nil .nil) .nil)) .nil))) [] = some d46 := by kernel_rfl
theorem told47 : dF cx 8 47 Tryz.f47 (.mk none .nil (.mk none .nil (.mk (some []) .nil .nil))) [.nil, .nil] = some d47 := by kernel_rfl
theorem told48 : dF cx 8 48 Tryz.f48 .nil [] = some d48 := by kernel_rfl
theorem told49 : dF cx 8 49 Tryz.f49 (.mk none .nil (.mk none .nil (.mk none (.mk none .nil (.mk none (.mk (some [1, 3, 10, 11, 12]) (.mk none .nil (.mk none .nil (.mk none (.mk none (.mk none .nil (.mk none .nil (.mk none (.mk none .nil (.mk (some [1, 3, 5, 6, 10, 11, 12]) .nil .nil)) (.mk none (.mk none .nil (.mk none (.mk (some [1, 3, 5, 6, 10, 11, 12, 24, 25, 26]) (.mk none .nil (.mk none .nil (.mk none (.mk none (.mk none .nil (.mk none .nil (.mk (some [1, 3, 5, 6, 10, 11, 12, 24, 25, 26]) .nil .nil))) .nil) .nil))) .nil) .nil)) .nil)))) .nil) .nil))) .nil) .nil)) .nil))) [] = some d49 := by kernel_rfl
theorem told50 : dF cx 8 50 Tryz.f50 (.mk none .nil (.mk none .nil (.mk none (.mk none .nil (.mk none (.mk (some [1, 3, 9, 10]) (.mk none .nil (.mk none .nil (.mk none (.mk none (.mk none .nil (.mk none .nil (.mk none (.mk none .nil (.mk none (.mk (some [1, 3, 4, 5, 9, 10, 17, 18, 19]) (.mk none .nil (.mk none .nil (.mk none (.mk none (.mk none .nil (.mk none .nil (.mk (some [1, 3, 4, 5, 9, 10, 17, 18, 19]) .nil .nil))) .nil) .nil))) .nil) .nil)) .nil))) .nil) .nil))) .nil) .nil)) .nil))) [] = some d50 := by kernel_rfl
theorem told52 : dF cx 8 52 Tryz.f52 .nil [] = some d52 := by kernel_rfl
theorem told53 : dF cx 8 53 Tryz.f53 .nil [] = some d53 := by kernel_rfl
theorem told54 : dF cx 8 54 Tryz.f54 (.mk none .nil (.mk none .nil (.mk none (.mk none .nil (.mk none (.mk (some [0, 1, 5]) (.mk none .nil (.mk none (.mk none (.mk none .nil (.mk none (.mk none .nil (.mk none (.mk none .nil (.mk none (.mk (some [0, 1, 5, 6, 7]) (.mk none .nil (.mk none (.mk none (.mk none .nil (.mk (some [0, 1, 5, 6, 7]) .nil .nil)) .nil) .nil)) .nil) .nil)) .nil)) .nil)) .nil) .nil)) .nil) .nil)) .nil))) [] = some d54 := by kernel_rfl
theorem told55 : dF cx 8 55 Tryz.f55 .nil [] = some d55 := by kernel_rfl
theorem told56 : dF cx 8 56 Tryz.f56 .nil [] = some d56 := by kernel_rfl
theorem told57 : dF cx 8 57 Tryz.f57 .nil [] = some d57 := by kernel_rfl
theorem told58 : dF cx 8 58 Tryz.f58 .nil [] = some d58 := by kernel_rfl
theorem told59 : dF cx 8 59 Tryz.f59 (.mk none .nil (.mk none .nil (.mk none .nil (.mk none (.mk none .nil (.mk none (.mk (some [4, 19, 20]) .nil .nil) .nil)) .nil)))) [] = some d59 := by kernel_rfl
theorem told60 : dF cx 8 60 Tryz.f60 .nil [] = some d60 := by kernel_rfl
theorem told61 : dF cx 8 61 Tryz.f61 .nil [] = some d61 := by kernel_rfl
theorem told62 : dF cx 8 62 Tryz.f62 .nil [] = some d62 := by kernel_rfl
theorem told63 : dF cx 8 63 Tryz.f63 .nil [] = some d63 := by kernel_rfl
theorem told64 : dF cx 8 64 Tryz.f64 .nil [] = some d64 := by kernel_rfl
theorem told65 : dF cx 8 65 Tryz.f65 (.mk none .nil (.mk none (.mk none .nil (.mk (some [1, 2]) .nil .nil)) .nil)) [] = some d65 := by kernel_rfl
theorem told66 : dF cx 8 66 Tryz.f66 (.mk none .nil (.mk none .nil (.mk none (.mk none .nil (.mk none (.mk (some [3, 6, 7, 8]) (.mk none .nil (.mk none .nil (.mk none (.mk none (.mk none .nil (.mk none .nil (.mk (some [3, 6, 7, 8]) .nil .nil))) .nil) .nil))) .nil) .nil)) .nil))) [] = some d66 := by kernel_rfl
theorem told67 : dF cx 8 67 Tryz.f67 (.mk none .nil (.mk none .nil (.mk none (.mk none .nil (.mk none (.mk (some [0, 3, 6, 7, 8]) (.mk none .nil (.mk none .nil (.mk none (.mk none (.mk none .nil (.mk none .nil (.mk none .nil (.mk (some [0, 3, 6, 7, 8]) .nil .nil)))) .nil) .nil))) .nil) .nil)) .nil))) [] = some d67 := by kernel_rfl
theorem told68 : dF cx 8 68 Tryz.f68 .nil [] = some d68 := by kernel_rfl
theorem told69 : dF cx 8 69 Tryz.f69 .nil [] = some d69 := by kernel_rfl
theorem told70 : dF cx 8 70 Tryz.f70 .nil [] = some d70 := by kernel_rfl
theorem told71 : dF cx 8 71 Tryz.f71 .nil [] = some d71 := by kernel_rfl
theorem told72 : dF cx 8 72 Tryz.f72 .nil [] = some d72 := by kernel_rfl
theorem told73 : dF cx 8 73 Tryz.f73 (.mk none .nil (.mk none .nil (.mk none .nil (.mk (some []) .nil .nil)))) [] = some d73 := by kernel_rfl
theorem told74 : dF cx 8 74 Tryz.f74 .nil [] = some d74 := by kernel_rfl
theorem told75 : dF cx 8 75 Tryz.f75 .nil [] = some d75 := by kernel_rfl
theorem told76 : dF cx 8 76 Tryz.f76 (.mk none .nil (.mk none (.mk none .nil (.mk none (.mk (some [0, 1, 7, 8]) .nil .nil) .nil)) .nil)) [] = some d76 := by kernel_rfl
theorem told77 : dF cx 8 77 Tryz.f77 (.mk none .nil (.mk none (.mk (some [0, 2, 8, 9]) (.mk none .nil (.mk none .nil (.mk none (.mk none (.mk none .nil (.mk none .nil (.mk none (.mk none .nil (.mk (some [0, 2, 4, 5, 8, 9]) .nil .nil)) .nil))) .nil) .nil))) .nil) .nil)) [] = some d77 := by kernel_rfl
theorem told78 : dF cx 8 78 Tryz.f78 (.mk none .nil (.mk none .nil (.mk none .nil (.mk (some []) .nil .nil)))) [.nil, .nil] = some d78 := by kernel_rfl
theorem told79 : dF cx 8 79 Tryz.f79 .nil [] = some d79 := by kernel_rfl
theorem told80 : dF cx 8 80 Tryz.f80 .nil [] = some d80 := by kernel_rfl
theorem told81 : dF cx 8 81 Tryz.f81 (.mk none .nil (.mk none .nil (.mk none (.mk (some [0, 1, 2, 3, 4, 10, 11]) (.mk none (.mk none .nil (.mk none .nil (.mk none .nil (.mk none (.mk none .nil (.mk (some [0, 1, 2, 3, 4, 10, 11, 12]) .nil .nil)) (.mk none .nil (.mk none (.mk none .nil (.mk (some [0, 1, 2, 3, 4, 10, 11, 12, 13, 14]) .nil .nil)) (.mk none (.mk none .nil (.mk (some [0, 1, 2, 3, 4, 10, 11, 12, 13]) .nil .nil)) .nil))))))) .nil) .nil) .nil))) [] = some d81 := by kernel_rfl
theorem told82 : dF cx 8 82 Tryz.f82 .nil [] = some d82 := by kernel_rfl
theorem told83 : dF cx 8 83 Tryz.f83 (.mk none .nil (.mk none (.mk none .nil (.mk none (.mk (some [0, 1, 9, 10, 11]) .nil .nil) .nil)) .nil)) [] = some d83 := by kernel_rfl
theorem told84 : dF cx 8 84 Tryz.f84 (.mk none .nil (.mk none (.mk none .nil (.mk none (.mk (some [0, 1, 7, 8]) .nil .nil) .nil)) .nil)) [] = some d84 := by kernel_rfl
theorem told85 : dF cx 8 85 Tryz.f85 (.mk none .nil (.mk none (.mk none .nil (.mk none (.mk (some [1, 5, 6]) .nil .nil) .nil)) .nil)) [] = some d85 := by kernel_rfl
theorem told86 : dF cx 8 86 Tryz.f86 (.mk none .nil (.mk none .nil (.mk none (.mk none .nil (.mk none (.mk (some [1, 3, 10, 11, 12]) .nil .nil) .nil)) .nil))) [] = some d86 := by kernel_rfl
theorem told87 : dF cx 8 87 Tryz.f87 (.mk none .nil (.mk none .nil (.mk none (.mk none .nil (.mk none (.mk (some [1, 14, 15, 16]) .nil .nil) .nil)) .nil))) [] = some d87 := by kernel_rfl
theorem told88 : dF cx 8 88 Tryz.f88 (.mk none .nil (.mk none .nil (.mk none .nil (.mk none .nil (.mk none (.mk none .nil (.mk none (.mk (some [1, 3, 4, 18, 19, 20]) (.mk none .nil (.mk none .nil (.mk none (.mk none (.mk none .nil (.mk none .nil (.mk none .nil (.mk none (.mk (some [1, 3, 4, 5, 18, 19, 20, 35, 36, 37]) .nil .nil) .nil)))) .nil) .nil))) .nil) .nil)) (.mk none (.mk none .nil (.mk none (.mk (some [3, 58, 59, 60]) (.mk none .nil (.mk none .nil (.mk none (.mk none (.mk none .nil (.mk none .nil (.mk (some [3, 58, 59, 60]) .nil .nil))) .nil) .nil))) .nil) .nil)) .nil)))))) [] = some d88 := by kernel_rfl
theorem told89 : dF cx 8 89 Tryz.f89 (.mk none .nil (.mk none .nil (.mk none .nil (.mk none .nil (.mk none (.mk none .nil (.mk none (.mk (some [1, 4, 17, 18, 19]) (.mk none .nil (.mk none .nil (.mk none (.mk none (.mk none .nil (.mk none .nil (.mk (some [1, 4, 17, 18, 19]) .nil .nil))) .nil) .nil))) .nil) .nil)) (.mk none .nil (.mk none (.mk none .nil (.mk none (.mk (some [1, 4, 7, 29, 30, 31]) .nil .nil) .nil)) .nil))))))) [] = some d89 := by kernel_rfl
theorem told90 : dF cx 8 90 Tryz.f90 .nil [] = some d90 := by kernel_rfl
theorem told91 : dF cx 8 91 Tryz.f91 (.mk none .nil (.mk none (.mk none .nil (.mk none (.mk (some [1, 2, 3, 9, 10, 11]) .nil .nil) .nil)) .nil)) [] = some d91 := by kernel_rfl
theorem told92 : dF cx 8 92 Tryz.f92 .nil [] = some d92 := by kernel_rfl
theorem told93 : dF cx 8 93 Tryz.f93 .nil [] = some d93 := by kernel_rfl
theorem told94 : dF cx 8 94 Tryz.f94 (.mk none .nil (.mk none .nil (.mk none (.mk none .nil (.mk none (.mk (some [0, 1, 5, 22, 23]) (.mk none .nil (.mk none .nil (.mk none (.mk none (.mk none .nil (.mk none .nil (.mk none (.mk (some [0, 1, 5, 6, 22, 23, 29, 30]) (.mk none .nil (.mk none .nil (.mk none (.mk none (.mk none .nil (.mk none .nil (.mk (some [0, 1, 5, 6, 22, 23, 29, 30]) .nil .nil))) .nil) .nil))) .nil) .nil))) .nil) .nil))) .nil) .nil)) .nil))) [] = some d94 := by kernel_rfl
theorem told95 : dF cx 8 95 Tryz.f95 .nil [] = some d95 := by kernel_rfl
theorem told96 : dF cx 8 96 Tryz.f96 .nil [] = some d96 := by kernel_rfl
theorem told97 : dF cx 8 97 Tryz.f97 .nil [] = some d97 := by kernel_rfl
theorem told98 : dF cx 8 98 Tryz.f98 .nil [] = some d98 := by kernel_rfl
theorem told99 : dF cx 8 99 Tryz.f99 .nil [] = some d99 := by kernel_rfl
theorem told100 : dF cx 8 100 Tryz.f100 .nil [] = some d100 := by kernel_rfl
theorem told101 : dF cx 8 101 Tryz.f101 .nil [] = some d101 := by kernel_rfl
theorem told102 : dF cx 8 102 Tryz.f102 (.mk none .nil (.mk none .nil (.mk none (.mk none .nil (.mk none (.mk (some [0, 3, 9, 10]) (.mk none .nil (.mk none .nil (.mk none (.mk none (.mk none .nil (.mk none .nil (.mk none (.mk (some [0, 3, 4, 9, 10, 16, 17]) (.mk none .nil (.mk none .nil (.mk none (.mk none (.mk none .nil (.mk none .nil (.mk (some [0, 3, 4, 9, 10, 16, 17]) .nil .nil))) .nil) .nil))) .nil) .nil))) .nil) .nil))) .nil) .nil)) .nil))) [] = some d102 := by kernel_rfl
theorem told103 : dF cx 8 103 Tryz.f103 .nil [] = some d103 := by kernel_rfl
theorem told104 : dF cx 8 104 Tryz.f104 (.mk none .nil (.mk none .nil (.mk none (.mk none .nil (.mk none (.mk (some [3, 10, 11]) .nil .nil) .nil)) .nil))) [] = some d104 := by kernel_rfl
theorem told105 : dF cx 8 105 Tryz.f105 .nil [] = some d105 := by kernel_rfl
theorem told106 : dF cx 8 106 Tryz.f106 .nil [] = some d106 := by kernel_rfl
theorem told107 : dF cx 8 107 Tryz.f107 (.mk none .nil (.mk none .nil (.mk none (.mk none .nil (.mk none (.mk (some [0, 3]) (.mk none .nil (.mk none (.mk none (.mk none .nil (.mk none (.mk none .nil (.mk none (.mk none .nil (.mk none (.mk (some [0, 3, 4, 5]) (.mk none .nil (.mk none (.mk none (.mk none .nil (.mk (some [0, 3, 4, 5]) .nil .nil)) .nil) .nil)) .nil) .nil)) .nil)) .nil)) .nil) .nil)) .nil) .nil)) .nil))) [] = some d107 := by kernel_rfl
theorem told108 : dF cx 8 108 Tryz.f108 .nil [] = some d108 := by kernel_rfl
theorem told109 : dF cx 8 109 Tryz.f109 .nil [] = some d109 := by kernel_rfl
theorem told110 : dF cx 8 110 Tryz.f110 .nil [] = some d110 := by kernel_rfl
theorem told111 : dF cx 8 111 Tryz.f111 (.mk none .nil (.mk none .nil (.mk (some []) .nil .nil))) [] = some d111 := by kernel_rfl
theorem told112 : dF cx 8 112 Tryz.f112 .nil [] = some d112 := by kernel_rfl
theorem told113 : dF cx 8 113 Tryz.f113 .nil [] = some d113 := by kernel_rfl
theorem told114 : dF cx 8 114 Tryz.f114 (.mk none .nil (.mk none .nil (.mk none .nil (.mk none (.mk none .nil (.mk none (.mk (some [0, 4, 5, 13, 14, 15]) .nil .nil) .nil)) .nil)))) [] = some d114 := by kernel_rfl
theorem told115 : dF cx 8 115 Tryz.f115 (.mk none .nil (.mk none (.mk none .nil (.mk none (.mk (some [2, 3, 4, 6]) .nil .nil) .nil)) .nil)) [] = some d115 := by kernel_rfl
theorem told116 : dF cx 8 116 Tryz.f116 (.mk none .nil (.mk none .nil (.mk none (.mk (some [0, 1, 2, 3, 4, 10, 11]) (.mk none (.mk none .nil (.mk none .nil (.mk none .nil (.mk none (.mk none .nil (.mk (some [0, 1, 2, 3, 4, 10, 11, 12]) .nil .nil)) (.mk none .nil (.mk none (.mk none .nil (.mk (some [0, 1, 2, 3, 4, 10, 11, 12, 13, 14]) .nil .nil)) (.mk none (.mk none .nil (.mk (some [0, 1, 2, 3, 4, 10, 11, 12, 13]) .nil .nil)) .nil))))))) .nil) .nil) .nil))) [] = some d116 := by kernel_rfl
theorem told117 : dF cx 8 117 Tryz.f117 (.mk none .nil (.mk none (.mk (some [0, 5, 6, 7]) .nil .nil) .nil)) [] = some d117 := by kernel_rfl
theorem told118 : dF cx 8 118 Tryz.f118 (.mk none .nil (.mk none .nil (.mk none .nil (.mk (some []) (.mk (some [1, 2, 3, 15, 16, 17]) (.mk none .nil (.mk none .nil (.mk none (.mk (some [1, 2, 3, 15, 16, 17]) .nil .nil) .nil))) .nil) .nil)))) [.nil] = some d118 := by kernel_rfl
theorem told119 : dF cx 8 119 Tryz.f119 .nil [] = some d119 := by kernel_rfl
theorem told120 : dF cx 8 120 Tryz.f120 (.mk none .nil (.mk none (.mk (some [0, 1, 2, 3, 8]) (.mk none .nil (.mk none (.mk none (.mk none .nil (.mk none (.mk (some [0, 1, 2, 3, 8, 9]) .nil .nil) .nil)) .nil) .nil)) .nil) .nil)) [] = some d120 := by kernel_rfl
theorem told121 : dF cx 8 121 Tryz.f121 (.mk none .nil (.mk none .nil (.mk none .nil (.mk none (.mk none .nil (.mk none (.mk (some [0, 3, 8, 9, 10, 11]) .nil .nil) .nil)) (.mk none .nil (.mk none (.mk (some [0, 3, 8, 9, 12]) .nil .nil) .nil)))))) [] = some d121 := by kernel_rfl
theorem told122 : dF cx 8 122 Tryz.f122 (.mk none .nil (.mk none .nil (.mk (some []) (.mk none .nil (.mk none .nil (.mk none .nil (.mk none (.mk (some [0, 1, 8, 9, 10, 11]) (.mk none .nil (.mk none (.mk none (.mk none .nil (.mk none (.mk none .nil (.mk (some [0, 1, 8, 9, 10, 11, 12]) .nil .nil)) .nil)) .nil) .nil)) .nil) .nil)))) .nil))) [] = some d122 := by kernel_rfl
theorem told123 : dF cx 8 123 Tryz.f123 (.mk none .nil (.mk none .nil (.mk none .nil (.mk none .nil (.mk none .nil (.mk none .nil (.mk none (.mk none .nil (.mk (some [11, 13]) (.mk none (.mk none .nil (.mk (some [0, 3, 11, 12, 13, 14]) .nil .nil)) .nil) .nil)) .nil))))))) [] = some d123 := by kernel_rfl
theorem told124 : dF cx 8 124 Tryz.f124 (.mk none .nil (.mk none .nil (.mk none (.mk (some [0, 8, 9]) .nil .nil) .nil))) [] = some d124 := by kernel_rfl
theorem told125 : dF cx 8 125 Tryz.f125 (.mk none .nil (.mk none .nil (.mk none (.mk none .nil (.mk none (.mk (some [0, 1, 2, 3, 9, 10]) (.mk none .nil (.mk none (.mk none (.mk none (.mk none (.mk (some [0, 1, 2, 3, 9, 10]) .nil .nil) .nil) (.mk none .nil (.mk none .nil (.mk none .nil (.mk none (.mk none .nil (.mk (some [0, 1, 2, 3, 9, 10]) (.mk none .nil (.mk none (.mk (some [0, 1, 2, 3, 9, 10, 11]) .nil .nil) .nil)) .nil)) (.mk none .nil (.mk (some [0, 1, 2, 3, 9, 10]) (.mk none .nil (.mk none (.mk (some [0, 1, 2, 3, 9, 10, 12]) .nil .nil) .nil)) .nil))))))) .nil) .nil)) .nil) .nil)) .nil))) [] = some d125 := by kernel_rfl
theorem told126 : dF cx 8 126 Tryz.f126 (.mk none .nil (.mk none .nil (.mk none .nil (.mk none (.mk none (.mk (some [0, 1, 4, 11, 12]) (.mk none (.mk none (.mk none (.mk (some [0, 1, 4, 11, 12]) .nil .nil) .nil) (.mk none (.mk none (.mk (some [0, 1, 4, 11, 12]) .nil .nil) .nil) .nil)) .nil) .nil) .nil) .nil)))) [] = some d126 := by kernel_rfl
theorem told127 : dF cx 8 127 Tryz.f127 (.mk none .nil (.mk none .nil (.mk none .nil (.mk none (.mk none (.mk (some [0, 1, 4, 12, 13]) .nil .nil) .nil) (.mk none (.mk none (.mk (some [0, 1, 4, 12, 13]) .nil .nil) .nil) (.mk none .nil (.mk none .nil (.mk none .nil (.mk none .nil (.mk none (.mk none (.mk (some [0, 1, 4, 12, 13]) (.mk none (.mk none (.mk none (.mk (some [0, 1, 4, 12, 13]) .nil .nil) .nil) (.mk none (.mk none (.mk (some [0, 1, 4, 12, 13]) .nil .nil) .nil) .nil)) .nil) .nil) .nil) .nil)))))))))) [] = some d127 := by kernel_rfl
theorem told128 : dF cx 8 128 Tryz.f128 (.mk none .nil (.mk none (.mk none .nil (.mk (some [0, 2]) .nil .nil)) (.mk none (.mk none .nil (.mk (some [0, 2]) .nil .nil)) .nil))) [] = some d128 := by kernel_rfl
theorem told129 : dF cx 8 129 Tryz.f129 (.mk none .nil (.mk none (.mk none .nil (.mk (some [0, 2]) .nil .nil)) (.mk none (.mk none .nil (.mk (some [0, 2]) .nil .nil)) (.mk none (.mk none .nil (.mk (some [0, 2]) .nil .nil)) .nil)))) [] = some d129 := by kernel_rfl
theorem told130 : dF cx 8 130 Tryz.f130 .nil [] = some d130 := by kernel_rfl
theorem told131 : dF cx 8 131 Tryz.f131 .nil [] = some d131 := by kernel_rfl
theorem told132 : dF cx 8 132 Tryz.f132 .nil [] = some d132 := by kernel_rfl
theorem told133 : dF cx 8 133 Tryz.f133 .nil [] = some d133 := by kernel_rfl
theorem told134 : dF cx 8 134 Tryz.f134 .nil [] = some d134 := by kernel_rfl
theorem told135 : dF cx 8 135 Tryz.f135 (.mk none .nil (.mk none .nil (.mk none (.mk none .nil (.mk none (.mk (some [1, 3, 9, 10, 11]) (.mk none .nil (.mk none .nil (.mk none (.mk none (.mk none .nil (.mk none .nil (.mk none (.mk (some [1, 3, 4, 5, 9, 10, 11, 17, 18, 19]) (.mk none .nil (.mk none .nil (.mk none (.mk none (.mk none .nil (.mk none .nil (.mk (some [1, 3, 4, 5, 9, 10, 11, 17, 18, 19]) .nil .nil))) .nil) .nil))) .nil) .nil))) .nil) .nil))) .nil) .nil)) .nil))) [] = some d135 := by kernel_rfl
theorem told136 : dF cx 8 136 Tryz.f136 .nil [] = some d136 := by kernel_rfl
theorem told137 : dF cx 8 137 Tryz.f137 (.mk none .nil (.mk none .nil (.mk none (.mk none .nil (.mk none (.mk (some [0, 3, 12, 13]) (.mk none .nil (.mk none .nil (.mk none (.mk none (.mk none .nil (.mk none .nil (.mk none (.mk (some [0, 3, 4, 12, 13, 19, 20]) (.mk none .nil (.mk none .nil (.mk none (.mk none (.mk none .nil (.mk none .nil (.mk (some [0, 3, 4, 12, 13, 19, 20]) .nil .nil))) .nil) .nil))) .nil) .nil))) .nil) .nil))) .nil) .nil)) .nil))) [] = some d137 := by kernel_rfl
theorem told138 : dF cx 8 138 Tryz.f138 (.mk none .nil (.mk none .nil (.mk none (.mk none .nil (.mk none (.mk (some [0, 1, 2, 7, 20]) .nil .nil) .nil)) .nil))) [] = some d138 := by kernel_rfl
theorem told139 : dF cx 8 139 Tryz.f139 .nil [] = some d139 := by kernel_rfl
theorem told140 : dF cx 8 140 Tryz.f140 .nil [] = some d140 := by kernel_rfl
theorem told141 : dF cx 8 141 Tryz.f141 (.mk none .nil (.mk none .nil (.mk none (.mk none .nil (.mk none (.mk (some [2, 3, 7, 11, 12, 13]) (.mk none .nil (.mk none .nil (.mk none (.mk none (.mk none .nil (.mk none .nil (.mk (some [2, 3, 7, 11, 12, 13]) .nil .nil))) .nil) .nil))) .nil) .nil)) .nil))) [] = some d141 := by kernel_rfl
theorem told142 : dF cx 8 142 Tryz.f142 .nil [] = some d142 := by kernel_rfl
theorem told143 : dF cx 8 143 Tryz.f143 (.mk none .nil (.mk none .nil (.mk none .nil (.mk none .nil (.mk none .nil (.mk none (.mk none .nil (.mk none (.mk (some [1, 2, 5, 8, 20, 21, 22]) (.mk none .nil (.mk none .nil (.mk none (.mk none (.mk none .nil (.mk none .nil (.mk none (.mk none .nil (.mk (some [1, 2, 5, 8, 9, 10, 11, 20, 21, 22]) .nil .nil)) .nil))) .nil) .nil))) .nil) .nil)) .nil)))))) [] = some d143 := by kernel_rfl
theorem told144 : dF cx 8 144 Tryz.f144 (.mk none .nil (.mk none .nil (.mk none (.mk none .nil (.mk none (.mk (some [5, 13, 14, 15]) (.mk none .nil (.mk none .nil (.mk none (.mk none (.mk none .nil (.mk none .nil (.mk (some [5, 13, 14, 15]) .nil .nil))) .nil) .nil))) .nil) .nil)) .nil))) [] = some d144 := by kernel_rfl
theorem told145 : dF cx 8 145 Tryz.f145 .nil [] = some d145 := by kernel_rfl
theorem told146 : dF cx 8 146 Tryz.f146 (.mk none .nil (.mk none .nil (.mk none (.mk none .nil (.mk none (.mk (some [5, 12, 13, 14]) .nil .nil) .nil)) .nil))) [] = some d146 := by kernel_rfl
theorem told147 : dF cx 8 147 Tryz.f147 .nil [] = some d147 := by kernel_rfl
theorem told148 : dF cx 8 148 Tryz.f148 .nil [] = some d148 := by kernel_rfl
theorem told149 : dF cx 8 149 Tryz.f149 .nil [] = some d149 := by kernel_rfl
theorem told150 : dF cx 8 150 Tryz.f150 .nil [] = some d150 := by kernel_rfl
theorem told151 : dF cx 8 151 Tryz.f151 .nil [] = some d151 := by kernel_rfl
theorem told152 : dF cx 8 152 Tryz.f152 .nil [] = some d152 := by kernel_rfl
theorem told153 : dF cx 8 153 Tryz.f153 .nil [] = some d153 := by kernel_rfl
theorem told154 : dF cx 8 154 Tryz.f154 .nil [] = some d154 := by kernel_rfl
theorem told155 : dF cx 8 155 Tryz.f155 .nil [] = some d155 := by kernel_rfl
theorem told156 : dF cx 8 156 Tryz.f156 (.mk none .nil (.mk none .nil (.mk none (.mk (some [0, 1, 2, 3, 8, 9]) (.mk none (.mk none .nil (.mk none .nil (.mk none .nil (.mk none (.mk none .nil (.mk (some [0, 1, 2, 3, 8, 9, 10]) .nil .nil)) (.mk none .nil (.mk none (.mk none .nil (.mk (some [0, 1, 2, 3, 8, 9, 10, 11, 12]) .nil .nil)) (.mk none (.mk none .nil (.mk (some [0, 1, 2, 3, 8, 9, 10, 11]) .nil .nil)) .nil))))))) .nil) .nil) .nil))) [] = some d156 := by kernel_rfl
theorem told157 : dF cx 8 157 Tryz.f157 (.mk none .nil (.mk none .nil (.mk none (.mk (some [0, 2, 4, 7, 8]) (.mk none .nil (.mk none .nil (.mk none (.mk none (.mk none .nil (.mk none .nil (.mk (some [0, 2, 4, 7, 8]) .nil .nil))) .nil) .nil))) .nil) .nil))) [] = some d157 := by kernel_rfl
theorem told158 : dF cx 8 158 Tryz.f158 (.mk none .nil (.mk none .nil (.mk none .nil (.mk none (.mk none .nil (.mk none (.mk (some [1, 5, 12, 13, 14]) (.mk none .nil (.mk none .nil (.mk none (.mk none (.mk none .nil (.mk none .nil (.mk none (.mk none .nil (.mk (some [1, 5, 12, 13, 14]) .nil .nil)) .nil))) .nil) .nil))) .nil) .nil)) .nil)))) [] = some d158 := by kernel_rfl
theorem told159 : dF cx 8 159 Tryz.f159 (.mk none .nil (.mk none (.mk (some [0, 1, 2, 3, 8]) (.mk none .nil (.mk none (.mk none (.mk none .nil (.mk none (.mk (some [0, 1, 2, 3, 8, 9]) .nil .nil) .nil)) .nil) .nil)) .nil) .nil)) [] = some d159 := by kernel_rfl
theorem told160 : dF cx 8 160 Tryz.f160 (.mk none .nil (.mk none .nil (.mk none .nil (.mk none (.mk none .nil (.mk none (.mk (some [0, 3, 8, 9, 10, 11]) .nil .nil) .nil)) (.mk none .nil (.mk none (.mk (some [0, 3, 8, 9, 12]) .nil .nil) .nil)))))) [] = some d160 := by kernel_rfl
theorem told161 : dF cx 8 161 Tryz.f161 (.mk none .nil (.mk none .nil (.mk (some []) (.mk none .nil (.mk none .nil (.mk none .nil (.mk none (.mk (some [0, 1, 8, 9, 10, 11]) (.mk none .nil (.mk none (.mk none (.mk none .nil (.mk none (.mk none .nil (.mk (some [0, 1, 8, 9, 10, 11, 12]) .nil .nil)) .nil)) .nil) .nil)) .nil) .nil)))) .nil))) [] = some d161 := by kernel_rfl
theorem told162 : dF cx 8 162 Tryz.f162 (.mk none .nil (.mk none .nil (.mk none .nil (.mk none .nil (.mk none .nil (.mk none .nil (.mk none (.mk none .nil (.mk (some [11, 13]) (.mk none (.mk none .nil (.mk (some [0, 3, 11, 12, 13, 14]) .nil .nil)) .nil) .nil)) .nil))))))) [] = some d162 := by kernel_rfl
theorem told163 : dF cx 8 163 Tryz.f163 (.mk none .nil (.mk none .nil (.mk none (.mk (some [0, 8, 9]) .nil .nil) .nil))) [] = some d163 := by kernel_rfl
theorem told164 : dF cx 8 164 Tryz.f164 (.mk none .nil (.mk none .nil (.mk none (.mk none .nil (.mk none (.mk (some [0, 1, 2, 3, 9, 10]) (.mk none .nil (.mk none (.mk none (.mk none (.mk none (.mk (some [0, 1, 2, 3, 9, 10]) .nil .nil) .nil) (.mk none .nil (.mk none .nil (.mk none .nil (.mk none (.mk none .nil (.mk (some [0, 1, 2, 3, 9, 10]) (.mk none .nil (.mk none (.mk (some [0, 1, 2, 3, 9, 10, 11]) .nil .nil) .nil)) .nil)) (.mk none .nil (.mk (some [0, 1, 2, 3, 9, 10]) (.mk none .nil (.mk none (.mk (some [0, 1, 2, 3, 9, 10, 12]) .nil .nil) .nil)) .nil))))))) .nil) .nil)) .nil) .nil)) .nil))) [] = some d164 := by kernel_rfl
theorem told165 : dF cx 8 165 Tryz.f165 (.mk none .nil (.mk none .nil (.mk none .nil (.mk none (.mk none (.mk (some [0, 1, 4, 11, 12]) (.mk none (.mk none (.mk none (.mk (some [0, 1, 4, 11, 12]) .nil .nil) .nil) (.mk none (.mk none (.mk (some [0, 1, 4, 11, 12]) .nil .nil) .nil) .nil)) .nil) .nil) .nil) .nil)))) [] = some d165 := by kernel_rfl
theorem told166 : dF cx 8 166 Tryz.f166 (.mk none .nil (.mk none .nil (.mk none .nil (.mk none (.mk none (.mk (some [0, 1, 4, 12, 13]) .nil .nil) .nil) (.mk none (.mk none (.mk (some [0, 1, 4, 12, 13]) .nil .nil) .nil) (.mk none .nil (.mk none .nil (.mk none .nil (.mk none .nil (.mk none (.mk none (.mk (some [0, 1, 4, 12, 13]) (.mk none (.mk none (.mk none (.mk (some [0, 1, 4, 12, 13]) .nil .nil) .nil) (.mk none (.mk none (.mk (some [0, 1, 4, 12, 13]) .nil .nil) .nil) .nil)) .nil) .nil) .nil) .nil)))))))))) [] = some d166 := by kernel_rfl
theorem told167 : dF cx 8 167 Tryz.f167 (.mk none .nil (.mk none (.mk (some [0, 2, 3, 4, 10]) (.mk none (.mk none .nil (.mk none .nil (.mk none (.mk none .nil (.mk (some [0, 2, 3, 4, 10, 11]) .nil .nil)) .nil))) .nil) .nil) .nil)) [] = some d167 := by kernel_rfl
theorem told168 : dF cx 8 168 Tryz.f168 .nil [] = some d168 := by kernel_rfl
theorem told169 : dF cx 8 169 Tryz.f169 .nil [] = some d169 := by kernel_rfl
theorem told170 : dF cx 8 170 Tryz.f170 .nil [] = some d170 := by kernel_rfl
theorem told171 : dF cx 8 171 Tryz.f171 .nil [] = some d171 := by kernel_rfl
theorem told172 : dF cx 8 172 Tryz.f172 .nil [] = some d172 := by kernel_rfl
theorem told173 : dF cx 8 173 Tryz.f173 (.mk none .nil (.mk none .nil (.mk none (.mk none .nil (.mk none (.mk (some [3, 6, 7, 8]) .nil .nil) .nil)) .nil))) [] = some d173 := by kernel_rfl
theorem told174 : dF cx 8 174 Tryz.f174 .nil [] = some d174 := by kernel_rfl
theorem told175 : dF cx 8 175 Tryz.f175 (.mk none .nil (.mk none (.mk none .nil (.mk none (.mk (some [0, 7, 8, 9]) .nil .nil) .nil)) .nil)) [] = some d175 := by kernel_rfl
theorem told176 : dF cx 8 176 Tryz.f176 .nil [] = some d176 := by kernel_rfl
theorem told177 : dF cx 8 177 Tryz.f177 (.mk none .nil (.mk none .nil (.mk none (.mk none .nil (.mk none (.mk (some [3, 11, 12]) .nil .nil) .nil)) .nil))) [] = some d177 := by kernel_rfl
theorem told178 : dF cx 8 178 Tryz.f178 .nil [] = some d178 := by kernel_rfl
theorem told179 : dF cx 8 179 Tryz.f179 .nil [] = some d179 := by kernel_rfl
theorem told180 : dF cx 8 180 Tryz.f180 .nil [] = some d180 := by kernel_rfl
theorem told181 : dF cx 8 181 Tryz.f181 (.mk none .nil (.mk none (.mk (some [0, 1, 3, 12, 13, 14]) (.mk none .nil (.mk none .nil (.mk none (.mk none (.mk none .nil (.mk none .nil (.mk none .nil (.mk none (.mk (some [0, 1, 3, 8, 12, 13, 14, 18, 19, 20]) (.mk none .nil (.mk none .nil (.mk none (.mk none (.mk none .nil (.mk none (.mk none .nil (.mk (some [0, 1, 3, 8, 10, 12, 13, 14, 18, 19, 20]) .nil .nil)) .nil)) .nil) .nil))) .nil) .nil)))) .nil) .nil))) .nil) .nil)) [] = some d181 := by kernel_rfl
theorem told182 : dF cx 8 182 Tryz.f182 (.mk none .nil (.mk none .nil (.mk (some []) .nil .nil))) [] = some d182 := by kernel_rfl
theorem told183 : dF cx 8 183 Tryz.f183 (.mk none .nil (.mk none .nil (.mk (some []) .nil .nil))) [] = some d183 := by kernel_rfl
theorem told184 : dF cx 8 184 Tryz.f184 (.mk none .nil (.mk none .nil (.mk (some []) .nil .nil))) [] = some d184 := by kernel_rfl
theorem told185 : dF cx 8 185 Tryz.f185 .nil [] = some d185 := by kernel_rfl
theorem told186 : dF cx 8 186 Tryz.f186 .nil [] = some d186 := by kernel_rfl
theorem told187 : dF cx 8 187 Tryz.f187 .nil [] = some d187 := by kernel_rfl
theorem told188 : dF cx 8 188 Tryz.f188 .nil [] = some d188 := by kernel_rfl
theorem told189 : dF cx 8 189 Tryz.f189 .nil [] = some d189 := by kernel_rfl
theorem told190 : dF cx 8 190 Tryz.f190 .nil [] = some d190 := by kernel_rfl
theorem told191 : dF cx 8 191 Tryz.f191 .nil [] = some d191 := by kernel_rfl
theorem told192 : dF cx 8 192 Tryz.f192 .nil [] = some d192 := by kernel_rfl
theorem told193 : dF cx 8 193 Tryz.f193 .nil [] = some d193 := by kernel_rfl
theorem told194 : dF cx 8 194 Tryz.f194 .nil [] = some d194 := by kernel_rfl
theorem told195 : dF cx 8 195 Tryz.f195 .nil [] = some d195 := by kernel_rfl
theorem told196 : dF cx 8 196 Tryz.f196 .nil [] = some d196 := by kernel_rfl
theorem told197 : dF cx 8 197 Tryz.f197 .nil [] = some d197 := by kernel_rfl
theorem told198 : dF cx 8 198 Tryz.f198 (.mk none .nil (.mk none (.mk (some [0, 1, 2, 6]) (.mk none .nil (.mk none (.mk none (.mk none .nil (.mk none (.mk (some [0, 1, 2, 6, 7]) .nil .nil) .nil)) .nil) .nil)) .nil) .nil)) [] = some d198 := by kernel_rfl
theorem told199 : dF cx 8 199 Tryz.f199 (.mk none .nil (.mk none .nil (.mk none .nil (.mk none (.mk none .nil (.mk none (.mk (some [0, 6, 7, 8, 9]) .nil .nil) .nil)) (.mk none .nil (.mk none (.mk (some [0, 6, 7, 10]) .nil .nil) .nil)))))) [] = some d199 := by kernel_rfl
theorem told200 : dF cx 8 200 Tryz.f200 (.mk none .nil (.mk none .nil (.mk (some []) (.mk none .nil (.mk none .nil (.mk none .nil (.mk none (.mk (some [0, 1, 6, 7, 8, 9]) (.mk none .nil (.mk none (.mk none (.mk none .nil (.mk none (.mk none .nil (.mk (some [0, 1, 6, 7, 8, 9, 10]) .nil .nil)) .nil)) .nil) .nil)) .nil) .nil)))) .nil))) [] = some d200 := by kernel_rfl
theorem told201 : dF cx 8 201 Tryz.f201 (.mk none .nil (.mk none .nil (.mk none .nil (.mk none .nil (.mk none .nil (.mk none .nil (.mk none (.mk none .nil (.mk (some [9, 11]) (.mk none (.mk none .nil (.mk (some [0, 9, 10, 11, 12]) .nil .nil)) .nil) .nil)) .nil))))))) [] = some d201 := by kernel_rfl
theorem told202 : dF cx 8 202 Tryz.f202 (.mk none .nil (.mk none .nil (.mk none (.mk (some [0, 6, 7]) .nil .nil) .nil))) [] = some d202 := by kernel_rfl
theorem told203 : dF cx 8 203 Tryz.f203 (.mk none .nil (.mk none .nil (.mk none (.mk none .nil (.mk none (.mk (some [0, 1, 2, 7, 8]) (.mk none .nil (.mk none (.mk none (.mk none (.mk none (.mk (some [0, 1, 2, 7, 8]) .nil .nil) .nil) (.mk none .nil (.mk none .nil (.mk none .nil (.mk none (.mk none .nil (.mk (some [0, 1, 2, 7, 8]) (.mk none .nil (.mk none (.mk (some [0, 1, 2, 7, 8, 9]) .nil .nil) .nil)) .nil)) (.mk none .nil (.mk (some [0, 1, 2, 7, 8]) (.mk none .nil (.mk none (.mk (some [0, 1, 2, 7, 8, 10]) .nil .nil) .nil)) .nil))))))) .nil) .nil)) .nil) .nil)) .nil))) [] = some d203 := by kernel_rfl
theorem told204 : dF cx 8 204 Tryz.f204 .nil [] = some d204 := by kernel_rfl
theorem told205 : dF cx 8 205 Tryz.f205 (.mk none .nil (.mk none .nil (.mk none .nil (.mk none (.mk none (.mk (some [0, 1, 9, 10]) (.mk none (.mk none (.mk none (.mk (some [0, 1, 9, 10]) .nil .nil) .nil) (.mk none (.mk none (.mk (some [0, 1, 9, 10]) .nil .nil) .nil) .nil)) .nil) .nil) .nil) .nil)))) [] = some d205 := by kernel_rfl
theorem told206 : dF cx 8 206 Tryz.f206 (.mk none .nil (.mk none .nil (.mk none .nil (.mk none (.mk none (.mk (some [0, 1, 10, 11]) .nil .nil) .nil) (.mk none (.mk none (.mk (some [0, 1, 10, 11]) .nil .nil) .nil) (.mk none .nil (.mk none .nil (.mk none .nil (.mk none .nil (.mk none (.mk none (.mk (some [0, 1, 10, 11]) (.mk none (.mk none (.mk none (.mk (some [0, 1, 10, 11]) .nil .nil) .nil) (.mk none (.mk none (.mk (some [0, 1, 10, 11]) .nil .nil) .nil) .nil)) .nil) .nil) .nil) .nil)))))))))) [] = some d206 := by kernel_rfl
theorem told207 : dF cx 8 207 Tryz.f207 .nil [] = some d207 := by kernel_rfl
theorem told208 : dF cx 8 208 Tryz.f208 .nil [] = some d208 := by kernel_rfl
theorem told209 : dF cx 8 209 Tryz.f209 (.mk none .nil (.mk none (.mk (some [0, 2, 3, 4, 10]) (.mk none (.mk none .nil (.mk none .nil (.mk none (.mk none .nil (.mk (some [0, 2, 3, 4, 10, 11]) .nil .nil)) .nil))) .nil) .nil) .nil)) [] = some d209 := by kernel_rfl
theorem told210 : dF cx 8 210 Tryz.f210 .nil [] = some d210 := by kernel_rfl
theorem told211 : dF cx 8 211 Tryz.f211 .nil [] = some d211 := by kernel_rfl
theorem told212 : dF cx 8 212 Tryz.f212 .nil [] = some d212 := by kernel_rfl
theorem told213 : dF cx 8 213 Tryz.f213 .nil [] = some d213 := by kernel_rfl
theorem told214 : dF cx 8 214 Tryz.f214 .nil [] = some d214 := by kernel_rfl
theorem told215 : dF cx 8 215 Tryz.f215 (.mk none .nil (.mk none .nil (.mk none .nil (.mk none (.mk none .nil (.mk none (.mk (some [2, 5, 6, 12, 13, 14]) (.mk none .nil (.mk none .nil (.mk none (.mk none (.mk none .nil (.mk none .nil (.mk (some [2, 5, 6, 12, 13, 14]) .nil .nil))) .nil) .nil))) .nil) .nil)) .nil)))) [] = some d215 := by kernel_rfl
theorem told216 : dF cx 8 216 Tryz.f216 (.mk none .nil (.mk none .nil (.mk none (.mk none .nil (.mk none (.mk (some [2, 3, 5, 11, 12, 13]) .nil .nil) .nil)) .nil))) [] = some d216 := by kernel_rfl
theorem told217 : dF cx 8 217 Tryz.f217 .nil [] = some d217 := by kernel_rfl
theorem told218 : dF cx 8 218 Tryz.f218 .nil [] = some d218 := by kernel_rfl
theorem told219 : dF cx 8 219 Tryz.f219 .nil [] = some d219 := by kernel_rfl
theorem told220 : dF cx 8 220 Tryz.f220 .nil [] = some d220 := by kernel_rfl
theorem told221 : dF cx 8 221 Tryz.f221 .nil [] = some d221 := by kernel_rfl
theorem told222 : dF cx 8 222 Tryz.f222 (.mk none .nil (.mk none (.mk (some [0, 2, 3, 8]) (.mk none (.mk none .nil (.mk none .nil (.mk none (.mk none .nil (.mk (some [0, 2, 3, 8, 9]) .nil .nil)) .nil))) .nil) .nil) .nil)) [] = some d222 := by kernel_rfl
theorem told223 : dF cx 8 223 Tryz.f223 .nil [] = some d223 := by kernel_rfl
theorem told224 : dF cx 8 224 Tryz.f224 .nil [] = some d224 := by kernel_rfl
theorem told225 : dF cx 8 225 Tryz.f225 .nil [] = some d225 := by kernel_rfl
theorem told226 : dF cx 8 226 Tryz.f226 .nil [] = some d226 := by kernel_rfl
theorem told227 : dF cx 8 227 Tryz.f227 .nil [] = some d227 := by kernel_rfl
theorem told228 : dF cx 8 228 Tryz.f228 .nil [] = some d228 := by kernel_rfl
theorem told229 : dF cx 8 229 Tryz.f229 .nil [] = some d229 := by kernel_rfl
theorem told230 : dF cx 8 230 Tryz.f230 .nil [] = some d230 := by kernel_rfl
theorem told231 : dF cx 8 231 Tryz.f231 .nil [] = some d231 := by kernel_rfl
theorem told232 : dF cx 8 232 Tryz.f232 .nil [] = some d232 := by kernel_rfl
theorem told233 : dF cx 8 233 Tryz.f233 .nil [] = some d233 := by kernel_rfl
end Go.Proofs.YtheojbhaajbecaaGreat.XCodeB
