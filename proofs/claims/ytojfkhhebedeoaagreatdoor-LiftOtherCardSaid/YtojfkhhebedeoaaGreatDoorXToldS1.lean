/- Each piece of compact code is what the executor makes of the loaded function. Printed by a program of mine (wip/tools/mkcode.py). -/
import Derived.Test.YtojfkhhebedeoaaGreatDoorXToldS0
import Derived.Test.YtojfkhhebedeoaaGreatDoorXCodeS
import Derived.Test.YtojfkhhebedeoaaGreatDoorRows
import Derived.WalkKit
import Derived.ProofKit
set_option maxRecDepth 100000
namespace Go.Proofs.YtojfkhhebedeoaaGreatDoor.XCodeS
open Go Go.X
theorem told62 : dF cx 8 62 Tryz.f62 (.mk none .nil (.mk none .nil (.mk none (.mk none .nil (.mk none (.mk (some [0, 3, 6, 7, 8]) (.mk none .nil (.mk none .nil (.mk none (.mk none (.mk none .nil (.mk none .nil (.mk none .nil (.mk (some [0, 3, 6, 7, 8]) .nil .nil)))) .nil) .nil))) .nil) .nil)) .nil))) [] = some d62 := by kernel_rfl
theorem told64 : dF cx 8 64 Tryz.f64 .nil [] = some d64 := by kernel_rfl
theorem told65 : dF cx 8 65 Tryz.f65 .nil [] = some d65 := by kernel_rfl
theorem told66 : dF cx 8 66 Tryz.f66 .nil [] = some d66 := by kernel_rfl
theorem told69 : dF cx 8 69 Tryz.f69 (.mk none .nil (.mk none .nil (.mk none (.mk none .nil (.mk (some []) .nil .nil)) .nil))) [] = some d69 := by kernel_rfl
theorem told72 : dF cx 8 72 Tryz.f72 .nil [] = some d72 := by kernel_rfl
theorem told75 : dF cx 8 75 Tryz.f75 .nil [] = some d75 := by kernel_rfl
theorem told76 : dF cx 8 76 Tryz.f76 (.mk none .nil (.mk none .nil (.mk none .nil (.mk none (.mk none .nil (.mk none (.mk (some [0, 4, 5, 13, 14, 15]) .nil .nil) .nil)) .nil)))) [] = some d76 := by kernel_rfl
theorem told78 : dF cx 8 78 Tryz.f78 (.mk none .nil (.mk none .nil (.mk none (.mk (some [0, 1, 2, 3, 4, 10, 11]) (.mk none (.mk none .nil (.mk none .nil (.mk none .nil (.mk none (.mk none .nil (.mk (some [0, 1, 2, 3, 4, 10, 11, 12]) .nil .nil)) (.mk none .nil (.mk none (.mk none .nil (.mk (some [0, 1, 2, 3, 4, 10, 11, 12, 13, 14]) .nil .nil)) (.mk none (.mk none .nil (.mk (some [0, 1, 2, 3, 4, 10, 11, 12, 13]) .nil .nil)) .nil))))))) .nil) .nil) .nil))) [] = some d78 := by kernel_rfl
theorem told79 : dF cx 8 79 Tryz.f79 .nil [] = some d79 := by kernel_rfl
theorem told80 : dF cx 8 80 Tryz.f80 .nil [] = some d80 := by kernel_rfl
theorem told82 : dF cx 8 82 Tryz.f82 .nil [] = some d82 := by kernel_rfl
theorem told83 : dF cx 8 83 Tryz.f83 (.mk none .nil (.mk none .nil (.mk none (.mk none .nil (.mk none (.mk (some [0, 3]) (.mk none .nil (.mk none (.mk none (.mk none .nil (.mk none (.mk none .nil (.mk none (.mk none .nil (.mk none (.mk (some [0, 3, 4, 5]) (.mk none .nil (.mk none (.mk none (.mk none .nil (.mk (some [0, 3, 4, 5]) .nil .nil)) .nil) .nil)) .nil) .nil)) .nil)) .nil)) .nil) .nil)) .nil) .nil)) .nil))) [] = some d83 := by kernel_rfl
theorem told84 : dF cx 8 84 Tryz.f84 .nil [] = some d84 := by kernel_rfl
theorem told85 : dF cx 8 85 Tryz.f85 (.mk none .nil (.mk none .nil (.mk none .nil (.mk none (.mk none .nil (.mk none (.mk none (.mk none (.mk none (.mk none (.mk none (.mk none (.mk none (.mk (some [5]) (.mk none (.mk none (.mk none (.mk (some [1, 4, 5]) .nil .nil) .nil) .nil) .nil) .nil) .nil) .nil) .nil) .nil) .nil) .nil) .nil) .nil)) .nil)))) [] = some d85 := by kernel_rfl
theorem told86 : dF cx 8 86 Tryz.f86 (.mk none .nil (.mk none .nil (.mk none .nil (.mk none .nil (.mk none .nil (.mk none .nil (.mk none .nil (.mk none .nil (.mk none .nil (.mk none .nil (.mk none (.mk none .nil (.mk none (.mk none .nil (.mk (some [0, 2, 9, 20, 21]) .nil .nil)) .nil)) .nil))))))))))) [] = some d86 := by kernel_rfl
theorem told87 : dF cx 8 87 Tryz.f87 .nil [] = some d87 := by kernel_rfl
theorem told90 : dF cx 8 90 Tryz.f90 (.mk none .nil (.mk none (.mk none .nil (.mk none (.mk none (.mk none .nil (.mk (some [0, 3, 4]) .nil .nil)) (.mk none .nil (.mk none (.mk none .nil (.mk (some [0, 3, 11]) .nil .nil)) .nil))) .nil)) .nil)) [] = some d90 := by kernel_rfl
theorem told91 : dF cx 8 91 Tryz.f91 .nil [] = some d91 := by kernel_rfl
theorem told94 : dF cx 8 94 Tryz.f94 (.mk none .nil (.mk none .nil (.mk none .nil (.mk none (.mk none .nil (.mk none (.mk (some [1, 5, 12, 13, 14]) (.mk none .nil (.mk none .nil (.mk none (.mk none (.mk none .nil (.mk none .nil (.mk none (.mk none .nil (.mk (some [1, 5, 12, 13, 14]) .nil .nil)) .nil))) .nil) .nil))) .nil) .nil)) .nil)))) [] = some d94 := by kernel_rfl
theorem told95 : dF cx 8 95 Tryz.f95 (.mk none .nil (.mk none .nil (.mk none .nil (.mk none (.mk none .nil (.mk none (.mk (some [0, 4, 5, 13, 14, 15]) .nil .nil) .nil)) .nil)))) [] = some d95 := by kernel_rfl
theorem told97 : dF cx 8 97 Tryz.f97 (.mk none .nil (.mk none .nil (.mk none (.mk (some [0, 2, 4, 7, 8]) (.mk none .nil (.mk none .nil (.mk none (.mk none (.mk none .nil (.mk none .nil (.mk (some [0, 2, 4, 7, 8]) .nil .nil))) .nil) .nil))) .nil) .nil))) [] = some d97 := by kernel_rfl
theorem told98 : dF cx 8 98 Tryz.f98 (.mk none .nil (.mk none (.mk (some [0, 1, 2, 3, 8]) (.mk none .nil (.mk none (.mk none (.mk none .nil (.mk none (.mk (some [0, 1, 2, 3, 8, 9]) .nil .nil) .nil)) .nil) .nil)) .nil) .nil)) [] = some d98 := by kernel_rfl
theorem told107 : dF cx 8 107 Tryz.f107 (.mk none .nil (.mk none (.mk none .nil (.mk (some [0, 2]) .nil .nil)) (.mk none (.mk none .nil (.mk (some [0, 2]) .nil .nil)) (.mk none (.mk none .nil (.mk (some [0, 2]) .nil .nil)) .nil)))) [] = some d107 := by kernel_rfl
theorem told108 : dF cx 8 108 Tryz.f108 (.mk none .nil (.mk none .nil (.mk none (.mk (some [0, 1, 2, 3, 8, 9]) (.mk none (.mk none .nil (.mk none .nil (.mk none .nil (.mk none (.mk none .nil (.mk (some [0, 1, 2, 3, 8, 9, 10]) .nil .nil)) (.mk none .nil (.mk none (.mk none .nil (.mk (some [0, 1, 2, 3, 8, 9, 10, 11, 12]) .nil .nil)) (.mk none (.mk none .nil (.mk (some [0, 1, 2, 3, 8, 9, 10, 11]) .nil .nil)) .nil))))))) .nil) .nil) .nil))) [] = some d108 := by kernel_rfl
theorem told110 : dF cx 8 110 Tryz.f110 (.mk none .nil (.mk none .nil (.mk none .nil (.mk none (.mk none .nil (.mk none (.mk (some [3, 9, 10, 11]) .nil .nil) .nil)) .nil)))) [] = some d110 := by kernel_rfl
theorem told111 : dF cx 8 111 Tryz.f111 .nil [] = some d111 := by kernel_rfl
theorem told112 : dF cx 8 112 Tryz.f112 .nil [] = some d112 := by kernel_rfl
theorem told113 : dF cx 8 113 Tryz.f113 (.mk none .nil (.mk none .nil (.mk none (.mk none .nil (.mk none (.mk (some [4, 8, 9, 10]) .nil .nil) .nil)) .nil))) [] = some d113 := by kernel_rfl
theorem told114 : dF cx 8 114 Tryz.f114 .nil [] = some d114 := by kernel_rfl
theorem told115 : dF cx 8 115 Tryz.f115 .nil [] = some d115 := by kernel_rfl
theorem told116 : dF cx 8 116 Tryz.f116 .nil [] = some d116 := by kernel_rfl
theorem told117 : dF cx 8 117 Tryz.f117 (.mk none .nil (.mk none (.mk none .nil (.mk none (.mk (some [0, 1, 7, 8]) .nil .nil) .nil)) .nil)) [] = some d117 := by kernel_rfl
theorem told118 : dF cx 8 118 Tryz.f118 (.mk none .nil (.mk none .nil (.mk none (.mk none .nil (.mk none (.mk (some [0, 1, 12, 13]) .nil .nil) .nil)) .nil))) [] = some d118 := by kernel_rfl
theorem told120 : dF cx 8 120 Tryz.f120 (.mk none .nil (.mk none .nil (.mk none (.mk (some [0, 2, 4, 7, 8]) (.mk none .nil (.mk none .nil (.mk none (.mk none (.mk none .nil (.mk none .nil (.mk (some [0, 2, 4, 7, 8]) .nil .nil))) .nil) .nil))) .nil) .nil))) [] = some d120 := by kernel_rfl
theorem told128 : dF cx 8 128 Tryz.f128 (.mk none .nil (.mk none (.mk (some [0, 1, 2, 6]) (.mk none .nil (.mk none (.mk none (.mk none .nil (.mk none (.mk (some [0, 1, 2, 6, 7]) .nil .nil) .nil)) .nil) .nil)) .nil) .nil)) [] = some d128 := by kernel_rfl
theorem told138 : dF cx 8 138 Tryz.f138 .nil [] = some d138 := by kernel_rfl
theorem told140 : dF cx 8 140 Tryz.f140 .nil [] = some d140 := by kernel_rfl
theorem told141 : dF cx 8 141 Tryz.f141 .nil [] = some d141 := by kernel_rfl
theorem told142 : dF cx 8 142 Tryz.f142 (.mk none .nil (.mk none (.mk none .nil (.mk (some [0, 2]) .nil .nil)) (.mk none .nil (.mk none .nil (.mk none (.mk none .nil (.mk (some [0, 2, 4, 5]) .nil .nil)) .nil))))) [] = some d142 := by kernel_rfl
theorem told145 : dF cx 8 145 Tryz.f145 .nil [] = some d145 := by kernel_rfl
theorem told162 : dF cx 8 162 Tryz.f162 (.mk none .nil (.mk none .nil (.mk none .nil (.mk none (.mk none .nil (.mk (some [0, 1, 2, 3]) .nil .nil)) (.mk none .nil (.mk none .nil (.mk none .nil (.mk none .nil (.mk none (.mk (some [0, 9, 10]) (.mk (some [0, 1, 2, 3, 9, 10]) .nil .nil) .nil) .nil))))))))) [] = some d162 := by kernel_rfl
theorem told163 : dF cx 8 163 Tryz.f163 .nil [] = some d163 := by kernel_rfl
theorem told179 : dF cx 8 179 Tryz.f179 .nil [] = some d179 := by kernel_rfl
theorem told196 : dF cx 8 196 Tryz.f196 .nil [] = some d196 := by kernel_rfl
end Go.Proofs.YtojfkhhebedeoaaGreatDoor.XCodeS
