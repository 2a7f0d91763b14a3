/- Each piece of compact code is what the executor makes of the loaded function. Printed by a program of mine (wip/tools/mkcode.py). -/
import Derived.Test.YtheojbhaajbecaaGreatXToldN0
import Derived.Test.YtheojbhaajbecaaGreatXCodeN
import Derived.Test.YtheojbhaajbecaaGreatRows
import Derived.WalkKit
import Derived.ProofKit
set_option maxRecDepth 100000
namespace Go.Proofs.YtheojbhaajbecaaGreat.XCodeN
open Go Go.X
theorem told108 : dF cx 8 108 Tryz.f108 .nil [] = some d108 := by kernel_rfl
theorem told109 : dF cx 8 109 Tryz.f109 .nil [] = some d109 := by kernel_rfl
theorem told110 : dF cx 8 110 Tryz.f110 .nil [] = some d110 := by kernel_rfl
theorem told111 : dF cx 8 111 Tryz.f111 (.mk none .nil (.mk none .nil (.mk (some []) .nil .nil))) [] = some d111 := by kernel_rfl
theorem told112 : dF cx 8 112 Tryz.f112 .nil [] = some d112 := by kernel_rfl
theorem told113 : dF cx 8 113 Tryz.f113 .nil [] = some d113 := by kernel_rfl
theorem told114 : dF cx 8 114 Tryz.f114 (.mk none .nil (.mk none .nil (.mk none .nil (.mk none (.mk none .nil (.mk none (.mk (some [0, 4, 5, 13, 14, 15]) .nil .nil) .nil)) .nil)))) [] = some d114 := by kernel_rfl
theorem told115 : dF cx 8 115 Tryz.f115 (.mk none .nil (.mk none (.mk none .nil (.mk none (.mk (some [2, 3, 4, 6]) .nil .nil) .nil)) .nil)) [] = some d115 := by kernel_rfl
theorem told116 : dF cx 8 116 Tryz.f116 (.mk none .nil (.mk none .nil (.mk none (.mk (some [0, 1, 2, 3, 4, 10, 11]) (.mk none (.mk none .nil (.mk none .nil (.mk none .nil (.mk none (.mk none .nil (.mk (some [0, 1, 2, 3, 4, 10, 11, 12]) .nil .nil)) (.mk none .nil (.mk none (.mk none .nil (.mk (some [0, 1, 2, 3, 4, 10, 11, 12, 13, 14]) .nil .nil)) (.mk none (.mk none .nil (.mk (some [0, 1, 2, 3, 4, 10, 11, 12, 13]) .nil .nil)) .nil))))))) .nil) .nil) .nil))) [] = some d116 := by kernel_rfl
theorem told117 : dF cx 8 117 Tryz.f117 (.mk none .nil (.mk none (.mk (some [0, 5, 6, 7]) .nil .nil) .nil)) [] = some d117 := by kernel_rfl
theorem told118 : dF cx 8 118 Tryz.f118 (.mk none .nil (.mk none .nil (.mk none .nil (.mk (some []) (.mk (some [1, 2, 3, 15, 16, 17]) (.mk none .nil (.mk none .nil (.mk none (.mk (some [1, 2, 3, 15, 16, 17]) .nil .nil) .nil))) .nil) .nil)))) [.nil] = some d118 := by kernel_rfl
theorem told119 : dF cx 8 119 Tryz.f119 .nil [] = some d119 := by kernel_rfl
theorem told128 : dF cx 8 128 Tryz.f128 (.mk none .nil (.mk none (.mk none .nil (.mk (some [0, 2]) .nil .nil)) (.mk none (.mk none .nil (.mk (some [0, 2]) .nil .nil)) .nil))) [] = some d128 := by kernel_rfl
theorem told129 : dF cx 8 129 Tryz.f129 (.mk none .nil (.mk none (.mk none .nil (.mk (some [0, 2]) .nil .nil)) (.mk none (.mk none .nil (.mk (some [0, 2]) .nil .nil)) (.mk none (.mk none .nil (.mk (some [0, 2]) .nil .nil)) .nil)))) [] = some d129 := by kernel_rfl
theorem told156 : dF cx 8 156 Tryz.f156 (.mk none .nil (.mk none .nil (.mk none (.mk (some [0, 1, 2, 3, 8, 9]) (.mk none (.mk none .nil (.mk none .nil (.mk none .nil (.mk none (.mk none .nil (.mk (some [0, 1, 2, 3, 8, 9, 10]) .nil .nil)) (.mk none .nil (.mk none (.mk none .nil (.mk (some [0, 1, 2, 3, 8, 9, 10, 11, 12]) .nil .nil)) (.mk none (.mk none .nil (.mk (some [0, 1, 2, 3, 8, 9, 10, 11]) .nil .nil)) .nil))))))) .nil) .nil) .nil))) [] = some d156 := by kernel_rfl
theorem told157 : dF cx 8 157 Tryz.f157 (.mk none .nil (.mk none .nil (.mk none (.mk (some [0, 2, 4, 7, 8]) (.mk none .nil (.mk none .nil (.mk none (.mk none (.mk none .nil (.mk none .nil (.mk (some [0, 2, 4, 7, 8]) .nil .nil))) .nil) .nil))) .nil) .nil))) [] = some d157 := by kernel_rfl
theorem told158 : dF cx 8 158 Tryz.f158 (.mk none .nil (.mk none .nil (.mk none .nil (.mk none (.mk none .nil (.mk none (.mk (some [1, 5, 12, 13, 14]) (.mk none .nil (.mk none .nil (.mk none (.mk none (.mk none .nil (.mk none .nil (.mk none (.mk none .nil (.mk (some [1, 5, 12, 13, 14]) .nil .nil)) .nil))) .nil) .nil))) .nil) .nil)) .nil)))) [] = some d158 := by kernel_rfl
theorem told159 : dF cx 8 159 Tryz.f159 (.mk none .nil (.mk none (.mk (some [0, 1, 2, 3, 8]) (.mk none .nil (.mk none (.mk none (.mk none .nil (.mk none (.mk (some [0, 1, 2, 3, 8, 9]) .nil .nil) .nil)) .nil) .nil)) .nil) .nil)) [] = some d159 := by kernel_rfl
theorem told160 : dF cx 8 160 Tryz.f160 (.mk none .nil (.mk none .nil (.mk none .nil (.mk none (.mk none .nil (.mk none (.mk (some [0, 3, 8, 9, 10, 11]) .nil .nil) .nil)) (.mk none .nil (.mk none (.mk (some [0, 3, 8, 9, 12]) .nil .nil) .nil)))))) [] = some d160 := by kernel_rfl
theorem told161 : dF cx 8 161 Tryz.f161 (.mk none .nil (.mk none .nil (.mk (some []) (.mk none .nil (.mk none .nil (.mk none .nil (.mk none (.mk (some [0, 1, 8, 9, 10, 11]) (.mk none .nil (.mk none (.mk none (.mk none .nil (.mk none (.mk none .nil (.mk (some [0, 1, 8, 9, 10, 11, 12]) .nil .nil)) .nil)) .nil) .nil)) .nil) .nil)))) .nil))) [] = some d161 := by kernel_rfl
theorem told162 : dF cx 8 162 Tryz.f162 (.mk none .nil (.mk none .nil (.mk none .nil (.mk none .nil (.mk none .nil (.mk none .nil (.mk none (.mk none .nil (.mk (some [11, 13]) (.mk none (.mk none .nil (.mk (some [0, 3, 11, 12, 13, 14]) .nil .nil)) .nil) .nil)) .nil))))))) [] = some d162 := by kernel_rfl
theorem told163 : dF cx 8 163 Tryz.f163 (.mk none .nil (.mk none .nil (.mk none (.mk (some [0, 8, 9]) .nil .nil) .nil))) [] = some d163 := by kernel_rfl
theorem told164 : dF cx 8 164 Tryz.f164 (.mk none .nil (.mk none .nil (.mk none (.mk none .nil (.mk none (.mk (some [0, 1, 2, 3, 9, 10]) (.mk none .nil (.mk none (.mk none (.mk none (.mk none (.mk (some [0, 1, 2, 3, 9, 10]) .nil .nil) .nil) (.mk none .nil (.mk none .nil (.mk none .nil (.mk none (.mk none .nil (.mk (some [0, 1, 2, 3, 9, 10]) (.mk none .nil (.mk none (.mk (some [0, 1, 2, 3, 9, 10, 11]) .nil .nil) .nil)) .nil)) (.mk none .nil (.mk (some [0, 1, 2, 3, 9, 10]) (.mk none .nil (.mk none (.mk (some [0, 1, 2, 3, 9, 10, 12]) .nil .nil) .nil)) .nil))))))) .nil) .nil)) .nil) .nil)) .nil))) [] = some d164 := by kernel_rfl
theorem told165 : dF cx 8 165 Tryz.f165 (.mk none .nil (.mk none .nil (.mk none .nil (.mk none (.mk none (.mk (some [0, 1, 4, 11, 12]) (.mk none (.mk none (.mk none (.mk (some [0, 1, 4, 11, 12]) .nil .nil) .nil) (.mk none (.mk none (.mk (some [0, 1, 4, 11, 12]) .nil .nil) .nil) .nil)) .nil) .nil) .nil) .nil)))) [] = some d165 := by kernel_rfl
theorem told166 : dF cx 8 166 Tryz.f166 (.mk none .nil (.mk none .nil (.mk none .nil (.mk none (.mk none (.mk (some [0, 1, 4, 12, 13]) .nil .nil) .nil) (.mk none (.mk none (.mk (some [0, 1, 4, 12, 13]) .nil .nil) .nil) (.mk none .nil (.mk none .nil (.mk none .nil (.mk none .nil (.mk none (.mk none (.mk (some [0, 1, 4, 12, 13]) (.mk none (.mk none (.mk none (.mk (some [0, 1, 4, 12, 13]) .nil .nil) .nil) (.mk none (.mk none (.mk (some [0, 1, 4, 12, 13]) .nil .nil) .nil) .nil)) .nil) .nil) .nil) .nil)))))))))) [] = some d166 := by kernel_rfl
theorem told168 : dF cx 8 168 Tryz.f168 .nil [] = some d168 := by kernel_rfl
theorem told169 : dF cx 8 169 Tryz.f169 .nil [] = some d169 := by kernel_rfl
end Go.Proofs.YtheojbhaajbecaaGreat.XCodeN
