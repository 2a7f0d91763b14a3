/- Each piece of compact code is what the executor makes of the loaded function. Printed by a program of mine (wip/tools/mkcode.py). -/
import Derived.Test.YtheojbhaajbecaaGreatXToldN0
import Derived.Test.YtheojbhaajbecaaGreatXCodeN
import Derived.Test.YtheojbhaajbecaaGreatRows
import Derived.WalkKit
import Derived.ProofKit
set_option maxRecDepth 100000
namespace Go.Proofs.YtheojbhaajbecaaGreat.XCodeN
open Go Go.X
theorem told108 : cF cx 8 108 Tryz.f108 = some c108 := by kernel_rfl
theorem told109 : cF cx 8 109 Tryz.f109 = some c109 := by kernel_rfl
theorem told110 : cF cx 8 110 Tryz.f110 = some c110 := by kernel_rfl
theorem told111 : cF cx 8 111 Tryz.f111 = some c111 := by kernel_rfl
theorem told112 : cF cx 8 112 Tryz.f112 = some c112 := by kernel_rfl
theorem told113 : cF cx 8 113 Tryz.f113 = some c113 := by kernel_rfl
theorem told114 : cF cx 8 114 Tryz.f114 = some c114 := by kernel_rfl
theorem told115 : cF cx 8 115 Tryz.f115 = some c115 := by kernel_rfl
theorem told116 : cF cx 8 116 Tryz.f116 = some c116 := by kernel_rfl
theorem told117 : cF cx 8 117 Tryz.f117 = some c117 := by kernel_rfl
theorem told118 : cF cx 8 118 Tryz.f118 = some c118 := by kernel_rfl
theorem told119 : cF cx 8 119 Tryz.f119 = some c119 := by kernel_rfl
theorem told128 : cF cx 8 128 Tryz.f128 = some c128 := by kernel_rfl
theorem told129 : cF cx 8 129 Tryz.f129 = some c129 := by kernel_rfl
theorem told156 : cF cx 8 156 Tryz.f156 = some c156 := by kernel_rfl
theorem told157 : cF cx 8 157 Tryz.f157 = some c157 := by kernel_rfl
theorem told158 : cF cx 8 158 Tryz.f158 = some c158 := by kernel_rfl
theorem told159 : cF cx 8 159 Tryz.f159 = some c159 := by kernel_rfl
theorem told160 : cF cx 8 160 Tryz.f160 = some c160 := by kernel_rfl
theorem told161 : cF cx 8 161 Tryz.f161 = some c161 := by kernel_rfl
theorem told162 : cF cx 8 162 Tryz.f162 = some c162 := by kernel_rfl
theorem told163 : cF cx 8 163 Tryz.f163 = some c163 := by kernel_rfl
theorem told164 : cF cx 8 164 Tryz.f164 = some c164 := by kernel_rfl
theorem told165 : cF cx 8 165 Tryz.f165 = some c165 := by kernel_rfl
theorem told166 : cF cx 8 166 Tryz.f166 = some c166 := by kernel_rfl
theorem told168 : cF cx 8 168 Tryz.f168 = some c168 := by kernel_rfl
theorem told169 : cF cx 8 169 Tryz.f169 = some c169 := by kernel_rfl
end Go.Proofs.YtheojbhaajbecaaGreat.XCodeN
