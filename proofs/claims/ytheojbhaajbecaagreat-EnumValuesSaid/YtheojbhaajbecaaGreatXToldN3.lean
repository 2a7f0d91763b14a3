/- Each piece of compact code is what the executor makes of the loaded function. Printed by a program of mine (wip/tools/mkcode.py). -/
import Derived.Test.YtheojbhaajbecaaGreatXToldN0
import Derived.Test.YtheojbhaajbecaaGreatXCodeN
import Derived.Test.YtheojbhaajbecaaGreatRows
import Derived.WalkKit
import Derived.ProofKit
set_option maxRecDepth 100000
namespace Go.Proofs.YtheojbhaajbecaaGreat.XCodeN
open Go Go.X
theorem told172 : cF cx 8 172 Tryz.f172 = some c172 := by kernel_rfl
theorem told198 : cF cx 8 198 Tryz.f198 = some c198 := by kernel_rfl
theorem told199 : cF cx 8 199 Tryz.f199 = some c199 := by kernel_rfl
theorem told200 : cF cx 8 200 Tryz.f200 = some c200 := by kernel_rfl
theorem told201 : cF cx 8 201 Tryz.f201 = some c201 := by kernel_rfl
theorem told202 : cF cx 8 202 Tryz.f202 = some c202 := by kernel_rfl
theorem told203 : cF cx 8 203 Tryz.f203 = some c203 := by kernel_rfl
theorem told204 : cF cx 8 204 Tryz.f204 = some c204 := by kernel_rfl
theorem told205 : cF cx 8 205 Tryz.f205 = some c205 := by kernel_rfl
theorem told206 : cF cx 8 206 Tryz.f206 = some c206 := by kernel_rfl
theorem told207 : cF cx 8 207 Tryz.f207 = some c207 := by kernel_rfl
theorem told208 : cF cx 8 208 Tryz.f208 = some c208 := by kernel_rfl
theorem told209 : cF cx 8 209 Tryz.f209 = some c209 := by kernel_rfl
theorem told210 : cF cx 8 210 Tryz.f210 = some c210 := by kernel_rfl
theorem told211 : cF cx 8 211 Tryz.f211 = some c211 := by kernel_rfl
theorem told222 : cF cx 8 222 Tryz.f222 = some c222 := by kernel_rfl
theorem told223 : cF cx 8 223 Tryz.f223 = some c223 := by kernel_rfl
theorem told224 : cF cx 8 224 Tryz.f224 = some c224 := by kernel_rfl
theorem told225 : cF cx 8 225 Tryz.f225 = some c225 := by kernel_rfl
theorem told226 : cF cx 8 226 Tryz.f226 = some c226 := by kernel_rfl
theorem told227 : cF cx 8 227 Tryz.f227 = some c227 := by kernel_rfl
theorem told228 : cF cx 8 228 Tryz.f228 = some c228 := by kernel_rfl
theorem told229 : cF cx 8 229 Tryz.f229 = some c229 := by kernel_rfl
theorem told230 : cF cx 8 230 Tryz.f230 = some c230 := by kernel_rfl
theorem told231 : cF cx 8 231 Tryz.f231 = some c231 := by kernel_rfl
theorem told232 : cF cx 8 232 Tryz.f232 = some c232 := by kernel_rfl
theorem told233 : cF cx 8 233 Tryz.f233 = some c233 := by kernel_rfl
end Go.Proofs.YtheojbhaajbecaaGreat.XCodeN
