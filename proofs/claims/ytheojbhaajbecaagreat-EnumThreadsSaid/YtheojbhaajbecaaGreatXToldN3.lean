/- Each piece of compact code is what the executor makes of the loaded function. Printed by a program of mine (wip/tools/mkcode.py). -/
import Derived.Test.YtheojbhaajbecaaGreatXToldN0
import Derived.Test.YtheojbhaajbecaaGreatXCodeN
import Derived.Test.YtheojbhaajbecaaGreatRows
import Derived.WalkKit
import Derived.ProofKit
set_option maxRecDepth 100000
namespace Go.Proofs.YtheojbhaajbecaaGreat.XCodeN
open Go Go.X
theorem told172 : dF cx 8 172 Tryz.f172 .nil [] = some d172 := by kernel_rfl
theorem told198 : dF cx 8 198 Tryz.f198 (.mk none .nil (.mk none (.mk (some [0, 1, 2, 6]) (.mk none .nil (.mk none (.mk none (.mk none .nil (.mk none (.mk (some [0, 1, 2, 6, 7]) .nil .nil) .nil)) .nil) .nil)) .nil) .nil)) [] = some d198 := by kernel_rfl
theorem told199 : dF cx 8 199 Tryz.f199 (.mk none .nil (.mk none .nil (.mk none .nil (.mk none (.mk none .nil (.mk none (.mk (some [0, 6, 7, 8, 9]) .nil .nil) .nil)) (.mk none .nil (.mk none (.mk (some [0, 6, 7, 10]) .nil .nil) .nil)))))) [] = some d199 := by kernel_rfl
theorem told200 : dF cx 8 200 Tryz.f200 (.mk none .nil (.mk none .nil (.mk (some []) (.mk none .nil (.mk none .nil (.mk none .nil (.mk none (.mk (some [0, 1, 6, 7, 8, 9]) (.mk none .nil (.mk none (.mk none (.mk none .nil (.mk none (.mk none .nil (.mk (some [0, 1, 6, 7, 8, 9, 10]) .nil .nil)) .nil)) .nil) .nil)) .nil) .nil)))) .nil))) [] = some d200 := by kernel_rfl
theorem told201 : dF cx 8 201 Tryz.f201 (.mk none .nil (.mk none .nil (.mk none .nil (.mk none .nil (.mk none .nil (.mk none .nil (.mk none (.mk none .nil (.mk (some [9, 11]) (.mk none (.mk none .nil (.mk (some [0, 9, 10, 11, 12]) .nil .nil)) .nil) .nil)) .nil))))))) [] = some d201 := by kernel_rfl
theorem told202 : dF cx 8 202 Tryz.f202 (.mk none .nil (.mk none .nil (.mk none (.mk (some [0, 6, 7]) .nil .nil) .nil))) [] = some d202 := by kernel_rfl
theorem told203 : dF cx 8 203 Tryz.f203 (.mk none .nil (.mk none .nil (.mk none (.mk none .nil (.mk none (.mk (some [0, 1, 2, 7, 8]) (.mk none .nil (.mk none (.mk none (.mk none (.mk none (.mk (some [0, 1, 2, 7, 8]) .nil .nil) .nil) (.mk none .nil (.mk none .nil (.mk none .nil (.mk none (.mk none .nil (.mk (some [0, 1, 2, 7, 8]) (.mk none .nil (.mk none (.mk (some [0, 1, 2, 7, 8, 9]) .nil .nil) .nil)) .nil)) (.mk none .nil (.mk (some [0, 1, 2, 7, 8]) (.mk none .nil (.mk none (.mk (some [0, 1, 2, 7, 8, 10]) .nil .nil) .nil)) .nil))))))) .nil) .nil)) .nil) .nil)) .nil))) [] = some d203 := by kernel_rfl
theorem told204 : dF cx 8 204 Tryz.f204 .nil [] = some d204 := by kernel_rfl
theorem told205 : dF cx 8 205 Tryz.f205 (.mk none .nil (.mk none .nil (.mk none .nil (.mk none (.mk none (.mk (some [0, 1, 9, 10]) (.mk none (.mk none (.mk none (.mk (some [0, 1, 9, 10]) .nil .nil) .nil) (.mk none (.mk none (.mk (some [0, 1, 9, 10]) .nil .nil) .nil) .nil)) .nil) .nil) .nil) .nil)))) [] = some d205 := by kernel_rfl
theorem told206 : dF cx 8 206 Tryz.f206 (.mk none .nil (.mk none .nil (.mk none .nil (.mk none (.mk none (.mk (some [0, 1, 10, 11]) .nil .nil) .nil) (.mk none (.mk none (.mk (some [0, 1, 10, 11]) .nil .nil) .nil) (.mk none .nil (.mk none .nil (.mk none .nil (.mk none .nil (.mk none (.mk none (.mk (some [0, 1, 10, 11]) (.mk none (.mk none (.mk none (.mk (some [0, 1, 10, 11]) .nil .nil) .nil) (.mk none (.mk none (.mk (some [0, 1, 10, 11]) .nil .nil) .nil) .nil)) .nil) .nil) .nil) .nil)))))))))) [] = some d206 := by kernel_rfl
theorem told207 : dF cx 8 207 Tryz.f207 .nil [] = some d207 := by kernel_rfl
theorem told208 : dF cx 8 208 Tryz.f208 .nil [] = some d208 := by kernel_rfl
theorem told209 : dF cx 8 209 Tryz.f209 (.mk none .nil (.mk none (.mk (some [0, 2, 3, 4, 10]) (.mk none (.mk none .nil (.mk none .nil (.mk none (.mk none .nil (.mk (some [0, 2, 3, 4, 10, 11]) .nil .nil)) .nil))) .nil) .nil) .nil)) [] = some d209 := by kernel_rfl
theorem told210 : dF cx 8 210 Tryz.f210 .nil [] = some d210 := by kernel_rfl
theorem told211 : dF cx 8 211 Tryz.f211 .nil [] = some d211 := by kernel_rfl
theorem told222 : dF cx 8 222 Tryz.f222 (.mk none .nil (.mk none (.mk (some [0, 2, 3, 8]) (.mk none (.mk none .nil (.mk none .nil (.mk none (.mk none .nil (.mk (some [0, 2, 3, 8, 9]) .nil .nil)) .nil))) .nil) .nil) .nil)) [] = some d222 := by kernel_rfl
theorem told223 : dF cx 8 223 Tryz.f223 .nil [] = some d223 := by kernel_rfl
theorem told224 : dF cx 8 224 Tryz.f224 .nil [] = some d224 := by kernel_rfl
theorem told225 : dF cx 8 225 Tryz.f225 .nil [] = some d225 := by kernel_rfl
theorem told226 : dF cx 8 226 Tryz.f226 .nil [] = some d226 := by kernel_rfl
theorem told227 : dF cx 8 227 Tryz.f227 .nil [] = some d227 := by kernel_rfl
theorem told228 : dF cx 8 228 Tryz.f228 .nil [] = some d228 := by kernel_rfl
theorem told229 : dF cx 8 229 Tryz.f229 .nil [] = some d229 := by kernel_rfl
theorem told230 : dF cx 8 230 Tryz.f230 .nil [] = some d230 := by kernel_rfl
theorem told231 : dF cx 8 231 Tryz.f231 .nil [] = some d231 := by kernel_rfl
theorem told232 : dF cx 8 232 Tryz.f232 .nil [] = some d232 := by kernel_rfl
theorem told233 : dF cx 8 233 Tryz.f233 .nil [] = some d233 := by kernel_rfl
end Go.Proofs.YtheojbhaajbecaaGreat.XCodeN
