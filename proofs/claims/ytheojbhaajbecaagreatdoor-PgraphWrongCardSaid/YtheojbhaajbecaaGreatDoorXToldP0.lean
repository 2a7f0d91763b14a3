/- Each piece of compact code is what the executor makes of the loaded function. Printed by a program of mine (wip/tools/mkcode.py). -/
import Derived.Test.YtheojbhaajbecaaGreatDoorXCodeP
import Derived.Test.YtheojbhaajbecaaGreatDoorRows
import Derived.WalkKit
import Derived.ProofKit
set_option maxRecDepth 100000
namespace Go.Proofs.YtheojbhaajbecaaGreatDoor.XCodeP
open Go Go.X
noncomputable def cx : Cx := ⟨Tryz.prog, [53, 126, 28, 291], path, fun _ => []⟩
theorem told3 : cF cx 8 3 Tryz.f3 = some c3 := by kernel_rfl
theorem told4 : cF cx 8 4 Tryz.f4 = some c4 := by kernel_rfl
theorem told7 : cF cx 8 7 Tryz.f7 = some c7 := by kernel_rfl
theorem told8 : cF cx 8 8 Tryz.f8 = some c8 := by kernel_rfl
theorem told9 : cF cx 8 9 Tryz.f9 = some c9 := by kernel_rfl
theorem told10 : cF cx 8 10 Tryz.f10 = some c10 := by kernel_rfl
theorem told18 : cF cx 8 18 Tryz.f18 = some c18 := by kernel_rfl
theorem told19 : cF cx 8 19 Tryz.f19 = some c19 := by kernel_rfl
theorem told20 : cF cx 8 20 Tryz.f20 = some c20 := by kernel_rfl
theorem told21 : cF cx 8 21 Tryz.f21 = some c21 := by kernel_rfl
theorem told22 : cF cx 8 22 Tryz.f22 = some c22 := by kernel_rfl
theorem told23 : cF cx 8 23 Tryz.f23 = some c23 := by kernel_rfl
theorem told24 : cF cx 8 24 Tryz.f24 = some c24 := by kernel_rfl
theorem told25 : cF cx 8 25 Tryz.f25 = some c25 := by kernel_rfl
theorem told41 : cF cx 8 41 Tryz.f41 = some c41 := by kernel_rfl
theorem told42 : cF cx 8 42 Tryz.f42 = some c42 := by kernel_rfl
theorem told43 : cF cx 8 43 Tryz.f43 = some c43 := by kernel_rfl
theorem told44 : cF cx 8 44 Tryz.f44 = some c44 := by kernel_rfl
theorem told45 : cF cx 8 45 Tryz.f45 = some c45 := by kernel_rfl
theorem told46 : cF cx 8 46 Tryz.f46 = some c46 := by kernel_rfl
theorem told47 : cF cx 8 47 Tryz.f47 = some c47 := by kernel_rfl
theorem told48 : cF cx 8 48 Tryz.f48 = some c48 := by kernel_rfl
theorem told49 : cF cx 8 49 Tryz.f49 = some c49 := by kernel_rfl
theorem told50 : cF cx 8 50 Tryz.f50 = some c50 := by kernel_rfl
theorem told51 : cF cx 8 51 Tryz.f51 = some c51 := by kernel_rfl
theorem told52 : cF cx 8 52 Tryz.f52 = some c52 := by kernel_rfl
theorem told53 : cF cx 8 53 Tryz.f53 = some c53 := by kernel_rfl
theorem told54 : cF cx 8 54 Tryz.f54 = some c54 := by kernel_rfl
theorem told55 : cF cx 8 55 Tryz.f55 = some c55 := by kernel_rfl
theorem told56 : cF cx 8 56 Tryz.f56 = some c56 := by kernel_rfl
theorem told79 : cF cx 8 79 Tryz.f79 = some c79 := by kernel_rfl
theorem told80 : cF cx 8 80 Tryz.f80 = some c80 := by kernel_rfl
theorem told81 : cF cx 8 81 Tryz.f81 = some c81 := by kernel_rfl
theorem told82 : cF cx 8 82 Tryz.f82 = some c82 := by kernel_rfl
theorem told83 : cF cx 8 83 Tryz.f83 = some c83 := by kernel_rfl
theorem told84 : cF cx 8 84 Tryz.f84 = some c84 := by kernel_rfl
theorem told85 : cF cx 8 85 Tryz.f85 = some c85 := by kernel_rfl
theorem told86 : cF cx 8 86 Tryz.f86 = some c86 := by kernel_rfl
theorem told87 : cF cx 8 87 Tryz.f87 = some c87 := by kernel_rfl
theorem told88 : cF cx 8 88 Tryz.f88 = some c88 := by kernel_rfl
theorem told89 : cF cx 8 89 Tryz.f89 = some c89 := by kernel_rfl
theorem told90 : cF cx 8 90 Tryz.f90 = some c90 := by kernel_rfl
theorem told91 : cF cx 8 91 Tryz.f91 = some c91 := by kernel_rfl
theorem told92 : cF cx 8 92 Tryz.f92 = some c92 := by kernel_rfl
theorem told93 : cF cx 8 93 Tryz.f93 = some c93 := by kernel_rfl
theorem told94 : cF cx 8 94 Tryz.f94 = some c94 := by kernel_rfl
theorem told95 : cF cx 8 95 Tryz.f95 = some c95 := by kernel_rfl
theorem told96 : cF cx 8 96 Tryz.f96 = some c96 := by kernel_rfl
theorem told97 : cF cx 8 97 Tryz.f97 = some c97 := by kernel_rfl
theorem told98 : cF cx 8 98 Tryz.f98 = some c98 := by kernel_rfl
theorem told99 : cF cx 8 99 Tryz.f99 = some c99 := by kernel_rfl
theorem told100 : cF cx 8 100 Tryz.f100 = some c100 := by kernel_rfl
theorem told101 : cF cx 8 101 Tryz.f101 = some c101 := by kernel_rfl
theorem told102 : cF cx 8 102 Tryz.f102 = some c102 := by kernel_rfl
theorem told143 : cF cx 8 143 Tryz.f143 = some c143 := by kernel_rfl
theorem told144 : cF cx 8 144 Tryz.f144 = some c144 := by kernel_rfl
theorem told149 : cF cx 8 149 Tryz.f149 = some c149 := by kernel_rfl
theorem told152 : cF cx 8 152 Tryz.f152 = some c152 := by kernel_rfl
theorem told153 : cF cx 8 153 Tryz.f153 = some c153 := by kernel_rfl
theorem told154 : cF cx 8 154 Tryz.f154 = some c154 := by kernel_rfl
theorem told155 : cF cx 8 155 Tryz.f155 = some c155 := by kernel_rfl
theorem told156 : cF cx 8 156 Tryz.f156 = some c156 := by kernel_rfl
theorem told157 : cF cx 8 157 Tryz.f157 = some c157 := by kernel_rfl
theorem told158 : cF cx 8 158 Tryz.f158 = some c158 := by kernel_rfl
theorem told159 : cF cx 8 159 Tryz.f159 = some c159 := by kernel_rfl
theorem told160 : cF cx 8 160 Tryz.f160 = some c160 := by kernel_rfl
theorem told161 : cF cx 8 161 Tryz.f161 = some c161 := by kernel_rfl
theorem told162 : cF cx 8 162 Tryz.f162 = some c162 := by kernel_rfl
theorem told163 : cF cx 8 163 Tryz.f163 = some c163 := by kernel_rfl
theorem told164 : cF cx 8 164 Tryz.f164 = some c164 := by kernel_rfl
theorem told165 : cF cx 8 165 Tryz.f165 = some c165 := by kernel_rfl
theorem told166 : cF cx 8 166 Tryz.f166 = some c166 := by kernel_rfl
end Go.Proofs.YtheojbhaajbecaaGreatDoor.XCodeP
