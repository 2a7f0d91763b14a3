/- Each piece of compact code is what the executor makes of the loaded function. Printed by a program of mine (wip/tools/mkcode.py). -/
import Derived.Test.YtheojbhaajbecaaGreatXCodeN
import Derived.Test.YtheojbhaajbecaaGreatRows
import Derived.WalkKit
import Derived.ProofKit
set_option maxRecDepth 100000
namespace Go.Proofs.YtheojbhaajbecaaGreat.XCodeN
open Go Go.X
noncomputable def cx : Cx := ⟨Tryz.prog, [108, 87], path, fun _ => []⟩
theorem told3 : cF cx 8 3 Tryz.f3 = some c3 := by kernel_rfl
theorem told4 : cF cx 8 4 Tryz.f4 = some c4 := by kernel_rfl
theorem told5 : cF cx 8 5 Tryz.f5 = some c5 := by kernel_rfl
theorem told8 : cF cx 8 8 Tryz.f8 = some c8 := by kernel_rfl
theorem told9 : cF cx 8 9 Tryz.f9 = some c9 := by kernel_rfl
theorem told10 : cF cx 8 10 Tryz.f10 = some c10 := by kernel_rfl
theorem told11 : cF cx 8 11 Tryz.f11 = some c11 := by kernel_rfl
theorem told12 : cF cx 8 12 Tryz.f12 = some c12 := by kernel_rfl
theorem told18 : cF cx 8 18 Tryz.f18 = some c18 := by kernel_rfl
theorem told19 : cF cx 8 19 Tryz.f19 = some c19 := by kernel_rfl
theorem told20 : cF cx 8 20 Tryz.f20 = some c20 := by kernel_rfl
theorem told21 : cF cx 8 21 Tryz.f21 = some c21 := by kernel_rfl
theorem told22 : cF cx 8 22 Tryz.f22 = some c22 := by kernel_rfl
theorem told23 : cF cx 8 23 Tryz.f23 = some c23 := by kernel_rfl
theorem told24 : cF cx 8 24 Tryz.f24 = some c24 := by kernel_rfl
theorem told36 : cF cx 8 36 Tryz.f36 = some c36 := by kernel_rfl
theorem told37 : cF cx 8 37 Tryz.f37 = some c37 := by kernel_rfl
theorem told38 : cF cx 8 38 Tryz.f38 = some c38 := by kernel_rfl
theorem told39 : cF cx 8 39 Tryz.f39 = some c39 := by kernel_rfl
theorem told40 : cF cx 8 40 Tryz.f40 = some c40 := by kernel_rfl
theorem told41 : cF cx 8 41 Tryz.f41 = some c41 := by kernel_rfl
theorem told42 : cF cx 8 42 Tryz.f42 = some c42 := by kernel_rfl
theorem told43 : cF cx 8 43 Tryz.f43 = some c43 := by kernel_rfl
theorem told44 : cF cx 8 44 Tryz.f44 = some c44 := by kernel_rfl
theorem told45 : cF cx 8 45 Tryz.f45 = some c45 := by kernel_rfl
theorem told46 : cF cx 8 46 Tryz.f46 = some c46 := by kernel_rfl
theorem told47 : cF cx 8 47 Tryz.f47 = some c47 := by kernel_rfl
end Go.Proofs.YtheojbhaajbecaaGreat.XCodeN
