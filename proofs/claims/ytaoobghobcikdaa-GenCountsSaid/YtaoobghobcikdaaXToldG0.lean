/- Each piece of compact code is what the executor makes of the loaded function. Printed by a program of mine (wip/tools/mkcode.py). -/
import Derived.Test.YtaoobghobcikdaaXCodeG
import Derived.Test.YtaoobghobcikdaaRows
import Derived.WalkKit
import Derived.ProofKit
set_option maxRecDepth 100000
namespace Go.Proofs.Ytaoobghobcikdaa.XCodeG
open Go Go.X
noncomputable def cx : Cx := ⟨Try.prog, [78], path, fun _ => []⟩
theorem told3 : cF cx 8 3 Try.f3 = some c3 := by kernel_rfl
theorem told4 : cF cx 8 4 Try.f4 = some c4 := by kernel_rfl
theorem told5 : cF cx 8 5 Try.f5 = some c5 := by kernel_rfl
theorem told6 : cF cx 8 6 Try.f6 = some c6 := by kernel_rfl
theorem told7 : cF cx 8 7 Try.f7 = some c7 := by kernel_rfl
theorem told8 : cF cx 8 8 Try.f8 = some c8 := by kernel_rfl
theorem told9 : cF cx 8 9 Try.f9 = some c9 := by kernel_rfl
theorem told10 : cF cx 8 10 Try.f10 = some c10 := by kernel_rfl
theorem told11 : cF cx 8 11 Try.f11 = some c11 := by kernel_rfl
theorem told12 : cF cx 8 12 Try.f12 = some c12 := by kernel_rfl
theorem told13 : cF cx 8 13 Try.f13 = some c13 := by kernel_rfl
theorem told14 : cF cx 8 14 Try.f14 = some c14 := by kernel_rfl
theorem told15 : cF cx 8 15 Try.f15 = some c15 := by kernel_rfl
theorem told16 : cF cx 8 16 Try.f16 = some c16 := by kernel_rfl
theorem told17 : cF cx 8 17 Try.f17 = some c17 := by kernel_rfl
theorem told18 : cF cx 8 18 Try.f18 = some c18 := by kernel_rfl
theorem told19 : cF cx 8 19 Try.f19 = some c19 := by kernel_rfl
theorem told20 : cF cx 8 20 Try.f20 = some c20 := by kernel_rfl
theorem told21 : cF cx 8 21 Try.f21 = some c21 := by kernel_rfl
theorem told22 : cF cx 8 22 Try.f22 = some c22 := by kernel_rfl
theorem told23 : cF cx 8 23 Try.f23 = some c23 := by kernel_rfl
theorem told24 : cF cx 8 24 Try.f24 = some c24 := by kernel_rfl
theorem told25 : cF cx 8 25 Try.f25 = some c25 := by kernel_rfl
theorem told26 : cF cx 8 26 Try.f26 = some c26 := by kernel_rfl
theorem told27 : cF cx 8 27 Try.f27 = some c27 := by kernel_rfl
theorem told28 : cF cx 8 28 Try.f28 = some c28 := by kernel_rfl
theorem told29 : cF cx 8 29 Try.f29 = some c29 := by kernel_rfl
theorem told30 : cF cx 8 30 Try.f30 = some c30 := by kernel_rfl
theorem told31 : cF cx 8 31 Try.f31 = some c31 := by kernel_rfl
theorem told32 : cF cx 8 32 Try.f32 = some c32 := by kernel_rfl
theorem told33 : cF cx 8 33 Try.f33 = some c33 := by kernel_rfl
theorem told34 : cF cx 8 34 Try.f34 = some c34 := by kernel_rfl
theorem told35 : cF cx 8 35 Try.f35 = some c35 := by kernel_rfl
theorem told36 : cF cx 8 36 Try.f36 = some c36 := by kernel_rfl
theorem told37 : cF cx 8 37 Try.f37 = some c37 := by kernel_rfl
theorem told38 : cF cx 8 38 Try.f38 = some c38 := by kernel_rfl
theorem told39 : cF cx 8 39 Try.f39 = some c39 := by kernel_rfl
theorem told40 : cF cx 8 40 Try.f40 = some c40 := by kernel_rfl
theorem told41 : cF cx 8 41 Try.f41 = some c41 := by kernel_rfl
theorem told42 : cF cx 8 42 Try.f42 = some c42 := by kernel_rfl
theorem told43 : cF cx 8 43 Try.f43 = some c43 := by kernel_rfl
theorem told44 : cF cx 8 44 Try.f44 = some c44 := by kernel_rfl
theorem told45 : cF cx 8 45 Try.f45 = some c45 := by kernel_rfl
theorem told46 : cF cx 8 46 Try.f46 = some c46 := by kernel_rfl
end Go.Proofs.Ytaoobghobcikdaa.XCodeG
