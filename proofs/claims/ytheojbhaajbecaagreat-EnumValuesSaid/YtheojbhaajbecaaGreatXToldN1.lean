/- Each piece of compact code is what the executor makes of the loaded function. Printed by a program of mine (wip/tools/mkcode.py). -/
import Derived.Test.YtheojbhaajbecaaGreatXToldN0
import Derived.Test.YtheojbhaajbecaaGreatXCodeN
import Derived.Test.YtheojbhaajbecaaGreatRows
import Derived.WalkKit
import Derived.ProofKit
set_option maxRecDepth 100000
namespace Go.Proofs.YtheojbhaajbecaaGreat.XCodeN
open Go Go.X
theorem told48 : cF cx 8 48 Tryz.f48 = some c48 := by kernel_rfl
theorem told49 : cF cx 8 49 Tryz.f49 = some c49 := by kernel_rfl
theorem told50 : cF cx 8 50 Tryz.f50 = some c50 := by kernel_rfl
theorem told51 : cF cx 8 51 Tryz.f51 = some c51 := by kernel_rfl
theorem told62 : cF cx 8 62 Tryz.f62 = some c62 := by kernel_rfl
theorem told63 : cF cx 8 63 Tryz.f63 = some c63 := by kernel_rfl
theorem told64 : cF cx 8 64 Tryz.f64 = some c64 := by kernel_rfl
theorem told65 : cF cx 8 65 Tryz.f65 = some c65 := by kernel_rfl
theorem told66 : cF cx 8 66 Tryz.f66 = some c66 := by kernel_rfl
theorem told67 : cF cx 8 67 Tryz.f67 = some c67 := by kernel_rfl
theorem told68 : cF cx 8 68 Tryz.f68 = some c68 := by kernel_rfl
theorem told69 : cF cx 8 69 Tryz.f69 = some c69 := by kernel_rfl
theorem told70 : cF cx 8 70 Tryz.f70 = some c70 := by kernel_rfl
theorem told71 : cF cx 8 71 Tryz.f71 = some c71 := by kernel_rfl
theorem told72 : cF cx 8 72 Tryz.f72 = some c72 := by kernel_rfl
theorem told73 : cF cx 8 73 Tryz.f73 = some c73 := by kernel_rfl
theorem told74 : cF cx 8 74 Tryz.f74 = some c74 := by kernel_rfl
theorem told75 : cF cx 8 75 Tryz.f75 = some c75 := by kernel_rfl
theorem told76 : cF cx 8 76 Tryz.f76 = some c76 := by kernel_rfl
theorem told77 : cF cx 8 77 Tryz.f77 = some c77 := by kernel_rfl
theorem told78 : cF cx 8 78 Tryz.f78 = some c78 := by kernel_rfl
theorem told79 : cF cx 8 79 Tryz.f79 = some c79 := by kernel_rfl
theorem told80 : cF cx 8 80 Tryz.f80 = some c80 := by kernel_rfl
theorem told82 : cF cx 8 82 Tryz.f82 = some c82 := by kernel_rfl
theorem told105 : cF cx 8 105 Tryz.f105 = some c105 := by kernel_rfl
theorem told106 : cF cx 8 106 Tryz.f106 = some c106 := by kernel_rfl
theorem told107 : cF cx 8 107 Tryz.f107 = some c107 := by kernel_rfl
end Go.Proofs.YtheojbhaajbecaaGreat.XCodeN
