/- Each piece of compact code is what the executor makes of the loaded function. Printed by a program of mine (wip/tools/mkcode.py). -/
import Derived.Test.YtaoobghobcikdaaXToldG0
import Derived.Test.YtaoobghobcikdaaXCodeG
import Derived.Test.YtaoobghobcikdaaRows
import Derived.WalkKit
import Derived.ProofKit
set_option maxRecDepth 100000
namespace Go.Proofs.Ytaoobghobcikdaa.XCodeG
open Go Go.X
theorem told47 : cF cx 8 47 Try.f47 = some c47 := by kernel_rfl
theorem told48 : cF cx 8 48 Try.f48 = some c48 := by kernel_rfl
theorem told49 : cF cx 8 49 Try.f49 = some c49 := by kernel_rfl
theorem told50 : cF cx 8 50 Try.f50 = some c50 := by kernel_rfl
theorem told51 : cF cx 8 51 Try.f51 = some c51 := by kernel_rfl
theorem told52 : cF cx 8 52 Try.f52 = some c52 := by kernel_rfl
theorem told53 : cF cx 8 53 Try.f53 = some c53 := by kernel_rfl
theorem told54 : cF cx 8 54 Try.f54 = some c54 := by kernel_rfl
theorem told55 : cF cx 8 55 Try.f55 = some c55 := by kernel_rfl
theorem told56 : cF cx 8 56 Try.f56 = some c56 := by kernel_rfl
theorem told57 : cF cx 8 57 Try.f57 = some c57 := by kernel_rfl
theorem told58 : cF cx 8 58 Try.f58 = some c58 := by kernel_rfl
theorem told59 : cF cx 8 59 Try.f59 = some c59 := by kernel_rfl
theorem told60 : cF cx 8 60 Try.f60 = some c60 := by kernel_rfl
theorem told61 : cF cx 8 61 Try.f61 = some c61 := by kernel_rfl
theorem told62 : cF cx 8 62 Try.f62 = some c62 := by kernel_rfl
theorem told63 : cF cx 8 63 Try.f63 = some c63 := by kernel_rfl
theorem told64 : cF cx 8 64 Try.f64 = some c64 := by kernel_rfl
theorem told65 : cF cx 8 65 Try.f65 = some c65 := by kernel_rfl
theorem told66 : cF cx 8 66 Try.f66 = some c66 := by kernel_rfl
theorem told67 : cF cx 8 67 Try.f67 = some c67 := by kernel_rfl
theorem told68 : cF cx 8 68 Try.f68 = some c68 := by kernel_rfl
theorem told69 : cF cx 8 69 Try.f69 = some c69 := by kernel_rfl
theorem told70 : cF cx 8 70 Try.f70 = some c70 := by kernel_rfl
theorem told71 : cF cx 8 71 Try.f71 = some c71 := by kernel_rfl
theorem told72 : cF cx 8 72 Try.f72 = some c72 := by kernel_rfl
theorem told73 : cF cx 8 73 Try.f73 = some c73 := by kernel_rfl
theorem told74 : cF cx 8 74 Try.f74 = some c74 := by kernel_rfl
theorem told75 : cF cx 8 75 Try.f75 = some c75 := by kernel_rfl
theorem told76 : cF cx 8 76 Try.f76 = some c76 := by kernel_rfl
theorem told77 : cF cx 8 77 Try.f77 = some c77 := by kernel_rfl
theorem told78 : cF cx 8 78 Try.f78 = some c78 := by kernel_rfl
theorem told79 : cF cx 8 79 Try.f79 = some c79 := by kernel_rfl
theorem told80 : cF cx 8 80 Try.f80 = some c80 := by kernel_rfl
theorem told81 : cF cx 8 81 Try.f81 = some c81 := by kernel_rfl
theorem told82 : cF cx 8 82 Try.f82 = some c82 := by kernel_rfl
theorem told83 : cF cx 8 83 Try.f83 = some c83 := by kernel_rfl
theorem told84 : cF cx 8 84 Try.f84 = some c84 := by kernel_rfl
theorem told85 : cF cx 8 85 Try.f85 = some c85 := by kernel_rfl
theorem told86 : cF cx 8 86 Try.f86 = some c86 := by kernel_rfl
theorem told87 : cF cx 8 87 Try.f87 = some c87 := by kernel_rfl
theorem told88 : cF cx 8 88 Try.f88 = some c88 := by kernel_rfl
theorem told89 : cF cx 8 89 Try.f89 = some c89 := by kernel_rfl
end Go.Proofs.Ytaoobghobcikdaa.XCodeG
