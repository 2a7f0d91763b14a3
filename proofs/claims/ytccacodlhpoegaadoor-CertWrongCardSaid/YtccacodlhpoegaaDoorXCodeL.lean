/- The table of the direct code. Printed by a program of mine (wip/tools/mkcode10.py). -/
import Derived.Test.YtccacodlhpoegaaDoorXCodeL0
set_option maxRecDepth 100000
namespace Go.Proofs.YtccacodlhpoegaaDoor.XCodeL
open Go Go.X
noncomputable def codeL : List (Nat × FnD) := [(3, d3), (4, d4), (5, d5), (6, d6), (7, d7), (8, d8), (9, d9), (10, d10), (11, d11), (13, d13), (14, d14), (15, d15), (16, d16), (17, d17), (18, d18), (19, d19), (20, d20), (21, d21), (22, d22), (23, d23), (25, d25), (26, d26), (31, d31), (42, d42)]
noncomputable def code : Uh FnD := tabOf codeL
end Go.Proofs.YtccacodlhpoegaaDoor.XCodeL
