/- A text of the verified executor, of contracts, or of this law; joined and trimmed by a program of mine (wip/gen). -/
import Derived.Test.YthkipncmnefomaaXCodeL0
set_option linter.unusedVariables false
set_option linter.unusedSimpArgs false
set_option linter.unusedSectionVars false
set_option maxRecDepth 100000
namespace Go.Proofs.Ythkipncmnefomaa.XCodeL
open Go Go.X
noncomputable def codeL : List (Nat × FnD) := [(4, d4), (6, d6), (7, d7), (10, d10), (11, d11), (12, d12), (13, d13), (14, d14), (19, d19), (20, d20), (21, d21), (22, d22), (23, d23), (24, d24), (25, d25), (26, d26), (27, d27), (28, d28), (29, d29), (30, d30), (31, d31), (37, d37), (38, d38), (39, d39), (40, d40), (41, d41), (42, d42), (43, d43), (44, d44), (45, d45), (49, d49), (50, d50), (51, d51), (52, d52), (53, d53), (56, d56), (57, d57), (58, d58), (59, d59), (60, d60), (61, d61), (62, d62), (63, d63), (64, d64), (65, d65), (66, d66), (67, d67), (68, d68), (69, d69), (70, d70), (71, d71), (72, d72), (73, d73), (74, d74), (75, d75)]
noncomputable def code : Uh FnD := tabOf codeL
end Go.Proofs.Ythkipncmnefomaa.XCodeL
