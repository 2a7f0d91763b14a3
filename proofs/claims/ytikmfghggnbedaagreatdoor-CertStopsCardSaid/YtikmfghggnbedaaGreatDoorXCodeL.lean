/- The table of the direct code. Printed by a program of mine (wip/tools/mkcode10.py). -/
import Derived.Test.YtikmfghggnbedaaGreatDoorXCodeL0
set_option maxRecDepth 100000
namespace Go.Proofs.YtikmfghggnbedaaGreatDoor.XCodeL
open Go Go.X
noncomputable def codeL : List (Nat × FnD) := [(3, d3), (4, d4), (5, d5), (6, d6), (7, d7), (8, d8), (9, d9), (10, d10), (11, d11), (12, d12), (13, d13), (14, d14), (15, d15), (16, d16), (17, d17), (18, d18), (19, d19), (21, d21), (22, d22), (23, d23), (24, d24), (25, d25), (26, d26), (27, d27), (28, d28), (29, d29), (30, d30), (31, d31), (34, d34), (46, d46), (47, d47), (50, d50), (51, d51), (52, d52), (53, d53), (54, d54), (56, d56), (57, d57), (58, d58), (59, d59), (60, d60), (62, d62), (63, d63), (64, d64), (65, d65), (70, d70), (71, d71), (73, d73), (78, d78), (79, d79), (80, d80), (81, d81), (94, d94), (98, d98), (108, d108)]
noncomputable def code : Uh FnD := tabOf codeL
end Go.Proofs.YtikmfghggnbedaaGreatDoor.XCodeL
