/- The table of the compact code. Printed by a program of mine (wip/tools/mkcode.py). -/
import Derived.Test.YtaoobghobcikdaaXCodeG0
import Derived.Test.YtaoobghobcikdaaXCodeG1
import Derived.Test.YtaoobghobcikdaaXTable
set_option maxRecDepth 100000
namespace Go.Proofs.Ytaoobghobcikdaa.XCodeG
open Go Go.X
noncomputable def codeL : List (Nat × FnC) := [(3, c3), (4, c4), (5, c5), (6, c6), (7, c7), (8, c8), (9, c9), (10, c10), (11, c11), (12, c12), (13, c13), (14, c14), (15, c15), (16, c16), (17, c17), (18, c18), (19, c19), (20, c20), (21, c21), (22, c22), (23, c23), (24, c24), (25, c25), (26, c26), (27, c27), (28, c28), (29, c29), (30, c30), (31, c31), (32, c32), (33, c33), (34, c34), (35, c35), (36, c36), (37, c37), (38, c38), (39, c39), (40, c40), (41, c41), (42, c42), (43, c43), (44, c44), (45, c45), (46, c46), (47, c47), (48, c48), (49, c49), (50, c50), (51, c51), (52, c52), (53, c53), (54, c54), (55, c55), (56, c56), (57, c57), (58, c58), (59, c59), (60, c60), (61, c61), (62, c62), (63, c63), (64, c64), (65, c65), (66, c66), (67, c67), (68, c68), (69, c69), (70, c70), (71, c71), (72, c72), (73, c73), (74, c74), (75, c75), (76, c76), (77, c77), (78, c78), (79, c79), (80, c80), (81, c81), (82, c82), (83, c83), (84, c84), (85, c85), (86, c86), (87, c87), (88, c88), (89, c89)]
noncomputable def code : Th FnC := tabOf codeL
end Go.Proofs.Ytaoobghobcikdaa.XCodeG
