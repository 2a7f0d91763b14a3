/- The table of the compact code. Printed by a program of mine (wip/tools/mkcode.py). -/
import Derived.Test.YtheojbhaajbecaaGreatXCodeN0
import Derived.Test.YtheojbhaajbecaaGreatXCodeN1
import Derived.Test.YtheojbhaajbecaaGreatXTable
set_option maxRecDepth 100000
namespace Go.Proofs.YtheojbhaajbecaaGreat.XCodeN
open Go Go.X
noncomputable def codeL : List (Nat × FnC) := [(3, c3), (4, c4), (5, c5), (8, c8), (9, c9), (10, c10), (11, c11), (12, c12), (18, c18), (19, c19), (20, c20), (21, c21), (22, c22), (23, c23), (24, c24), (36, c36), (37, c37), (38, c38), (39, c39), (40, c40), (41, c41), (42, c42), (43, c43), (44, c44), (45, c45), (46, c46), (47, c47), (48, c48), (49, c49), (50, c50), (51, c51), (62, c62), (63, c63), (64, c64), (65, c65), (66, c66), (67, c67), (68, c68), (69, c69), (70, c70), (71, c71), (72, c72), (73, c73), (74, c74), (75, c75), (76, c76), (77, c77), (78, c78), (79, c79), (80, c80), (82, c82), (105, c105), (106, c106), (107, c107), (108, c108), (109, c109), (110, c110), (111, c111), (112, c112), (113, c113), (114, c114), (115, c115), (116, c116), (117, c117), (118, c118), (119, c119), (128, c128), (129, c129), (156, c156), (157, c157), (158, c158), (159, c159), (160, c160), (161, c161), (162, c162), (163, c163), (164, c164), (165, c165), (166, c166), (168, c168), (169, c169), (172, c172), (198, c198), (199, c199), (200, c200), (201, c201), (202, c202), (203, c203), (204, c204), (205, c205), (206, c206), (207, c207), (208, c208), (209, c209), (210, c210), (211, c211), (222, c222), (223, c223), (224, c224), (225, c225), (226, c226), (227, c227), (228, c228), (229, c229), (230, c230), (231, c231), (232, c232), (233, c233)]
noncomputable def code : Th FnC := tabOf codeL
end Go.Proofs.YtheojbhaajbecaaGreat.XCodeN
