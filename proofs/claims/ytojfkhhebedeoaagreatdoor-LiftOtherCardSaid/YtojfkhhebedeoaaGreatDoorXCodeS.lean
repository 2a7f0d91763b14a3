/- The table of the direct code. Printed by a program of mine (wip/tools/mkcode10.py). -/
import Derived.Test.YtojfkhhebedeoaaGreatDoorXCodeS0
set_option maxRecDepth 100000
namespace Go.Proofs.YtojfkhhebedeoaaGreatDoor.XCodeS
open Go Go.X
noncomputable def codeL : List (Nat × FnD) := [(3, d3), (4, d4), (5, d5), (6, d6), (7, d7), (8, d8), (9, d9), (10, d10), (11, d11), (12, d12), (13, d13), (14, d14), (15, d15), (16, d16), (17, d17), (18, d18), (19, d19), (20, d20), (21, d21), (22, d22), (23, d23), (24, d24), (25, d25), (26, d26), (27, d27), (28, d28), (29, d29), (30, d30), (32, d32), (37, d37), (38, d38), (39, d39), (40, d40), (41, d41), (42, d42), (44, d44), (45, d45), (46, d46), (47, d47), (49, d49), (54, d54), (56, d56), (57, d57), (58, d58), (59, d59), (61, d61), (62, d62), (64, d64), (65, d65), (66, d66), (69, d69), (72, d72), (75, d75), (76, d76), (78, d78), (79, d79), (80, d80), (82, d82), (83, d83), (84, d84), (85, d85), (86, d86), (87, d87), (90, d90), (91, d91), (94, d94), (95, d95), (97, d97), (98, d98), (107, d107), (108, d108), (110, d110), (111, d111), (112, d112), (113, d113), (114, d114), (115, d115), (116, d116), (117, d117), (118, d118), (120, d120), (128, d128), (138, d138), (140, d140), (141, d141), (142, d142), (145, d145), (162, d162), (163, d163), (179, d179), (196, d196)]
noncomputable def code : Uh FnD := tabOf codeL
end Go.Proofs.YtojfkhhebedeoaaGreatDoor.XCodeS
