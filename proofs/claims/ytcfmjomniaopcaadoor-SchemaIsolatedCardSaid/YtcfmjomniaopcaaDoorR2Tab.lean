/- A part of the proof: see the last text. -/
import Derived.Test.YtcfmjomniaopcaaDoorProg
import Derived.KernelRfl
import Derived.Attr
import Derived.Test.YtcfmjomniaopcaaDoorJ3
set_option linter.unusedSimpArgs false
set_option linter.unusedVariables false
/- The table of functions (slots that leave, slots that outlive their region, slots alive at loops' heads), and facts about the types. Written by a program (gen.py). -/
namespace Go.Eng
open Go Go.Proofs
noncomputable def XG (G : Nat → Option (List D)) : Ctx := { P := Tryd.prog, G := G }
@[go_sem] theorem XG_P (G : Nat → Option (List D)) : (XG G).P = Tryd.prog := rfl
@[go_sem] theorem XG_G (G : Nat → Option (List D)) : (XG G).G = G := rfl
def tabL : List (Nat × Fi) := [
  (7, ⟨[], (0 :: 2 :: 3 :: 5 :: 6 :: 8 :: 9 :: 10 :: 12 :: 13 :: 14 :: 22 :: 48 :: 53 :: 54 :: 55 :: 62 :: 63 :: 64 :: 79 :: 80 :: 81 :: 82 :: 86 :: 87 :: 88 :: []), [(8, [0, 3, 6, 53, 54]), (11, [0, 3, 6, 9, 53, 54, 62, 63]), (16, [0, 3, 6, 53, 54, 79, 80, 81]), (19, [0, 3, 6, 12, 53, 54, 79, 80, 81, 86, 87])], [], [], [], [(26, 1)], []⟩),
  (19, ⟨[], [0, 1, 2, 3, 4, 6, 7, 8, 54], [], [], [], [], [], []⟩),
  (20, ⟨[], [0, 2, 3, 4, 5, 6, 7, 8, 12, 50, 55, 65, 70, 79, 84, 114, 119, 128], [(2, [0, 3]), (8, [0, 3, 4, 5]), (13, [0, 3, 4, 6]), (18, [0, 3, 4, 7]), (23, [0, 3, 4, 8])], [], [(4, (4, 0)), (28, (4, 0)), (34, (4, 1)), (40, (4, 2)), (46, (4, 3)), (52, (4, 0)), (58, (4, 0)), (67, (4, 1)), (73, (4, 1)), (81, (4, 2)), (87, (4, 2)), (96, (4, 2)), (106, (4, 2)), (116, (4, 3)), (122, (4, 3))], [], [], []⟩),
  (100021, ⟨[10], [0, 2, 3, 4, 5, 6, 7, 8, 11, 12, 13, 14, 22], [(3, [5, 11, 12, 13])], [], [(7, (7, 0))], [], [], []⟩),
  (21, ⟨[10], [0, 2, 3, 4, 5, 6, 7, 8, 11, 12, 13, 14, 22], [(3, [5, 11, 12, 13])], [], [(7, (7, 0))], [], [], []⟩),
  (22, ⟨[], [0, 2, 3, 4, 5, 6, 7, 8, 9, 10, 14, 22, 29, 56, 62, 70, 83], [(3, [0, 5, 6])], [], [(7, (7, 0)), (9, (9, 0)), (33, (7, 0)), (39, (7, 1)), (45, (7, 2)), (51, (7, 3))], [], [], []⟩),
  (23, ⟨[], [0, 1, 4, 5, 6, 7, 8, 9, 10, 11, 16, 20, 69, 74, 88, 93, 125], [(4, [0, 1, 5]), (10, [0, 1, 5, 6, 7, 8]), (15, [0, 1, 5, 6, 7, 9])], [], ((6, (6, 0)) :: (7, (7, 0)) :: (10, (10, 0)) :: (11, (11, 0)) :: (31, (6, 0)) :: (33, (7, 0)) :: (37, (6, 1)) :: (39, (7, 1)) :: (45, (6, 4)) :: (47, (7, 4)) :: (53, (6, 2)) :: (56, (7, 2)) :: (62, (6, 3)) :: (65, (7, 3)) :: (71, (6, 2)) :: (77, (6, 2)) :: (82, (7, 2)) :: (90, (6, 3)) :: (96, (6, 3)) :: (101, (7, 3)) :: (106, (10, 1)) :: (108, (11, 1)) :: (112, (10, 2)) :: (114, (11, 2)) :: (119, (10, 0)) :: (121, (11, 0)) :: []), [], [], []⟩),
  (200025, ⟨[], [0, 1, 3, 4, 5, 6], [], [], [(3, (3, 0))], [], [], [3]⟩),
  (25, ⟨[], [0, 1, 3, 4, 5, 6], [], [], [(3, (3, 0))], [], [], [3]⟩),
  (26, ⟨[], [0, 1, 4, 5, 6, 10, 19], [(2, [0, 1, 6])], [], [], [], [], []⟩),
  (200027, ⟨[], [0, 1, 2, 3, 4, 5, 6], [], [], [(2, (2, 0)), (3, (3, 0)), (7, (2, 1))], [], [], [3]⟩),
  (27, ⟨[], [0, 1, 2, 3, 4, 5, 6], [], [], [(2, (2, 0)), (3, (3, 0)), (7, (2, 1))], [], [], [3]⟩),
  (28, ⟨[], [0, 1, 2, 4, 5, 6, 11, 21], [(2, [1, 2, 6])], [], [(2, (2, 0)), (8, (2, 1)), (14, (2, 1))], [], [], []⟩),
  (29, ⟨[], [0, 1, 4, 5, 6, 7, 8, 9, 10, 11, 12, 13, 18, 19, 20, 21, 28], [(3, [1, 5, 10, 11, 12]), (6, [1, 5, 6, 10, 11, 12, 18, 19, 20])], [], [(7, (7, 0)), (9, (9, 0)), (17, (7, 3)), (25, (9, 1))], [], [], []⟩),
  (52, ⟨[], [0, 1, 2, 3, 4, 5, 47, 52, 66], [(4, [2, 3, 5])], [], [(2, (2, 0)), (3, (3, 0)), (6, (2, 0)), (8, (3, 0)), (12, (2, 1)), (14, (3, 1)), (19, (2, 2)), (21, (3, 2)), (26, (2, 3)), (28, (3, 3)), (33, (2, 4)), (35, (3, 4)), (40, (2, 7)), (43, (3, 7)), (49, (2, 7)), (55, (2, 7)), (60, (3, 7))], [], [], []⟩),
  (53, ⟨[], [0, 1, 2], [], [], [(1, (1, 0)), (2, (2, 0))], [], [], []⟩),
  (54, ⟨[], [0, 1, 4, 5, 9, 17], [(2, [0, 1, 5])], [], [], [], [], []⟩),
  (55, ⟨[], [0, 1, 2, 4, 5, 28, 33, 44], [(4, [1, 2, 5])], [], [(2, (2, 0)), (9, (2, 7)), (15, (2, 1)), (18, (2, 2)), (22, (2, 4)), (23, (2, 6)), (30, (2, 7)), (36, (2, 7))], [], [], []⟩),
  (56, ⟨[], (0 :: 1 :: 3 :: 4 :: 5 :: 6 :: 7 :: 9 :: 10 :: 11 :: 12 :: 14 :: 15 :: 16 :: 18 :: 21 :: 27 :: 31 :: 37 :: 48 :: 49 :: 50 :: 51 :: 61 :: 79 :: 80 :: 81 :: 82 :: 92 :: 105 :: 108 :: 109 :: 110 :: 111 :: []), [(13, [0, 3, 7, 48, 49, 50]), (22, [0, 3, 7, 12, 79, 80, 81]), (32, [0, 7, 108, 109, 110])], [], [(3, (3, 0)), (7, (7, 0)), (12, (12, 0)), (14, (14, 0)), (15, (15, 0)), (18, (18, 0)), (19, (3, 0)), (39, (3, 1)), (41, (3, 2)), (42, (3, 2)), (46, (3, 2)), (47, (3, 3)), (62, (7, 2)), (67, (7, 2)), (77, (3, 2)), (78, (3, 4)), (94, (7, 3)), (99, (7, 3)), (101, (7, 3)), (106, (3, 2)), (107, (3, 5)), (114, (7, 4)), (122, (7, 4))], [120, 121], [(44, 1), (57, 1), (88, 2)], [7, 12]⟩),
  (57, ⟨[], [0, 1, 2, 3, 4, 5, 6, 18, 23, 32, 37, 46, 51, 78], [(5, [3, 4]), (10, [3, 5]), (15, [3, 6])], [], [(1, (1, 0)), (3, (3, 0)), (7, (1, 2)), (9, (1, 1)), (14, (3, 0)), (20, (3, 0)), (26, (3, 0)), (34, (3, 1)), (40, (3, 1)), (48, (3, 2)), (54, (3, 2)), (63, (3, 2)), (70, (3, 2))], [], [], []⟩),
  (58, ⟨[], [0, 1, 3, 4, 5, 7, 8, 9, 10, 11, 12, 22, 27, 40, 45, 53, 56, 69, 74, 83], [(7, [5, 8, 9]), (13, [5, 10]), (18, [5, 10, 11]), (23, [5, 12])], [], [(3, (3, 0)), (5, (5, 0)), (13, (3, 2)), (17, (3, 1)), (24, (5, 0)), (31, (5, 0)), (42, (5, 1)), (48, (5, 1)), (59, (5, 1)), (64, (5, 1)), (71, (5, 2)), (77, (5, 2))], [], [], []⟩),
  (59, ⟨[], (0 :: 1 :: 3 :: 4 :: 5 :: 6 :: 7 :: 8 :: 9 :: 10 :: 11 :: 12 :: 13 :: 14 :: 15 :: 16 :: 17 :: 18 :: 19 :: 20 :: 21 :: 36 :: 51 :: 70 :: 98 :: 117 :: 132 :: 135 :: 145 :: 156 :: []), [(3, [0, 3, 4, 6, 7]), (12, [3, 4, 6, 10, 11, 12]), (22, [3, 4, 6, 10, 11, 12, 14, 16, 18, 19, 20, 21])], [], [(3, (3, 0)), (4, (4, 0)), (6, (6, 0)), (13, (13, 0)), (22, (3, 1)), (24, (3, 2)), (25, (3, 2)), (27, (3, 2)), (28, (3, 5)), (32, (3, 2)), (33, (3, 3)), (41, (3, 2)), (42, (3, 3)), (53, (6, 2)), (58, (6, 2)), (66, (3, 2)), (67, (3, 4)), (73, (3, 2)), (74, (3, 4)), (81, (13, 0)), (88, (13, 1)), (105, (13, 2)), (146, (6, 3)), (154, (6, 3))], [], [], []⟩),
  (60, ⟨[], [0, 1, 4, 5, 10, 14, 25], [(4, [0, 1, 5])], [], [], [], [], []⟩),
  (61, ⟨[], [0, 1, 4, 5, 10, 14, 26], [(4, [0, 1, 5])], [], [], [], [], []⟩),
  (62, ⟨[], [0, 1, 4, 5, 10, 14, 25], [(4, [0, 1, 5])], [], [], [], [], []⟩),
  (63, ⟨[], [0, 1, 4, 5, 7, 8, 9, 16], [(2, [0, 1, 7, 8])], [], [], [], [], []⟩),
  (64, ⟨[], [0, 1, 2, 3], [], [], [(2, (2, 0)), (4, (2, 0))], [], [], []⟩),
  (65, ⟨[], [0, 1, 4, 5, 7, 8, 9, 16], [(2, [0, 1, 7, 8])], [], [], [], [], []⟩),
  (66, ⟨[], [0, 1, 2, 3], [], [], [(2, (2, 0)), (4, (2, 0))], [], [], []⟩),
  (92, ⟨[], [0, 2, 4], [], [], [], [], [], []⟩),
  (100092, ⟨[], [0, 2, 4], [], [], [], [7], [], []⟩),
  (94, ⟨[], [0, 1, 2, 3, 22, 44, 48], [], [], [(1, (1, 0)), (3, (3, 0)), (4, (1, 2)), (6, (3, 0)), (11, (3, 1)), (14, (3, 2)), (17, (3, 3)), (23, (1, 1)), (28, (3, 0)), (34, (3, 0)), (40, (3, 1)), (45, (3, 2))], [], [], []⟩),
  (95, ⟨[], [0, 1, 3, 4, 5, 7, 8, 9, 28, 30, 31, 32, 33, 46, 51], [(6, [5, 30, 31, 32])], [], [(3, (3, 0)), (5, (5, 0)), (9, (9, 0)), (10, (3, 2)), (17, (3, 1)), (24, (5, 0)), (29, (5, 1)), (40, (5, 1)), (48, (5, 2))], [], [(19, 2)], [9]⟩),
  (96, ⟨[], [0, 2, 4], [], [], [], [], [], []⟩),
  (100096, ⟨[], [0, 2, 4], [], [], [], [7], [], []⟩),
  (100097, ⟨[], [0, 1, 2, 4, 5, 6, 8, 9, 10, 11, 12, 13, 14, 24], [(3, [2, 6, 11, 12, 13])], [], [(2, (2, 0))], [28], [(20, 2)], []⟩),
  (97, ⟨[], [0, 1, 2, 4, 5, 6, 8, 9, 10, 11, 12, 13, 14, 24], [(3, [2, 6, 11, 12, 13])], [], [(2, (2, 0))], [], [], []⟩),
  (98, ⟨[], [0, 2, 4], [], [], [], [], [], []⟩),
  (100098, ⟨[], [0, 2, 4], [], [], [], [7], [], []⟩),
  (200099, ⟨[], [0, 1, 3, 4, 5, 6, 7, 8, 9, 10, 11, 36, 60], [], [], [(3, (3, 0)), (4, (4, 0)), (10, (10, 0)), (19, (3, 0)), (26, (3, 1)), (43, (3, 2))], [], [(21, 1)], [10]⟩),
  (99, ⟨[], [0, 1, 3, 4, 5, 6, 7, 8, 9, 10, 11, 36, 60], [], [], [(3, (3, 0)), (4, (4, 0)), (10, (10, 0)), (19, (3, 0)), (26, (3, 1)), (43, (3, 2))], [], [], [10]⟩),
  (100, ⟨[], [0, 1, 3, 4], [], [], [(3, (3, 0))], [], [], [3]⟩),
  (101, ⟨[], [0, 1, 2, 3, 4], [], [], [(3, (3, 0))], [], [(8, 2)], []⟩),
  (200102, ⟨[], [0, 1, 2, 4, 5, 6, 7, 8, 9, 20, 21, 22, 23, 43], [(3, [4, 5, 7, 20, 21, 22])], [], [(4, (4, 0)), (5, (5, 0)), (7, (7, 0)), (11, (5, 1)), (15, (7, 2)), (17, (5, 2)), (27, (7, 1)), (33, (4, 1)), (35, (5, 0))], [], [], []⟩),
  (102, ⟨[], [0, 1, 2, 4, 5, 6, 7, 8, 9, 20, 21, 22, 23, 43], [(3, [4, 5, 7, 20, 21, 22])], [], [(4, (4, 0)), (5, (5, 0)), (7, (7, 0)), (11, (5, 1)), (15, (7, 2)), (17, (5, 2)), (27, (7, 1)), (33, (4, 1)), (35, (5, 0))], [], [], []⟩),
  (103, ⟨[], [0, 1, 2, 3, 10, 11, 12], [(3, [1, 2, 10, 11])], [], [(1, (1, 0)), (2, (2, 0)), (4, (1, 7)), (7, (1, 7)), (8, (1, 7)), (14, (1, 7)), (17, (1, 7))], [], [(6, 1)], []⟩),
  (104, ⟨[], [0, 2, 3, 21, 25, 56], [(4, [0, 3])], [], [], [], [], []⟩),
  (105, ⟨[], [0, 1, 2, 6, 9], [], [], [(1, (1, 0)), (3, (1, 0)), (7, (1, 1)), (10, (1, 2)), (14, (1, 2)), (16, (1, 3)), (21, (1, 3)), (26, (1, 4)), (30, (1, 1)), (34, (1, 4)), (39, (1, 4)), (44, (1, 2)), (49, (1, 3))], [], [], []⟩),
  (106, ⟨[], [0, 2, 3, 4, 8, 13, 24], [(2, [0, 3]), (5, [0, 3, 4])], [], [], [], [], []⟩),
  (107, ⟨[], [0, 1, 4, 5, 10, 14, 25], [(4, [0, 1, 5])], [], [], [], [], []⟩),
  (108, ⟨[], [0, 1, 2, 4, 5, 6, 7, 8, 9, 13, 26], [(3, [1, 2, 6, 7])], [], [(2, (2, 0))], [], [], []⟩),
  (109, ⟨[], [0, 1, 2, 3, 4, 5, 8, 9, 13, 34], [(2, [2, 3, 4, 5, 9])], [], [(4, (4, 0)), (5, (5, 0)), (16, (4, 1)), (25, (5, 1))], [], [], []⟩),
  (120, ⟨[], [0, 1, 4, 5, 10, 12, 13, 14, 24], [(4, [0, 1, 12, 13])], [], [], [], [], []⟩),
  (123, ⟨[], [0, 2, 22], [], [], [], [], [], []⟩),
  (124, ⟨[], [0, 1, 3, 4], [], [], [(3, (3, 0))], [], [], [3]⟩),
  (125, ⟨[], [0, 1, 2, 6, 8, 9, 31], [], [], [(1, (1, 0)), (3, (1, 0)), (7, (1, 1)), (11, (1, 2)), (15, (1, 2)), (17, (1, 3)), (22, (1, 3)), (27, (1, 4)), (33, (1, 4)), (37, (1, 4)), (42, (1, 2)), (47, (1, 3))], [], [], []⟩),
  (126, ⟨[], [0, 2, 3, 4, 5, 6, 7, 8, 16], [(2, [0, 5, 6, 7])], [], [], [], [], []⟩),
  (127, ⟨[], [0, 2, 3, 5, 6, 7, 8, 9], [(3, [3, 6, 7, 8])], [], [(5, (5, 0)), (13, (5, 0))], [], [], []⟩),
  (145, ⟨[], [0, 1, 3, 4], [], [], [(3, (3, 0))], [], [], [3]⟩),
  (146, ⟨[], [0, 2], [], [], [], [], [], []⟩),
  (147, ⟨[], [0, 1, 3, 4], [], [], [(3, (3, 0))], [], [], [3]⟩),
  (148, ⟨[], [0, 1, 2], [], [], [(1, (1, 0)), (3, (1, 0)), (8, (1, 0)), (11, (1, 2))], [], [], []⟩),
  (149, ⟨[], [0, 1, 4], [], [], [], [], [], []⟩),
  (150, ⟨[], [0, 1, 3], [], [], [], [], [], []⟩),
  (151, ⟨[], [0, 1, 4, 5, 10, 12, 13, 14, 24], [(4, [0, 1, 12, 13])], [], [], [], [], []⟩),
  (152, ⟨[], [0, 1, 2], [], [], [(1, (1, 0)), (3, (1, 0))], [], [], []⟩),
  (153, ⟨[], [0, 1, 4, 5, 7, 8, 9, 16], [(2, [0, 1, 7, 8])], [], [], [], [], []⟩),
  (154, ⟨[], [0, 1, 3], [], [], [], [], [], []⟩),
  (155, ⟨[], [0, 1, 4], [], [], [], [], [], []⟩),
  (156, ⟨[], [0, 1, 2, 3], [], [], [(2, (2, 0))], [], [], []⟩),
  (157, ⟨[], [0, 1, 4, 5, 12, 23], [(2, [0, 1, 5])], [], [], [], [], []⟩),
  (158, ⟨[], [0], [], [], [], [], [], []⟩),
  (161, ⟨[], [0, 2], [], [], [], [], [], []⟩),
  (162, ⟨[], [0, 1, 4, 5, 16], [(2, [0, 1, 5])], [], [], [], [], []⟩),
  (163, ⟨[], [0, 2], [], [], [], [], [], []⟩),
  (164, ⟨[], [0, 2, 3, 4, 5, 8, 9, 10, 11, 20], [(3, [3, 8, 9, 10])], [], [], [7], [], []⟩),
  (165, ⟨[], [0, 2, 4], [], [], [], [], [], []⟩),
  (166, ⟨[], [0, 1, 4], [], [], [], [], [], []⟩),
  (167, ⟨[], [0, 1, 2, 3], [], [], [(2, (2, 0))], [], [], []⟩),
  (168, ⟨[], [0, 1, 4], [], [], [], [], [], []⟩),
  (176, ⟨[], [0, 1, 3], [], [], [], [], [], []⟩),
  (177, ⟨[], [0, 1, 4], [], [], [], [], [], []⟩),
  (178, ⟨[], [0, 1, 2, 3], [], [], [(2, (2, 0))], [], [], []⟩),
  (179, ⟨[], [0, 1, 4, 5, 7, 8, 9, 16], [(2, [0, 1, 7, 8])], [], [], [], [], []⟩),
  (180, ⟨[], [0, 1, 4, 5, 7, 8, 9, 16], [(2, [0, 1, 7, 8])], [], [], [], [], []⟩),
  (181, ⟨[], [0, 2], [], [], [], [], [], []⟩),
  (182, ⟨[], [0, 1, 4, 5, 6, 7, 8, 9, 15, 27], [(3, [0, 1, 6, 7, 8])], [], [], [], [], []⟩),
  (183, ⟨[], [0, 2, 3, 4, 5, 8, 9, 10, 11, 20], [(3, [3, 8, 9, 10])], [], [], [7], [], []⟩),
  (184, ⟨[], [0, 1, 4, 5, 7, 8, 9, 16], [(2, [0, 1, 7, 8])], [], [], [], [], []⟩),
  (187, ⟨[], [0, 1, 4, 5, 7, 8, 9, 16], [(2, [0, 1, 7, 8])], [], [], [], [], []⟩),
  (188, ⟨[], [0, 1, 4], [], [], [], [], [], []⟩),
  (189, ⟨[], [0, 2], [], [], [], [], [], []⟩),
  (191, ⟨[], [0, 2], [], [], [], [], [], []⟩)]
def clL : List Nat := [7, 19, 20, 21, 22, 23, 25, 26, 27, 28, 29, 52, 53, 54, 55, 57, 58, 59, 60, 61, 62, 94, 97, 99, 102, 103, 104, 105, 106, 107, 108, 109, 120, 123, 125, 126, 127, 146, 148, 151, 152, 157, 158, 161, 163, 164, 165, 168, 181, 182, 183, 184, 188, 189, 191]
noncomputable def TT : Nat → Option Fx := mkT Tryd.prog tabL clL
theorem tab_ok : okTab Tryd.prog (pfT TT) tabL = true := by kernel_rfl
theorem good (G : Nat → Option (List D)) (hG : PlainG (XG G)) : AllGood (XG G) TT := allGood_of (X := XG G) hG tab_ok
/-- What a function on its own hands back, beside the memory as it was. -/
def owR (o : Option D) (m : Mem) : Option (D × Mem) := match o with | some v => some (v, m) | none => none
@[go_sem] theorem owR_some (v : D) (m : Mem) : owR (some v) m = some (v, m) := rfl
section
variable {G : Nat → Option (List D)} {m : Mem} {l : List D}
theorem ow {g : Nat} (h : pfT TT g = true) : callR (XG G) TT g m l = owR (callP (XG G) TT g (stripL l)) m := callR_own h m l
theorem T7 : TT 7 = some ⟨⟨[], (0 :: 2 :: 3 :: 5 :: 6 :: 8 :: 9 :: 10 :: 12 :: 13 :: 14 :: 22 :: 48 :: 53 :: 54 :: 55 :: 62 :: 63 :: 64 :: 79 :: 80 :: 81 :: 82 :: 86 :: 87 :: 88 :: []), [(8, [0, 3, 6, 53, 54]), (11, [0, 3, 6, 9, 53, 54, 62, 63]), (16, [0, 3, 6, 53, 54, 79, 80, 81]), (19, [0, 3, 6, 12, 53, 54, 79, 80, 81, 86, 87])], [], [], [], [(26, 1)], []⟩, 109, [.tmp 2], (Tryd.f7.body).getD .skip, true⟩ := by kernel_rfl
@[go_sem] theorem pf7 : pfT TT 7 = true := by kernel_rfl
@[go_sem] theorem o7 : callR (XG G) TT 7 m l = owR (callP (XG G) TT 7 (stripL l)) m := ow pf7
theorem T19 : TT 19 = some ⟨⟨[], [0, 1, 2, 3, 4, 6, 7, 8, 54], [], [], [], [], [], []⟩, 77, [.tmp 0], (Tryd.f19.body).getD .skip, true⟩ := by kernel_rfl
@[go_sem] theorem pf19 : pfT TT 19 = true := by kernel_rfl
@[go_sem] theorem o19 : callR (XG G) TT 19 m l = owR (callP (XG G) TT 19 (stripL l)) m := ow pf19
theorem T20 : TT 20 = some ⟨⟨[], [0, 2, 3, 4, 5, 6, 7, 8, 12, 50, 55, 65, 70, 79, 84, 114, 119, 128], [(2, [0, 3]), (8, [0, 3, 4, 5]), (13, [0, 3, 4, 6]), (18, [0, 3, 4, 7]), (23, [0, 3, 4, 8])], [], [(4, (4, 0)), (28, (4, 0)), (34, (4, 1)), (40, (4, 2)), (46, (4, 3)), (52, (4, 0)), (58, (4, 0)), (67, (4, 1)), (73, (4, 1)), (81, (4, 2)), (87, (4, 2)), (96, (4, 2)), (106, (4, 2)), (116, (4, 3)), (122, (4, 3))], [], [], []⟩, 132, [.tmp 2], (Tryd.f20.body).getD .skip, true⟩ := by kernel_rfl
@[go_sem] theorem pf20 : pfT TT 20 = true := by kernel_rfl
@[go_sem] theorem o20 : callR (XG G) TT 20 m l = owR (callP (XG G) TT 20 (stripL l)) m := ow pf20
theorem T100021 : TT 100021 = some ⟨⟨[10], [0, 2, 3, 4, 5, 6, 7, 8, 11, 12, 13, 14, 22], [(3, [5, 11, 12, 13])], [], [(7, (7, 0))], [], [], []⟩, 30, [.tmp 2, .tmp 3, .tmp 4], (Tryd.f21.body).getD .skip, false⟩ := by kernel_rfl
@[go_sem] theorem pf100021 : pfT TT 100021 = false := by kernel_rfl
theorem T21 : TT 21 = some ⟨⟨[10], [0, 2, 3, 4, 5, 6, 7, 8, 11, 12, 13, 14, 22], [(3, [5, 11, 12, 13])], [], [(7, (7, 0))], [], [], []⟩, 30, [.tmp 2, .tmp 3, .tmp 4], (Tryd.f21.body).getD .skip, true⟩ := by kernel_rfl
@[go_sem] theorem pf21 : pfT TT 21 = true := by kernel_rfl
@[go_sem] theorem o21 : callR (XG G) TT 21 m l = owR (callP (XG G) TT 21 (stripL l)) m := ow pf21
theorem T22 : TT 22 = some ⟨⟨[], [0, 2, 3, 4, 5, 6, 7, 8, 9, 10, 14, 22, 29, 56, 62, 70, 83], [(3, [0, 5, 6])], [], [(7, (7, 0)), (9, (9, 0)), (33, (7, 0)), (39, (7, 1)), (45, (7, 2)), (51, (7, 3))], [], [], []⟩, 91, [.tmp 2, .tmp 3, .tmp 4], (Tryd.f22.body).getD .skip, true⟩ := by kernel_rfl
@[go_sem] theorem pf22 : pfT TT 22 = true := by kernel_rfl
@[go_sem] theorem o22 : callR (XG G) TT 22 m l = owR (callP (XG G) TT 22 (stripL l)) m := ow pf22
theorem T23 : TT 23 = some ⟨⟨[], [0, 1, 4, 5, 6, 7, 8, 9, 10, 11, 16, 20, 69, 74, 88, 93, 125], [(4, [0, 1, 5]), (10, [0, 1, 5, 6, 7, 8]), (15, [0, 1, 5, 6, 7, 9])], [], ((6, (6, 0)) :: (7, (7, 0)) :: (10, (10, 0)) :: (11, (11, 0)) :: (31, (6, 0)) :: (33, (7, 0)) :: (37, (6, 1)) :: (39, (7, 1)) :: (45, (6, 4)) :: (47, (7, 4)) :: (53, (6, 2)) :: (56, (7, 2)) :: (62, (6, 3)) :: (65, (7, 3)) :: (71, (6, 2)) :: (77, (6, 2)) :: (82, (7, 2)) :: (90, (6, 3)) :: (96, (6, 3)) :: (101, (7, 3)) :: (106, (10, 1)) :: (108, (11, 1)) :: (112, (10, 2)) :: (114, (11, 2)) :: (119, (10, 0)) :: (121, (11, 0)) :: []), [], [], []⟩, 126, [.tmp 4], (Tryd.f23.body).getD .skip, true⟩ := by kernel_rfl
@[go_sem] theorem pf23 : pfT TT 23 = true := by kernel_rfl
@[go_sem] theorem o23 : callR (XG G) TT 23 m l = owR (callP (XG G) TT 23 (stripL l)) m := ow pf23
theorem T200025 : TT 200025 = some ⟨⟨[], [0, 1, 3, 4, 5, 6], [], [], [(3, (3, 0))], [], [], [3]⟩, 14, [.tmp 4, .tmp 5], (Tryd.f25.body).getD .skip, false⟩ := by kernel_rfl
@[go_sem] theorem pf200025 : pfT TT 200025 = false := by kernel_rfl
theorem T25 : TT 25 = some ⟨⟨[], [0, 1, 3, 4, 5, 6], [], [], [(3, (3, 0))], [], [], [3]⟩, 14, [.tmp 4, .tmp 5], (Tryd.f25.body).getD .skip, true⟩ := by kernel_rfl
@[go_sem] theorem pf25 : pfT TT 25 = true := by kernel_rfl
@[go_sem] theorem o25 : callR (XG G) TT 25 m l = owR (callP (XG G) TT 25 (stripL l)) m := ow pf25
theorem T26 : TT 26 = some ⟨⟨[], [0, 1, 4, 5, 6, 10, 19], [(2, [0, 1, 6])], [], [], [], [], []⟩, 21, [.tmp 4, .tmp 5], (Tryd.f26.body).getD .skip, true⟩ := by kernel_rfl
@[go_sem] theorem pf26 : pfT TT 26 = true := by kernel_rfl
@[go_sem] theorem o26 : callR (XG G) TT 26 m l = owR (callP (XG G) TT 26 (stripL l)) m := ow pf26
theorem T200027 : TT 200027 = some ⟨⟨[], [0, 1, 2, 3, 4, 5, 6], [], [], [(2, (2, 0)), (3, (3, 0)), (7, (2, 1))], [], [], [3]⟩, 15, [.tmp 4, .tmp 5], (Tryd.f27.body).getD .skip, false⟩ := by kernel_rfl
@[go_sem] theorem pf200027 : pfT TT 200027 = false := by kernel_rfl
theorem T27 : TT 27 = some ⟨⟨[], [0, 1, 2, 3, 4, 5, 6], [], [], [(2, (2, 0)), (3, (3, 0)), (7, (2, 1))], [], [], [3]⟩, 15, [.tmp 4, .tmp 5], (Tryd.f27.body).getD .skip, true⟩ := by kernel_rfl
@[go_sem] theorem pf27 : pfT TT 27 = true := by kernel_rfl
@[go_sem] theorem o27 : callR (XG G) TT 27 m l = owR (callP (XG G) TT 27 (stripL l)) m := ow pf27
theorem T28 : TT 28 = some ⟨⟨[], [0, 1, 2, 4, 5, 6, 11, 21], [(2, [1, 2, 6])], [], [(2, (2, 0)), (8, (2, 1)), (14, (2, 1))], [], [], []⟩, 23, [.tmp 4, .tmp 5], (Tryd.f28.body).getD .skip, true⟩ := by kernel_rfl
@[go_sem] theorem pf28 : pfT TT 28 = true := by kernel_rfl
@[go_sem] theorem o28 : callR (XG G) TT 28 m l = owR (callP (XG G) TT 28 (stripL l)) m := ow pf28
theorem T29 : TT 29 = some ⟨⟨[], [0, 1, 4, 5, 6, 7, 8, 9, 10, 11, 12, 13, 18, 19, 20, 21, 28], [(3, [1, 5, 10, 11, 12]), (6, [1, 5, 6, 10, 11, 12, 18, 19, 20])], [], [(7, (7, 0)), (9, (9, 0)), (17, (7, 3)), (25, (9, 1))], [], [], []⟩, 38, [.tmp 4], (Tryd.f29.body).getD .skip, true⟩ := by kernel_rfl
@[go_sem] theorem pf29 : pfT TT 29 = true := by kernel_rfl
@[go_sem] theorem o29 : callR (XG G) TT 29 m l = owR (callP (XG G) TT 29 (stripL l)) m := ow pf29
theorem T52 : TT 52 = some ⟨⟨[], [0, 1, 2, 3, 4, 5, 47, 52, 66], [(4, [2, 3, 5])], [], [(2, (2, 0)), (3, (3, 0)), (6, (2, 0)), (8, (3, 0)), (12, (2, 1)), (14, (3, 1)), (19, (2, 2)), (21, (3, 2)), (26, (2, 3)), (28, (3, 3)), (33, (2, 4)), (35, (3, 4)), (40, (2, 7)), (43, (3, 7)), (49, (2, 7)), (55, (2, 7)), (60, (3, 7))], [], [], []⟩, 67, [.tmp 4], (Tryd.f52.body).getD .skip, true⟩ := by kernel_rfl
@[go_sem] theorem pf52 : pfT TT 52 = true := by kernel_rfl
@[go_sem] theorem o52 : callR (XG G) TT 52 m l = owR (callP (XG G) TT 52 (stripL l)) m := ow pf52
theorem T53 : TT 53 = some ⟨⟨[], [0, 1, 2], [], [], [(1, (1, 0)), (2, (2, 0))], [], [], []⟩, 20, [.tmp 0], (Tryd.f53.body).getD .skip, true⟩ := by kernel_rfl
@[go_sem] theorem pf53 : pfT TT 53 = true := by kernel_rfl
@[go_sem] theorem o53 : callR (XG G) TT 53 m l = owR (callP (XG G) TT 53 (stripL l)) m := ow pf53
theorem T54 : TT 54 = some ⟨⟨[], [0, 1, 4, 5, 9, 17], [(2, [0, 1, 5])], [], [], [], [], []⟩, 25, [.tmp 4], (Tryd.f54.body).getD .skip, true⟩ := by kernel_rfl
@[go_sem] theorem pf54 : pfT TT 54 = true := by kernel_rfl
@[go_sem] theorem o54 : callR (XG G) TT 54 m l = owR (callP (XG G) TT 54 (stripL l)) m := ow pf54
theorem T55 : TT 55 = some ⟨⟨[], [0, 1, 2, 4, 5, 28, 33, 44], [(4, [1, 2, 5])], [], [(2, (2, 0)), (9, (2, 7)), (15, (2, 1)), (18, (2, 2)), (22, (2, 4)), (23, (2, 6)), (30, (2, 7)), (36, (2, 7))], [], [], []⟩, 45, [.tmp 4], (Tryd.f55.body).getD .skip, true⟩ := by kernel_rfl
@[go_sem] theorem pf55 : pfT TT 55 = true := by kernel_rfl
@[go_sem] theorem o55 : callR (XG G) TT 55 m l = owR (callP (XG G) TT 55 (stripL l)) m := ow pf55
theorem T56 : TT 56 = some ⟨⟨[], (0 :: 1 :: 3 :: 4 :: 5 :: 6 :: 7 :: 9 :: 10 :: 11 :: 12 :: 14 :: 15 :: 16 :: 18 :: 21 :: 27 :: 31 :: 37 :: 48 :: 49 :: 50 :: 51 :: 61 :: 79 :: 80 :: 81 :: 82 :: 92 :: 105 :: 108 :: 109 :: 110 :: 111 :: []), [(13, [0, 3, 7, 48, 49, 50]), (22, [0, 3, 7, 12, 79, 80, 81]), (32, [0, 7, 108, 109, 110])], [], [(3, (3, 0)), (7, (7, 0)), (12, (12, 0)), (14, (14, 0)), (15, (15, 0)), (18, (18, 0)), (19, (3, 0)), (39, (3, 1)), (41, (3, 2)), (42, (3, 2)), (46, (3, 2)), (47, (3, 3)), (62, (7, 2)), (67, (7, 2)), (77, (3, 2)), (78, (3, 4)), (94, (7, 3)), (99, (7, 3)), (101, (7, 3)), (106, (3, 2)), (107, (3, 5)), (114, (7, 4)), (122, (7, 4))], [120, 121], [(44, 1), (57, 1), (88, 2)], [7, 12]⟩, 134, [.tmp 4], (Tryd.f56.body).getD .skip, false⟩ := by kernel_rfl
@[go_sem] theorem pf56 : pfT TT 56 = false := by kernel_rfl
theorem T57 : TT 57 = some ⟨⟨[], [0, 1, 2, 3, 4, 5, 6, 18, 23, 32, 37, 46, 51, 78], [(5, [3, 4]), (10, [3, 5]), (15, [3, 6])], [], [(1, (1, 0)), (3, (3, 0)), (7, (1, 2)), (9, (1, 1)), (14, (3, 0)), (20, (3, 0)), (26, (3, 0)), (34, (3, 1)), (40, (3, 1)), (48, (3, 2)), (54, (3, 2)), (63, (3, 2)), (70, (3, 2))], [], [], []⟩, 79, [.tmp 2], (Tryd.f57.body).getD .skip, true⟩ := by kernel_rfl
@[go_sem] theorem pf57 : pfT TT 57 = true := by kernel_rfl
@[go_sem] theorem o57 : callR (XG G) TT 57 m l = owR (callP (XG G) TT 57 (stripL l)) m := ow pf57
theorem T58 : TT 58 = some ⟨⟨[], [0, 1, 3, 4, 5, 7, 8, 9, 10, 11, 12, 22, 27, 40, 45, 53, 56, 69, 74, 83], [(7, [5, 8, 9]), (13, [5, 10]), (18, [5, 10, 11]), (23, [5, 12])], [], [(3, (3, 0)), (5, (5, 0)), (13, (3, 2)), (17, (3, 1)), (24, (5, 0)), (31, (5, 0)), (42, (5, 1)), (48, (5, 1)), (59, (5, 1)), (64, (5, 1)), (71, (5, 2)), (77, (5, 2))], [], [], []⟩, 84, [.tmp 4], (Tryd.f58.body).getD .skip, true⟩ := by kernel_rfl
@[go_sem] theorem pf58 : pfT TT 58 = true := by kernel_rfl
@[go_sem] theorem o58 : callR (XG G) TT 58 m l = owR (callP (XG G) TT 58 (stripL l)) m := ow pf58
theorem T59 : TT 59 = some ⟨⟨[], (0 :: 1 :: 3 :: 4 :: 5 :: 6 :: 7 :: 8 :: 9 :: 10 :: 11 :: 12 :: 13 :: 14 :: 15 :: 16 :: 17 :: 18 :: 19 :: 20 :: 21 :: 36 :: 51 :: 70 :: 98 :: 117 :: 132 :: 135 :: 145 :: 156 :: []), [(3, [0, 3, 4, 6, 7]), (12, [3, 4, 6, 10, 11, 12]), (22, [3, 4, 6, 10, 11, 12, 14, 16, 18, 19, 20, 21])], [], [(3, (3, 0)), (4, (4, 0)), (6, (6, 0)), (13, (13, 0)), (22, (3, 1)), (24, (3, 2)), (25, (3, 2)), (27, (3, 2)), (28, (3, 5)), (32, (3, 2)), (33, (3, 3)), (41, (3, 2)), (42, (3, 3)), (53, (6, 2)), (58, (6, 2)), (66, (3, 2)), (67, (3, 4)), (73, (3, 2)), (74, (3, 4)), (81, (13, 0)), (88, (13, 1)), (105, (13, 2)), (146, (6, 3)), (154, (6, 3))], [], [], []⟩, 160, [.cell 4 72, .tmp 5], (Tryd.f59.body).getD .skip, true⟩ := by kernel_rfl
@[go_sem] theorem pf59 : pfT TT 59 = true := by kernel_rfl
@[go_sem] theorem o59 : callR (XG G) TT 59 m l = owR (callP (XG G) TT 59 (stripL l)) m := ow pf59
theorem T60 : TT 60 = some ⟨⟨[], [0, 1, 4, 5, 10, 14, 25], [(4, [0, 1, 5])], [], [], [], [], []⟩, 26, [.tmp 4], (Tryd.f60.body).getD .skip, true⟩ := by kernel_rfl
@[go_sem] theorem pf60 : pfT TT 60 = true := by kernel_rfl
@[go_sem] theorem o60 : callR (XG G) TT 60 m l = owR (callP (XG G) TT 60 (stripL l)) m := ow pf60
theorem T61 : TT 61 = some ⟨⟨[], [0, 1, 4, 5, 10, 14, 26], [(4, [0, 1, 5])], [], [], [], [], []⟩, 27, [.tmp 4], (Tryd.f61.body).getD .skip, true⟩ := by kernel_rfl
@[go_sem] theorem pf61 : pfT TT 61 = true := by kernel_rfl
@[go_sem] theorem o61 : callR (XG G) TT 61 m l = owR (callP (XG G) TT 61 (stripL l)) m := ow pf61
theorem T62 : TT 62 = some ⟨⟨[], [0, 1, 4, 5, 10, 14, 25], [(4, [0, 1, 5])], [], [], [], [], []⟩, 26, [.tmp 4], (Tryd.f62.body).getD .skip, true⟩ := by kernel_rfl
@[go_sem] theorem pf62 : pfT TT 62 = true := by kernel_rfl
@[go_sem] theorem o62 : callR (XG G) TT 62 m l = owR (callP (XG G) TT 62 (stripL l)) m := ow pf62
theorem T63 : TT 63 = some ⟨⟨[], [0, 1, 4, 5, 7, 8, 9, 16], [(2, [0, 1, 7, 8])], [], [], [], [], []⟩, 19, [.tmp 4], (Tryd.f63.body).getD .skip, false⟩ := by kernel_rfl
@[go_sem] theorem pf63 : pfT TT 63 = false := by kernel_rfl
theorem T64 : TT 64 = some ⟨⟨[], [0, 1, 2, 3], [], [], [(2, (2, 0)), (4, (2, 0))], [], [], []⟩, 8, [.tmp 3], (Tryd.f64.body).getD .skip, false⟩ := by kernel_rfl
@[go_sem] theorem pf64 : pfT TT 64 = false := by kernel_rfl
theorem T65 : TT 65 = some ⟨⟨[], [0, 1, 4, 5, 7, 8, 9, 16], [(2, [0, 1, 7, 8])], [], [], [], [], []⟩, 19, [.tmp 4], (Tryd.f65.body).getD .skip, false⟩ := by kernel_rfl
@[go_sem] theorem pf65 : pfT TT 65 = false := by kernel_rfl
theorem T66 : TT 66 = some ⟨⟨[], [0, 1, 2, 3], [], [], [(2, (2, 0)), (4, (2, 0))], [], [], []⟩, 8, [.tmp 3], (Tryd.f66.body).getD .skip, false⟩ := by kernel_rfl
@[go_sem] theorem pf66 : pfT TT 66 = false := by kernel_rfl
theorem T92 : TT 92 = some ⟨⟨[], [0, 2, 4], [], [], [], [], [], []⟩, 8, [.tmp 2], (Tryd.f92.body).getD .skip, false⟩ := by kernel_rfl
@[go_sem] theorem pf92 : pfT TT 92 = false := by kernel_rfl
theorem T100092 : TT 100092 = some ⟨⟨[], [0, 2, 4], [], [], [], [7], [], []⟩, 8, [.tmp 2], (Tryd.f92.body).getD .skip, false⟩ := by kernel_rfl
@[go_sem] theorem pf100092 : pfT TT 100092 = false := by kernel_rfl
theorem T94 : TT 94 = some ⟨⟨[], [0, 1, 2, 3, 22, 44, 48], [], [], [(1, (1, 0)), (3, (3, 0)), (4, (1, 2)), (6, (3, 0)), (11, (3, 1)), (14, (3, 2)), (17, (3, 3)), (23, (1, 1)), (28, (3, 0)), (34, (3, 0)), (40, (3, 1)), (45, (3, 2))], [], [], []⟩, 49, [.tmp 2], (Tryd.f94.body).getD .skip, true⟩ := by kernel_rfl
@[go_sem] theorem pf94 : pfT TT 94 = true := by kernel_rfl
@[go_sem] theorem o94 : callR (XG G) TT 94 m l = owR (callP (XG G) TT 94 (stripL l)) m := ow pf94
theorem T95 : TT 95 = some ⟨⟨[], [0, 1, 3, 4, 5, 7, 8, 9, 28, 30, 31, 32, 33, 46, 51], [(6, [5, 30, 31, 32])], [], [(3, (3, 0)), (5, (5, 0)), (9, (9, 0)), (10, (3, 2)), (17, (3, 1)), (24, (5, 0)), (29, (5, 1)), (40, (5, 1)), (48, (5, 2))], [], [(19, 2)], [9]⟩, 52, [.tmp 4], (Tryd.f95.body).getD .skip, false⟩ := by kernel_rfl
@[go_sem] theorem pf95 : pfT TT 95 = false := by kernel_rfl
theorem T96 : TT 96 = some ⟨⟨[], [0, 2, 4], [], [], [], [], [], []⟩, 8, [.tmp 2], (Tryd.f96.body).getD .skip, false⟩ := by kernel_rfl
@[go_sem] theorem pf96 : pfT TT 96 = false := by kernel_rfl
theorem T100096 : TT 100096 = some ⟨⟨[], [0, 2, 4], [], [], [], [7], [], []⟩, 8, [.tmp 2], (Tryd.f96.body).getD .skip, false⟩ := by kernel_rfl
@[go_sem] theorem pf100096 : pfT TT 100096 = false := by kernel_rfl
theorem T100097 : TT 100097 = some ⟨⟨[], [0, 1, 2, 4, 5, 6, 8, 9, 10, 11, 12, 13, 14, 24], [(3, [2, 6, 11, 12, 13])], [], [(2, (2, 0))], [28], [(20, 2)], []⟩, 31, [.tmp 4, .tmp 5], (Tryd.f97.body).getD .skip, false⟩ := by kernel_rfl
@[go_sem] theorem pf100097 : pfT TT 100097 = false := by kernel_rfl
theorem T97 : TT 97 = some ⟨⟨[], [0, 1, 2, 4, 5, 6, 8, 9, 10, 11, 12, 13, 14, 24], [(3, [2, 6, 11, 12, 13])], [], [(2, (2, 0))], [], [], []⟩, 31, [.tmp 4, .tmp 5], (Tryd.f97.body).getD .skip, true⟩ := by kernel_rfl
@[go_sem] theorem pf97 : pfT TT 97 = true := by kernel_rfl
@[go_sem] theorem o97 : callR (XG G) TT 97 m l = owR (callP (XG G) TT 97 (stripL l)) m := ow pf97
theorem T98 : TT 98 = some ⟨⟨[], [0, 2, 4], [], [], [], [], [], []⟩, 8, [.tmp 2], (Tryd.f98.body).getD .skip, false⟩ := by kernel_rfl
@[go_sem] theorem pf98 : pfT TT 98 = false := by kernel_rfl
theorem T100098 : TT 100098 = some ⟨⟨[], [0, 2, 4], [], [], [], [7], [], []⟩, 8, [.tmp 2], (Tryd.f98.body).getD .skip, false⟩ := by kernel_rfl
@[go_sem] theorem pf100098 : pfT TT 100098 = false := by kernel_rfl
theorem T200099 : TT 200099 = some ⟨⟨[], [0, 1, 3, 4, 5, 6, 7, 8, 9, 10, 11, 36, 60], [], [], [(3, (3, 0)), (4, (4, 0)), (10, (10, 0)), (19, (3, 0)), (26, (3, 1)), (43, (3, 2))], [], [(21, 1)], [10]⟩, 66, [.cell 4 114, .tmp 5], (Tryd.f99.body).getD .skip, false⟩ := by kernel_rfl
@[go_sem] theorem pf200099 : pfT TT 200099 = false := by kernel_rfl
theorem T99 : TT 99 = some ⟨⟨[], [0, 1, 3, 4, 5, 6, 7, 8, 9, 10, 11, 36, 60], [], [], [(3, (3, 0)), (4, (4, 0)), (10, (10, 0)), (19, (3, 0)), (26, (3, 1)), (43, (3, 2))], [], [], [10]⟩, 66, [.cell 4 114, .tmp 5], (Tryd.f99.body).getD .skip, true⟩ := by kernel_rfl
@[go_sem] theorem pf99 : pfT TT 99 = true := by kernel_rfl
@[go_sem] theorem o99 : callR (XG G) TT 99 m l = owR (callP (XG G) TT 99 (stripL l)) m := ow pf99
theorem T100 : TT 100 = some ⟨⟨[], [0, 1, 3, 4], [], [], [(3, (3, 0))], [], [], [3]⟩, 9, [.tmp 4], (Tryd.f100.body).getD .skip, false⟩ := by kernel_rfl
@[go_sem] theorem pf100 : pfT TT 100 = false := by kernel_rfl
theorem T101 : TT 101 = some ⟨⟨[], [0, 1, 2, 3, 4], [], [], [(3, (3, 0))], [], [(8, 2)], []⟩, 9, [.tmp 4], (Tryd.f101.body).getD .skip, false⟩ := by kernel_rfl
@[go_sem] theorem pf101 : pfT TT 101 = false := by kernel_rfl
theorem T200102 : TT 200102 = some ⟨⟨[], [0, 1, 2, 4, 5, 6, 7, 8, 9, 20, 21, 22, 23, 43], [(3, [4, 5, 7, 20, 21, 22])], [], [(4, (4, 0)), (5, (5, 0)), (7, (7, 0)), (11, (5, 1)), (15, (7, 2)), (17, (5, 2)), (27, (7, 1)), (33, (4, 1)), (35, (5, 0))], [], [], []⟩, 45, [.tmp 6], (Tryd.f102.body).getD .skip, false⟩ := by kernel_rfl
@[go_sem] theorem pf200102 : pfT TT 200102 = false := by kernel_rfl
theorem T102 : TT 102 = some ⟨⟨[], [0, 1, 2, 4, 5, 6, 7, 8, 9, 20, 21, 22, 23, 43], [(3, [4, 5, 7, 20, 21, 22])], [], [(4, (4, 0)), (5, (5, 0)), (7, (7, 0)), (11, (5, 1)), (15, (7, 2)), (17, (5, 2)), (27, (7, 1)), (33, (4, 1)), (35, (5, 0))], [], [], []⟩, 45, [.tmp 6], (Tryd.f102.body).getD .skip, true⟩ := by kernel_rfl
@[go_sem] theorem pf102 : pfT TT 102 = true := by kernel_rfl
@[go_sem] theorem o102 : callR (XG G) TT 102 m l = owR (callP (XG G) TT 102 (stripL l)) m := ow pf102
theorem T103 : TT 103 = some ⟨⟨[], [0, 1, 2, 3, 10, 11, 12], [(3, [1, 2, 10, 11])], [], [(1, (1, 0)), (2, (2, 0)), (4, (1, 7)), (7, (1, 7)), (8, (1, 7)), (14, (1, 7)), (17, (1, 7))], [], [(6, 1)], []⟩, 26, [.cell 2 30], (Tryd.f103.body).getD .skip, true⟩ := by kernel_rfl
@[go_sem] theorem pf103 : pfT TT 103 = true := by kernel_rfl
@[go_sem] theorem o103 : callR (XG G) TT 103 m l = owR (callP (XG G) TT 103 (stripL l)) m := ow pf103
theorem T104 : TT 104 = some ⟨⟨[], [0, 2, 3, 21, 25, 56], [(4, [0, 3])], [], [], [], [], []⟩, 63, [.tmp 2], (Tryd.f104.body).getD .skip, true⟩ := by kernel_rfl
@[go_sem] theorem pf104 : pfT TT 104 = true := by kernel_rfl
@[go_sem] theorem o104 : callR (XG G) TT 104 m l = owR (callP (XG G) TT 104 (stripL l)) m := ow pf104
theorem T105 : TT 105 = some ⟨⟨[], [0, 1, 2, 6, 9], [], [], [(1, (1, 0)), (3, (1, 0)), (7, (1, 1)), (10, (1, 2)), (14, (1, 2)), (16, (1, 3)), (21, (1, 3)), (26, (1, 4)), (30, (1, 1)), (34, (1, 4)), (39, (1, 4)), (44, (1, 2)), (49, (1, 3))], [], [], []⟩, 53, [.tmp 2], (Tryd.f105.body).getD .skip, true⟩ := by kernel_rfl
@[go_sem] theorem pf105 : pfT TT 105 = true := by kernel_rfl
@[go_sem] theorem o105 : callR (XG G) TT 105 m l = owR (callP (XG G) TT 105 (stripL l)) m := ow pf105
theorem T106 : TT 106 = some ⟨⟨[], [0, 2, 3, 4, 8, 13, 24], [(2, [0, 3]), (5, [0, 3, 4])], [], [], [], [], []⟩, 25, [.tmp 2], (Tryd.f106.body).getD .skip, true⟩ := by kernel_rfl
@[go_sem] theorem pf106 : pfT TT 106 = true := by kernel_rfl
@[go_sem] theorem o106 : callR (XG G) TT 106 m l = owR (callP (XG G) TT 106 (stripL l)) m := ow pf106
theorem T107 : TT 107 = some ⟨⟨[], [0, 1, 4, 5, 10, 14, 25], [(4, [0, 1, 5])], [], [], [], [], []⟩, 26, [.tmp 4], (Tryd.f107.body).getD .skip, true⟩ := by kernel_rfl
@[go_sem] theorem pf107 : pfT TT 107 = true := by kernel_rfl
@[go_sem] theorem o107 : callR (XG G) TT 107 m l = owR (callP (XG G) TT 107 (stripL l)) m := ow pf107
theorem T108 : TT 108 = some ⟨⟨[], [0, 1, 2, 4, 5, 6, 7, 8, 9, 13, 26], [(3, [1, 2, 6, 7])], [], [(2, (2, 0))], [], [], []⟩, 32, [.tmp 4, .tmp 5], (Tryd.f108.body).getD .skip, true⟩ := by kernel_rfl
@[go_sem] theorem pf108 : pfT TT 108 = true := by kernel_rfl
@[go_sem] theorem o108 : callR (XG G) TT 108 m l = owR (callP (XG G) TT 108 (stripL l)) m := ow pf108
theorem T109 : TT 109 = some ⟨⟨[], [0, 1, 2, 3, 4, 5, 8, 9, 13, 34], [(2, [2, 3, 4, 5, 9])], [], [(4, (4, 0)), (5, (5, 0)), (16, (4, 1)), (25, (5, 1))], [], [], []⟩, 35, [.tmp 8], (Tryd.f109.body).getD .skip, true⟩ := by kernel_rfl
@[go_sem] theorem pf109 : pfT TT 109 = true := by kernel_rfl
@[go_sem] theorem o109 : callR (XG G) TT 109 m l = owR (callP (XG G) TT 109 (stripL l)) m := ow pf109
theorem T120 : TT 120 = some ⟨⟨[], [0, 1, 4, 5, 10, 12, 13, 14, 24], [(4, [0, 1, 12, 13])], [], [], [], [], []⟩, 26, [.tmp 4], (Tryd.f120.body).getD .skip, true⟩ := by kernel_rfl
@[go_sem] theorem pf120 : pfT TT 120 = true := by kernel_rfl
@[go_sem] theorem o120 : callR (XG G) TT 120 m l = owR (callP (XG G) TT 120 (stripL l)) m := ow pf120
theorem T123 : TT 123 = some ⟨⟨[], [0, 2, 22], [], [], [], [], [], []⟩, 32, [.tmp 2], (Tryd.f123.body).getD .skip, true⟩ := by kernel_rfl
@[go_sem] theorem pf123 : pfT TT 123 = true := by kernel_rfl
@[go_sem] theorem o123 : callR (XG G) TT 123 m l = owR (callP (XG G) TT 123 (stripL l)) m := ow pf123
theorem T124 : TT 124 = some ⟨⟨[], [0, 1, 3, 4], [], [], [(3, (3, 0))], [], [], [3]⟩, 9, [.tmp 4], (Tryd.f124.body).getD .skip, false⟩ := by kernel_rfl
@[go_sem] theorem pf124 : pfT TT 124 = false := by kernel_rfl
theorem T125 : TT 125 = some ⟨⟨[], [0, 1, 2, 6, 8, 9, 31], [], [], [(1, (1, 0)), (3, (1, 0)), (7, (1, 1)), (11, (1, 2)), (15, (1, 2)), (17, (1, 3)), (22, (1, 3)), (27, (1, 4)), (33, (1, 4)), (37, (1, 4)), (42, (1, 2)), (47, (1, 3))], [], [], []⟩, 51, [.tmp 2], (Tryd.f125.body).getD .skip, true⟩ := by kernel_rfl
@[go_sem] theorem pf125 : pfT TT 125 = true := by kernel_rfl
@[go_sem] theorem o125 : callR (XG G) TT 125 m l = owR (callP (XG G) TT 125 (stripL l)) m := ow pf125
theorem T126 : TT 126 = some ⟨⟨[], [0, 2, 3, 4, 5, 6, 7, 8, 16], [(2, [0, 5, 6, 7])], [], [], [], [], []⟩, 18, [.tmp 2], (Tryd.f126.body).getD .skip, true⟩ := by kernel_rfl
@[go_sem] theorem pf126 : pfT TT 126 = true := by kernel_rfl
@[go_sem] theorem o126 : callR (XG G) TT 126 m l = owR (callP (XG G) TT 126 (stripL l)) m := ow pf126
theorem T127 : TT 127 = some ⟨⟨[], [0, 2, 3, 5, 6, 7, 8, 9], [(3, [3, 6, 7, 8])], [], [(5, (5, 0)), (13, (5, 0))], [], [], []⟩, 19, [.tmp 2], (Tryd.f127.body).getD .skip, true⟩ := by kernel_rfl
@[go_sem] theorem pf127 : pfT TT 127 = true := by kernel_rfl
@[go_sem] theorem o127 : callR (XG G) TT 127 m l = owR (callP (XG G) TT 127 (stripL l)) m := ow pf127
theorem T145 : TT 145 = some ⟨⟨[], [0, 1, 3, 4], [], [], [(3, (3, 0))], [], [], [3]⟩, 9, [.tmp 4], (Tryd.f145.body).getD .skip, false⟩ := by kernel_rfl
@[go_sem] theorem pf145 : pfT TT 145 = false := by kernel_rfl
theorem T146 : TT 146 = some ⟨⟨[], [0, 2], [], [], [], [], [], []⟩, 6, [.tmp 2], (Tryd.f146.body).getD .skip, true⟩ := by kernel_rfl
@[go_sem] theorem pf146 : pfT TT 146 = true := by kernel_rfl
@[go_sem] theorem o146 : callR (XG G) TT 146 m l = owR (callP (XG G) TT 146 (stripL l)) m := ow pf146
theorem T147 : TT 147 = some ⟨⟨[], [0, 1, 3, 4], [], [], [(3, (3, 0))], [], [], [3]⟩, 9, [.tmp 4], (Tryd.f147.body).getD .skip, false⟩ := by kernel_rfl
@[go_sem] theorem pf147 : pfT TT 147 = false := by kernel_rfl
theorem T148 : TT 148 = some ⟨⟨[], [0, 1, 2], [], [], [(1, (1, 0)), (3, (1, 0)), (8, (1, 0)), (11, (1, 2))], [], [], []⟩, 16, [.tmp 2], (Tryd.f148.body).getD .skip, true⟩ := by kernel_rfl
@[go_sem] theorem pf148 : pfT TT 148 = true := by kernel_rfl
@[go_sem] theorem o148 : callR (XG G) TT 148 m l = owR (callP (XG G) TT 148 (stripL l)) m := ow pf148
theorem T149 : TT 149 = some ⟨⟨[], [0, 1, 4], [], [], [], [], [], []⟩, 9, [.tmp 4], (Tryd.f149.body).getD .skip, false⟩ := by kernel_rfl
@[go_sem] theorem pf149 : pfT TT 149 = false := by kernel_rfl
theorem T150 : TT 150 = some ⟨⟨[], [0, 1, 3], [], [], [], [], [], []⟩, 7, [.tmp 3], (Tryd.f150.body).getD .skip, false⟩ := by kernel_rfl
@[go_sem] theorem pf150 : pfT TT 150 = false := by kernel_rfl
theorem T151 : TT 151 = some ⟨⟨[], [0, 1, 4, 5, 10, 12, 13, 14, 24], [(4, [0, 1, 12, 13])], [], [], [], [], []⟩, 26, [.tmp 4], (Tryd.f151.body).getD .skip, true⟩ := by kernel_rfl
@[go_sem] theorem pf151 : pfT TT 151 = true := by kernel_rfl
@[go_sem] theorem o151 : callR (XG G) TT 151 m l = owR (callP (XG G) TT 151 (stripL l)) m := ow pf151
theorem T152 : TT 152 = some ⟨⟨[], [0, 1, 2], [], [], [(1, (1, 0)), (3, (1, 0))], [], [], []⟩, 7, [.tmp 2], (Tryd.f152.body).getD .skip, true⟩ := by kernel_rfl
@[go_sem] theorem pf152 : pfT TT 152 = true := by kernel_rfl
@[go_sem] theorem o152 : callR (XG G) TT 152 m l = owR (callP (XG G) TT 152 (stripL l)) m := ow pf152
theorem T153 : TT 153 = some ⟨⟨[], [0, 1, 4, 5, 7, 8, 9, 16], [(2, [0, 1, 7, 8])], [], [], [], [], []⟩, 19, [.tmp 4], (Tryd.f153.body).getD .skip, false⟩ := by kernel_rfl
@[go_sem] theorem pf153 : pfT TT 153 = false := by kernel_rfl
theorem T154 : TT 154 = some ⟨⟨[], [0, 1, 3], [], [], [], [], [], []⟩, 7, [.tmp 3], (Tryd.f154.body).getD .skip, false⟩ := by kernel_rfl
@[go_sem] theorem pf154 : pfT TT 154 = false := by kernel_rfl
theorem T155 : TT 155 = some ⟨⟨[], [0, 1, 4], [], [], [], [], [], []⟩, 9, [.tmp 4], (Tryd.f155.body).getD .skip, false⟩ := by kernel_rfl
@[go_sem] theorem pf155 : pfT TT 155 = false := by kernel_rfl
theorem T156 : TT 156 = some ⟨⟨[], [0, 1, 2, 3], [], [], [(2, (2, 0))], [], [], []⟩, 8, [.tmp 3], (Tryd.f156.body).getD .skip, false⟩ := by kernel_rfl
@[go_sem] theorem pf156 : pfT TT 156 = false := by kernel_rfl
theorem T157 : TT 157 = some ⟨⟨[], [0, 1, 4, 5, 12, 23], [(2, [0, 1, 5])], [], [], [], [], []⟩, 24, [.tmp 4], (Tryd.f157.body).getD .skip, true⟩ := by kernel_rfl
@[go_sem] theorem pf157 : pfT TT 157 = true := by kernel_rfl
@[go_sem] theorem o157 : callR (XG G) TT 157 m l = owR (callP (XG G) TT 157 (stripL l)) m := ow pf157
theorem T158 : TT 158 = some ⟨⟨[], [0], [], [], [], [], [], []⟩, 1, [.tmp 0], (Tryd.f158.body).getD .skip, true⟩ := by kernel_rfl
@[go_sem] theorem pf158 : pfT TT 158 = true := by kernel_rfl
@[go_sem] theorem o158 : callR (XG G) TT 158 m l = owR (callP (XG G) TT 158 (stripL l)) m := ow pf158
theorem T161 : TT 161 = some ⟨⟨[], [0, 2], [], [], [], [], [], []⟩, 17, [.tmp 2], (Tryd.f161.body).getD .skip, true⟩ := by kernel_rfl
@[go_sem] theorem pf161 : pfT TT 161 = true := by kernel_rfl
@[go_sem] theorem o161 : callR (XG G) TT 161 m l = owR (callP (XG G) TT 161 (stripL l)) m := ow pf161
theorem T162 : TT 162 = some ⟨⟨[], [0, 1, 4, 5, 16], [(2, [0, 1, 5])], [], [], [], [], []⟩, 20, [.tmp 4], (Tryd.f162.body).getD .skip, false⟩ := by kernel_rfl
@[go_sem] theorem pf162 : pfT TT 162 = false := by kernel_rfl
theorem T163 : TT 163 = some ⟨⟨[], [0, 2], [], [], [], [], [], []⟩, 13, [.tmp 2], (Tryd.f163.body).getD .skip, true⟩ := by kernel_rfl
@[go_sem] theorem pf163 : pfT TT 163 = true := by kernel_rfl
@[go_sem] theorem o163 : callR (XG G) TT 163 m l = owR (callP (XG G) TT 163 (stripL l)) m := ow pf163
theorem T164 : TT 164 = some ⟨⟨[], [0, 2, 3, 4, 5, 8, 9, 10, 11, 20], [(3, [3, 8, 9, 10])], [], [], [7], [], []⟩, 30, [.tmp 2], (Tryd.f164.body).getD .skip, true⟩ := by kernel_rfl
@[go_sem] theorem pf164 : pfT TT 164 = true := by kernel_rfl
@[go_sem] theorem o164 : callR (XG G) TT 164 m l = owR (callP (XG G) TT 164 (stripL l)) m := ow pf164
theorem T165 : TT 165 = some ⟨⟨[], [0, 2, 4], [], [], [], [], [], []⟩, 13, [.tmp 2], (Tryd.f165.body).getD .skip, true⟩ := by kernel_rfl
@[go_sem] theorem pf165 : pfT TT 165 = true := by kernel_rfl
@[go_sem] theorem o165 : callR (XG G) TT 165 m l = owR (callP (XG G) TT 165 (stripL l)) m := ow pf165
theorem T166 : TT 166 = some ⟨⟨[], [0, 1, 4], [], [], [], [], [], []⟩, 9, [.tmp 4], (Tryd.f166.body).getD .skip, false⟩ := by kernel_rfl
@[go_sem] theorem pf166 : pfT TT 166 = false := by kernel_rfl
theorem T167 : TT 167 = some ⟨⟨[], [0, 1, 2, 3], [], [], [(2, (2, 0))], [], [], []⟩, 8, [.tmp 3], (Tryd.f167.body).getD .skip, false⟩ := by kernel_rfl
@[go_sem] theorem pf167 : pfT TT 167 = false := by kernel_rfl
theorem T168 : TT 168 = some ⟨⟨[], [0, 1, 4], [], [], [], [], [], []⟩, 9, [.tmp 4], (Tryd.f168.body).getD .skip, true⟩ := by kernel_rfl
@[go_sem] theorem pf168 : pfT TT 168 = true := by kernel_rfl
@[go_sem] theorem o168 : callR (XG G) TT 168 m l = owR (callP (XG G) TT 168 (stripL l)) m := ow pf168
theorem T176 : TT 176 = some ⟨⟨[], [0, 1, 3], [], [], [], [], [], []⟩, 8, [.tmp 3], (Tryd.f176.body).getD .skip, false⟩ := by kernel_rfl
@[go_sem] theorem pf176 : pfT TT 176 = false := by kernel_rfl
theorem T177 : TT 177 = some ⟨⟨[], [0, 1, 4], [], [], [], [], [], []⟩, 9, [.tmp 4], (Tryd.f177.body).getD .skip, false⟩ := by kernel_rfl
@[go_sem] theorem pf177 : pfT TT 177 = false := by kernel_rfl
theorem T178 : TT 178 = some ⟨⟨[], [0, 1, 2, 3], [], [], [(2, (2, 0))], [], [], []⟩, 8, [.tmp 3], (Tryd.f178.body).getD .skip, false⟩ := by kernel_rfl
@[go_sem] theorem pf178 : pfT TT 178 = false := by kernel_rfl
theorem T179 : TT 179 = some ⟨⟨[], [0, 1, 4, 5, 7, 8, 9, 16], [(2, [0, 1, 7, 8])], [], [], [], [], []⟩, 19, [.tmp 4], (Tryd.f179.body).getD .skip, false⟩ := by kernel_rfl
@[go_sem] theorem pf179 : pfT TT 179 = false := by kernel_rfl
theorem T180 : TT 180 = some ⟨⟨[], [0, 1, 4, 5, 7, 8, 9, 16], [(2, [0, 1, 7, 8])], [], [], [], [], []⟩, 19, [.tmp 4], (Tryd.f180.body).getD .skip, false⟩ := by kernel_rfl
@[go_sem] theorem pf180 : pfT TT 180 = false := by kernel_rfl
theorem T181 : TT 181 = some ⟨⟨[], [0, 2], [], [], [], [], [], []⟩, 9, [.tmp 2], (Tryd.f181.body).getD .skip, true⟩ := by kernel_rfl
@[go_sem] theorem pf181 : pfT TT 181 = true := by kernel_rfl
@[go_sem] theorem o181 : callR (XG G) TT 181 m l = owR (callP (XG G) TT 181 (stripL l)) m := ow pf181
theorem T182 : TT 182 = some ⟨⟨[], [0, 1, 4, 5, 6, 7, 8, 9, 15, 27], [(3, [0, 1, 6, 7, 8])], [], [], [], [], []⟩, 54, [.tmp 4, .tmp 5], (Tryd.f182.body).getD .skip, true⟩ := by kernel_rfl
@[go_sem] theorem pf182 : pfT TT 182 = true := by kernel_rfl
@[go_sem] theorem o182 : callR (XG G) TT 182 m l = owR (callP (XG G) TT 182 (stripL l)) m := ow pf182
theorem T183 : TT 183 = some ⟨⟨[], [0, 2, 3, 4, 5, 8, 9, 10, 11, 20], [(3, [3, 8, 9, 10])], [], [], [7], [], []⟩, 30, [.tmp 2], (Tryd.f183.body).getD .skip, true⟩ := by kernel_rfl
@[go_sem] theorem pf183 : pfT TT 183 = true := by kernel_rfl
@[go_sem] theorem o183 : callR (XG G) TT 183 m l = owR (callP (XG G) TT 183 (stripL l)) m := ow pf183
theorem T184 : TT 184 = some ⟨⟨[], [0, 1, 4, 5, 7, 8, 9, 16], [(2, [0, 1, 7, 8])], [], [], [], [], []⟩, 19, [.tmp 4], (Tryd.f184.body).getD .skip, true⟩ := by kernel_rfl
@[go_sem] theorem pf184 : pfT TT 184 = true := by kernel_rfl
@[go_sem] theorem o184 : callR (XG G) TT 184 m l = owR (callP (XG G) TT 184 (stripL l)) m := ow pf184
theorem T187 : TT 187 = some ⟨⟨[], [0, 1, 4, 5, 7, 8, 9, 16], [(2, [0, 1, 7, 8])], [], [], [], [], []⟩, 19, [.tmp 4], (Tryd.f187.body).getD .skip, false⟩ := by kernel_rfl
@[go_sem] theorem pf187 : pfT TT 187 = false := by kernel_rfl
theorem T188 : TT 188 = some ⟨⟨[], [0, 1, 4], [], [], [], [], [], []⟩, 17, [.tmp 4], (Tryd.f188.body).getD .skip, true⟩ := by kernel_rfl
@[go_sem] theorem pf188 : pfT TT 188 = true := by kernel_rfl
@[go_sem] theorem o188 : callR (XG G) TT 188 m l = owR (callP (XG G) TT 188 (stripL l)) m := ow pf188
theorem T189 : TT 189 = some ⟨⟨[], [0, 2], [], [], [], [], [], []⟩, 6, [.tmp 2], (Tryd.f189.body).getD .skip, true⟩ := by kernel_rfl
@[go_sem] theorem pf189 : pfT TT 189 = true := by kernel_rfl
@[go_sem] theorem o189 : callR (XG G) TT 189 m l = owR (callP (XG G) TT 189 (stripL l)) m := ow pf189
theorem T191 : TT 191 = some ⟨⟨[], [0, 2], [], [], [], [], [], []⟩, 6, [.tmp 2], (Tryd.f191.body).getD .skip, true⟩ := by kernel_rfl
@[go_sem] theorem pf191 : pfT TT 191 = true := by kernel_rfl
@[go_sem] theorem o191 : callR (XG G) TT 191 m l = owR (callP (XG G) TT 191 (stripL l)) m := ow pf191
end
@[go_sem] theorem ty_ag_2 : isAgg Tryd.prog 2 = some false := by kernel_rfl
@[go_sem] theorem ty_sz_2 : szOf Tryd.prog 2 = some 1 := by kernel_rfl
@[go_sem] theorem ty_bo_2 : bytesOk Tryd.prog 2 = true := by kernel_rfl
@[go_sem] theorem ty_zd_2 : zeroD Tryd.prog 2 = some (.int .i64 0) := by kernel_rfl
@[go_sem] theorem ty_zo_2 : zeroOk Tryd.prog 2 1 = true := by kernel_rfl
@[go_sem] theorem ty_it_2 : intTy Tryd.prog 2 = some .i64 := by kernel_rfl
@[go_sem] theorem ty_ag_3 : isAgg Tryd.prog 3 = some false := by kernel_rfl
@[go_sem] theorem ty_sz_3 : szOf Tryd.prog 3 = some 1 := by kernel_rfl
@[go_sem] theorem ty_bo_3 : bytesOk Tryd.prog 3 = true := by kernel_rfl
@[go_sem] theorem ty_zd_3 : zeroD Tryd.prog 3 = some (.int .i64 0) := by kernel_rfl
@[go_sem] theorem ty_zo_3 : zeroOk Tryd.prog 3 1 = true := by kernel_rfl
@[go_sem] theorem ty_it_3 : intTy Tryd.prog 3 = some .i64 := by kernel_rfl
@[go_sem] theorem ty_ag_4 : isAgg Tryd.prog 4 = some false := by kernel_rfl
@[go_sem] theorem ty_sz_4 : szOf Tryd.prog 4 = some 1 := by kernel_rfl
@[go_sem] theorem ty_bo_4 : bytesOk Tryd.prog 4 = true := by kernel_rfl
@[go_sem] theorem ty_zd_4 : zeroD Tryd.prog 4 = some (.bool false) := by kernel_rfl
@[go_sem] theorem ty_zo_4 : zeroOk Tryd.prog 4 1 = true := by kernel_rfl
@[go_sem] theorem ty_bt_4 : isBoolT Tryd.prog 4 = true := by kernel_rfl
@[go_sem] theorem ty_ag_5 : isAgg Tryd.prog 5 = some false := by kernel_rfl
@[go_sem] theorem ty_sz_5 : szOf Tryd.prog 5 = some 1 := by kernel_rfl
@[go_sem] theorem ty_bo_5 : bytesOk Tryd.prog 5 = true := by kernel_rfl
@[go_sem] theorem ty_zd_5 : zeroD Tryd.prog 5 = some (.int .u8 0) := by kernel_rfl
@[go_sem] theorem ty_zo_5 : zeroOk Tryd.prog 5 1 = true := by kernel_rfl
@[go_sem] theorem ty_it_5 : intTy Tryd.prog 5 = some .u8 := by kernel_rfl
@[go_sem] theorem ty_ag_9 : isAgg Tryd.prog 9 = some false := by kernel_rfl
@[go_sem] theorem ty_sz_9 : szOf Tryd.prog 9 = some 1 := by kernel_rfl
@[go_sem] theorem ty_bo_9 : bytesOk Tryd.prog 9 = true := by kernel_rfl
@[go_sem] theorem ty_zd_9 : zeroD Tryd.prog 9 = some (.str []) := by kernel_rfl
@[go_sem] theorem ty_zo_9 : zeroOk Tryd.prog 9 1 = true := by kernel_rfl
@[go_sem] theorem ty_st_9 : isStr Tryd.prog 9 = true := by kernel_rfl
@[go_sem] theorem ty_ag_23 : isAgg Tryd.prog 23 = some false := by kernel_rfl
@[go_sem] theorem ty_sz_23 : szOf Tryd.prog 23 = some 1 := by kernel_rfl
@[go_sem] theorem ty_bo_23 : bytesOk Tryd.prog 23 = true := by kernel_rfl
@[go_sem] theorem ty_zd_23 : zeroD Tryd.prog 23 = some (.nil) := by kernel_rfl
@[go_sem] theorem ty_zo_23 : zeroOk Tryd.prog 23 1 = true := by kernel_rfl
@[go_sem] theorem ty_se_23 : sliceElem Tryd.prog 23 = some 72 := by kernel_rfl
@[go_sem] theorem ty_ag_24 : isAgg Tryd.prog 24 = some false := by kernel_rfl
@[go_sem] theorem ty_sz_24 : szOf Tryd.prog 24 = some 1 := by kernel_rfl
@[go_sem] theorem ty_bo_24 : bytesOk Tryd.prog 24 = true := by kernel_rfl
@[go_sem] theorem ty_zd_24 : zeroD Tryd.prog 24 = some (.nil) := by kernel_rfl
@[go_sem] theorem ty_zo_24 : zeroOk Tryd.prog 24 1 = true := by kernel_rfl
@[go_sem] theorem ty_se_24 : sliceElem Tryd.prog 24 = some 3 := by kernel_rfl
@[go_sem] theorem ty_ag_25 : isAgg Tryd.prog 25 = some false := by kernel_rfl
@[go_sem] theorem ty_sz_25 : szOf Tryd.prog 25 = some 1 := by kernel_rfl
@[go_sem] theorem ty_bo_25 : bytesOk Tryd.prog 25 = true := by kernel_rfl
@[go_sem] theorem ty_zd_25 : zeroD Tryd.prog 25 = some (.nil) := by kernel_rfl
@[go_sem] theorem ty_zo_25 : zeroOk Tryd.prog 25 1 = true := by kernel_rfl
@[go_sem] theorem ty_se_25 : sliceElem Tryd.prog 25 = some 9 := by kernel_rfl
@[go_sem] theorem ty_ag_27 : isAgg Tryd.prog 27 = some true := by kernel_rfl
@[go_sem] theorem ty_sz_27 : szOf Tryd.prog 27 = some 3 := by kernel_rfl
@[go_sem] theorem ty_bo_27 : bytesOk Tryd.prog 27 = true := by kernel_rfl
@[go_sem] theorem ty_zd_27 : zeroD Tryd.prog 27 = some (.agg [.int .i64 0, .int .i64 0, .str []]) := by kernel_rfl
@[go_sem] theorem ty_zo_27 : zeroOk Tryd.prog 27 3 = true := by kernel_rfl
@[go_sem] theorem ty_is_27 : isStruct Tryd.prog 27 = true := by kernel_rfl
@[go_sem] theorem ty_fo_27_0 : fieldOff Tryd.prog 27 0 = some 0 := by kernel_rfl
@[go_sem] theorem ty_ft_27_0 : fieldTy Tryd.prog 27 0 = some 3 := by kernel_rfl
@[go_sem] theorem ty_fo_27_1 : fieldOff Tryd.prog 27 1 = some 1 := by kernel_rfl
@[go_sem] theorem ty_ft_27_1 : fieldTy Tryd.prog 27 1 = some 2 := by kernel_rfl
@[go_sem] theorem ty_fo_27_2 : fieldOff Tryd.prog 27 2 = some 2 := by kernel_rfl
@[go_sem] theorem ty_ft_27_2 : fieldTy Tryd.prog 27 2 = some 9 := by kernel_rfl
@[go_sem] theorem ty_et_27 : eqTags Tryd.prog 27 = some [0, 0, 2] := by kernel_rfl
@[go_sem] theorem ty_ag_28 : isAgg Tryd.prog 28 = some false := by kernel_rfl
@[go_sem] theorem ty_sz_28 : szOf Tryd.prog 28 = some 1 := by kernel_rfl
@[go_sem] theorem ty_bo_28 : bytesOk Tryd.prog 28 = true := by kernel_rfl
@[go_sem] theorem ty_zd_28 : zeroD Tryd.prog 28 = some (.nil) := by kernel_rfl
@[go_sem] theorem ty_zo_28 : zeroOk Tryd.prog 28 1 = true := by kernel_rfl
@[go_sem] theorem ty_se_28 : sliceElem Tryd.prog 28 = some 30 := by kernel_rfl
@[go_sem] theorem ty_ag_30 : isAgg Tryd.prog 30 = some true := by kernel_rfl
@[go_sem] theorem ty_sz_30 : szOf Tryd.prog 30 = some 8 := by kernel_rfl
@[go_sem] theorem ty_bo_30 : bytesOk Tryd.prog 30 = true := by kernel_rfl
@[go_sem] theorem ty_zd_30 : zeroD Tryd.prog 30 = some (.agg [.int .i64 0, .str [], .str [], .int .i64 0, .int .i64 0, .int .i64 0, .str [], .nil]) := by kernel_rfl
@[go_sem] theorem ty_zo_30 : zeroOk Tryd.prog 30 8 = true := by kernel_rfl
@[go_sem] theorem ty_is_30 : isStruct Tryd.prog 30 = true := by kernel_rfl
@[go_sem] theorem ty_fo_30_0 : fieldOff Tryd.prog 30 0 = some 0 := by kernel_rfl
@[go_sem] theorem ty_ft_30_0 : fieldTy Tryd.prog 30 0 = some 3 := by kernel_rfl
@[go_sem] theorem ty_fo_30_1 : fieldOff Tryd.prog 30 1 = some 1 := by kernel_rfl
@[go_sem] theorem ty_ft_30_1 : fieldTy Tryd.prog 30 1 = some 9 := by kernel_rfl
@[go_sem] theorem ty_fo_30_2 : fieldOff Tryd.prog 30 2 = some 2 := by kernel_rfl
@[go_sem] theorem ty_ft_30_2 : fieldTy Tryd.prog 30 2 = some 9 := by kernel_rfl
@[go_sem] theorem ty_fo_30_3 : fieldOff Tryd.prog 30 3 = some 3 := by kernel_rfl
@[go_sem] theorem ty_ft_30_3 : fieldTy Tryd.prog 30 3 = some 3 := by kernel_rfl
@[go_sem] theorem ty_fo_30_4 : fieldOff Tryd.prog 30 4 = some 4 := by kernel_rfl
@[go_sem] theorem ty_ft_30_4 : fieldTy Tryd.prog 30 4 = some 27 := by kernel_rfl
@[go_sem] theorem ty_fo_30_5 : fieldOff Tryd.prog 30 5 = some 7 := by kernel_rfl
@[go_sem] theorem ty_ft_30_5 : fieldTy Tryd.prog 30 5 = some 28 := by kernel_rfl
@[go_sem] theorem ty_ag_33 : isAgg Tryd.prog 33 = some false := by kernel_rfl
@[go_sem] theorem ty_sz_33 : szOf Tryd.prog 33 = some 1 := by kernel_rfl
@[go_sem] theorem ty_bo_33 : bytesOk Tryd.prog 33 = true := by kernel_rfl
@[go_sem] theorem ty_zd_33 : zeroD Tryd.prog 33 = some (.nil) := by kernel_rfl
@[go_sem] theorem ty_zo_33 : zeroOk Tryd.prog 33 1 = true := by kernel_rfl
@[go_sem] theorem ty_se_33 : sliceElem Tryd.prog 33 = some 80 := by kernel_rfl
@[go_sem] theorem ty_ag_34 : isAgg Tryd.prog 34 = some false := by kernel_rfl
@[go_sem] theorem ty_sz_34 : szOf Tryd.prog 34 = some 1 := by kernel_rfl
@[go_sem] theorem ty_bo_34 : bytesOk Tryd.prog 34 = true := by kernel_rfl
@[go_sem] theorem ty_zd_34 : zeroD Tryd.prog 34 = some (.nil) := by kernel_rfl
@[go_sem] theorem ty_zo_34 : zeroOk Tryd.prog 34 1 = true := by kernel_rfl
@[go_sem] theorem ty_se_34 : sliceElem Tryd.prog 34 = some 25 := by kernel_rfl
@[go_sem] theorem ty_ag_35 : isAgg Tryd.prog 35 = some false := by kernel_rfl
@[go_sem] theorem ty_sz_35 : szOf Tryd.prog 35 = some 1 := by kernel_rfl
@[go_sem] theorem ty_bo_35 : bytesOk Tryd.prog 35 = true := by kernel_rfl
@[go_sem] theorem ty_zd_35 : zeroD Tryd.prog 35 = some (.nil) := by kernel_rfl
@[go_sem] theorem ty_zo_35 : zeroOk Tryd.prog 35 1 = true := by kernel_rfl
@[go_sem] theorem ty_se_35 : sliceElem Tryd.prog 35 = some 117 := by kernel_rfl
@[go_sem] theorem ty_ag_37 : isAgg Tryd.prog 37 = some true := by kernel_rfl
@[go_sem] theorem ty_sz_37 : szOf Tryd.prog 37 = some 4 := by kernel_rfl
@[go_sem] theorem ty_bo_37 : bytesOk Tryd.prog 37 = true := by kernel_rfl
@[go_sem] theorem ty_zd_37 : zeroD Tryd.prog 37 = some (.agg [.nil, .nil, .nil, .nil]) := by kernel_rfl
@[go_sem] theorem ty_zo_37 : zeroOk Tryd.prog 37 4 = true := by kernel_rfl
@[go_sem] theorem ty_is_37 : isStruct Tryd.prog 37 = true := by kernel_rfl
@[go_sem] theorem ty_fo_37_0 : fieldOff Tryd.prog 37 0 = some 0 := by kernel_rfl
@[go_sem] theorem ty_ft_37_0 : fieldTy Tryd.prog 37 0 = some 33 := by kernel_rfl
@[go_sem] theorem ty_fo_37_1 : fieldOff Tryd.prog 37 1 = some 1 := by kernel_rfl
@[go_sem] theorem ty_ft_37_1 : fieldTy Tryd.prog 37 1 = some 34 := by kernel_rfl
@[go_sem] theorem ty_fo_37_2 : fieldOff Tryd.prog 37 2 = some 2 := by kernel_rfl
@[go_sem] theorem ty_ft_37_2 : fieldTy Tryd.prog 37 2 = some 35 := by kernel_rfl
@[go_sem] theorem ty_fo_37_3 : fieldOff Tryd.prog 37 3 = some 3 := by kernel_rfl
@[go_sem] theorem ty_ft_37_3 : fieldTy Tryd.prog 37 3 = some 28 := by kernel_rfl
@[go_sem] theorem ty_ag_38 : isAgg Tryd.prog 38 = some false := by kernel_rfl
@[go_sem] theorem ty_sz_38 : szOf Tryd.prog 38 = some 1 := by kernel_rfl
@[go_sem] theorem ty_bo_38 : bytesOk Tryd.prog 38 = true := by kernel_rfl
@[go_sem] theorem ty_zd_38 : zeroD Tryd.prog 38 = some (.nil) := by kernel_rfl
@[go_sem] theorem ty_zo_38 : zeroOk Tryd.prog 38 1 = true := by kernel_rfl
@[go_sem] theorem ty_se_38 : sliceElem Tryd.prog 38 = some 28 := by kernel_rfl
@[go_sem] theorem ty_ag_39 : isAgg Tryd.prog 39 = some false := by kernel_rfl
@[go_sem] theorem ty_sz_39 : szOf Tryd.prog 39 = some 1 := by kernel_rfl
@[go_sem] theorem ty_bo_39 : bytesOk Tryd.prog 39 = true := by kernel_rfl
@[go_sem] theorem ty_zd_39 : zeroD Tryd.prog 39 = some (.nil) := by kernel_rfl
@[go_sem] theorem ty_zo_39 : zeroOk Tryd.prog 39 1 = true := by kernel_rfl
@[go_sem] theorem ty_se_39 : sliceElem Tryd.prog 39 = some 222 := by kernel_rfl
@[go_sem] theorem ty_ag_40 : isAgg Tryd.prog 40 = some false := by kernel_rfl
@[go_sem] theorem ty_sz_40 : szOf Tryd.prog 40 = some 1 := by kernel_rfl
@[go_sem] theorem ty_bo_40 : bytesOk Tryd.prog 40 = true := by kernel_rfl
@[go_sem] theorem ty_zd_40 : zeroD Tryd.prog 40 = some (.nil) := by kernel_rfl
@[go_sem] theorem ty_zo_40 : zeroOk Tryd.prog 40 1 = true := by kernel_rfl
@[go_sem] theorem ty_se_40 : sliceElem Tryd.prog 40 = some 224 := by kernel_rfl
@[go_sem] theorem ty_ag_41 : isAgg Tryd.prog 41 = some false := by kernel_rfl
@[go_sem] theorem ty_sz_41 : szOf Tryd.prog 41 = some 1 := by kernel_rfl
@[go_sem] theorem ty_bo_41 : bytesOk Tryd.prog 41 = true := by kernel_rfl
@[go_sem] theorem ty_zd_41 : zeroD Tryd.prog 41 = some (.nil) := by kernel_rfl
@[go_sem] theorem ty_zo_41 : zeroOk Tryd.prog 41 1 = true := by kernel_rfl
@[go_sem] theorem ty_se_41 : sliceElem Tryd.prog 41 = some 98 := by kernel_rfl
@[go_sem] theorem ty_ag_42 : isAgg Tryd.prog 42 = some false := by kernel_rfl
@[go_sem] theorem ty_sz_42 : szOf Tryd.prog 42 = some 1 := by kernel_rfl
@[go_sem] theorem ty_bo_42 : bytesOk Tryd.prog 42 = true := by kernel_rfl
@[go_sem] theorem ty_zd_42 : zeroD Tryd.prog 42 = some (.nil) := by kernel_rfl
@[go_sem] theorem ty_zo_42 : zeroOk Tryd.prog 42 1 = true := by kernel_rfl
@[go_sem] theorem ty_se_42 : sliceElem Tryd.prog 42 = some 226 := by kernel_rfl
@[go_sem] theorem ty_ag_44 : isAgg Tryd.prog 44 = some true := by kernel_rfl
@[go_sem] theorem ty_sz_44 : szOf Tryd.prog 44 = some 22 := by kernel_rfl
@[go_sem] theorem ty_bo_44 : bytesOk Tryd.prog 44 = true := by kernel_rfl
@[go_sem] theorem ty_zd_44 : zeroD Tryd.prog 44 = some (.agg [.int .i64 0, .str [], .nil, .nil, .nil, .nil, .nil, .nil, .nil, .nil, .int .i64 0, .str [], .str [], .int .i64 0, .int .i64 0, .int .i64 0, .str [], .nil, .nil, .nil, .int .i64 0, .str []]) := by kernel_rfl
@[go_sem] theorem ty_zo_44 : zeroOk Tryd.prog 44 22 = true := by kernel_rfl
@[go_sem] theorem ty_is_44 : isStruct Tryd.prog 44 = true := by kernel_rfl
@[go_sem] theorem ty_fo_44_0 : fieldOff Tryd.prog 44 0 = some 0 := by kernel_rfl
@[go_sem] theorem ty_ft_44_0 : fieldTy Tryd.prog 44 0 = some 3 := by kernel_rfl
@[go_sem] theorem ty_fo_44_1 : fieldOff Tryd.prog 44 1 = some 1 := by kernel_rfl
@[go_sem] theorem ty_ft_44_1 : fieldTy Tryd.prog 44 1 = some 9 := by kernel_rfl
@[go_sem] theorem ty_fo_44_2 : fieldOff Tryd.prog 44 2 = some 2 := by kernel_rfl
@[go_sem] theorem ty_ft_44_2 : fieldTy Tryd.prog 44 2 = some 37 := by kernel_rfl
@[go_sem] theorem ty_fo_44_3 : fieldOff Tryd.prog 44 3 = some 6 := by kernel_rfl
@[go_sem] theorem ty_ft_44_3 : fieldTy Tryd.prog 44 3 = some 38 := by kernel_rfl
@[go_sem] theorem ty_fo_44_4 : fieldOff Tryd.prog 44 4 = some 7 := by kernel_rfl
@[go_sem] theorem ty_ft_44_4 : fieldTy Tryd.prog 44 4 = some 39 := by kernel_rfl
@[go_sem] theorem ty_fo_44_5 : fieldOff Tryd.prog 44 5 = some 8 := by kernel_rfl
@[go_sem] theorem ty_ft_44_5 : fieldTy Tryd.prog 44 5 = some 40 := by kernel_rfl
@[go_sem] theorem ty_fo_44_6 : fieldOff Tryd.prog 44 6 = some 9 := by kernel_rfl
@[go_sem] theorem ty_ft_44_6 : fieldTy Tryd.prog 44 6 = some 41 := by kernel_rfl
@[go_sem] theorem ty_fo_44_7 : fieldOff Tryd.prog 44 7 = some 10 := by kernel_rfl
@[go_sem] theorem ty_ft_44_7 : fieldTy Tryd.prog 44 7 = some 30 := by kernel_rfl
@[go_sem] theorem ty_fo_44_8 : fieldOff Tryd.prog 44 8 = some 18 := by kernel_rfl
@[go_sem] theorem ty_ft_44_8 : fieldTy Tryd.prog 44 8 = some 28 := by kernel_rfl
@[go_sem] theorem ty_fo_44_9 : fieldOff Tryd.prog 44 9 = some 19 := by kernel_rfl
@[go_sem] theorem ty_ft_44_9 : fieldTy Tryd.prog 44 9 = some 42 := by kernel_rfl
@[go_sem] theorem ty_fo_44_10 : fieldOff Tryd.prog 44 10 = some 20 := by kernel_rfl
@[go_sem] theorem ty_ft_44_10 : fieldTy Tryd.prog 44 10 = some 3 := by kernel_rfl
@[go_sem] theorem ty_fo_44_11 : fieldOff Tryd.prog 44 11 = some 21 := by kernel_rfl
@[go_sem] theorem ty_ft_44_11 : fieldTy Tryd.prog 44 11 = some 9 := by kernel_rfl
@[go_sem] theorem ty_ag_60 : isAgg Tryd.prog 60 = some false := by kernel_rfl
@[go_sem] theorem ty_sz_60 : szOf Tryd.prog 60 = some 1 := by kernel_rfl
@[go_sem] theorem ty_bo_60 : bytesOk Tryd.prog 60 = true := by kernel_rfl
@[go_sem] theorem ty_zd_60 : zeroD Tryd.prog 60 = some (.nil) := by kernel_rfl
@[go_sem] theorem ty_zo_60 : zeroOk Tryd.prog 60 1 = true := by kernel_rfl
@[go_sem] theorem ty_se_60 : sliceElem Tryd.prog 60 = some 44 := by kernel_rfl
@[go_sem] theorem ty_ag_62 : isAgg Tryd.prog 62 = some false := by kernel_rfl
@[go_sem] theorem ty_sz_62 : szOf Tryd.prog 62 = some 1 := by kernel_rfl
@[go_sem] theorem ty_bo_62 : bytesOk Tryd.prog 62 = true := by kernel_rfl
@[go_sem] theorem ty_zd_62 : zeroD Tryd.prog 62 = some (.int .i64 0) := by kernel_rfl
@[go_sem] theorem ty_zo_62 : zeroOk Tryd.prog 62 1 = true := by kernel_rfl
@[go_sem] theorem ty_it_62 : intTy Tryd.prog 62 = some .i64 := by kernel_rfl
@[go_sem] theorem ty_ag_69 : isAgg Tryd.prog 69 = some false := by kernel_rfl
@[go_sem] theorem ty_sz_69 : szOf Tryd.prog 69 = some 1 := by kernel_rfl
@[go_sem] theorem ty_bo_69 : bytesOk Tryd.prog 69 = true := by kernel_rfl
@[go_sem] theorem ty_zd_69 : zeroD Tryd.prog 69 = some (.nil) := by kernel_rfl
@[go_sem] theorem ty_zo_69 : zeroOk Tryd.prog 69 1 = true := by kernel_rfl
@[go_sem] theorem ty_se_69 : sliceElem Tryd.prog 69 = some 24 := by kernel_rfl
@[go_sem] theorem ty_ag_70 : isAgg Tryd.prog 70 = some false := by kernel_rfl
@[go_sem] theorem ty_sz_70 : szOf Tryd.prog 70 = some 1 := by kernel_rfl
@[go_sem] theorem ty_bo_70 : bytesOk Tryd.prog 70 = true := by kernel_rfl
@[go_sem] theorem ty_zd_70 : zeroD Tryd.prog 70 = some (.nil) := by kernel_rfl
@[go_sem] theorem ty_zo_70 : zeroOk Tryd.prog 70 1 = true := by kernel_rfl
@[go_sem] theorem ty_se_70 : sliceElem Tryd.prog 70 = some 114 := by kernel_rfl
@[go_sem] theorem ty_ag_72 : isAgg Tryd.prog 72 = some true := by kernel_rfl
@[go_sem] theorem ty_sz_72 : szOf Tryd.prog 72 = some 5 := by kernel_rfl
@[go_sem] theorem ty_bo_72 : bytesOk Tryd.prog 72 = true := by kernel_rfl
@[go_sem] theorem ty_zd_72 : zeroD Tryd.prog 72 = some (.agg [.str [], .nil, .nil, .nil, .nil]) := by kernel_rfl
@[go_sem] theorem ty_zo_72 : zeroOk Tryd.prog 72 5 = true := by kernel_rfl
@[go_sem] theorem ty_is_72 : isStruct Tryd.prog 72 = true := by kernel_rfl
@[go_sem] theorem ty_fo_72_0 : fieldOff Tryd.prog 72 0 = some 0 := by kernel_rfl
@[go_sem] theorem ty_ft_72_0 : fieldTy Tryd.prog 72 0 = some 9 := by kernel_rfl
@[go_sem] theorem ty_fo_72_1 : fieldOff Tryd.prog 72 1 = some 1 := by kernel_rfl
@[go_sem] theorem ty_ft_72_1 : fieldTy Tryd.prog 72 1 = some 33 := by kernel_rfl
@[go_sem] theorem ty_fo_72_2 : fieldOff Tryd.prog 72 2 = some 2 := by kernel_rfl
@[go_sem] theorem ty_ft_72_2 : fieldTy Tryd.prog 72 2 = some 69 := by kernel_rfl
@[go_sem] theorem ty_fo_72_3 : fieldOff Tryd.prog 72 3 = some 3 := by kernel_rfl
@[go_sem] theorem ty_ft_72_3 : fieldTy Tryd.prog 72 3 = some 70 := by kernel_rfl
@[go_sem] theorem ty_fo_72_4 : fieldOff Tryd.prog 72 4 = some 4 := by kernel_rfl
@[go_sem] theorem ty_ft_72_4 : fieldTy Tryd.prog 72 4 = some 28 := by kernel_rfl
@[go_sem] theorem ty_ag_75 : isAgg Tryd.prog 75 = some false := by kernel_rfl
@[go_sem] theorem ty_sz_75 : szOf Tryd.prog 75 = some 1 := by kernel_rfl
@[go_sem] theorem ty_bo_75 : bytesOk Tryd.prog 75 = true := by kernel_rfl
@[go_sem] theorem ty_zd_75 : zeroD Tryd.prog 75 = some (.nil) := by kernel_rfl
@[go_sem] theorem ty_zo_75 : zeroOk Tryd.prog 75 1 = true := by kernel_rfl
@[go_sem] theorem ty_se_75 : sliceElem Tryd.prog 75 = some 77 := by kernel_rfl
@[go_sem] theorem ty_ag_77 : isAgg Tryd.prog 77 = some true := by kernel_rfl
@[go_sem] theorem ty_sz_77 : szOf Tryd.prog 77 = some 2 := by kernel_rfl
@[go_sem] theorem ty_bo_77 : bytesOk Tryd.prog 77 = true := by kernel_rfl
@[go_sem] theorem ty_zd_77 : zeroD Tryd.prog 77 = some (.agg [.int .i64 0, .int .i64 0]) := by kernel_rfl
@[go_sem] theorem ty_zo_77 : zeroOk Tryd.prog 77 2 = true := by kernel_rfl
@[go_sem] theorem ty_ae_77 : arrElem Tryd.prog 77 = some (2, 3) := by kernel_rfl
@[go_sem] theorem ty_ag_80 : isAgg Tryd.prog 80 = some true := by kernel_rfl
@[go_sem] theorem ty_sz_80 : szOf Tryd.prog 80 = some 6 := by kernel_rfl
@[go_sem] theorem ty_bo_80 : bytesOk Tryd.prog 80 = true := by kernel_rfl
@[go_sem] theorem ty_zd_80 : zeroD Tryd.prog 80 = some (.agg [.str [], .int .i64 0, .int .i64 0, .int .i64 0, .int .i64 0, .bool false]) := by kernel_rfl
@[go_sem] theorem ty_zo_80 : zeroOk Tryd.prog 80 6 = true := by kernel_rfl
@[go_sem] theorem ty_is_80 : isStruct Tryd.prog 80 = true := by kernel_rfl
@[go_sem] theorem ty_fo_80_0 : fieldOff Tryd.prog 80 0 = some 0 := by kernel_rfl
@[go_sem] theorem ty_ft_80_0 : fieldTy Tryd.prog 80 0 = some 9 := by kernel_rfl
@[go_sem] theorem ty_fo_80_1 : fieldOff Tryd.prog 80 1 = some 1 := by kernel_rfl
@[go_sem] theorem ty_ft_80_1 : fieldTy Tryd.prog 80 1 = some 3 := by kernel_rfl
@[go_sem] theorem ty_fo_80_2 : fieldOff Tryd.prog 80 2 = some 2 := by kernel_rfl
@[go_sem] theorem ty_ft_80_2 : fieldTy Tryd.prog 80 2 = some 2 := by kernel_rfl
@[go_sem] theorem ty_fo_80_3 : fieldOff Tryd.prog 80 3 = some 3 := by kernel_rfl
@[go_sem] theorem ty_ft_80_3 : fieldTy Tryd.prog 80 3 = some 2 := by kernel_rfl
@[go_sem] theorem ty_fo_80_4 : fieldOff Tryd.prog 80 4 = some 4 := by kernel_rfl
@[go_sem] theorem ty_ft_80_4 : fieldTy Tryd.prog 80 4 = some 3 := by kernel_rfl
@[go_sem] theorem ty_fo_80_5 : fieldOff Tryd.prog 80 5 = some 5 := by kernel_rfl
@[go_sem] theorem ty_ft_80_5 : fieldTy Tryd.prog 80 5 = some 4 := by kernel_rfl
@[go_sem] theorem ty_et_80 : eqTags Tryd.prog 80 = some [2, 0, 0, 0, 0, 1] := by kernel_rfl
@[go_sem] theorem ty_ag_91 : isAgg Tryd.prog 91 = some false := by kernel_rfl
@[go_sem] theorem ty_sz_91 : szOf Tryd.prog 91 = some 1 := by kernel_rfl
@[go_sem] theorem ty_bo_91 : bytesOk Tryd.prog 91 = true := by kernel_rfl
@[go_sem] theorem ty_zd_91 : zeroD Tryd.prog 91 = some (.nilfunc) := by kernel_rfl
@[go_sem] theorem ty_zo_91 : zeroOk Tryd.prog 91 1 = true := by kernel_rfl
@[go_sem] theorem ty_ag_98 : isAgg Tryd.prog 98 = some true := by kernel_rfl
@[go_sem] theorem ty_sz_98 : szOf Tryd.prog 98 = some 2 := by kernel_rfl
@[go_sem] theorem ty_bo_98 : bytesOk Tryd.prog 98 = true := by kernel_rfl
@[go_sem] theorem ty_zd_98 : zeroD Tryd.prog 98 = some (.agg [.str [], .str []]) := by kernel_rfl
@[go_sem] theorem ty_zo_98 : zeroOk Tryd.prog 98 2 = true := by kernel_rfl
@[go_sem] theorem ty_is_98 : isStruct Tryd.prog 98 = true := by kernel_rfl
@[go_sem] theorem ty_fo_98_0 : fieldOff Tryd.prog 98 0 = some 0 := by kernel_rfl
@[go_sem] theorem ty_ft_98_0 : fieldTy Tryd.prog 98 0 = some 9 := by kernel_rfl
@[go_sem] theorem ty_fo_98_1 : fieldOff Tryd.prog 98 1 = some 1 := by kernel_rfl
@[go_sem] theorem ty_ft_98_1 : fieldTy Tryd.prog 98 1 = some 9 := by kernel_rfl
@[go_sem] theorem ty_et_98 : eqTags Tryd.prog 98 = some [2, 2] := by kernel_rfl
@[go_sem] theorem ty_ag_114 : isAgg Tryd.prog 114 = some true := by kernel_rfl
@[go_sem] theorem ty_sz_114 : szOf Tryd.prog 114 = some 3 := by kernel_rfl
@[go_sem] theorem ty_bo_114 : bytesOk Tryd.prog 114 = true := by kernel_rfl
@[go_sem] theorem ty_zd_114 : zeroD Tryd.prog 114 = some (.agg [.nil, .int .i64 0, .int .i64 0]) := by kernel_rfl
@[go_sem] theorem ty_zo_114 : zeroOk Tryd.prog 114 3 = true := by kernel_rfl
@[go_sem] theorem ty_is_114 : isStruct Tryd.prog 114 = true := by kernel_rfl
@[go_sem] theorem ty_fo_114_0 : fieldOff Tryd.prog 114 0 = some 0 := by kernel_rfl
@[go_sem] theorem ty_ft_114_0 : fieldTy Tryd.prog 114 0 = some 24 := by kernel_rfl
@[go_sem] theorem ty_fo_114_1 : fieldOff Tryd.prog 114 1 = some 1 := by kernel_rfl
@[go_sem] theorem ty_ft_114_1 : fieldTy Tryd.prog 114 1 = some 3 := by kernel_rfl
@[go_sem] theorem ty_fo_114_2 : fieldOff Tryd.prog 114 2 = some 2 := by kernel_rfl
@[go_sem] theorem ty_ft_114_2 : fieldTy Tryd.prog 114 2 = some 3 := by kernel_rfl
@[go_sem] theorem ty_ag_117 : isAgg Tryd.prog 117 = some true := by kernel_rfl
@[go_sem] theorem ty_sz_117 : szOf Tryd.prog 117 = some 3 := by kernel_rfl
@[go_sem] theorem ty_bo_117 : bytesOk Tryd.prog 117 = true := by kernel_rfl
@[go_sem] theorem ty_zd_117 : zeroD Tryd.prog 117 = some (.agg [.nil, .str [], .nil]) := by kernel_rfl
@[go_sem] theorem ty_zo_117 : zeroOk Tryd.prog 117 3 = true := by kernel_rfl
@[go_sem] theorem ty_is_117 : isStruct Tryd.prog 117 = true := by kernel_rfl
@[go_sem] theorem ty_fo_117_0 : fieldOff Tryd.prog 117 0 = some 0 := by kernel_rfl
@[go_sem] theorem ty_ft_117_0 : fieldTy Tryd.prog 117 0 = some 25 := by kernel_rfl
@[go_sem] theorem ty_fo_117_1 : fieldOff Tryd.prog 117 1 = some 1 := by kernel_rfl
@[go_sem] theorem ty_ft_117_1 : fieldTy Tryd.prog 117 1 = some 9 := by kernel_rfl
@[go_sem] theorem ty_fo_117_2 : fieldOff Tryd.prog 117 2 = some 2 := by kernel_rfl
@[go_sem] theorem ty_ft_117_2 : fieldTy Tryd.prog 117 2 = some 25 := by kernel_rfl
@[go_sem] theorem ty_ag_118 : isAgg Tryd.prog 118 = some false := by kernel_rfl
@[go_sem] theorem ty_sz_118 : szOf Tryd.prog 118 = some 1 := by kernel_rfl
@[go_sem] theorem ty_bo_118 : bytesOk Tryd.prog 118 = true := by kernel_rfl
@[go_sem] theorem ty_zd_118 : zeroD Tryd.prog 118 = some (.nilptr) := by kernel_rfl
@[go_sem] theorem ty_zo_118 : zeroOk Tryd.prog 118 1 = true := by kernel_rfl
@[go_sem] theorem ty_ag_120 : isAgg Tryd.prog 120 = some true := by kernel_rfl
@[go_sem] theorem ty_sz_120 : szOf Tryd.prog 120 = some 1 := by kernel_rfl
@[go_sem] theorem ty_bo_120 : bytesOk Tryd.prog 120 = true := by kernel_rfl
@[go_sem] theorem ty_zd_120 : zeroD Tryd.prog 120 = some (.agg [.nil]) := by kernel_rfl
@[go_sem] theorem ty_zo_120 : zeroOk Tryd.prog 120 1 = true := by kernel_rfl
@[go_sem] theorem ty_is_120 : isStruct Tryd.prog 120 = true := by kernel_rfl
@[go_sem] theorem ty_fo_120_0 : fieldOff Tryd.prog 120 0 = some 0 := by kernel_rfl
@[go_sem] theorem ty_ft_120_0 : fieldTy Tryd.prog 120 0 = some 23 := by kernel_rfl
@[go_sem] theorem ty_ag_131 : isAgg Tryd.prog 131 = some false := by kernel_rfl
@[go_sem] theorem ty_sz_131 : szOf Tryd.prog 131 = some 1 := by kernel_rfl
@[go_sem] theorem ty_bo_131 : bytesOk Tryd.prog 131 = true := by kernel_rfl
@[go_sem] theorem ty_zd_131 : zeroD Tryd.prog 131 = some (.nilfunc) := by kernel_rfl
@[go_sem] theorem ty_zo_131 : zeroOk Tryd.prog 131 1 = true := by kernel_rfl
@[go_sem] theorem ty_ag_163 : isAgg Tryd.prog 163 = some false := by kernel_rfl
@[go_sem] theorem ty_sz_163 : szOf Tryd.prog 163 = some 1 := by kernel_rfl
@[go_sem] theorem ty_bo_163 : bytesOk Tryd.prog 163 = true := by kernel_rfl
@[go_sem] theorem ty_zd_163 : zeroD Tryd.prog 163 = some (.nilfunc) := by kernel_rfl
@[go_sem] theorem ty_zo_163 : zeroOk Tryd.prog 163 1 = true := by kernel_rfl
@[go_sem] theorem ty_ag_165 : isAgg Tryd.prog 165 = some false := by kernel_rfl
@[go_sem] theorem ty_sz_165 : szOf Tryd.prog 165 = some 1 := by kernel_rfl
@[go_sem] theorem ty_bo_165 : bytesOk Tryd.prog 165 = true := by kernel_rfl
@[go_sem] theorem ty_zd_165 : zeroD Tryd.prog 165 = some (.nilfunc) := by kernel_rfl
@[go_sem] theorem ty_zo_165 : zeroOk Tryd.prog 165 1 = true := by kernel_rfl
@[go_sem] theorem ty_ag_169 : isAgg Tryd.prog 169 = some false := by kernel_rfl
@[go_sem] theorem ty_sz_169 : szOf Tryd.prog 169 = some 1 := by kernel_rfl
@[go_sem] theorem ty_bo_169 : bytesOk Tryd.prog 169 = true := by kernel_rfl
@[go_sem] theorem ty_zd_169 : zeroD Tryd.prog 169 = some (.nilfunc) := by kernel_rfl
@[go_sem] theorem ty_zo_169 : zeroOk Tryd.prog 169 1 = true := by kernel_rfl
@[go_sem] theorem ty_ag_185 : isAgg Tryd.prog 185 = some false := by kernel_rfl
@[go_sem] theorem ty_sz_185 : szOf Tryd.prog 185 = some 1 := by kernel_rfl
@[go_sem] theorem ty_bo_185 : bytesOk Tryd.prog 185 = true := by kernel_rfl
@[go_sem] theorem ty_zd_185 : zeroD Tryd.prog 185 = some (.nilfunc) := by kernel_rfl
@[go_sem] theorem ty_zo_185 : zeroOk Tryd.prog 185 1 = true := by kernel_rfl
@[go_sem] theorem ty_ag_191 : isAgg Tryd.prog 191 = some false := by kernel_rfl
@[go_sem] theorem ty_sz_191 : szOf Tryd.prog 191 = some 1 := by kernel_rfl
@[go_sem] theorem ty_bo_191 : bytesOk Tryd.prog 191 = true := by kernel_rfl
@[go_sem] theorem ty_zd_191 : zeroD Tryd.prog 191 = some (.nilfunc) := by kernel_rfl
@[go_sem] theorem ty_zo_191 : zeroOk Tryd.prog 191 1 = true := by kernel_rfl
@[go_sem] theorem ty_ag_200 : isAgg Tryd.prog 200 = some false := by kernel_rfl
@[go_sem] theorem ty_sz_200 : szOf Tryd.prog 200 = some 1 := by kernel_rfl
@[go_sem] theorem ty_bo_200 : bytesOk Tryd.prog 200 = true := by kernel_rfl
@[go_sem] theorem ty_zd_200 : zeroD Tryd.prog 200 = some (.nil) := by kernel_rfl
@[go_sem] theorem ty_zo_200 : zeroOk Tryd.prog 200 1 = true := by kernel_rfl
@[go_sem] theorem ty_se_200 : sliceElem Tryd.prog 200 = some 5 := by kernel_rfl
@[go_sem] theorem ty_ag_204 : isAgg Tryd.prog 204 = some false := by kernel_rfl
@[go_sem] theorem ty_sz_204 : szOf Tryd.prog 204 = some 1 := by kernel_rfl
@[go_sem] theorem ty_bo_204 : bytesOk Tryd.prog 204 = true := by kernel_rfl
@[go_sem] theorem ty_zd_204 : zeroD Tryd.prog 204 = some (.int .u64 0) := by kernel_rfl
@[go_sem] theorem ty_zo_204 : zeroOk Tryd.prog 204 1 = true := by kernel_rfl
@[go_sem] theorem ty_it_204 : intTy Tryd.prog 204 = some .u64 := by kernel_rfl
@[go_sem] theorem ty_ag_222 : isAgg Tryd.prog 222 = some true := by kernel_rfl
@[go_sem] theorem ty_sz_222 : szOf Tryd.prog 222 = some 10 := by kernel_rfl
@[go_sem] theorem ty_bo_222 : bytesOk Tryd.prog 222 = true := by kernel_rfl
@[go_sem] theorem ty_zd_222 : zeroD Tryd.prog 222 = some (.agg [.str [], .int .i64 0, .int .i64 0, .str [], .str [], .int .i64 0, .int .i64 0, .int .i64 0, .str [], .nil]) := by kernel_rfl
@[go_sem] theorem ty_zo_222 : zeroOk Tryd.prog 222 10 = true := by kernel_rfl
@[go_sem] theorem ty_is_222 : isStruct Tryd.prog 222 = true := by kernel_rfl
@[go_sem] theorem ty_fo_222_0 : fieldOff Tryd.prog 222 0 = some 0 := by kernel_rfl
@[go_sem] theorem ty_ft_222_0 : fieldTy Tryd.prog 222 0 = some 9 := by kernel_rfl
@[go_sem] theorem ty_fo_222_1 : fieldOff Tryd.prog 222 1 = some 1 := by kernel_rfl
@[go_sem] theorem ty_ft_222_1 : fieldTy Tryd.prog 222 1 = some 3 := by kernel_rfl
@[go_sem] theorem ty_fo_222_2 : fieldOff Tryd.prog 222 2 = some 2 := by kernel_rfl
@[go_sem] theorem ty_ft_222_2 : fieldTy Tryd.prog 222 2 = some 30 := by kernel_rfl
@[go_sem] theorem ty_ag_224 : isAgg Tryd.prog 224 = some true := by kernel_rfl
@[go_sem] theorem ty_sz_224 : szOf Tryd.prog 224 = some 9 := by kernel_rfl
@[go_sem] theorem ty_bo_224 : bytesOk Tryd.prog 224 = true := by kernel_rfl
@[go_sem] theorem ty_zd_224 : zeroD Tryd.prog 224 = some (.agg [.int .i64 0, .int .i64 0, .str [], .str [], .int .i64 0, .int .i64 0, .int .i64 0, .str [], .nil]) := by kernel_rfl
@[go_sem] theorem ty_zo_224 : zeroOk Tryd.prog 224 9 = true := by kernel_rfl
@[go_sem] theorem ty_is_224 : isStruct Tryd.prog 224 = true := by kernel_rfl
@[go_sem] theorem ty_fo_224_0 : fieldOff Tryd.prog 224 0 = some 0 := by kernel_rfl
@[go_sem] theorem ty_ft_224_0 : fieldTy Tryd.prog 224 0 = some 3 := by kernel_rfl
@[go_sem] theorem ty_fo_224_1 : fieldOff Tryd.prog 224 1 = some 1 := by kernel_rfl
@[go_sem] theorem ty_ft_224_1 : fieldTy Tryd.prog 224 1 = some 30 := by kernel_rfl
@[go_sem] theorem ty_ag_226 : isAgg Tryd.prog 226 = some true := by kernel_rfl
@[go_sem] theorem ty_sz_226 : szOf Tryd.prog 226 = some 2 := by kernel_rfl
@[go_sem] theorem ty_bo_226 : bytesOk Tryd.prog 226 = true := by kernel_rfl
@[go_sem] theorem ty_zd_226 : zeroD Tryd.prog 226 = some (.agg [.int .i64 0, .bool false]) := by kernel_rfl
@[go_sem] theorem ty_zo_226 : zeroOk Tryd.prog 226 2 = true := by kernel_rfl
@[go_sem] theorem ty_is_226 : isStruct Tryd.prog 226 = true := by kernel_rfl
@[go_sem] theorem ty_fo_226_0 : fieldOff Tryd.prog 226 0 = some 0 := by kernel_rfl
@[go_sem] theorem ty_ft_226_0 : fieldTy Tryd.prog 226 0 = some 3 := by kernel_rfl
@[go_sem] theorem ty_fo_226_1 : fieldOff Tryd.prog 226 1 = some 1 := by kernel_rfl
@[go_sem] theorem ty_ft_226_1 : fieldTy Tryd.prog 226 1 = some 4 := by kernel_rfl
@[go_sem] theorem ty_et_226 : eqTags Tryd.prog 226 = some [0, 1] := by kernel_rfl
@[go_sem] theorem ty_ss_23 : sliceSz Tryd.prog 23 = some 5 := by kernel_rfl
@[go_sem] theorem ty_ss_24 : sliceSz Tryd.prog 24 = some 1 := by kernel_rfl
@[go_sem] theorem ty_ss_25 : sliceSz Tryd.prog 25 = some 1 := by kernel_rfl
@[go_sem] theorem ty_ss_28 : sliceSz Tryd.prog 28 = some 8 := by kernel_rfl
@[go_sem] theorem ty_ss_33 : sliceSz Tryd.prog 33 = some 6 := by kernel_rfl
@[go_sem] theorem ty_ss_34 : sliceSz Tryd.prog 34 = some 1 := by kernel_rfl
@[go_sem] theorem ty_ss_35 : sliceSz Tryd.prog 35 = some 3 := by kernel_rfl
@[go_sem] theorem ty_ss_38 : sliceSz Tryd.prog 38 = some 1 := by kernel_rfl
@[go_sem] theorem ty_ss_39 : sliceSz Tryd.prog 39 = some 10 := by kernel_rfl
@[go_sem] theorem ty_ss_40 : sliceSz Tryd.prog 40 = some 9 := by kernel_rfl
@[go_sem] theorem ty_ss_41 : sliceSz Tryd.prog 41 = some 2 := by kernel_rfl
@[go_sem] theorem ty_ss_42 : sliceSz Tryd.prog 42 = some 2 := by kernel_rfl
@[go_sem] theorem ty_ss_60 : sliceSz Tryd.prog 60 = some 22 := by kernel_rfl
@[go_sem] theorem ty_ss_69 : sliceSz Tryd.prog 69 = some 1 := by kernel_rfl
@[go_sem] theorem ty_ss_70 : sliceSz Tryd.prog 70 = some 3 := by kernel_rfl
@[go_sem] theorem ty_ss_75 : sliceSz Tryd.prog 75 = some 2 := by kernel_rfl
@[go_sem] theorem ty_ss_200 : sliceSz Tryd.prog 200 = some 1 := by kernel_rfl
end Go.Eng
