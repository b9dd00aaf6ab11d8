/-
  The heaps before and behind some calls of this run.
-/
import Derived.Test.YtmiodddnokpdfaaGreatDoorFacts
import Derived.Test.YtmiodddnokpdfaaGreatDoorSSeq
namespace Go.Proofs.YtmiodddnokpdfaaGreatDoor
open Go.Av
set_option maxRecDepth 1000000
def Y (n : Nat) : AV := .i .u8 (Int.ofNat n)
def P (k o : Nat) : AV := .p (some (k, o))
def O (k o n : Nat) : AV := .own k o n none
def C (n : Nat) (cs : List AV) : AO := .cells n cs
noncomputable section
def hT0 : AH := AH.edit emptyH 124 [] [(4, C 1 [.nsl]),
  (5, C 11 [I 2, .imm [W 3] 1, I 2, I 3, I 2, I 8, I 64, I 1, P 4 0, O 66 0 2, O 67 0 2]),
  (10, C 3 [.f .f64 0, N 0, W 0]),
  (11, C 11 [I 2, .imm [W 3] 1, I 2, I 3, I 2, I 8, I 64, I 1, I 0, O 10 0 1, W 0]),
  (12, C 1 [W 3]),
  (13, C 1 [.nsl, .nsl]),
  (14, C 17 [I 2, O 12 0 1, I 2, I 3, I 2, I 8, I 64, I 1, I 0, P 4 0, O 30 0 2, .ifc 161 (P 23 0), P 11 0, W 0, O 13 0 2, N 0, .nsl]),
  (17, C 1 [W 0, W 0]),
  (19, C 1 [W 0, W 0]),
  (20, C 1 [O 17 0 2, O 19 0 2]),
  (22, C 1 [W 0, W 0]),
  (23, C 5 [I 2, I 0, I 2, O 20 0 2, O 22 0 2]),
  (25, C 5 [I 2, I 8, I 2, I 0, I 0]),
  (26, C 6 [I 2, I 3, P 25 0, .nsl, .nsl, W 0]),
  (27, .map (.es [] [] 0)),
  (28, C 3 [W 2, W 1, .m (some 27)]),
  (29, C 2 [P 26 0, P 28 0]),
  (30, C 1 [.p none, P 29 0]),
  (31, C 5 [.nsl, I 0, I 0, I 0, I 0]),
  (33, C 5 [.nsl, I 0, I 0, I 0, I 0]),
  (34, C 1 [P 31 0, P 33 0]),
  (41, C 3 [.f .f64 0, N 0, W 0]),
  (42, C 11 [I 2, .imm [W 3] 1, I 2, I 3, I 2, I 8, I 64, I 1, I 1, O 41 0 1, W 0]),
  (43, C 1 [W 3]),
  (44, C 1 [.nsl, .nsl]),
  (45, C 17 [I 2, O 43 0 1, I 2, I 3, I 2, I 8, I 64, I 1, I 1, P 4 0, O 61 0 2, .ifc 161 (P 54 0), P 42 0, W 0, O 44 0 2, N 0, .nsl]),
  (48, C 1 [W 0, W 0]),
  (50, C 1 [W 0, W 0]),
  (51, C 1 [O 48 0 2, O 50 0 2]),
  (53, C 1 [W 0, W 0]),
  (54, C 5 [I 2, I 1, I 2, O 51 0 2, O 53 0 2]),
  (55, C 5 [I 2, I 8, I 2, I 0, I 0]),
  (56, C 6 [I 2, I 3, P 55 0, .nsl, .nsl, W 0]),
  (57, .map (.es [] [] 0)),
  (58, C 3 [W 2, W 1, .m (some 57)]),
  (59, C 2 [P 56 0, P 58 0]),
  (61, C 1 [P 59 0, .p none]),
  (62, C 5 [.nsl, I 0, I 0, I 0, I 0]),
  (64, C 5 [.nsl, I 0, I 0, I 0, I 0]),
  (65, C 1 [P 62 0, P 64 0]),
  (66, C 1 [P 14 0, P 45 0]),
  (67, C 1 [O 34 0 2, O 65 0 2]),
  (71, C 1 [.nsl]),
  (72, C 11 [I 2, .imm [W 3] 1, I 2, I 3, I 2, I 8, I 64, I 2, P 71 0, O 119 0 2, O 120 0 2]),
  (77, C 3 [.f .f64 0, N 0, W 0]),
  (78, C 11 [I 2, .imm [W 3] 1, I 2, I 3, I 2, I 8, I 64, I 2, I 0, O 77 0 1, W 0]),
  (79, C 1 [W 3]),
  (80, C 1 [.nsl, .nsl]),
  (81, C 17 [I 2, O 79 0 1, I 2, I 3, I 2, I 8, I 64, I 2, I 0, P 71 0, O 90 0 2, .ifc 164 (P 83 0), P 78 0, W 0, O 80 0 2, N 0, .nsl]),
  (82, C 1 [W 0, W 0]),
  (83, C 5 [I 2, I 0, .nsl, W 0, O 82 0 2]),
  (85, C 5 [I 2, I 8, I 2, I 0, I 0]),
  (86, C 6 [I 2, I 3, P 85 0, .nsl, .nsl, W 0]),
  (87, .map (.es [] [] 0)),
  (88, C 3 [W 2, W 1, .m (some 87)]),
  (89, C 2 [P 86 0, P 88 0]),
  (90, C 1 [.p none, P 89 0]),
  (91, C 5 [.nsl, I 0, I 0, I 0, I 0]),
  (93, C 5 [.nsl, I 0, I 0, I 0, I 0]),
  (94, C 1 [P 91 0, P 93 0]),
  (101, C 3 [.f .f64 0, N 0, W 0]),
  (102, C 11 [I 2, .imm [W 3] 1, I 2, I 3, I 2, I 8, I 64, I 2, I 1, O 101 0 1, W 0]),
  (103, C 1 [W 3]),
  (104, C 1 [.nsl, .nsl]),
  (105, C 17 [I 2, O 103 0 1, I 2, I 3, I 2, I 8, I 64, I 2, I 1, P 71 0, O 114 0 2, .ifc 164 (P 107 0), P 102 0, W 0, O 104 0 2, N 0, .nsl]),
  (106, C 1 [W 0, W 0]),
  (107, C 5 [I 2, I 1, .nsl, W 0, O 106 0 2]),
  (108, C 5 [I 2, I 8, I 2, I 0, I 0]),
  (109, C 6 [I 2, I 3, P 108 0, .nsl, .nsl, W 0]),
  (110, .map (.es [] [] 0)),
  (111, C 3 [W 2, W 1, .m (some 110)]),
  (112, C 2 [P 109 0, P 111 0]),
  (114, C 1 [P 112 0, .p none]),
  (115, C 5 [.nsl, I 0, I 0, I 0, I 0]),
  (117, C 5 [.nsl, I 0, I 0, I 0, I 0]),
  (118, C 1 [P 115 0, P 117 0]),
  (119, C 1 [P 81 0, P 105 0]),
  (120, C 1 [O 94 0 2, O 118 0 2]),
  (121, C 2 [P 5 0, P 72 0]),
  (122, C 8 [I 0, I 0, I 0, I 0, I 0, W 2, .f .f64 0, .nsl]),
  (123, C 3 [.f .f64 0, I 0, W 0])]
def hT1 : AH := AH.edit hT0 176 [17, 19, 20] [(4, C 1 [O 173 0 1]),
  (14, C 17 [I 2, O 12 0 1, I 2, I 3, I 2, I 8, I 64, I 1, I 0, P 4 0, O 30 0 2, .ifc 161 (P 23 0), P 11 0, W 1, O 13 0 2, N 0, .nsl]),
  (23, C 5 [I 2, I 0, I 2, .imm [.imm [W 0, W 1] 2, .imm [W 0, W 0] 2] 2, O 22 0 2]),
  (25, C 5 [I 2, I 8, I 2, I 2, I 0]),
  (26, C 6 [I 2, I 3, P 25 0, O 165 0 1, O 164 1 0, W 1]),
  (33, C 5 [O 175 0 1, I 1, I 0, I 0, I 0]),
  (164, C 1 [.imm [Y 0, Y 1, Y 2, Y 0, Y 0, Y 4, Y 0, Y 0, Y 0, Y 0] 10]),
  (165, C 2 [W 1, .imm [Y 0, Y 1, Y 2, Y 0, Y 0, Y 4, Y 0, Y 0, Y 0, Y 0] 10]),
  (173, C 9 [I 1, I 0, I 0, W 1, W 2, I 0, .f .f64 0, W 0, I 0]),
  (175, C 1 [.imm [Y 0, Y 1, Y 10, Y 0, Y 1, Y 2, Y 0, Y 0, Y 4, Y 0, Y 0, Y 0, Y 0] 13])]
def hT2 : AH := AH.edit hT1 177 [] [(176, C 3 [.f .f64 0, I 0, W 0])]
def hT3 : AH := AH.edit hT2 206 [] [(71, C 1 [O 203 0 1]),
  (81, C 17 [I 2, O 79 0 1, I 2, I 3, I 2, I 8, I 64, I 2, I 0, P 71 0, O 90 0 2, .ifc 164 (P 83 0), P 78 0, W 1, O 80 0 2, N 0, .nsl]),
  (83, C 5 [I 2, I 0, .imm [I 0, W 1, W 2] 1, W 1, O 82 0 2]),
  (85, C 5 [I 2, I 8, I 2, I 2, I 0]),
  (86, C 6 [I 2, I 3, P 85 0, O 195 0 1, O 194 1 0, W 1]),
  (93, C 5 [O 205 0 1, I 1, I 0, I 0, I 0]),
  (194, C 1 [.imm [Y 0, Y 1, Y 2, Y 0, Y 0, Y 1, Y 0] 7]),
  (195, C 2 [W 1, .imm [Y 0, Y 1, Y 2, Y 0, Y 0, Y 1, Y 0] 7]),
  (203, C 9 [I 1, I 0, I 0, W 1, W 2, I 0, .f .f64 0, W 0, I 0]),
  (205, C 1 [.imm [Y 0, Y 1, Y 7, Y 0, Y 1, Y 2, Y 0, Y 0, Y 1, Y 0] 10])]
def hT4 : AH := AH.edit hT3 208 [122, 123, 176] [(207, C 3 [.f .f64 0, I 0, W 0])]
def hT5 : AH := AH.edit hT4 258 [] []
def hT6 : AH := AH.edit hT5 125 [164, 165, 173, 175, 194, 195, 203, 205, 207] [(4, C 1 [.nsl]),
  (14, C 17 [I 2, O 12 0 1, I 2, I 3, I 2, I 8, I 64, I 1, I 0, P 4 0, O 30 0 2, .ifc 161 (P 23 0), P 11 0, W 0, O 13 0 2, N 0, .nsl]),
  (17, C 1 [W 0, W 0]),
  (19, C 1 [W 0, W 0]),
  (20, C 1 [O 17 0 2, O 19 0 2]),
  (23, C 5 [I 2, I 0, I 2, O 20 0 2, O 22 0 2]),
  (25, C 5 [I 2, I 8, I 2, I 0, I 0]),
  (26, C 6 [I 2, I 3, P 25 0, .nsl, .nsl, W 0]),
  (33, C 5 [.nsl, I 0, I 0, I 0, I 0]),
  (71, C 1 [.nsl]),
  (81, C 17 [I 2, O 79 0 1, I 2, I 3, I 2, I 8, I 64, I 2, I 0, P 71 0, O 90 0 2, .ifc 164 (P 83 0), P 78 0, W 0, O 80 0 2, N 0, .nsl]),
  (83, C 5 [I 2, I 0, .nsl, W 0, O 82 0 2]),
  (85, C 5 [I 2, I 8, I 2, I 0, I 0]),
  (86, C 6 [I 2, I 3, P 85 0, .nsl, .nsl, W 0]),
  (93, C 5 [.nsl, I 0, I 0, I 0, I 0]),
  (122, C 8 [I 0, I 0, I 0, I 0, I 0, W 2, .f .f64 0, .nsl]),
  (123, C 3 [.f .f64 0, I 0, W 0]),
  (124, C 3 [.f .f64 0, I 0, W 0])]
def hT7 : AH := AH.edit hT6 177 [17, 19, 20] [(4, C 1 [O 174 0 1]),
  (14, C 17 [I 2, O 12 0 1, I 2, I 3, I 2, I 8, I 64, I 1, I 0, P 4 0, O 30 0 2, .ifc 161 (P 23 0), P 11 0, W 1, O 13 0 2, N 0, .nsl]),
  (23, C 5 [I 2, I 0, I 2, .imm [.imm [W 0, W 1] 2, .imm [W 0, W 0] 2] 2, O 22 0 2]),
  (25, C 5 [I 2, I 8, I 2, I 2, I 0]),
  (26, C 6 [I 2, I 3, P 25 0, O 166 0 1, O 165 1 0, W 1]),
  (33, C 5 [O 176 0 1, I 1, I 0, I 0, I 0]),
  (165, C 1 [.imm [Y 0, Y 1, Y 2, Y 0, Y 0, Y 4, Y 0, Y 0, Y 0, Y 0] 10]),
  (166, C 2 [W 1, .imm [Y 0, Y 1, Y 2, Y 0, Y 0, Y 4, Y 0, Y 0, Y 0, Y 0] 10]),
  (174, C 9 [I 1, I 0, I 0, W 1, W 2, I 0, .f .f64 0, W 0, I 0]),
  (176, C 1 [.imm [Y 0, Y 1, Y 10, Y 0, Y 1, Y 2, Y 0, Y 0, Y 4, Y 0, Y 0, Y 0, Y 0] 13])]
def hT8 : AH := AH.edit hT7 177 [] []
def hT9 : AH := AH.edit hT8 206 [] [(71, C 1 [O 203 0 1]),
  (81, C 17 [I 2, O 79 0 1, I 2, I 3, I 2, I 8, I 64, I 2, I 0, P 71 0, O 90 0 2, .ifc 164 (P 83 0), P 78 0, W 1, O 80 0 2, N 0, .nsl]),
  (83, C 5 [I 2, I 0, .imm [I 0, W 1, W 2] 1, W 1, O 82 0 2]),
  (85, C 5 [I 2, I 8, I 2, I 2, I 0]),
  (86, C 6 [I 2, I 3, P 85 0, O 195 0 1, O 194 1 0, W 1]),
  (93, C 5 [O 205 0 1, I 1, I 0, I 0, I 0]),
  (194, C 1 [.imm [Y 0, Y 1, Y 2, Y 0, Y 0, Y 1, Y 0] 7]),
  (195, C 2 [W 1, .imm [Y 0, Y 1, Y 2, Y 0, Y 0, Y 1, Y 0] 7]),
  (203, C 9 [I 1, I 0, I 0, W 1, W 2, I 0, .f .f64 0, W 0, I 0]),
  (205, C 1 [.imm [Y 0, Y 1, Y 7, Y 0, Y 1, Y 2, Y 0, Y 0, Y 1, Y 0] 10])]
def hT10 : AH := AH.edit hT9 208 [122, 123, 124] [(207, C 3 [.f .f64 0, I 0, W 0])]
def hT11 : AH := AH.edit hT10 258 [] []
def hT12 : AH := AH.edit hT11 178 [166, 174, 194, 195, 203, 205, 207] [(4, C 1 [O 173 0 1]),
  (26, C 6 [I 2, I 3, P 25 0, O 165 0 1, O 164 1 0, W 1]),
  (33, C 5 [O 175 0 1, I 1, I 0, I 0, I 0]),
  (71, C 1 [.nsl]),
  (81, C 17 [I 2, O 79 0 1, I 2, I 3, I 2, I 8, I 64, I 2, I 0, P 71 0, O 90 0 2, .ifc 164 (P 83 0), P 78 0, W 0, O 80 0 2, N 0, .nsl]),
  (83, C 5 [I 2, I 0, .nsl, W 0, O 82 0 2]),
  (85, C 5 [I 2, I 8, I 2, I 0, I 0]),
  (86, C 6 [I 2, I 3, P 85 0, .nsl, .nsl, W 0]),
  (93, C 5 [.nsl, I 0, I 0, I 0, I 0]),
  (122, C 8 [I 0, I 0, I 0, I 0, I 0, W 2, .f .f64 0, .nsl]),
  (123, C 3 [.f .f64 0, I 0, W 0]),
  (164, C 1 [.imm [Y 0, Y 1, Y 2, Y 0, Y 0, Y 4, Y 0, Y 0, Y 0, Y 0] 10]),
  (165, C 2 [W 1, .imm [Y 0, Y 1, Y 2, Y 0, Y 0, Y 4, Y 0, Y 0, Y 0, Y 0] 10]),
  (173, C 9 [I 1, I 0, I 0, W 1, W 2, I 0, .f .f64 0, W 0, I 0]),
  (175, C 1 [.imm [Y 0, Y 1, Y 10, Y 0, Y 1, Y 2, Y 0, Y 0, Y 4, Y 0, Y 0, Y 0, Y 0] 13]),
  (176, C 3 [.f .f64 0, I 0, W 0]),
  (177, C 3 [.f .f64 0, I 0, W 0])]
def hT13 : AH := AH.edit hT12 207 [] [(71, C 1 [O 204 0 1]),
  (81, C 17 [I 2, O 79 0 1, I 2, I 3, I 2, I 8, I 64, I 2, I 0, P 71 0, O 90 0 2, .ifc 164 (P 83 0), P 78 0, W 1, O 80 0 2, N 0, .nsl]),
  (83, C 5 [I 2, I 0, .imm [I 0, W 1, W 2] 1, W 1, O 82 0 2]),
  (85, C 5 [I 2, I 8, I 2, I 2, I 0]),
  (86, C 6 [I 2, I 3, P 85 0, O 196 0 1, O 195 1 0, W 1]),
  (93, C 5 [O 206 0 1, I 1, I 0, I 0, I 0]),
  (195, C 1 [.imm [Y 0, Y 1, Y 2, Y 0, Y 0, Y 1, Y 0] 7]),
  (196, C 2 [W 1, .imm [Y 0, Y 1, Y 2, Y 0, Y 0, Y 1, Y 0] 7]),
  (204, C 9 [I 1, I 0, I 0, W 1, W 2, I 0, .f .f64 0, W 0, I 0]),
  (206, C 1 [.imm [Y 0, Y 1, Y 7, Y 0, Y 1, Y 2, Y 0, Y 0, Y 1, Y 0] 10])]
def hT14 : AH := AH.edit hT13 208 [122, 123, 176, 177] [(207, C 3 [.f .f64 0, I 0, W 0])]
def hT15 : AH := AH.edit hT14 258 [] []
def hT16 : AH := AH.edit hT15 178 [164, 173, 175, 195, 196, 204, 206, 207] [(4, C 1 [O 174 0 1]),
  (26, C 6 [I 2, I 3, P 25 0, O 166 0 1, O 165 1 0, W 1]),
  (33, C 5 [O 176 0 1, I 1, I 0, I 0, I 0]),
  (71, C 1 [.nsl]),
  (81, C 17 [I 2, O 79 0 1, I 2, I 3, I 2, I 8, I 64, I 2, I 0, P 71 0, O 90 0 2, .ifc 164 (P 83 0), P 78 0, W 0, O 80 0 2, N 0, .nsl]),
  (83, C 5 [I 2, I 0, .nsl, W 0, O 82 0 2]),
  (85, C 5 [I 2, I 8, I 2, I 0, I 0]),
  (86, C 6 [I 2, I 3, P 85 0, .nsl, .nsl, W 0]),
  (93, C 5 [.nsl, I 0, I 0, I 0, I 0]),
  (122, C 8 [I 0, I 0, I 0, I 0, I 0, W 2, .f .f64 0, .nsl]),
  (123, C 3 [.f .f64 0, I 0, W 0]),
  (124, C 3 [.f .f64 0, I 0, W 0]),
  (165, C 1 [.imm [Y 0, Y 1, Y 2, Y 0, Y 0, Y 4, Y 0, Y 0, Y 0, Y 0] 10]),
  (166, C 2 [W 1, .imm [Y 0, Y 1, Y 2, Y 0, Y 0, Y 4, Y 0, Y 0, Y 0, Y 0] 10]),
  (174, C 9 [I 1, I 0, I 0, W 1, W 2, I 0, .f .f64 0, W 0, I 0]),
  (176, C 1 [.imm [Y 0, Y 1, Y 10, Y 0, Y 1, Y 2, Y 0, Y 0, Y 4, Y 0, Y 0, Y 0, Y 0] 13]),
  (177, C 3 [.f .f64 0, I 0, W 0])]
def hT17 : AH := AH.edit hT16 207 [] [(71, C 1 [O 204 0 1]),
  (81, C 17 [I 2, O 79 0 1, I 2, I 3, I 2, I 8, I 64, I 2, I 0, P 71 0, O 90 0 2, .ifc 164 (P 83 0), P 78 0, W 1, O 80 0 2, N 0, .nsl]),
  (83, C 5 [I 2, I 0, .imm [I 0, W 1, W 2] 1, W 1, O 82 0 2]),
  (85, C 5 [I 2, I 8, I 2, I 2, I 0]),
  (86, C 6 [I 2, I 3, P 85 0, O 196 0 1, O 195 1 0, W 1]),
  (93, C 5 [O 206 0 1, I 1, I 0, I 0, I 0]),
  (195, C 1 [.imm [Y 0, Y 1, Y 2, Y 0, Y 0, Y 1, Y 0] 7]),
  (196, C 2 [W 1, .imm [Y 0, Y 1, Y 2, Y 0, Y 0, Y 1, Y 0] 7]),
  (204, C 9 [I 1, I 0, I 0, W 1, W 2, I 0, .f .f64 0, W 0, I 0]),
  (206, C 1 [.imm [Y 0, Y 1, Y 7, Y 0, Y 1, Y 2, Y 0, Y 0, Y 1, Y 0] 10])]
def hT18 : AH := AH.edit hT17 208 [122, 123, 124, 177] [(207, C 3 [.f .f64 0, I 0, W 0])]
def hT19 : AH := AH.edit hT18 258 [] []
def eT0 : Entry := ⟨20, [P 5 0, .agg [I 0, I 0, I 0, I 0, I 0, W 2, .f .f64 0, .nsl]], hT0, .tup [.agg [.f .f64 0, I 0, W 0], I 0], hT1⟩
def eT1 : Entry := ⟨20, [P 72 0, .agg [I 0, I 0, I 0, I 0, I 0, W 2, .f .f64 0, .nsl]], hT2, .tup [.agg [.f .f64 0, I 0, W 0], I 0], hT3⟩
def eT2 : Entry := ⟨11, [P 121 0], hT4, .b true, hT5⟩
def eT3 : Entry := ⟨20, [P 5 0, .agg [I 0, I 0, I 0, I 0, I 0, W 2, .f .f64 0, .nsl]], hT6, .tup [.agg [.f .f64 0, I 0, W 0], I 0], hT7⟩
def eT4 : Entry := ⟨20, [P 72 0, .agg [I 0, I 0, I 0, I 0, I 0, W 2, .f .f64 0, .nsl]], hT8, .tup [.agg [.f .f64 0, I 0, W 0], I 0], hT9⟩
def eT5 : Entry := ⟨11, [P 121 0], hT10, .b true, hT11⟩
def eT6 : Entry := ⟨20, [P 72 0, .agg [I 0, I 0, I 0, I 0, I 0, W 2, .f .f64 0, .nsl]], hT12, .tup [.agg [.f .f64 0, I 0, W 0], I 0], hT13⟩
def eT7 : Entry := ⟨11, [P 121 0], hT14, .b true, hT15⟩
def eT8 : Entry := ⟨20, [P 72 0, .agg [I 0, I 0, I 0, I 0, I 0, W 2, .f .f64 0, .nsl]], hT16, .tup [.agg [.f .f64 0, I 0, W 0], I 0], hT17⟩
def eT9 : Entry := ⟨11, [P 121 0], hT18, .b true, hT19⟩
def mainT : List Entry := [eT0, eT1, eT2, eT3, eT4, eT5, eT6, eT7, eT8, eT9]
def ET2 : Env := hookE ET 183 seqH
def EW : Env := withE ET2 [20, 11] mainT
end
end Go.Proofs.YtmiodddnokpdfaaGreatDoor
