/-
  The heaps before and behind the calls of this run.
-/
import Derived.Test.YtkcogdalihcamaaGreatDoorBLit
namespace Go.Proofs.YtkcogdalihcamaaGreatDoor
open Go.Av
set_option maxRecDepth 1000000
noncomputable section
def hBF0 : AH := AH.edit emptyH 0 [] []
def hBF1 : AH := AH.edit hBF0 122 [] []
def hBF2 : AH := AH.edit hBF1 251 [] [(122, C 8 [I 3, .imm [W 1, W 2, W 7] 3, I 2, I 3, I 2, I 8, I 64, I 1]),
  (126, C 1 [.nsl]),
  (127, C 11 [I 3, .imm [W 1, W 2, W 7] 3, I 2, I 3, I 2, I 8, I 64, I 1, P 126 0, O 249 0 3, O 250 0 3]),
  (132, C 3 [.f .f64 0, N 0, W 0, .f .f64 0, N 0, W 0, .f .f64 0, N 0, W 0]),
  (133, C 11 [I 3, .imm [W 1, W 2, W 7] 3, I 2, I 3, I 2, I 8, I 64, I 1, I 0, O 132 0 3, W 0]),
  (134, C 1 [W 1, W 2, W 7]),
  (135, C 1 [.nsl, .nsl, .nsl]),
  (136, C 17 [I 3, O 134 0 3, I 2, I 3, I 2, I 8, I 64, I 1, I 0, P 126 0, O 160 0 3, .ifc 110 (P 147 0), P 133 0, W 0, O 135 0 3, N 0, .nsl]),
  (139, C 1 [W 0, W 0, W 0]),
  (141, C 1 [W 0, W 0, W 0]),
  (143, C 1 [W 0, W 0, W 0]),
  (144, C 1 [O 139 0 3, O 141 0 3, O 143 0 3]),
  (146, C 1 [W 0, W 0, W 0]),
  (147, C 5 [I 3, I 0, I 3, O 144 0 3, O 146 0 3]),
  (149, C 5 [I 2, I 8, I 2, I 0, I 0]),
  (150, C 6 [I 2, I 3, P 149 0, .nsl, .nsl, W 0]),
  (151, .map []),
  (152, C 3 [W 2, W 1, .m (some 151)]),
  (153, C 2 [P 150 0, P 152 0]),
  (155, C 5 [I 2, I 8, I 2, I 0, I 0]),
  (156, C 6 [I 2, I 3, P 155 0, .nsl, .nsl, W 0]),
  (157, .map []),
  (158, C 3 [W 2, W 1, .m (some 157)]),
  (159, C 2 [P 156 0, P 158 0]),
  (160, C 1 [.p none, P 153 0, P 159 0]),
  (161, C 5 [.nsl, I 0, I 0, I 0, I 0]),
  (163, C 5 [.nsl, I 0, I 0, I 0, I 0]),
  (165, C 5 [.nsl, I 0, I 0, I 0, I 0]),
  (166, C 1 [P 161 0, P 163 0, P 165 0]),
  (173, C 3 [.f .f64 0, N 0, W 0, .f .f64 0, N 0, W 0, .f .f64 0, N 0, W 0]),
  (174, C 11 [I 3, .imm [W 1, W 2, W 7] 3, I 2, I 3, I 2, I 8, I 64, I 1, I 1, O 173 0 3, W 0]),
  (175, C 1 [W 1, W 2, W 7]),
  (176, C 1 [.nsl, .nsl, .nsl]),
  (177, C 17 [I 3, O 175 0 3, I 2, I 3, I 2, I 8, I 64, I 1, I 1, P 126 0, O 201 0 3, .ifc 110 (P 188 0), P 174 0, W 0, O 176 0 3, N 0, .nsl]),
  (180, C 1 [W 0, W 0, W 0]),
  (182, C 1 [W 0, W 0, W 0]),
  (184, C 1 [W 0, W 0, W 0]),
  (185, C 1 [O 180 0 3, O 182 0 3, O 184 0 3]),
  (187, C 1 [W 0, W 0, W 0]),
  (188, C 5 [I 3, I 1, I 3, O 185 0 3, O 187 0 3]),
  (189, C 5 [I 2, I 8, I 2, I 0, I 0]),
  (190, C 6 [I 2, I 3, P 189 0, .nsl, .nsl, W 0]),
  (191, .map []),
  (192, C 3 [W 2, W 1, .m (some 191)]),
  (193, C 2 [P 190 0, P 192 0]),
  (196, C 5 [I 2, I 8, I 2, I 0, I 0]),
  (197, C 6 [I 2, I 3, P 196 0, .nsl, .nsl, W 0]),
  (198, .map []),
  (199, C 3 [W 2, W 1, .m (some 198)]),
  (200, C 2 [P 197 0, P 199 0]),
  (201, C 1 [P 193 0, .p none, P 200 0]),
  (202, C 5 [.nsl, I 0, I 0, I 0, I 0]),
  (204, C 5 [.nsl, I 0, I 0, I 0, I 0]),
  (206, C 5 [.nsl, I 0, I 0, I 0, I 0]),
  (207, C 1 [P 202 0, P 204 0, P 206 0]),
  (214, C 3 [.f .f64 0, N 0, W 0, .f .f64 0, N 0, W 0, .f .f64 0, N 0, W 0]),
  (215, C 11 [I 3, .imm [W 1, W 2, W 7] 3, I 2, I 3, I 2, I 8, I 64, I 1, I 2, O 214 0 3, W 0]),
  (216, C 1 [W 1, W 2, W 7]),
  (217, C 1 [.nsl, .nsl, .nsl]),
  (218, C 17 [I 3, O 216 0 3, I 2, I 3, I 2, I 8, I 64, I 1, I 2, P 126 0, O 242 0 3, .ifc 110 (P 229 0), P 215 0, W 0, O 217 0 3, N 0, .nsl]),
  (221, C 1 [W 0, W 0, W 0]),
  (223, C 1 [W 0, W 0, W 0]),
  (225, C 1 [W 0, W 0, W 0]),
  (226, C 1 [O 221 0 3, O 223 0 3, O 225 0 3]),
  (228, C 1 [W 0, W 0, W 0]),
  (229, C 5 [I 3, I 2, I 3, O 226 0 3, O 228 0 3]),
  (230, C 5 [I 2, I 8, I 2, I 0, I 0]),
  (231, C 6 [I 2, I 3, P 230 0, .nsl, .nsl, W 0]),
  (232, .map []),
  (233, C 3 [W 2, W 1, .m (some 232)]),
  (234, C 2 [P 231 0, P 233 0]),
  (236, C 5 [I 2, I 8, I 2, I 0, I 0]),
  (237, C 6 [I 2, I 3, P 236 0, .nsl, .nsl, W 0]),
  (238, .map []),
  (239, C 3 [W 2, W 1, .m (some 238)]),
  (240, C 2 [P 237 0, P 239 0]),
  (242, C 1 [P 234 0, P 240 0, .p none]),
  (243, C 5 [.nsl, I 0, I 0, I 0, I 0]),
  (245, C 5 [.nsl, I 0, I 0, I 0, I 0]),
  (247, C 5 [.nsl, I 0, I 0, I 0, I 0]),
  (248, C 1 [P 243 0, P 245 0, P 247 0]),
  (249, C 1 [P 136 0, P 177 0, P 218 0]),
  (250, C 1 [O 166 0 3, O 207 0 3, O 248 0 3])]
def hBF3 : AH := AH.edit hBF2 321 [180, 182, 184, 185] [(126, C 1 [O 318 0 2]),
  (177, C 17 [I 3, O 175 0 3, I 2, I 3, I 2, I 8, I 64, I 1, I 1, P 126 0, O 201 0 3, .ifc 110 (P 188 0), P 174 0, W 1, O 176 0 3, I 0, .nsl]),
  (188, C 5 [I 3, I 1, I 3, .imm [.imm [W 0, W 0, W 0] 3, .imm [W 1, W 0, W 0] 3, .imm [W 0, W 0, W 0] 3] 3, O 187 0 3]),
  (189, C 5 [I 2, I 8, I 2, I 2, I 0]),
  (190, C 6 [I 2, I 3, P 189 0, O 310 0 1, O 309 1 0, W 1]),
  (202, C 5 [O 320 0 1, I 1, I 0, I 0, I 0]),
  (309, C 1 [.imm [Y 1, Y 1, Y 1, Y 2, Y 0, Y 9, Y 0, Y 0, Y 0, Y 0, Y 0, Y 0, Y 0, Y 0, Y 0] 15]),
  (310, C 2 [W 1, .imm [Y 1, Y 1, Y 1, Y 2, Y 0, Y 9, Y 0, Y 0, Y 0, Y 0, Y 0, Y 0, Y 0, Y 0, Y 0] 15]),
  (318, C 9 [I 4, I 1, I 0, W 0, W 0, I 0, .f .f64 0, W 0, I 0, I 1, I 1, I 0, W 1, W 1, I 0, .f .f64 0, W 0, I 0]),
  (320, C 1 [.imm [Y 0, Y 1, Y 15, Y 1, Y 1, Y 1, Y 2, Y 0, Y 9, Y 0, Y 0, Y 0, Y 0, Y 0, Y 0, Y 0, Y 0, Y 0] 18])]
def hBF4 : AH := AH.edit hBF3 341 [318] [(126, C 1 [O 339 0 4]),
  (321, C 3 [.f .f64 0, I 0, W 0]),
  (330, C 3 [.f .f64 0, I 0, W 0]),
  (339, C 9 [I 4, I 1, I 0, W 0, W 0, I 0, .f .f64 0, W 0, I 0, I 1, I 1, I 0, W 1, W 1, I 0, .f .f64 0, W 0, I 0, I 6, I 1, I 0, W 0, W 0, I 0, .f .f64 0, W 0, .junk, I 6, I 1, I 0, W 0, W 0, I 0, .f .f64 0, W 0, .junk]),
  (340, C 3 [.f .f64 0, I 0, W 0])]
def hBF5 : AH := AH.edit hBF4 440 [309, 310, 320, 339] [(126, C 1 [O 435 0 5]),
  (177, C 17 [I 3, O 175 0 3, I 2, I 3, I 2, I 8, I 64, I 1, I 1, P 126 0, O 201 0 3, .ifc 110 (P 188 0), P 174 0, W 2, O 176 0 3, I 0, .nsl]),
  (188, C 5 [I 3, I 1, I 3, .imm [.imm [W 0, W 0, W 0] 3, .imm [W 2, W 0, W 1] 3, .imm [W 0, W 0, W 0] 3] 3, O 187 0 3]),
  (190, C 6 [I 2, I 3, P 189 0, O 418 0 2, O 417 1 0, W 2]),
  (196, C 5 [I 2, I 8, I 2, I 2, I 0]),
  (197, C 6 [I 2, I 3, P 196 0, O 427 0 1, O 426 1 0, W 1]),
  (202, C 5 [O 437 0 2, I 2, I 0, I 0, I 0]),
  (206, C 5 [O 439 0 1, I 1, I 0, I 0, I 0]),
  (417, C 1 [.imm [Y 1, Y 2, Y 5, Y 0, Y 0, Y 9, Y 0, Y 0, Y 0, Y 1, Y 0, Y 0, Y 0, Y 0, Y 0] 15]),
  (418, C 2 [W 1, .imm [Y 1, Y 1, Y 1, Y 2, Y 0, Y 9, Y 0, Y 0, Y 0, Y 0, Y 0, Y 0, Y 0, Y 0, Y 0] 15, W 2, .imm [Y 1, Y 2, Y 5, Y 0, Y 0, Y 9, Y 0, Y 0, Y 0, Y 1, Y 0, Y 0, Y 0, Y 0, Y 0] 15]),
  (426, C 1 [.imm [Y 1, Y 2, Y 5, Y 0, Y 0, Y 9, Y 0, Y 0, Y 0, Y 1, Y 0, Y 0, Y 0, Y 0, Y 0] 15]),
  (427, C 2 [W 1, .imm [Y 1, Y 2, Y 5, Y 0, Y 0, Y 9, Y 0, Y 0, Y 0, Y 1, Y 0, Y 0, Y 0, Y 0, Y 0] 15]),
  (435, C 9 [I 4, I 1, I 0, W 0, W 0, I 0, .f .f64 0, W 0, I 0, I 1, I 1, I 0, W 1, W 1, I 0, .f .f64 0, W 0, I 0, I 6, I 1, I 0, W 0, W 0, I 0, .f .f64 0, W 0, .junk, I 6, I 1, I 0, W 0, W 0, I 0, .f .f64 0, W 0, .junk, I 1, I 1, I 0, W 2, W 5, I 0, .f .f64 0, W 0, I 0]),
  (437, C 1 [.imm [Y 0, Y 1, Y 15, Y 1, Y 1, Y 1, Y 2, Y 0, Y 9, Y 0, Y 0, Y 0, Y 0, Y 0, Y 0, Y 0, Y 0, Y 0] 18, .imm [Y 0, Y 2, Y 15, Y 1, Y 2, Y 5, Y 0, Y 0, Y 9, Y 0, Y 0, Y 0, Y 1, Y 0, Y 0, Y 0, Y 0, Y 0] 18]),
  (439, C 1 [.imm [Y 0, Y 1, Y 15, Y 1, Y 2, Y 5, Y 0, Y 0, Y 9, Y 0, Y 0, Y 0, Y 1, Y 0, Y 0, Y 0, Y 0, Y 0] 18])]
def hBF6 : AH := AH.edit hBF5 441 [] [(440, C 3 [.f .f64 0, I 0, W 0])]
def hBF7 : AH := AH.edit hBF6 483 [437, 439] [(189, C 5 [I 2, I 8, I 8, I 6, I 2]),
  (196, C 5 [I 2, I 8, I 8, I 6, I 2]),
  (202, C 5 [O 480 0 6, I 6, I 0, I 0, I 0]),
  (206, C 5 [O 482 0 3, I 3, I 0, I 0, I 0]),
  (441, C 8 [I 8, I 0, I 0, I 0, I 0, W 0, .f .f64 0, .nsl]),
  (442, C 3 [.f .f64 0, I 0, W 0]),
  (480, C 1 [.imm [Y 0, Y 1, Y 15, Y 1, Y 1, Y 1, Y 2, Y 0, Y 9, Y 0, Y 0, Y 0, Y 0, Y 0, Y 0, Y 0, Y 0, Y 0] 18, .imm [Y 0, Y 2, Y 15, Y 1, Y 2, Y 5, Y 0, Y 0, Y 9, Y 0, Y 0, Y 0, Y 1, Y 0, Y 0, Y 0, Y 0, Y 0] 18, .imm [Y 0, Y 1, Y 15, Y 1, Y 1, Y 1, Y 2, Y 0, Y 9, Y 0, Y 0, Y 0, Y 0, Y 0, Y 0, Y 0, Y 0, Y 0] 18, .imm [Y 0, Y 2, Y 15, Y 1, Y 2, Y 5, Y 0, Y 0, Y 9, Y 0, Y 0, Y 0, Y 1, Y 0, Y 0, Y 0, Y 0, Y 0] 18, .imm [Y 0, Y 1, Y 15, Y 1, Y 1, Y 1, Y 2, Y 0, Y 9, Y 0, Y 0, Y 0, Y 0, Y 0, Y 0, Y 0, Y 0, Y 0] 18, .imm [Y 0, Y 2, Y 15, Y 1, Y 2, Y 5, Y 0, Y 0, Y 9, Y 0, Y 0, Y 0, Y 1, Y 0, Y 0, Y 0, Y 0, Y 0] 18]),
  (482, C 1 [.imm [Y 0, Y 1, Y 15, Y 1, Y 2, Y 5, Y 0, Y 0, Y 9, Y 0, Y 0, Y 0, Y 1, Y 0, Y 0, Y 0, Y 0, Y 0] 18, .imm [Y 0, Y 1, Y 15, Y 1, Y 2, Y 5, Y 0, Y 0, Y 9, Y 0, Y 0, Y 0, Y 1, Y 0, Y 0, Y 0, Y 0, Y 0] 18, .imm [Y 0, Y 1, Y 15, Y 1, Y 2, Y 5, Y 0, Y 0, Y 9, Y 0, Y 0, Y 0, Y 1, Y 0, Y 0, Y 0, Y 0, Y 0] 18])]
def hBF8 : AH := AH.edit hBF7 604 [139, 141, 143, 144, 146, 435] [(126, C 1 [O 593 0 7]),
  (135, C 1 [.nsl, O 489 10 0, .nsl]),
  (136, C 17 [I 3, O 134 0 3, I 2, I 3, I 2, I 8, I 64, I 1, I 0, P 126 0, O 160 0 3, .ifc 110 (P 147 0), P 133 0, W 1, O 135 0 3, N 0, .nsl]),
  (147, C 5 [I 3, I 0, I 3, .imm [.imm [W 0, W 1, W 0] 3, .imm [W 1, W 0, W 0] 3, .imm [W 0, W 0, W 0] 3] 3, .imm [W 0, W 1, W 0] 3]),
  (149, C 5 [I 2, I 8, I 2, I 2, I 0]),
  (150, C 6 [I 2, I 3, P 149 0, O 585 0 1, O 584 1 0, W 1]),
  (152, C 3 [W 2, W 2, .m (some 151)]),
  (163, C 5 [O 603 0 2, I 2, I 0, I 0, I 0]),
  (202, C 5 [O 480 0 5, I 6, I 1, I 0, I 0]),
  (480, C 1 [.imm [Y 0, Y 2, Y 15, Y 1, Y 2, Y 5, Y 0, Y 0, Y 9, Y 0, Y 0, Y 0, Y 1, Y 0, Y 0, Y 0, Y 0, Y 0] 18, .imm [Y 0, Y 1, Y 15, Y 1, Y 1, Y 1, Y 2, Y 0, Y 9, Y 0, Y 0, Y 0, Y 0, Y 0, Y 0, Y 0, Y 0, Y 0] 18, .imm [Y 0, Y 2, Y 15, Y 1, Y 2, Y 5, Y 0, Y 0, Y 9, Y 0, Y 0, Y 0, Y 1, Y 0, Y 0, Y 0, Y 0, Y 0] 18, .imm [Y 0, Y 1, Y 15, Y 1, Y 1, Y 1, Y 2, Y 0, Y 9, Y 0, Y 0, Y 0, Y 0, Y 0, Y 0, Y 0, Y 0, Y 0] 18, .imm [Y 0, Y 2, Y 15, Y 1, Y 2, Y 5, Y 0, Y 0, Y 9, Y 0, Y 0, Y 0, Y 1, Y 0, Y 0, Y 0, Y 0, Y 0] 18, .nsl]),
  (489, C 10 [I 1, W 1, W 1, I 2, I 0, .f .f64 0, I 0, W 0, .nsl, .imm [Y 0, Y 0, Y 0, Y 0, Y 0, Y 0, Y 0, Y 0, Y 0] 9]),
  (584, C 1 [.imm [Y 0, Y 1, Y 2, Y 3, Y 0, Y 128, Y 0, Y 0, Y 0, Y 0, Y 0, Y 0, Y 0, Y 0, Y 0, Y 9, Y 0, Y 0, Y 0, Y 1, Y 0, Y 0, Y 0, Y 0, Y 0] 25]),
  (585, C 2 [W 1, .imm [Y 0, Y 1, Y 2, Y 3, Y 0, Y 128, Y 0, Y 0, Y 0, Y 0, Y 0, Y 0, Y 0, Y 0, Y 0, Y 9, Y 0, Y 0, Y 0, Y 1, Y 0, Y 0, Y 0, Y 0, Y 0] 25]),
  (593, C 9 [I 4, I 1, I 0, W 0, W 0, I 0, .f .f64 0, W 0, I 0, I 1, I 1, I 0, W 1, W 1, I 0, .f .f64 0, W 0, I 0, I 6, I 1, I 0, W 0, W 0, I 0, .f .f64 0, W 0, .junk, I 6, I 1, I 0, W 0, W 0, I 0, .f .f64 0, W 0, .junk, I 1, I 1, I 0, W 2, W 5, I 0, .f .f64 0, W 0, I 0, I 2, I 0, I 1, W 1, W 0, I 0, .f .f64 0, W 0, I 0, I 1, I 0, I 0, W 1, W 2, I 0, .f .f64 0, W 0, I 0]),
  (603, C 1 [.imm [Y 1, Y 1] 2, .imm [Y 0, Y 1, Y 25, Y 0, Y 1, Y 2, Y 3, Y 0, Y 128, Y 0, Y 0, Y 0, Y 0, Y 0, Y 0, Y 0, Y 0, Y 0, Y 9, Y 0, Y 0, Y 0, Y 1, Y 0, Y 0, Y 0, Y 0, Y 0] 28])]
def hBF9 : AH := AH.edit hBF8 663 [489, 593, 603] [(126, C 1 [O 655 0 8]),
  (135, C 1 [.nsl, O 610 10 0, .nsl]),
  (136, C 17 [I 3, O 134 0 3, I 2, I 3, I 2, I 8, I 64, I 1, I 0, P 126 0, O 160 0 3, .ifc 110 (P 147 0), P 133 0, W 1, O 135 0 3, N 0, O 656 0 1]),
  (147, C 5 [I 3, I 0, I 3, .imm [.imm [W 0, W 1, W 0] 3, .imm [W 2, W 0, W 1] 3, .imm [W 0, W 0, W 0] 3] 3, .imm [W 0, W 2, W 0] 3]),
  (152, C 3 [W 2, W 3, .m (some 151)]),
  (163, C 5 [O 662 0 3, I 3, I 0, I 0, I 0]),
  (202, C 5 [O 480 0 4, I 6, I 2, I 0, I 0]),
  (480, C 1 [.imm [Y 0, Y 1, Y 15, Y 1, Y 1, Y 1, Y 2, Y 0, Y 9, Y 0, Y 0, Y 0, Y 0, Y 0, Y 0, Y 0, Y 0, Y 0] 18, .imm [Y 0, Y 2, Y 15, Y 1, Y 2, Y 5, Y 0, Y 0, Y 9, Y 0, Y 0, Y 0, Y 1, Y 0, Y 0, Y 0, Y 0, Y 0] 18, .imm [Y 0, Y 1, Y 15, Y 1, Y 1, Y 1, Y 2, Y 0, Y 9, Y 0, Y 0, Y 0, Y 0, Y 0, Y 0, Y 0, Y 0, Y 0] 18, .imm [Y 0, Y 2, Y 15, Y 1, Y 2, Y 5, Y 0, Y 0, Y 9, Y 0, Y 0, Y 0, Y 1, Y 0, Y 0, Y 0, Y 0, Y 0] 18, .nsl, .nsl]),
  (610, C 10 [I 1, W 2, W 5, I 0, I 0, .f .f64 0, I 0, W 0, .imm [] 0, .imm [Y 0, Y 0, Y 0, Y 1, Y 0, Y 0, Y 0, Y 0, Y 0] 9]),
  (655, C 9 [I 4, I 1, I 0, W 0, W 0, I 0, .f .f64 0, W 0, I 0, I 1, I 1, I 0, W 1, W 1, I 0, .f .f64 0, W 0, I 0, I 6, I 1, I 0, W 0, W 0, I 0, .f .f64 0, W 0, .junk, I 6, I 1, I 0, W 0, W 0, I 0, .f .f64 0, W 0, .junk, I 1, I 1, I 0, W 2, W 5, I 0, .f .f64 0, W 0, I 0, I 2, I 0, I 1, W 1, W 0, I 0, .f .f64 0, W 0, I 0, I 1, I 0, I 0, W 1, W 2, I 0, .f .f64 0, W 0, I 0, I 2, I 0, I 1, W 2, W 0, I 0, .f .f64 0, W 0, I 0]),
  (656, C 1 [.imm [] 0]),
  (662, C 1 [.imm [Y 1, Y 1] 2, .imm [Y 0, Y 1, Y 25, Y 0, Y 1, Y 2, Y 3, Y 0, Y 128, Y 0, Y 0, Y 0, Y 0, Y 0, Y 0, Y 0, Y 0, Y 0, Y 9, Y 0, Y 0, Y 0, Y 1, Y 0, Y 0, Y 0, Y 0, Y 0] 28, .imm [Y 1, Y 2] 2])]
def hBF10 : AH := AH.edit hBF9 695 [662] [(163, C 5 [O 694 0 7, I 7, I 0, I 0, I 0]),
  (202, C 5 [O 480 0 0, I 6, I 6, I 0, I 0]),
  (480, C 1 [.nsl, .nsl, .nsl, .nsl, .nsl, .nsl]),
  (694, C 1 [.imm [Y 1, Y 1] 2, .imm [Y 0, Y 1, Y 25, Y 0, Y 1, Y 2, Y 3, Y 0, Y 128, Y 0, Y 0, Y 0, Y 0, Y 0, Y 0, Y 0, Y 0, Y 0, Y 9, Y 0, Y 0, Y 0, Y 1, Y 0, Y 0, Y 0, Y 0, Y 0] 28, .imm [Y 1, Y 2] 2, .imm [Y 1, Y 2] 2, .imm [Y 1, Y 2] 2, .imm [Y 1, Y 2] 2, .imm [Y 1, Y 2] 2])]
def hBF11 : AH := AH.edit hBF10 754 [221, 223, 225, 226, 228, 655] [(126, C 1 [O 746 0 9]),
  (206, C 5 [O 482 0 2, I 3, I 1, I 0, I 0]),
  (217, C 1 [.nsl, O 701 10 0, .nsl]),
  (218, C 17 [I 3, O 216 0 3, I 2, I 3, I 2, I 8, I 64, I 1, I 2, P 126 0, O 242 0 3, .ifc 110 (P 229 0), P 215 0, W 0, O 217 0 3, N 0, O 747 0 1]),
  (229, C 5 [I 3, I 2, I 3, .imm [.imm [W 0, W 0, W 0] 3, .imm [W 2, W 0, W 1] 3, .imm [W 0, W 0, W 0] 3] 3, .imm [W 0, W 1, W 0] 3]),
  (239, C 3 [W 2, W 2, .m (some 238)]),
  (245, C 5 [O 753 0 1, I 1, I 0, I 0, I 0]),
  (482, C 1 [.imm [Y 0, Y 1, Y 15, Y 1, Y 2, Y 5, Y 0, Y 0, Y 9, Y 0, Y 0, Y 0, Y 1, Y 0, Y 0, Y 0, Y 0, Y 0] 18, .imm [Y 0, Y 1, Y 15, Y 1, Y 2, Y 5, Y 0, Y 0, Y 9, Y 0, Y 0, Y 0, Y 1, Y 0, Y 0, Y 0, Y 0, Y 0] 18, .nsl]),
  (701, C 10 [I 1, W 2, W 5, I 0, I 0, .f .f64 0, I 0, W 0, .imm [] 0, .imm [Y 0, Y 0, Y 0, Y 1, Y 0, Y 0, Y 0, Y 0, Y 0] 9]),
  (746, C 9 [I 4, I 1, I 0, W 0, W 0, I 0, .f .f64 0, W 0, I 0, I 1, I 1, I 0, W 1, W 1, I 0, .f .f64 0, W 0, I 0, I 6, I 1, I 0, W 0, W 0, I 0, .f .f64 0, W 0, .junk, I 6, I 1, I 0, W 0, W 0, I 0, .f .f64 0, W 0, .junk, I 1, I 1, I 0, W 2, W 5, I 0, .f .f64 0, W 0, I 0, I 2, I 0, I 1, W 1, W 0, I 0, .f .f64 0, W 0, I 0, I 1, I 0, I 0, W 1, W 2, I 0, .f .f64 0, W 0, I 0, I 2, I 0, I 1, W 2, W 0, I 0, .f .f64 0, W 0, I 0, I 2, I 2, I 1, W 2, W 0, I 0, .f .f64 0, W 0, I 0]),
  (747, C 1 [.imm [] 0]),
  (753, C 1 [.imm [Y 1, Y 1] 2])]
def hBF12 : AH := AH.edit hBF11 789 [441, 442, 753] [(196, C 5 [I 2, I 8, I 2, I 0, I 2]),
  (197, C 6 [I 2, I 3, P 196 0, O 427 0 0, O 426 1 0, W 1]),
  (206, C 5 [O 482 0 0, I 3, I 3, I 0, I 0]),
  (245, C 5 [O 769 0 0, I 3, I 3, I 0, I 0]),
  (427, C 2 [W 0, .nsl]),
  (482, C 1 [.nsl, .nsl, .nsl]),
  (769, C 1 [.nsl, .nsl, .nsl])]
def hBF13 : AH := AH.edit hBF12 825 [694] [(149, C 5 [I 2, I 8, I 8, I 6, I 2]),
  (163, C 5 [O 804 0 8, I 9, I 1, I 0, I 0]),
  (189, C 5 [I 2, I 8, I 2, I 2, I 3]),
  (190, C 6 [I 2, I 3, P 189 0, O 418 0 1, O 417 1 0, W 2]),
  (202, C 5 [O 480 0 2, I 8, I 6, I 0, I 0]),
  (418, C 2 [W 2, .imm [Y 1, Y 2, Y 5, Y 0, Y 0, Y 9, Y 0, Y 0, Y 0, Y 1, Y 0, Y 0, Y 0, Y 0, Y 0] 15, W 0, .nsl]),
  (480, C 1 [.imm [Y 0, Y 1, Y 15, Y 1, Y 1, Y 1, Y 2, Y 0, Y 9, Y 0, Y 0, Y 0, Y 0, Y 0, Y 0, Y 0, Y 0, Y 0] 18, .imm [Y 0, Y 2, Y 15, Y 1, Y 2, Y 5, Y 0, Y 0, Y 9, Y 0, Y 0, Y 0, Y 1, Y 0, Y 0, Y 0, Y 0, Y 0] 18, .nsl, .nsl, .nsl, .nsl]),
  (789, C 8 [I 8, I 0, I 0, I 0, I 0, W 0, .f .f64 0, .nsl]),
  (790, C 3 [.f .f64 0, I 0, W 0]),
  (804, C 1 [.imm [Y 0, Y 1, Y 25, Y 0, Y 1, Y 2, Y 3, Y 0, Y 128, Y 0, Y 0, Y 0, Y 0, Y 0, Y 0, Y 0, Y 0, Y 0, Y 9, Y 0, Y 0, Y 0, Y 1, Y 0, Y 0, Y 0, Y 0, Y 0] 28, .imm [Y 1, Y 2] 2, .imm [Y 1, Y 2] 2, .imm [Y 1, Y 2] 2, .imm [Y 1, Y 2] 2, .imm [Y 1, Y 2] 2, .imm [Y 0, Y 1, Y 25, Y 0, Y 1, Y 2, Y 3, Y 0, Y 128, Y 0, Y 0, Y 0, Y 0, Y 0, Y 0, Y 0, Y 0, Y 0, Y 9, Y 0, Y 0, Y 0, Y 1, Y 0, Y 0, Y 0, Y 0, Y 0] 28, .imm [Y 0, Y 1, Y 25, Y 0, Y 1, Y 2, Y 3, Y 0, Y 128, Y 0, Y 0, Y 0, Y 0, Y 0, Y 0, Y 0, Y 0, Y 0, Y 9, Y 0, Y 0, Y 0, Y 1, Y 0, Y 0, Y 0, Y 0, Y 0] 28, .nsl])]
def hBF14 : AH := AH.edit hBF13 886 [187, 746] [(126, C 1 [O 880 0 11]),
  (163, C 5 [O 804 0 7, I 9, I 2, I 0, I 0]),
  (176, C 1 [O 831 10 0, .nsl, .nsl]),
  (177, C 17 [I 3, O 175 0 3, I 2, I 3, I 2, I 8, I 64, I 1, I 1, P 126 0, O 201 0 3, .ifc 110 (P 188 0), P 174 0, W 2, O 176 0 3, N 0, .nsl]),
  (188, C 5 [I 3, I 1, I 3, .imm [.imm [W 0, W 1, W 0] 3, .imm [W 2, W 0, W 1] 3, .imm [W 0, W 0, W 0] 3] 3, .imm [W 1, W 0, W 0] 3]),
  (192, C 3 [W 2, W 2, .m (some 191)]),
  (202, C 5 [O 480 0 3, I 9, I 6, I 0, I 0]),
  (480, C 1 [.imm [Y 0, Y 1, Y 15, Y 1, Y 1, Y 1, Y 2, Y 0, Y 9, Y 0, Y 0, Y 0, Y 0, Y 0, Y 0, Y 0, Y 0, Y 0] 18, .imm [Y 0, Y 2, Y 15, Y 1, Y 2, Y 5, Y 0, Y 0, Y 9, Y 0, Y 0, Y 0, Y 1, Y 0, Y 0, Y 0, Y 0, Y 0] 18, .imm [Y 1, Y 1] 2, .nsl, .nsl, .nsl]),
  (804, C 1 [.imm [Y 1, Y 2] 2, .imm [Y 1, Y 2] 2, .imm [Y 1, Y 2] 2, .imm [Y 1, Y 2] 2, .imm [Y 1, Y 2] 2, .imm [Y 0, Y 1, Y 25, Y 0, Y 1, Y 2, Y 3, Y 0, Y 128, Y 0, Y 0, Y 0, Y 0, Y 0, Y 0, Y 0, Y 0, Y 0, Y 9, Y 0, Y 0, Y 0, Y 1, Y 0, Y 0, Y 0, Y 0, Y 0] 28, .imm [Y 0, Y 1, Y 25, Y 0, Y 1, Y 2, Y 3, Y 0, Y 128, Y 0, Y 0, Y 0, Y 0, Y 0, Y 0, Y 0, Y 0, Y 0, Y 9, Y 0, Y 0, Y 0, Y 1, Y 0, Y 0, Y 0, Y 0, Y 0] 28, .nsl, .nsl]),
  (831, C 10 [I 0, W 1, W 2, I 3, I 0, .f .f64 0, N 0, W 0, .nsl, .imm [Y 0, Y 0, Y 0, Y 1, Y 0, Y 0, Y 0, Y 0, Y 0] 9]),
  (880, C 9 [I 4, I 1, I 0, W 0, W 0, I 0, .f .f64 0, W 0, I 0, I 1, I 1, I 0, W 1, W 1, I 0, .f .f64 0, W 0, I 0, I 6, I 1, I 0, W 0, W 0, I 0, .f .f64 0, W 0, .junk, I 6, I 1, I 0, W 0, W 0, I 0, .f .f64 0, W 0, .junk, I 1, I 1, I 0, W 2, W 5, I 0, .f .f64 0, W 0, I 0, I 2, I 0, I 1, W 1, W 0, I 0, .f .f64 0, W 0, I 0, I 1, I 0, I 0, W 1, W 2, I 0, .f .f64 0, W 0, I 0, I 2, I 0, I 1, W 2, W 0, I 0, .f .f64 0, W 0, I 0, I 2, I 2, I 1, W 2, W 0, I 0, .f .f64 0, W 0, I 0, I 2, I 1, I 0, W 1, W 0, I 0, .f .f64 0, W 0, I 0, I 5, I 1, N 0, W 0, W 0, I 0, .f .f64 0, W 0, I 0])]
def hBF15 : AH := AH.edit hBF14 964 [789, 790] [(149, C 5 [I 2, I 8, I 2, I 0, I 2]),
  (150, C 6 [I 2, I 3, P 149 0, O 585 0 0, O 584 1 0, W 1]),
  (163, C 5 [O 804 0 2, I 11, I 9, I 0, I 0]),
  (189, C 5 [I 2, I 8, I 2, I 0, I 3]),
  (190, C 6 [I 2, I 3, P 189 0, O 418 0 0, O 417 1 0, W 2]),
  (202, C 5 [O 480 0 0, I 11, I 11, I 0, I 0]),
  (418, C 2 [W 0, .nsl, W 0, .nsl]),
  (480, C 1 [.nsl, .nsl, .nsl, .nsl, .nsl, .nsl]),
  (585, C 2 [W 0, .nsl]),
  (804, C 1 [.imm [Y 1, Y 2] 2, .imm [Y 1, Y 2] 2, .nsl, .nsl, .nsl, .nsl, .nsl, .nsl, .nsl])]
def hBF16 : AH := AH.edit hBF15 978 [] [(163, C 5 [O 804 0 0, I 11, I 11, I 0, I 0]),
  (804, C 1 [.nsl, .nsl, .nsl, .nsl, .nsl, .nsl, .nsl, .nsl, .nsl])]
def hBF17 : AH := AH.edit hBF16 980 [] []
def hBF18 : AH := AH.edit hBF17 982 [] []
def hBF19 : AH := AH.edit hBF18 984 [] []
def hBF20 : AH := AH.edit hBF19 986 [] []
def hBF21 : AH := AH.edit hBF20 988 [] []
def hBF22 : AH := AH.edit hBF21 990 [] []
def hBF23 : AH := AH.edit hBF22 992 [] []
def hBF24 : AH := AH.edit hBF23 994 [] []
def hBF25 : AH := AH.edit hBF24 996 [] []
def eBF0 : Entry := ⟨6, [], hBF0, .b true, hBF1⟩
def eBF1 : Entry := ⟨9, [P 127 0, .agg [I 2, I 1, I 0, I 0, I 0, W 0, .f .f64 0, .nsl]], hBF2, .tup [.agg [.f .f64 0, I 0, W 0], I 0], hBF3⟩
def eBF2 : Entry := ⟨9, [P 127 0, .agg [I 0, I 1, I 0, I 0, I 0, W 5, .f .f64 0, .nsl]], hBF4, .tup [.agg [.f .f64 0, I 0, W 0], I 0], hBF5⟩
def eBF3 : Entry := ⟨36, [P 127 0, I 1, I 0, I 0], hBF7, .b true, hBF8⟩
def eBF4 : Entry := ⟨36, [P 127 0, I 1, I 0, I 0], hBF8, .b true, hBF9⟩
def eBF5 : Entry := ⟨36, [P 127 0, I 1, I 2, I 0], hBF10, .b true, hBF11⟩
def eBF6 : Entry := ⟨9, [P 127 0, .agg [I 8, I 0, I 0, I 0, I 0, W 0, .f .f64 0, .nsl]], hBF6, .tup [.agg [.f .f64 0, I 0, W 0], I 0], hBF12⟩
def eBF7 : Entry := ⟨36, [P 127 0, I 0, I 1, I 0], hBF13, .b true, hBF14⟩
def eBF8 : Entry := ⟨9, [P 127 0, .agg [I 8, I 0, I 0, I 0, I 0, W 0, .f .f64 0, .nsl]], hBF12, .tup [.agg [.f .f64 0, I 0, W 0], I 0], hBF15⟩
def eBF9 : Entry := ⟨9, [P 127 0, .agg [I 8, I 0, I 0, I 0, I 0, W 0, .f .f64 0, .nsl]], hBF15, .tup [.agg [.f .f64 0, I 0, W 0], I 0], hBF16⟩
def eBF10 : Entry := ⟨9, [P 127 0, .agg [I 8, I 0, I 0, I 0, I 0, W 0, .f .f64 0, .nsl]], hBF16, .tup [.agg [.f .f64 0, I 0, W 0], I 0], hBF17⟩
def eBF11 : Entry := ⟨9, [P 127 0, .agg [I 8, I 0, I 0, I 0, I 0, W 0, .f .f64 0, .nsl]], hBF17, .tup [.agg [.f .f64 0, I 0, W 0], I 0], hBF18⟩
def eBF12 : Entry := ⟨9, [P 127 0, .agg [I 8, I 0, I 0, I 0, I 0, W 0, .f .f64 0, .nsl]], hBF18, .tup [.agg [.f .f64 0, I 0, W 0], I 0], hBF19⟩
def eBF13 : Entry := ⟨9, [P 127 0, .agg [I 8, I 0, I 0, I 0, I 0, W 0, .f .f64 0, .nsl]], hBF19, .tup [.agg [.f .f64 0, I 0, W 0], I 0], hBF20⟩
def eBF14 : Entry := ⟨9, [P 127 0, .agg [I 8, I 0, I 0, I 0, I 0, W 0, .f .f64 0, .nsl]], hBF20, .tup [.agg [.f .f64 0, I 0, W 0], I 0], hBF21⟩
def eBF15 : Entry := ⟨9, [P 127 0, .agg [I 8, I 0, I 0, I 0, I 0, W 0, .f .f64 0, .nsl]], hBF21, .tup [.agg [.f .f64 0, I 0, W 0], I 0], hBF22⟩
def eBF16 : Entry := ⟨9, [P 127 0, .agg [I 8, I 0, I 0, I 0, I 0, W 0, .f .f64 0, .nsl]], hBF22, .tup [.agg [.f .f64 0, I 0, W 0], I 0], hBF23⟩
def eBF17 : Entry := ⟨9, [P 127 0, .agg [I 8, I 0, I 0, I 0, I 0, W 0, .f .f64 0, .nsl]], hBF23, .tup [.agg [.f .f64 0, I 0, W 0], I 0], hBF24⟩
def eBF18 : Entry := ⟨9, [P 127 0, .agg [I 8, I 0, I 0, I 0, I 0, W 0, .f .f64 0, .nsl]], hBF24, .tup [.agg [.f .f64 0, I 0, W 0], I 0], hBF25⟩
def subBF : List Entry := [eBF3, eBF4, eBF5, eBF7]
def mainBF : List Entry := [eBF0, eBF1, eBF2, eBF6, eBF8, eBF9, eBF10, eBF11, eBF12, eBF13, eBF14, eBF15, eBF16, eBF17, eBF18]
def EBF : Env := withE (EG 3) [36] subBF
end
end Go.Proofs.YtkcogdalihcamaaGreatDoor
