/-
  The heaps before and behind the calls of this run.
-/
import Derived.Test.YtkcogdalihcamaaGreatDoorBLit
namespace Go.Proofs.YtkcogdalihcamaaGreatDoor
open Go.Av
set_option maxRecDepth 1000000
noncomputable section
def hRF10 : AH := AH.edit emptyH 0 [] []
def hRF11 : AH := AH.edit hRF10 122 [] []
def hRF12 : AH := AH.edit hRF11 251 [] [(122, C 8 [I 3, .imm [W 3, W 1] 2, I 2, I 3, I 2, I 8, I 64, I 1]),
  (126, C 1 [.nsl]),
  (127, C 11 [I 3, .imm [W 3, W 1] 2, I 2, I 3, I 2, I 8, I 64, I 1, P 126 0, O 249 0 3, O 250 0 3]),
  (132, C 3 [.f .f64 0, N 0, W 0, .f .f64 0, N 0, W 0]),
  (133, C 11 [I 3, .imm [W 3, W 1] 2, I 2, I 3, I 2, I 8, I 64, I 1, I 0, O 132 0 2, W 0]),
  (134, C 1 [W 3, W 1]),
  (135, C 1 [.nsl, .nsl, .nsl]),
  (136, C 17 [I 3, O 134 0 2, I 2, I 3, I 2, I 8, I 64, I 1, I 0, P 126 0, O 160 0 3, .ifc 110 (P 147 0), P 133 0, W 0, O 135 0 3, N 0, .nsl]),
  (139, C 1 [W 0, W 0, W 0]),
  (141, C 1 [W 0, W 0, W 0]),
  (143, C 1 [W 0, W 0, W 0]),
  (144, C 1 [O 139 0 3, O 141 0 3, O 143 0 3]),
  (146, C 1 [W 0, W 0, W 0]),
  (147, C 5 [I 3, I 0, I 3, O 144 0 3, O 146 0 3]),
  (149, C 5 [I 2, I 8, I 2, I 0, I 0]),
  (150, C 6 [I 2, I 3, P 149 0, .nsl, .nsl, W 0]),
  (151, .map []),
  (152, C 3 [W 2, W 1, .m (some 151)]),
  (153, C 2 [P 150 0, P 152 0]),
  (155, C 5 [I 2, I 8, I 2, I 0, I 0]),
  (156, C 6 [I 2, I 3, P 155 0, .nsl, .nsl, W 0]),
  (157, .map []),
  (158, C 3 [W 2, W 1, .m (some 157)]),
  (159, C 2 [P 156 0, P 158 0]),
  (160, C 1 [.p none, P 153 0, P 159 0]),
  (161, C 5 [.nsl, I 0, I 0, I 0, I 0]),
  (163, C 5 [.nsl, I 0, I 0, I 0, I 0]),
  (165, C 5 [.nsl, I 0, I 0, I 0, I 0]),
  (166, C 1 [P 161 0, P 163 0, P 165 0]),
  (173, C 3 [.f .f64 0, N 0, W 0, .f .f64 0, N 0, W 0]),
  (174, C 11 [I 3, .imm [W 3, W 1] 2, I 2, I 3, I 2, I 8, I 64, I 1, I 1, O 173 0 2, W 0]),
  (175, C 1 [W 3, W 1]),
  (176, C 1 [.nsl, .nsl, .nsl]),
  (177, C 17 [I 3, O 175 0 2, I 2, I 3, I 2, I 8, I 64, I 1, I 1, P 126 0, O 201 0 3, .ifc 110 (P 188 0), P 174 0, W 0, O 176 0 3, N 0, .nsl]),
  (180, C 1 [W 0, W 0, W 0]),
  (182, C 1 [W 0, W 0, W 0]),
  (184, C 1 [W 0, W 0, W 0]),
  (185, C 1 [O 180 0 3, O 182 0 3, O 184 0 3]),
  (187, C 1 [W 0, W 0, W 0]),
  (188, C 5 [I 3, I 1, I 3, O 185 0 3, O 187 0 3]),
  (189, C 5 [I 2, I 8, I 2, I 0, I 0]),
  (190, C 6 [I 2, I 3, P 189 0, .nsl, .nsl, W 0]),
  (191, .map []),
  (192, C 3 [W 2, W 1, .m (some 191)]),
  (193, C 2 [P 190 0, P 192 0]),
  (196, C 5 [I 2, I 8, I 2, I 0, I 0]),
  (197, C 6 [I 2, I 3, P 196 0, .nsl, .nsl, W 0]),
  (198, .map []),
  (199, C 3 [W 2, W 1, .m (some 198)]),
  (200, C 2 [P 197 0, P 199 0]),
  (201, C 1 [P 193 0, .p none, P 200 0]),
  (202, C 5 [.nsl, I 0, I 0, I 0, I 0]),
  (204, C 5 [.nsl, I 0, I 0, I 0, I 0]),
  (206, C 5 [.nsl, I 0, I 0, I 0, I 0]),
  (207, C 1 [P 202 0, P 204 0, P 206 0]),
  (214, C 3 [.f .f64 0, N 0, W 0, .f .f64 0, N 0, W 0]),
  (215, C 11 [I 3, .imm [W 3, W 1] 2, I 2, I 3, I 2, I 8, I 64, I 1, I 2, O 214 0 2, W 0]),
  (216, C 1 [W 3, W 1]),
  (217, C 1 [.nsl, .nsl, .nsl]),
  (218, C 17 [I 3, O 216 0 2, I 2, I 3, I 2, I 8, I 64, I 1, I 2, P 126 0, O 242 0 3, .ifc 110 (P 229 0), P 215 0, W 0, O 217 0 3, N 0, .nsl]),
  (221, C 1 [W 0, W 0, W 0]),
  (223, C 1 [W 0, W 0, W 0]),
  (225, C 1 [W 0, W 0, W 0]),
  (226, C 1 [O 221 0 3, O 223 0 3, O 225 0 3]),
  (228, C 1 [W 0, W 0, W 0]),
  (229, C 5 [I 3, I 2, I 3, O 226 0 3, O 228 0 3]),
  (230, C 5 [I 2, I 8, I 2, I 0, I 0]),
  (231, C 6 [I 2, I 3, P 230 0, .nsl, .nsl, W 0]),
  (232, .map []),
  (233, C 3 [W 2, W 1, .m (some 232)]),
  (234, C 2 [P 231 0, P 233 0]),
  (236, C 5 [I 2, I 8, I 2, I 0, I 0]),
  (237, C 6 [I 2, I 3, P 236 0, .nsl, .nsl, W 0]),
  (238, .map []),
  (239, C 3 [W 2, W 1, .m (some 238)]),
  (240, C 2 [P 237 0, P 239 0]),
  (242, C 1 [P 234 0, P 240 0, .p none]),
  (243, C 5 [.nsl, I 0, I 0, I 0, I 0]),
  (245, C 5 [.nsl, I 0, I 0, I 0, I 0]),
  (247, C 5 [.nsl, I 0, I 0, I 0, I 0]),
  (248, C 1 [P 243 0, P 245 0, P 247 0]),
  (249, C 1 [P 136 0, P 177 0, P 218 0]),
  (250, C 1 [O 166 0 3, O 207 0 3, O 248 0 3])]
def hRF13 : AH := AH.edit hRF12 321 [180, 182, 184, 185] [(126, C 1 [O 318 0 2]),
  (173, C 3 [.tok 6, I 1, W 1, .f .f64 0, N 0, W 0]),
  (174, C 11 [I 3, .imm [W 3, W 1] 2, I 2, I 3, I 2, I 8, I 64, I 1, I 1, O 173 0 2, W 1]),
  (177, C 17 [I 3, O 175 0 2, I 2, I 3, I 2, I 8, I 64, I 1, I 1, P 126 0, O 201 0 3, .ifc 110 (P 188 0), P 174 0, W 1, O 176 0 3, N 0, .nsl]),
  (188, C 5 [I 3, I 1, I 3, .imm [.imm [W 0, W 0, W 0] 3, .imm [W 1, W 0, W 0] 3, .imm [W 0, W 0, W 0] 3] 3, O 187 0 3]),
  (189, C 5 [I 2, I 8, I 2, I 2, I 0]),
  (190, C 6 [I 2, I 3, P 189 0, O 310 0 1, O 309 1 0, W 1]),
  (202, C 5 [O 320 0 1, I 1, I 0, I 0, I 0]),
  (309, C 1 [.imm [Y 1, Y 1, Y 1, Y 1, Y 0, .tok 27, .tok 26, .tok 25, .tok 24, .tok 23, .tok 22, .tok 21, .tok 20, Y 2, Y 1, Y 9, Y 0, Y 0, Y 0, Y 0, Y 0, Y 0, Y 0, Y 0, Y 0] 25]),
  (310, C 2 [W 1, .imm [Y 1, Y 1, Y 1, Y 1, Y 0, .tok 27, .tok 26, .tok 25, .tok 24, .tok 23, .tok 22, .tok 21, .tok 20, Y 2, Y 1, Y 9, Y 0, Y 0, Y 0, Y 0, Y 0, Y 0, Y 0, Y 0, Y 0] 25]),
  (318, C 9 [I 3, I 1, I 0, W 0, W 0, I 0, .tok 6, W 1, I 0, I 1, I 1, I 0, W 1, W 1, I 0, .f .f64 0, W 0, I 0]),
  (320, C 1 [.imm [Y 0, Y 1, Y 25, Y 1, Y 1, Y 1, Y 1, Y 0, .tok 27, .tok 26, .tok 25, .tok 24, .tok 23, .tok 22, .tok 21, .tok 20, Y 2, Y 1, Y 9, Y 0, Y 0, Y 0, Y 0, Y 0, Y 0, Y 0, Y 0, Y 0] 28])]
def hRF14 : AH := AH.edit hRF13 391 [309, 310, 318, 320] [(126, C 1 [O 388 0 4]),
  (177, C 17 [I 3, O 175 0 2, I 2, I 3, I 2, I 8, I 64, I 1, I 1, P 126 0, O 201 0 3, .ifc 110 (P 188 0), P 174 0, W 2, O 176 0 3, I 1, .nsl]),
  (188, C 5 [I 3, I 1, I 3, .imm [.imm [W 0, W 0, W 0] 3, .imm [W 2, W 0, W 0] 3, .imm [W 0, W 0, W 0] 3] 3, O 187 0 3]),
  (190, C 6 [I 2, I 3, P 189 0, O 380 0 2, O 379 1 0, W 2]),
  (202, C 5 [O 390 0 2, I 2, I 0, I 0, I 0]),
  (379, C 1 [.imm [Y 1, Y 2, Y 1, Y 2, Y 1, Y 9, Y 0, Y 0, Y 0, Y 1, Y 0, Y 0, Y 0, Y 0, Y 0] 15]),
  (380, C 2 [W 1, .imm [Y 1, Y 1, Y 1, Y 1, Y 0, .tok 27, .tok 26, .tok 25, .tok 24, .tok 23, .tok 22, .tok 21, .tok 20, Y 2, Y 1, Y 9, Y 0, Y 0, Y 0, Y 0, Y 0, Y 0, Y 0, Y 0, Y 0] 25, W 2, .imm [Y 1, Y 2, Y 1, Y 2, Y 1, Y 9, Y 0, Y 0, Y 0, Y 1, Y 0, Y 0, Y 0, Y 0, Y 0] 15]),
  (388, C 9 [I 3, I 1, I 0, W 0, W 0, I 0, .tok 6, W 1, I 0, I 1, I 1, I 0, W 1, W 1, I 0, .f .f64 0, W 0, I 0, I 4, I 1, I 0, W 0, W 0, I 1, .f .f64 0, W 0, I 0, I 1, I 1, I 0, W 2, W 1, I 0, .f .f64 0, W 0, I 0]),
  (390, C 1 [.imm [Y 0, Y 1, Y 25, Y 1, Y 1, Y 1, Y 1, Y 0, .tok 27, .tok 26, .tok 25, .tok 24, .tok 23, .tok 22, .tok 21, .tok 20, Y 2, Y 1, Y 9, Y 0, Y 0, Y 0, Y 0, Y 0, Y 0, Y 0, Y 0, Y 0] 28, .imm [Y 0, Y 2, Y 15, Y 1, Y 2, Y 1, Y 2, Y 1, Y 9, Y 0, Y 0, Y 0, Y 1, Y 0, Y 0, Y 0, Y 0, Y 0] 18])]
def hRF15 : AH := AH.edit hRF14 392 [] [(391, C 3 [.f .f64 0, I 0, W 0])]
def hRF16 : AH := AH.edit hRF15 420 [390] [(189, C 5 [I 2, I 8, I 8, I 6, I 2]),
  (202, C 5 [O 419 0 6, I 6, I 0, I 0, I 0]),
  (392, C 8 [I 8, I 0, I 0, I 0, I 0, W 0, .f .f64 0, .nsl]),
  (393, C 3 [.f .f64 0, I 0, W 0]),
  (419, C 1 [.imm [Y 0, Y 1, Y 25, Y 1, Y 1, Y 1, Y 1, Y 0, .tok 27, .tok 26, .tok 25, .tok 24, .tok 23, .tok 22, .tok 21, .tok 20, Y 2, Y 1, Y 9, Y 0, Y 0, Y 0, Y 0, Y 0, Y 0, Y 0, Y 0, Y 0] 28, .imm [Y 0, Y 2, Y 15, Y 1, Y 2, Y 1, Y 2, Y 1, Y 9, Y 0, Y 0, Y 0, Y 1, Y 0, Y 0, Y 0, Y 0, Y 0] 18, .imm [Y 0, Y 1, Y 25, Y 1, Y 1, Y 1, Y 1, Y 0, .tok 27, .tok 26, .tok 25, .tok 24, .tok 23, .tok 22, .tok 21, .tok 20, Y 2, Y 1, Y 9, Y 0, Y 0, Y 0, Y 0, Y 0, Y 0, Y 0, Y 0, Y 0] 28, .imm [Y 0, Y 2, Y 15, Y 1, Y 2, Y 1, Y 2, Y 1, Y 9, Y 0, Y 0, Y 0, Y 1, Y 0, Y 0, Y 0, Y 0, Y 0] 18, .imm [Y 0, Y 1, Y 25, Y 1, Y 1, Y 1, Y 1, Y 0, .tok 27, .tok 26, .tok 25, .tok 24, .tok 23, .tok 22, .tok 21, .tok 20, Y 2, Y 1, Y 9, Y 0, Y 0, Y 0, Y 0, Y 0, Y 0, Y 0, Y 0, Y 0] 28, .imm [Y 0, Y 2, Y 15, Y 1, Y 2, Y 1, Y 2, Y 1, Y 9, Y 0, Y 0, Y 0, Y 1, Y 0, Y 0, Y 0, Y 0, Y 0] 18])]
def hRF17 : AH := AH.edit hRF16 479 [139, 141, 143, 144, 146, 388] [(126, C 1 [O 471 0 5]),
  (132, C 3 [.tok 6, I 1, W 1, .f .f64 0, N 0, W 0]),
  (135, C 1 [.nsl, O 426 10 0, .nsl]),
  (147, C 5 [I 3, I 0, I 3, .imm [.imm [W 0, W 0, W 0] 3, .imm [W 1, W 0, W 0] 3, .imm [W 0, W 0, W 0] 3] 3, .imm [W 0, W 1, W 0] 3]),
  (152, C 3 [W 2, W 2, .m (some 151)]),
  (163, C 5 [O 478 0 1, I 1, I 0, I 0, I 0]),
  (202, C 5 [O 419 0 5, I 6, I 1, I 0, I 0]),
  (419, C 1 [.imm [Y 0, Y 2, Y 15, Y 1, Y 2, Y 1, Y 2, Y 1, Y 9, Y 0, Y 0, Y 0, Y 1, Y 0, Y 0, Y 0, Y 0, Y 0] 18, .imm [Y 0, Y 1, Y 25, Y 1, Y 1, Y 1, Y 1, Y 0, .tok 27, .tok 26, .tok 25, .tok 24, .tok 23, .tok 22, .tok 21, .tok 20, Y 2, Y 1, Y 9, Y 0, Y 0, Y 0, Y 0, Y 0, Y 0, Y 0, Y 0, Y 0] 28, .imm [Y 0, Y 2, Y 15, Y 1, Y 2, Y 1, Y 2, Y 1, Y 9, Y 0, Y 0, Y 0, Y 1, Y 0, Y 0, Y 0, Y 0, Y 0] 18, .imm [Y 0, Y 1, Y 25, Y 1, Y 1, Y 1, Y 1, Y 0, .tok 27, .tok 26, .tok 25, .tok 24, .tok 23, .tok 22, .tok 21, .tok 20, Y 2, Y 1, Y 9, Y 0, Y 0, Y 0, Y 0, Y 0, Y 0, Y 0, Y 0, Y 0] 28, .imm [Y 0, Y 2, Y 15, Y 1, Y 2, Y 1, Y 2, Y 1, Y 9, Y 0, Y 0, Y 0, Y 1, Y 0, Y 0, Y 0, Y 0, Y 0] 18, .nsl]),
  (426, C 10 [I 1, W 1, W 1, I 1, I 0, .tok 6, I 1, W 1, .nsl, .imm [Y 0, Y 0, Y 0, Y 0, Y 0, Y 0, Y 0, Y 0, Y 0] 9]),
  (471, C 9 [I 3, I 1, I 0, W 0, W 0, I 0, .tok 6, W 1, I 0, I 1, I 1, I 0, W 1, W 1, I 0, .f .f64 0, W 0, I 0, I 4, I 1, I 0, W 0, W 0, I 1, .f .f64 0, W 0, I 0, I 1, I 1, I 0, W 2, W 1, I 0, .f .f64 0, W 0, I 0, I 2, I 0, I 1, W 1, W 0, I 0, .f .f64 0, W 0, I 0]),
  (478, C 1 [.imm [Y 1, Y 1] 2])]
def hRF18 : AH := AH.edit hRF17 600 [426, 471, 478] [(126, C 1 [O 589 0 7]),
  (135, C 1 [.nsl, O 485 10 0, .nsl]),
  (136, C 17 [I 3, O 134 0 2, I 2, I 3, I 2, I 8, I 64, I 1, I 0, P 126 0, O 160 0 3, .ifc 110 (P 147 0), P 133 0, W 1, O 135 0 3, N 0, .nsl]),
  (147, C 5 [I 3, I 0, I 3, .imm [.imm [W 0, W 1, W 0] 3, .imm [W 2, W 0, W 0] 3, .imm [W 0, W 0, W 0] 3] 3, .imm [W 0, W 2, W 0] 3]),
  (149, C 5 [I 2, I 8, I 2, I 2, I 0]),
  (150, C 6 [I 2, I 3, P 149 0, O 581 0 1, O 580 1 0, W 1]),
  (152, C 3 [W 2, W 3, .m (some 151)]),
  (163, C 5 [O 599 0 3, I 3, I 0, I 0, I 0]),
  (202, C 5 [O 419 0 4, I 6, I 2, I 0, I 0]),
  (419, C 1 [.imm [Y 0, Y 1, Y 25, Y 1, Y 1, Y 1, Y 1, Y 0, .tok 27, .tok 26, .tok 25, .tok 24, .tok 23, .tok 22, .tok 21, .tok 20, Y 2, Y 1, Y 9, Y 0, Y 0, Y 0, Y 0, Y 0, Y 0, Y 0, Y 0, Y 0] 28, .imm [Y 0, Y 2, Y 15, Y 1, Y 2, Y 1, Y 2, Y 1, Y 9, Y 0, Y 0, Y 0, Y 1, Y 0, Y 0, Y 0, Y 0, Y 0] 18, .imm [Y 0, Y 1, Y 25, Y 1, Y 1, Y 1, Y 1, Y 0, .tok 27, .tok 26, .tok 25, .tok 24, .tok 23, .tok 22, .tok 21, .tok 20, Y 2, Y 1, Y 9, Y 0, Y 0, Y 0, Y 0, Y 0, Y 0, Y 0, Y 0, Y 0] 28, .imm [Y 0, Y 2, Y 15, Y 1, Y 2, Y 1, Y 2, Y 1, Y 9, Y 0, Y 0, Y 0, Y 1, Y 0, Y 0, Y 0, Y 0, Y 0] 18, .nsl, .nsl]),
  (485, C 10 [I 1, W 2, W 1, I 2, I 1, .f .f64 0, I 0, W 0, .nsl, .imm [Y 0, Y 0, Y 0, Y 1, Y 0, Y 0, Y 0, Y 0, Y 0] 9]),
  (580, C 1 [.imm [Y 0, Y 1, Y 2, Y 3, Y 1, Y 128, Y 0, Y 0, Y 0, Y 0, Y 0, Y 0, Y 0, Y 0, Y 0, Y 9, Y 0, Y 0, Y 0, Y 2, Y 0, Y 0, Y 0, Y 0, Y 0] 25]),
  (581, C 2 [W 1, .imm [Y 0, Y 1, Y 2, Y 3, Y 1, Y 128, Y 0, Y 0, Y 0, Y 0, Y 0, Y 0, Y 0, Y 0, Y 0, Y 9, Y 0, Y 0, Y 0, Y 2, Y 0, Y 0, Y 0, Y 0, Y 0] 25]),
  (589, C 9 [I 3, I 1, I 0, W 0, W 0, I 0, .tok 6, W 1, I 0, I 1, I 1, I 0, W 1, W 1, I 0, .f .f64 0, W 0, I 0, I 4, I 1, I 0, W 0, W 0, I 1, .f .f64 0, W 0, I 0, I 1, I 1, I 0, W 2, W 1, I 0, .f .f64 0, W 0, I 0, I 2, I 0, I 1, W 1, W 0, I 0, .f .f64 0, W 0, I 0, I 2, I 0, I 1, W 2, W 0, I 0, .f .f64 0, W 0, I 0, I 1, I 0, I 0, W 1, W 2, I 0, .f .f64 0, W 0, I 0]),
  (599, C 1 [.imm [Y 1, Y 1] 2, .imm [Y 1, Y 2] 2, .imm [Y 0, Y 1, Y 25, Y 0, Y 1, Y 2, Y 3, Y 1, Y 128, Y 0, Y 0, Y 0, Y 0, Y 0, Y 0, Y 0, Y 0, Y 0, Y 9, Y 0, Y 0, Y 0, Y 2, Y 0, Y 0, Y 0, Y 0, Y 0] 28])]
def hRF19 : AH := AH.edit hRF18 632 [392, 393, 599] [(163, C 5 [O 631 0 7, I 7, I 0, I 0, I 0]),
  (202, C 5 [O 419 0 0, I 6, I 6, I 0, I 0]),
  (419, C 1 [.nsl, .nsl, .nsl, .nsl, .nsl, .nsl]),
  (631, C 1 [.imm [Y 1, Y 1] 2, .imm [Y 1, Y 2] 2, .imm [Y 0, Y 1, Y 25, Y 0, Y 1, Y 2, Y 3, Y 1, Y 128, Y 0, Y 0, Y 0, Y 0, Y 0, Y 0, Y 0, Y 0, Y 0, Y 9, Y 0, Y 0, Y 0, Y 2, Y 0, Y 0, Y 0, Y 0, Y 0] 28, .imm [Y 1, Y 2] 2, .imm [Y 1, Y 2] 2, .imm [Y 1, Y 2] 2, .imm [Y 1, Y 2] 2])]
def hRF110 : AH := AH.edit hRF19 675 [631] [(149, C 5 [I 2, I 8, I 8, I 6, I 2]),
  (163, C 5 [O 647 0 7, I 9, I 2, I 0, I 0]),
  (189, C 5 [I 2, I 8, I 2, I 0, I 3]),
  (190, C 6 [I 2, I 3, P 189 0, O 380 0 0, O 379 1 0, W 2]),
  (202, C 5 [O 419 0 2, I 8, I 6, I 0, I 0]),
  (380, C 2 [W 0, .nsl, W 0, .nsl]),
  (419, C 1 [.imm [Y 0, Y 1, Y 25, Y 1, Y 1, Y 1, Y 1, Y 0, .tok 27, .tok 26, .tok 25, .tok 24, .tok 23, .tok 22, .tok 21, .tok 20, Y 2, Y 1, Y 9, Y 0, Y 0, Y 0, Y 0, Y 0, Y 0, Y 0, Y 0, Y 0] 28, .imm [Y 0, Y 2, Y 15, Y 1, Y 2, Y 1, Y 2, Y 1, Y 9, Y 0, Y 0, Y 0, Y 1, Y 0, Y 0, Y 0, Y 0, Y 0] 18, .nsl, .nsl, .nsl, .nsl]),
  (632, C 8 [I 8, I 0, I 0, I 0, I 0, W 0, .f .f64 0, .nsl]),
  (633, C 3 [.f .f64 0, I 0, W 0]),
  (647, C 1 [.imm [Y 0, Y 1, Y 25, Y 0, Y 1, Y 2, Y 3, Y 1, Y 128, Y 0, Y 0, Y 0, Y 0, Y 0, Y 0, Y 0, Y 0, Y 0, Y 9, Y 0, Y 0, Y 0, Y 2, Y 0, Y 0, Y 0, Y 0, Y 0] 28, .imm [Y 1, Y 2] 2, .imm [Y 1, Y 2] 2, .imm [Y 1, Y 2] 2, .imm [Y 1, Y 2] 2, .imm [Y 0, Y 1, Y 25, Y 0, Y 1, Y 2, Y 3, Y 1, Y 128, Y 0, Y 0, Y 0, Y 0, Y 0, Y 0, Y 0, Y 0, Y 0, Y 9, Y 0, Y 0, Y 0, Y 2, Y 0, Y 0, Y 0, Y 0, Y 0] 28, .imm [Y 0, Y 1, Y 25, Y 0, Y 1, Y 2, Y 3, Y 1, Y 128, Y 0, Y 0, Y 0, Y 0, Y 0, Y 0, Y 0, Y 0, Y 0, Y 9, Y 0, Y 0, Y 0, Y 2, Y 0, Y 0, Y 0, Y 0, Y 0] 28, .nsl, .nsl])]
def hRF111 : AH := AH.edit hRF110 736 [187, 589] [(126, C 1 [O 730 0 9]),
  (163, C 5 [O 647 0 6, I 9, I 3, I 0, I 0]),
  (176, C 1 [O 681 10 0, .nsl, .nsl]),
  (177, C 17 [I 3, O 175 0 2, I 2, I 3, I 2, I 8, I 64, I 1, I 1, P 126 0, O 201 0 3, .ifc 110 (P 188 0), P 174 0, W 2, O 176 0 3, N 0, .nsl]),
  (188, C 5 [I 3, I 1, I 3, .imm [.imm [W 0, W 1, W 0] 3, .imm [W 2, W 0, W 0] 3, .imm [W 0, W 0, W 0] 3] 3, .imm [W 1, W 0, W 0] 3]),
  (192, C 3 [W 2, W 2, .m (some 191)]),
  (202, C 5 [O 419 0 3, I 9, I 6, I 0, I 0]),
  (419, C 1 [.imm [Y 0, Y 1, Y 25, Y 1, Y 1, Y 1, Y 1, Y 0, .tok 27, .tok 26, .tok 25, .tok 24, .tok 23, .tok 22, .tok 21, .tok 20, Y 2, Y 1, Y 9, Y 0, Y 0, Y 0, Y 0, Y 0, Y 0, Y 0, Y 0, Y 0] 28, .imm [Y 0, Y 2, Y 15, Y 1, Y 2, Y 1, Y 2, Y 1, Y 9, Y 0, Y 0, Y 0, Y 1, Y 0, Y 0, Y 0, Y 0, Y 0] 18, .imm [Y 1, Y 1] 2, .nsl, .nsl, .nsl]),
  (647, C 1 [.imm [Y 1, Y 2] 2, .imm [Y 1, Y 2] 2, .imm [Y 1, Y 2] 2, .imm [Y 1, Y 2] 2, .imm [Y 0, Y 1, Y 25, Y 0, Y 1, Y 2, Y 3, Y 1, Y 128, Y 0, Y 0, Y 0, Y 0, Y 0, Y 0, Y 0, Y 0, Y 0, Y 9, Y 0, Y 0, Y 0, Y 2, Y 0, Y 0, Y 0, Y 0, Y 0] 28, .imm [Y 0, Y 1, Y 25, Y 0, Y 1, Y 2, Y 3, Y 1, Y 128, Y 0, Y 0, Y 0, Y 0, Y 0, Y 0, Y 0, Y 0, Y 0, Y 9, Y 0, Y 0, Y 0, Y 2, Y 0, Y 0, Y 0, Y 0, Y 0] 28, .nsl, .nsl, .nsl]),
  (681, C 10 [I 0, W 1, W 2, I 3, I 1, .f .f64 0, N 0, W 0, .nsl, .imm [Y 0, Y 0, Y 0, Y 2, Y 0, Y 0, Y 0, Y 0, Y 0] 9]),
  (730, C 9 [I 3, I 1, I 0, W 0, W 0, I 0, .tok 6, W 1, I 0, I 1, I 1, I 0, W 1, W 1, I 0, .f .f64 0, W 0, I 0, I 4, I 1, I 0, W 0, W 0, I 1, .f .f64 0, W 0, I 0, I 1, I 1, I 0, W 2, W 1, I 0, .f .f64 0, W 0, I 0, I 2, I 0, I 1, W 1, W 0, I 0, .f .f64 0, W 0, I 0, I 2, I 0, I 1, W 2, W 0, I 0, .f .f64 0, W 0, I 0, I 1, I 0, I 0, W 1, W 2, I 0, .f .f64 0, W 0, I 0, I 2, I 1, I 0, W 1, W 0, I 0, .f .f64 0, W 0, I 0, I 5, I 1, N 0, W 0, W 0, I 1, .f .f64 0, W 0, I 0])]
def hRF112 : AH := AH.edit hRF111 807 [632, 633] [(149, C 5 [I 2, I 8, I 2, I 0, I 2]),
  (150, C 6 [I 2, I 3, P 149 0, O 581 0 0, O 580 1 0, W 1]),
  (163, C 5 [O 647 0 2, I 11, I 9, I 0, I 0]),
  (202, C 5 [O 419 0 0, I 11, I 11, I 0, I 0]),
  (419, C 1 [.nsl, .nsl, .nsl, .nsl, .nsl, .nsl]),
  (581, C 2 [W 0, .nsl]),
  (647, C 1 [.imm [Y 1, Y 2] 2, .imm [Y 1, Y 2] 2, .nsl, .nsl, .nsl, .nsl, .nsl, .nsl, .nsl])]
def hRF113 : AH := AH.edit hRF112 821 [] [(163, C 5 [O 647 0 0, I 11, I 11, I 0, I 0]),
  (647, C 1 [.nsl, .nsl, .nsl, .nsl, .nsl, .nsl, .nsl, .nsl, .nsl])]
def hRF114 : AH := AH.edit hRF113 823 [] []
def hRF115 : AH := AH.edit hRF114 825 [] []
def hRF116 : AH := AH.edit hRF115 827 [] []
def hRF117 : AH := AH.edit hRF116 829 [] []
def hRF118 : AH := AH.edit hRF117 831 [] []
def hRF119 : AH := AH.edit hRF118 833 [] []
def hRF120 : AH := AH.edit hRF119 835 [] []
def hRF121 : AH := AH.edit hRF120 837 [] []
def hRF122 : AH := AH.edit hRF121 839 [] []
def hRF123 : AH := AH.edit hRF122 841 [] []
def hRF124 : AH := AH.edit hRF123 843 [] []
def hRF125 : AH := AH.edit hRF124 845 [] []
def hRF126 : AH := AH.edit hRF125 847 [] []
def eRF10 : Entry := ⟨6, [], hRF10, .b true, hRF11⟩
def eRF11 : Entry := ⟨9, [P 127 0, .agg [I 1, I 1, I 0, I 0, I 0, W 0, .tok 0, .nsl]], hRF12, .tup [.agg [.f .f64 0, I 0, W 0], I 0], hRF13⟩
def eRF12 : Entry := ⟨9, [P 127 0, .agg [I 2, I 1, I 0, I 0, I 1, W 0, .f .f64 0, .nsl]], hRF13, .tup [.agg [.f .f64 0, I 0, W 0], I 0], hRF14⟩
def eRF13 : Entry := ⟨36, [P 127 0, I 1, I 0, I 0], hRF16, .b true, hRF17⟩
def eRF14 : Entry := ⟨36, [P 127 0, I 1, I 0, I 0], hRF17, .b true, hRF18⟩
def eRF15 : Entry := ⟨9, [P 127 0, .agg [I 8, I 0, I 0, I 0, I 0, W 0, .f .f64 0, .nsl]], hRF15, .tup [.agg [.f .f64 0, I 0, W 0], I 0], hRF19⟩
def eRF16 : Entry := ⟨36, [P 127 0, I 0, I 1, I 0], hRF110, .b true, hRF111⟩
def eRF17 : Entry := ⟨9, [P 127 0, .agg [I 8, I 0, I 0, I 0, I 0, W 0, .f .f64 0, .nsl]], hRF19, .tup [.agg [.f .f64 0, I 0, W 0], I 0], hRF112⟩
def eRF18 : Entry := ⟨9, [P 127 0, .agg [I 8, I 0, I 0, I 0, I 0, W 0, .f .f64 0, .nsl]], hRF112, .tup [.agg [.f .f64 0, I 0, W 0], I 0], hRF113⟩
def eRF19 : Entry := ⟨9, [P 127 0, .agg [I 8, I 0, I 0, I 0, I 0, W 0, .f .f64 0, .nsl]], hRF113, .tup [.agg [.f .f64 0, I 0, W 0], I 0], hRF114⟩
def eRF110 : Entry := ⟨9, [P 127 0, .agg [I 8, I 0, I 0, I 0, I 0, W 0, .f .f64 0, .nsl]], hRF114, .tup [.agg [.f .f64 0, I 0, W 0], I 0], hRF115⟩
def eRF111 : Entry := ⟨9, [P 127 0, .agg [I 8, I 0, I 0, I 0, I 0, W 0, .f .f64 0, .nsl]], hRF115, .tup [.agg [.f .f64 0, I 0, W 0], I 0], hRF116⟩
def eRF112 : Entry := ⟨9, [P 127 0, .agg [I 8, I 0, I 0, I 0, I 0, W 0, .f .f64 0, .nsl]], hRF116, .tup [.agg [.f .f64 0, I 0, W 0], I 0], hRF117⟩
def eRF113 : Entry := ⟨9, [P 127 0, .agg [I 8, I 0, I 0, I 0, I 0, W 0, .f .f64 0, .nsl]], hRF117, .tup [.agg [.f .f64 0, I 0, W 0], I 0], hRF118⟩
def eRF114 : Entry := ⟨9, [P 127 0, .agg [I 8, I 0, I 0, I 0, I 0, W 0, .f .f64 0, .nsl]], hRF118, .tup [.agg [.f .f64 0, I 0, W 0], I 0], hRF119⟩
def eRF115 : Entry := ⟨9, [P 127 0, .agg [I 8, I 0, I 0, I 0, I 0, W 0, .f .f64 0, .nsl]], hRF119, .tup [.agg [.f .f64 0, I 0, W 0], I 0], hRF120⟩
def eRF116 : Entry := ⟨9, [P 127 0, .agg [I 8, I 0, I 0, I 0, I 0, W 0, .f .f64 0, .nsl]], hRF120, .tup [.agg [.f .f64 0, I 0, W 0], I 0], hRF121⟩
def eRF117 : Entry := ⟨9, [P 127 0, .agg [I 8, I 0, I 0, I 0, I 0, W 0, .f .f64 0, .nsl]], hRF121, .tup [.agg [.f .f64 0, I 0, W 0], I 0], hRF122⟩
def eRF118 : Entry := ⟨9, [P 127 0, .agg [I 8, I 0, I 0, I 0, I 0, W 0, .f .f64 0, .nsl]], hRF122, .tup [.agg [.f .f64 0, I 0, W 0], I 0], hRF123⟩
def eRF119 : Entry := ⟨9, [P 127 0, .agg [I 8, I 0, I 0, I 0, I 0, W 0, .f .f64 0, .nsl]], hRF123, .tup [.agg [.f .f64 0, I 0, W 0], I 0], hRF124⟩
def eRF120 : Entry := ⟨9, [P 127 0, .agg [I 8, I 0, I 0, I 0, I 0, W 0, .f .f64 0, .nsl]], hRF124, .tup [.agg [.f .f64 0, I 0, W 0], I 0], hRF125⟩
def eRF121 : Entry := ⟨9, [P 127 0, .agg [I 8, I 0, I 0, I 0, I 0, W 0, .f .f64 0, .nsl]], hRF125, .tup [.agg [.f .f64 0, I 0, W 0], I 0], hRF126⟩
def subRF1 : List Entry := [eRF13, eRF14, eRF16]
def mainRF1 : List Entry := [eRF10, eRF11, eRF12, eRF15, eRF17, eRF18, eRF19, eRF110, eRF111, eRF112, eRF113, eRF114, eRF115, eRF116, eRF117, eRF118, eRF119, eRF120, eRF121]
def ERF1 : Env := withE (EG 3) [36] subRF1
end
end Go.Proofs.YtkcogdalihcamaaGreatDoor
