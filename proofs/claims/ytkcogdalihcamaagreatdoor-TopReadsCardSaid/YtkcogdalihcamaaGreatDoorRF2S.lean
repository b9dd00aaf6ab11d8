/-
  The heaps before and behind the calls of this run.
-/
import Derived.Test.YtkcogdalihcamaaGreatDoorBLit
namespace Go.Proofs.YtkcogdalihcamaaGreatDoor
open Go.Av
set_option maxRecDepth 1000000
noncomputable section
def hRF20 : AH := AH.edit emptyH 0 [] []
def hRF21 : AH := AH.edit hRF20 122 [] []
def hRF22 : AH := AH.edit hRF21 251 [] [(122, C 8 [I 3, .imm [W 3, W 1] 2, I 2, I 3, I 2, I 8, I 64, I 1]),
  (126, C 1 [.nsl]),
  (127, C 11 [I 3, .imm [W 3, W 1] 2, I 2, I 3, I 2, I 8, I 64, I 1, P 126 0, O 249 0 3, O 250 0 3]),
  (132, C 3 [.f .f64 0, N 0, W 0, .f .f64 0, N 0, W 0]),
  (133, C 11 [I 3, .imm [W 3, W 1] 2, I 2, I 3, I 2, I 8, I 64, I 1, I 0, O 132 0 2, W 0]),
  (134, C 1 [W 3, W 1]),
  (135, C 1 [.nsl, .nsl, .nsl]),
  (136, C 17 [I 3, O 134 0 2, I 2, I 3, I 2, I 8, I 64, I 1, I 0, P 126 0, O 160 0 3, .ifc 110 (P 147 0), P 133 0, W 0, O 135 0 3, N 0, .nsl]),
  (139, C 1 [W 0, W 0, W 0]),
  (141, C 1 [W 0, W 0, W 0]),
  (143, C 1 [W 0, W 0, W 0]),
  (144, C 1 [O 139 0 3, O 141 0 3, O 143 0 3]),
  (146, C 1 [W 0, W 0, W 0]),
  (147, C 5 [I 3, I 0, I 3, O 144 0 3, O 146 0 3]),
  (149, C 5 [I 2, I 8, I 2, I 0, I 0]),
  (150, C 6 [I 2, I 3, P 149 0, .nsl, .nsl, W 0]),
  (151, .map []),
  (152, C 3 [W 2, W 1, .m (some 151)]),
  (153, C 2 [P 150 0, P 152 0]),
  (155, C 5 [I 2, I 8, I 2, I 0, I 0]),
  (156, C 6 [I 2, I 3, P 155 0, .nsl, .nsl, W 0]),
  (157, .map []),
  (158, C 3 [W 2, W 1, .m (some 157)]),
  (159, C 2 [P 156 0, P 158 0]),
  (160, C 1 [.p none, P 153 0, P 159 0]),
  (161, C 5 [.nsl, I 0, I 0, I 0, I 0]),
  (163, C 5 [.nsl, I 0, I 0, I 0, I 0]),
  (165, C 5 [.nsl, I 0, I 0, I 0, I 0]),
  (166, C 1 [P 161 0, P 163 0, P 165 0]),
  (173, C 3 [.f .f64 0, N 0, W 0, .f .f64 0, N 0, W 0]),
  (174, C 11 [I 3, .imm [W 3, W 1] 2, I 2, I 3, I 2, I 8, I 64, I 1, I 1, O 173 0 2, W 0]),
  (175, C 1 [W 3, W 1]),
  (176, C 1 [.nsl, .nsl, .nsl]),
  (177, C 17 [I 3, O 175 0 2, I 2, I 3, I 2, I 8, I 64, I 1, I 1, P 126 0, O 201 0 3, .ifc 110 (P 188 0), P 174 0, W 0, O 176 0 3, N 0, .nsl]),
  (180, C 1 [W 0, W 0, W 0]),
  (182, C 1 [W 0, W 0, W 0]),
  (184, C 1 [W 0, W 0, W 0]),
  (185, C 1 [O 180 0 3, O 182 0 3, O 184 0 3]),
  (187, C 1 [W 0, W 0, W 0]),
  (188, C 5 [I 3, I 1, I 3, O 185 0 3, O 187 0 3]),
  (189, C 5 [I 2, I 8, I 2, I 0, I 0]),
  (190, C 6 [I 2, I 3, P 189 0, .nsl, .nsl, W 0]),
  (191, .map []),
  (192, C 3 [W 2, W 1, .m (some 191)]),
  (193, C 2 [P 190 0, P 192 0]),
  (196, C 5 [I 2, I 8, I 2, I 0, I 0]),
  (197, C 6 [I 2, I 3, P 196 0, .nsl, .nsl, W 0]),
  (198, .map []),
  (199, C 3 [W 2, W 1, .m (some 198)]),
  (200, C 2 [P 197 0, P 199 0]),
  (201, C 1 [P 193 0, .p none, P 200 0]),
  (202, C 5 [.nsl, I 0, I 0, I 0, I 0]),
  (204, C 5 [.nsl, I 0, I 0, I 0, I 0]),
  (206, C 5 [.nsl, I 0, I 0, I 0, I 0]),
  (207, C 1 [P 202 0, P 204 0, P 206 0]),
  (214, C 3 [.f .f64 0, N 0, W 0, .f .f64 0, N 0, W 0]),
  (215, C 11 [I 3, .imm [W 3, W 1] 2, I 2, I 3, I 2, I 8, I 64, I 1, I 2, O 214 0 2, W 0]),
  (216, C 1 [W 3, W 1]),
  (217, C 1 [.nsl, .nsl, .nsl]),
  (218, C 17 [I 3, O 216 0 2, I 2, I 3, I 2, I 8, I 64, I 1, I 2, P 126 0, O 242 0 3, .ifc 110 (P 229 0), P 215 0, W 0, O 217 0 3, N 0, .nsl]),
  (221, C 1 [W 0, W 0, W 0]),
  (223, C 1 [W 0, W 0, W 0]),
  (225, C 1 [W 0, W 0, W 0]),
  (226, C 1 [O 221 0 3, O 223 0 3, O 225 0 3]),
  (228, C 1 [W 0, W 0, W 0]),
  (229, C 5 [I 3, I 2, I 3, O 226 0 3, O 228 0 3]),
  (230, C 5 [I 2, I 8, I 2, I 0, I 0]),
  (231, C 6 [I 2, I 3, P 230 0, .nsl, .nsl, W 0]),
  (232, .map []),
  (233, C 3 [W 2, W 1, .m (some 232)]),
  (234, C 2 [P 231 0, P 233 0]),
  (236, C 5 [I 2, I 8, I 2, I 0, I 0]),
  (237, C 6 [I 2, I 3, P 236 0, .nsl, .nsl, W 0]),
  (238, .map []),
  (239, C 3 [W 2, W 1, .m (some 238)]),
  (240, C 2 [P 237 0, P 239 0]),
  (242, C 1 [P 234 0, P 240 0, .p none]),
  (243, C 5 [.nsl, I 0, I 0, I 0, I 0]),
  (245, C 5 [.nsl, I 0, I 0, I 0, I 0]),
  (247, C 5 [.nsl, I 0, I 0, I 0, I 0]),
  (248, C 1 [P 243 0, P 245 0, P 247 0]),
  (249, C 1 [P 136 0, P 177 0, P 218 0]),
  (250, C 1 [O 166 0 3, O 207 0 3, O 248 0 3])]
def hRF23 : AH := AH.edit hRF22 321 [180, 182, 184, 185] [(126, C 1 [O 318 0 2]),
  (173, C 3 [.tok 6, I 1, W 1, .f .f64 0, N 0, W 0]),
  (174, C 11 [I 3, .imm [W 3, W 1] 2, I 2, I 3, I 2, I 8, I 64, I 1, I 1, O 173 0 2, W 1]),
  (177, C 17 [I 3, O 175 0 2, I 2, I 3, I 2, I 8, I 64, I 1, I 1, P 126 0, O 201 0 3, .ifc 110 (P 188 0), P 174 0, W 1, O 176 0 3, N 0, .nsl]),
  (188, C 5 [I 3, I 1, I 3, .imm [.imm [W 0, W 0, W 0] 3, .imm [W 1, W 0, W 0] 3, .imm [W 0, W 0, W 0] 3] 3, O 187 0 3]),
  (189, C 5 [I 2, I 8, I 2, I 2, I 0]),
  (190, C 6 [I 2, I 3, P 189 0, O 310 0 1, O 309 1 0, W 1]),
  (202, C 5 [O 320 0 1, I 1, I 0, I 0, I 0]),
  (309, C 1 [.imm [Y 1, Y 1, Y 1, Y 1, Y 0, .tok 27, .tok 26, .tok 25, .tok 24, .tok 23, .tok 22, .tok 21, .tok 20, Y 2, Y 1, Y 9, Y 0, Y 0, Y 0, Y 0, Y 0, Y 0, Y 0, Y 0, Y 0] 25]),
  (310, C 2 [W 1, .imm [Y 1, Y 1, Y 1, Y 1, Y 0, .tok 27, .tok 26, .tok 25, .tok 24, .tok 23, .tok 22, .tok 21, .tok 20, Y 2, Y 1, Y 9, Y 0, Y 0, Y 0, Y 0, Y 0, Y 0, Y 0, Y 0, Y 0] 25]),
  (318, C 9 [I 3, I 1, I 0, W 0, W 0, I 0, .tok 6, W 1, I 0, I 1, I 1, I 0, W 1, W 1, I 0, .f .f64 0, W 0, I 0]),
  (320, C 1 [.imm [Y 0, Y 1, Y 25, Y 1, Y 1, Y 1, Y 1, Y 0, .tok 27, .tok 26, .tok 25, .tok 24, .tok 23, .tok 22, .tok 21, .tok 20, Y 2, Y 1, Y 9, Y 0, Y 0, Y 0, Y 0, Y 0, Y 0, Y 0, Y 0, Y 0] 28])]
def hRF24 : AH := AH.edit hRF23 391 [309, 310, 318, 320] [(126, C 1 [O 388 0 4]),
  (173, C 3 [.tok 106, I 1, W 2, .f .f64 0, N 0, W 0]),
  (174, C 11 [I 3, .imm [W 3, W 1] 2, I 2, I 3, I 2, I 8, I 64, I 1, I 1, O 173 0 2, W 2]),
  (177, C 17 [I 3, O 175 0 2, I 2, I 3, I 2, I 8, I 64, I 1, I 1, P 126 0, O 201 0 3, .ifc 110 (P 188 0), P 174 0, W 2, O 176 0 3, N 0, .nsl]),
  (188, C 5 [I 3, I 1, I 3, .imm [.imm [W 0, W 0, W 0] 3, .imm [W 2, W 0, W 0] 3, .imm [W 0, W 0, W 0] 3] 3, O 187 0 3]),
  (190, C 6 [I 2, I 3, P 189 0, O 380 0 2, O 379 1 0, W 2]),
  (202, C 5 [O 390 0 2, I 2, I 0, I 0, I 0]),
  (379, C 1 [.imm [Y 1, Y 2, Y 1, Y 1, Y 0, .tok 127, .tok 126, .tok 125, .tok 124, .tok 123, .tok 122, .tok 121, .tok 120, Y 2, Y 2, Y 9, Y 0, Y 0, Y 0, Y 1, Y 0, Y 0, Y 0, Y 0, Y 0] 25]),
  (380, C 2 [W 1, .imm [Y 1, Y 1, Y 1, Y 1, Y 0, .tok 27, .tok 26, .tok 25, .tok 24, .tok 23, .tok 22, .tok 21, .tok 20, Y 2, Y 1, Y 9, Y 0, Y 0, Y 0, Y 0, Y 0, Y 0, Y 0, Y 0, Y 0] 25, W 2, .imm [Y 1, Y 2, Y 1, Y 1, Y 0, .tok 127, .tok 126, .tok 125, .tok 124, .tok 123, .tok 122, .tok 121, .tok 120, Y 2, Y 2, Y 9, Y 0, Y 0, Y 0, Y 1, Y 0, Y 0, Y 0, Y 0, Y 0] 25]),
  (388, C 9 [I 3, I 1, I 0, W 0, W 0, I 0, .tok 6, W 1, I 0, I 1, I 1, I 0, W 1, W 1, I 0, .f .f64 0, W 0, I 0, I 3, I 1, I 0, W 0, W 0, I 0, .tok 106, W 2, I 0, I 1, I 1, I 0, W 2, W 1, I 0, .f .f64 0, W 0, I 0]),
  (390, C 1 [.imm [Y 0, Y 1, Y 25, Y 1, Y 1, Y 1, Y 1, Y 0, .tok 27, .tok 26, .tok 25, .tok 24, .tok 23, .tok 22, .tok 21, .tok 20, Y 2, Y 1, Y 9, Y 0, Y 0, Y 0, Y 0, Y 0, Y 0, Y 0, Y 0, Y 0] 28, .imm [Y 0, Y 2, Y 25, Y 1, Y 2, Y 1, Y 1, Y 0, .tok 127, .tok 126, .tok 125, .tok 124, .tok 123, .tok 122, .tok 121, .tok 120, Y 2, Y 2, Y 9, Y 0, Y 0, Y 0, Y 1, Y 0, Y 0, Y 0, Y 0, Y 0] 28])]
def hRF25 : AH := AH.edit hRF24 453 [379, 388] [(126, C 1 [O 452 0 6]),
  (177, C 17 [I 3, O 175 0 2, I 2, I 3, I 2, I 8, I 64, I 1, I 1, P 126 0, O 201 0 3, .ifc 110 (P 188 0), P 174 0, W 3, O 176 0 3, I 1, .nsl]),
  (188, C 5 [I 3, I 1, I 3, .imm [.imm [W 0, W 0, W 0] 3, .imm [W 3, W 0, W 0] 3, .imm [W 0, W 0, W 0] 3] 3, O 187 0 3]),
  (190, C 6 [I 2, I 3, P 189 0, O 380 0 2, O 449 0 1, W 2]),
  (449, C 1 [.imm [Y 1, Y 3, Y 1, Y 2, Y 1, Y 9, Y 0, Y 0, Y 0, Y 2, Y 0, Y 0, Y 0, Y 0, Y 0] 15]),
  (452, C 9 [I 3, I 1, I 0, W 0, W 0, I 0, .tok 6, W 1, I 0, I 1, I 1, I 0, W 1, W 1, I 0, .f .f64 0, W 0, I 0, I 3, I 1, I 0, W 0, W 0, I 0, .tok 106, W 2, I 0, I 1, I 1, I 0, W 2, W 1, I 0, .f .f64 0, W 0, I 0, I 4, I 1, I 0, W 0, W 0, I 1, .f .f64 0, W 0, I 0, I 1, I 1, I 0, W 3, W 1, I 0, .f .f64 0, W 0, I 0])]
def hRF26 : AH := AH.edit hRF25 454 [] [(453, C 3 [.f .f64 0, I 0, W 0])]
def hRF27 : AH := AH.edit hRF26 482 [390] [(189, C 5 [I 2, I 8, I 8, I 6, I 2]),
  (202, C 5 [O 481 0 6, I 6, I 0, I 0, I 0]),
  (454, C 8 [I 8, I 0, I 0, I 0, I 0, W 0, .f .f64 0, .nsl]),
  (455, C 3 [.f .f64 0, I 0, W 0]),
  (481, C 1 [.imm [Y 0, Y 1, Y 25, Y 1, Y 1, Y 1, Y 1, Y 0, .tok 27, .tok 26, .tok 25, .tok 24, .tok 23, .tok 22, .tok 21, .tok 20, Y 2, Y 1, Y 9, Y 0, Y 0, Y 0, Y 0, Y 0, Y 0, Y 0, Y 0, Y 0] 28, .imm [Y 0, Y 2, Y 25, Y 1, Y 2, Y 1, Y 1, Y 0, .tok 127, .tok 126, .tok 125, .tok 124, .tok 123, .tok 122, .tok 121, .tok 120, Y 2, Y 2, Y 9, Y 0, Y 0, Y 0, Y 1, Y 0, Y 0, Y 0, Y 0, Y 0] 28, .imm [Y 0, Y 1, Y 25, Y 1, Y 1, Y 1, Y 1, Y 0, .tok 27, .tok 26, .tok 25, .tok 24, .tok 23, .tok 22, .tok 21, .tok 20, Y 2, Y 1, Y 9, Y 0, Y 0, Y 0, Y 0, Y 0, Y 0, Y 0, Y 0, Y 0] 28, .imm [Y 0, Y 2, Y 25, Y 1, Y 2, Y 1, Y 1, Y 0, .tok 127, .tok 126, .tok 125, .tok 124, .tok 123, .tok 122, .tok 121, .tok 120, Y 2, Y 2, Y 9, Y 0, Y 0, Y 0, Y 1, Y 0, Y 0, Y 0, Y 0, Y 0] 28, .imm [Y 0, Y 1, Y 25, Y 1, Y 1, Y 1, Y 1, Y 0, .tok 27, .tok 26, .tok 25, .tok 24, .tok 23, .tok 22, .tok 21, .tok 20, Y 2, Y 1, Y 9, Y 0, Y 0, Y 0, Y 0, Y 0, Y 0, Y 0, Y 0, Y 0] 28, .imm [Y 0, Y 2, Y 25, Y 1, Y 2, Y 1, Y 1, Y 0, .tok 127, .tok 126, .tok 125, .tok 124, .tok 123, .tok 122, .tok 121, .tok 120, Y 2, Y 2, Y 9, Y 0, Y 0, Y 0, Y 1, Y 0, Y 0, Y 0, Y 0, Y 0] 28])]
def hRF28 : AH := AH.edit hRF27 541 [139, 141, 143, 144, 146, 452] [(126, C 1 [O 533 0 7]),
  (132, C 3 [.tok 6, I 1, W 1, .f .f64 0, N 0, W 0]),
  (135, C 1 [.nsl, O 488 10 0, .nsl]),
  (147, C 5 [I 3, I 0, I 3, .imm [.imm [W 0, W 0, W 0] 3, .imm [W 1, W 0, W 0] 3, .imm [W 0, W 0, W 0] 3] 3, .imm [W 0, W 1, W 0] 3]),
  (152, C 3 [W 2, W 2, .m (some 151)]),
  (163, C 5 [O 540 0 1, I 1, I 0, I 0, I 0]),
  (202, C 5 [O 481 0 5, I 6, I 1, I 0, I 0]),
  (481, C 1 [.imm [Y 0, Y 2, Y 25, Y 1, Y 2, Y 1, Y 1, Y 0, .tok 127, .tok 126, .tok 125, .tok 124, .tok 123, .tok 122, .tok 121, .tok 120, Y 2, Y 2, Y 9, Y 0, Y 0, Y 0, Y 1, Y 0, Y 0, Y 0, Y 0, Y 0] 28, .imm [Y 0, Y 1, Y 25, Y 1, Y 1, Y 1, Y 1, Y 0, .tok 27, .tok 26, .tok 25, .tok 24, .tok 23, .tok 22, .tok 21, .tok 20, Y 2, Y 1, Y 9, Y 0, Y 0, Y 0, Y 0, Y 0, Y 0, Y 0, Y 0, Y 0] 28, .imm [Y 0, Y 2, Y 25, Y 1, Y 2, Y 1, Y 1, Y 0, .tok 127, .tok 126, .tok 125, .tok 124, .tok 123, .tok 122, .tok 121, .tok 120, Y 2, Y 2, Y 9, Y 0, Y 0, Y 0, Y 1, Y 0, Y 0, Y 0, Y 0, Y 0] 28, .imm [Y 0, Y 1, Y 25, Y 1, Y 1, Y 1, Y 1, Y 0, .tok 27, .tok 26, .tok 25, .tok 24, .tok 23, .tok 22, .tok 21, .tok 20, Y 2, Y 1, Y 9, Y 0, Y 0, Y 0, Y 0, Y 0, Y 0, Y 0, Y 0, Y 0] 28, .imm [Y 0, Y 2, Y 25, Y 1, Y 2, Y 1, Y 1, Y 0, .tok 127, .tok 126, .tok 125, .tok 124, .tok 123, .tok 122, .tok 121, .tok 120, Y 2, Y 2, Y 9, Y 0, Y 0, Y 0, Y 1, Y 0, Y 0, Y 0, Y 0, Y 0] 28, .nsl]),
  (488, C 10 [I 1, W 1, W 1, I 1, I 0, .tok 6, I 1, W 1, .nsl, .imm [Y 0, Y 0, Y 0, Y 0, Y 0, Y 0, Y 0, Y 0, Y 0] 9]),
  (533, C 9 [I 3, I 1, I 0, W 0, W 0, I 0, .tok 6, W 1, I 0, I 1, I 1, I 0, W 1, W 1, I 0, .f .f64 0, W 0, I 0, I 3, I 1, I 0, W 0, W 0, I 0, .tok 106, W 2, I 0, I 1, I 1, I 0, W 2, W 1, I 0, .f .f64 0, W 0, I 0, I 4, I 1, I 0, W 0, W 0, I 1, .f .f64 0, W 0, I 0, I 1, I 1, I 0, W 3, W 1, I 0, .f .f64 0, W 0, I 0, I 2, I 0, I 1, W 1, W 0, I 0, .f .f64 0, W 0, I 0]),
  (540, C 1 [.imm [Y 1, Y 1] 2])]
def hRF29 : AH := AH.edit hRF28 600 [488, 533, 540] [(126, C 1 [O 592 0 8]),
  (132, C 3 [.tok 106, I 1, W 2, .f .f64 0, N 0, W 0]),
  (135, C 1 [.nsl, O 547 10 0, .nsl]),
  (147, C 5 [I 3, I 0, I 3, .imm [.imm [W 0, W 0, W 0] 3, .imm [W 2, W 0, W 0] 3, .imm [W 0, W 0, W 0] 3] 3, .imm [W 0, W 2, W 0] 3]),
  (152, C 3 [W 2, W 3, .m (some 151)]),
  (163, C 5 [O 599 0 2, I 2, I 0, I 0, I 0]),
  (202, C 5 [O 481 0 4, I 6, I 2, I 0, I 0]),
  (481, C 1 [.imm [Y 0, Y 1, Y 25, Y 1, Y 1, Y 1, Y 1, Y 0, .tok 27, .tok 26, .tok 25, .tok 24, .tok 23, .tok 22, .tok 21, .tok 20, Y 2, Y 1, Y 9, Y 0, Y 0, Y 0, Y 0, Y 0, Y 0, Y 0, Y 0, Y 0] 28, .imm [Y 0, Y 2, Y 25, Y 1, Y 2, Y 1, Y 1, Y 0, .tok 127, .tok 126, .tok 125, .tok 124, .tok 123, .tok 122, .tok 121, .tok 120, Y 2, Y 2, Y 9, Y 0, Y 0, Y 0, Y 1, Y 0, Y 0, Y 0, Y 0, Y 0] 28, .imm [Y 0, Y 1, Y 25, Y 1, Y 1, Y 1, Y 1, Y 0, .tok 27, .tok 26, .tok 25, .tok 24, .tok 23, .tok 22, .tok 21, .tok 20, Y 2, Y 1, Y 9, Y 0, Y 0, Y 0, Y 0, Y 0, Y 0, Y 0, Y 0, Y 0] 28, .imm [Y 0, Y 2, Y 25, Y 1, Y 2, Y 1, Y 1, Y 0, .tok 127, .tok 126, .tok 125, .tok 124, .tok 123, .tok 122, .tok 121, .tok 120, Y 2, Y 2, Y 9, Y 0, Y 0, Y 0, Y 1, Y 0, Y 0, Y 0, Y 0, Y 0] 28, .nsl, .nsl]),
  (547, C 10 [I 1, W 2, W 1, I 1, I 0, .tok 106, I 1, W 2, .nsl, .imm [Y 0, Y 0, Y 0, Y 1, Y 0, Y 0, Y 0, Y 0, Y 0] 9]),
  (592, C 9 [I 3, I 1, I 0, W 0, W 0, I 0, .tok 6, W 1, I 0, I 1, I 1, I 0, W 1, W 1, I 0, .f .f64 0, W 0, I 0, I 3, I 1, I 0, W 0, W 0, I 0, .tok 106, W 2, I 0, I 1, I 1, I 0, W 2, W 1, I 0, .f .f64 0, W 0, I 0, I 4, I 1, I 0, W 0, W 0, I 1, .f .f64 0, W 0, I 0, I 1, I 1, I 0, W 3, W 1, I 0, .f .f64 0, W 0, I 0, I 2, I 0, I 1, W 1, W 0, I 0, .f .f64 0, W 0, I 0, I 2, I 0, I 1, W 2, W 0, I 0, .f .f64 0, W 0, I 0]),
  (599, C 1 [.imm [Y 1, Y 1] 2, .imm [Y 1, Y 2] 2])]
def hRF210 : AH := AH.edit hRF29 632 [454, 455, 599] [(163, C 5 [O 631 0 6, I 6, I 0, I 0, I 0]),
  (202, C 5 [O 481 0 0, I 6, I 6, I 0, I 0]),
  (481, C 1 [.nsl, .nsl, .nsl, .nsl, .nsl, .nsl]),
  (631, C 1 [.imm [Y 1, Y 1] 2, .imm [Y 1, Y 2] 2, .imm [Y 1, Y 2] 2, .imm [Y 1, Y 2] 2, .imm [Y 1, Y 2] 2, .imm [Y 1, Y 2] 2])]
def hRF211 : AH := AH.edit hRF210 707 [] [(163, C 5 [O 631 0 2, I 8, I 6, I 0, I 0]),
  (189, C 5 [I 2, I 8, I 2, I 2, I 3]),
  (190, C 6 [I 2, I 3, P 189 0, O 380 0 1, O 449 1 0, W 3]),
  (202, C 5 [O 481 0 1, I 9, I 8, I 0, I 0]),
  (380, C 2 [W 3, .imm [Y 1, Y 3, Y 1, Y 2, Y 1, Y 9, Y 0, Y 0, Y 0, Y 2, Y 0, Y 0, Y 0, Y 0, Y 0] 15, W 0, .nsl]),
  (481, C 1 [.imm [Y 0, Y 3, Y 15, Y 1, Y 3, Y 1, Y 2, Y 1, Y 9, Y 0, Y 0, Y 0, Y 2, Y 0, Y 0, Y 0, Y 0, Y 0] 18, .nsl, .nsl, .nsl, .nsl, .nsl]),
  (631, C 1 [.imm [Y 1, Y 2] 2, .imm [Y 1, Y 2] 2, .nsl, .nsl, .nsl, .nsl]),
  (632, C 8 [I 8, I 0, I 0, I 0, I 0, W 0, .f .f64 0, .nsl]),
  (633, C 3 [.f .f64 0, I 0, W 0])]
def hRF212 : AH := AH.edit hRF211 826 [547, 592] [(126, C 1 [O 817 0 10]),
  (135, C 1 [.nsl, O 713 10 0, .nsl]),
  (136, C 17 [I 3, O 134 0 2, I 2, I 3, I 2, I 8, I 64, I 1, I 0, P 126 0, O 160 0 3, .ifc 110 (P 147 0), P 133 0, W 1, O 135 0 3, N 0, .nsl]),
  (147, C 5 [I 3, I 0, I 3, .imm [.imm [W 0, W 1, W 0] 3, .imm [W 3, W 0, W 0] 3, .imm [W 0, W 0, W 0] 3] 3, .imm [W 0, W 3, W 0] 3]),
  (149, C 5 [I 2, I 8, I 2, I 2, I 0]),
  (150, C 6 [I 2, I 3, P 149 0, O 809 0 1, O 808 1 0, W 1]),
  (152, C 3 [W 2, W 4, .m (some 151)]),
  (163, C 5 [O 631 0 4, I 10, I 6, I 0, I 0]),
  (202, C 5 [O 481 0 0, I 9, I 9, I 0, I 0]),
  (481, C 1 [.nsl, .nsl, .nsl, .nsl, .nsl, .nsl]),
  (631, C 1 [.imm [Y 1, Y 2] 2, .imm [Y 1, Y 2] 2, .imm [Y 1, Y 3] 2, .imm [Y 0, Y 1, Y 25, Y 0, Y 1, Y 2, Y 3, Y 1, Y 128, Y 0, Y 0, Y 0, Y 0, Y 0, Y 0, Y 0, Y 0, Y 0, Y 9, Y 0, Y 0, Y 0, Y 3, Y 0, Y 0, Y 0, Y 0, Y 0] 28, .nsl, .nsl]),
  (713, C 10 [I 1, W 3, W 1, I 2, I 1, .f .f64 0, I 0, W 0, .nsl, .imm [Y 0, Y 0, Y 0, Y 2, Y 0, Y 0, Y 0, Y 0, Y 0] 9]),
  (808, C 1 [.imm [Y 0, Y 1, Y 2, Y 3, Y 1, Y 128, Y 0, Y 0, Y 0, Y 0, Y 0, Y 0, Y 0, Y 0, Y 0, Y 9, Y 0, Y 0, Y 0, Y 3, Y 0, Y 0, Y 0, Y 0, Y 0] 25]),
  (809, C 2 [W 1, .imm [Y 0, Y 1, Y 2, Y 3, Y 1, Y 128, Y 0, Y 0, Y 0, Y 0, Y 0, Y 0, Y 0, Y 0, Y 0, Y 9, Y 0, Y 0, Y 0, Y 3, Y 0, Y 0, Y 0, Y 0, Y 0] 25]),
  (817, C 9 [I 3, I 1, I 0, W 0, W 0, I 0, .tok 6, W 1, I 0, I 1, I 1, I 0, W 1, W 1, I 0, .f .f64 0, W 0, I 0, I 3, I 1, I 0, W 0, W 0, I 0, .tok 106, W 2, I 0, I 1, I 1, I 0, W 2, W 1, I 0, .f .f64 0, W 0, I 0, I 4, I 1, I 0, W 0, W 0, I 1, .f .f64 0, W 0, I 0, I 1, I 1, I 0, W 3, W 1, I 0, .f .f64 0, W 0, I 0, I 2, I 0, I 1, W 1, W 0, I 0, .f .f64 0, W 0, I 0, I 2, I 0, I 1, W 2, W 0, I 0, .f .f64 0, W 0, I 0, I 2, I 0, I 1, W 3, W 0, I 0, .f .f64 0, W 0, I 0, I 1, I 0, I 0, W 1, W 2, I 0, .f .f64 0, W 0, I 0])]
def hRF213 : AH := AH.edit hRF212 826 [632, 633] []
def hRF214 : AH := AH.edit hRF213 871 [] [(149, C 5 [I 2, I 8, I 8, I 6, I 2]),
  (163, C 5 [O 631 0 3, I 12, I 9, I 0, I 0]),
  (189, C 5 [I 2, I 8, I 2, I 0, I 5]),
  (190, C 6 [I 2, I 3, P 189 0, O 380 0 0, O 449 1 0, W 3]),
  (202, C 5 [O 481 0 2, I 11, I 9, I 0, I 0]),
  (380, C 2 [W 0, .nsl, W 0, .nsl]),
  (481, C 1 [.imm [Y 0, Y 3, Y 15, Y 1, Y 3, Y 1, Y 2, Y 1, Y 9, Y 0, Y 0, Y 0, Y 2, Y 0, Y 0, Y 0, Y 0, Y 0] 18, .imm [Y 0, Y 3, Y 15, Y 1, Y 3, Y 1, Y 2, Y 1, Y 9, Y 0, Y 0, Y 0, Y 2, Y 0, Y 0, Y 0, Y 0, Y 0] 18, .nsl, .nsl, .nsl, .nsl]),
  (631, C 1 [.imm [Y 0, Y 1, Y 25, Y 0, Y 1, Y 2, Y 3, Y 1, Y 128, Y 0, Y 0, Y 0, Y 0, Y 0, Y 0, Y 0, Y 0, Y 0, Y 9, Y 0, Y 0, Y 0, Y 3, Y 0, Y 0, Y 0, Y 0, Y 0] 28, .imm [Y 0, Y 1, Y 25, Y 0, Y 1, Y 2, Y 3, Y 1, Y 128, Y 0, Y 0, Y 0, Y 0, Y 0, Y 0, Y 0, Y 0, Y 0, Y 9, Y 0, Y 0, Y 0, Y 3, Y 0, Y 0, Y 0, Y 0, Y 0] 28, .imm [Y 0, Y 1, Y 25, Y 0, Y 1, Y 2, Y 3, Y 1, Y 128, Y 0, Y 0, Y 0, Y 0, Y 0, Y 0, Y 0, Y 0, Y 0, Y 9, Y 0, Y 0, Y 0, Y 3, Y 0, Y 0, Y 0, Y 0, Y 0] 28, .nsl, .nsl, .nsl]),
  (826, C 8 [I 8, I 0, I 0, I 0, I 0, W 0, .f .f64 0, .nsl]),
  (827, C 3 [.f .f64 0, I 0, W 0])]
def hRF215 : AH := AH.edit hRF214 932 [187, 817] [(126, C 1 [O 926 0 12]),
  (163, C 5 [O 631 0 2, I 12, I 10, I 0, I 0]),
  (176, C 1 [O 877 10 0, .nsl, .nsl]),
  (177, C 17 [I 3, O 175 0 2, I 2, I 3, I 2, I 8, I 64, I 1, I 1, P 126 0, O 201 0 3, .ifc 110 (P 188 0), P 174 0, W 3, O 176 0 3, N 0, .nsl]),
  (188, C 5 [I 3, I 1, I 3, .imm [.imm [W 0, W 1, W 0] 3, .imm [W 3, W 0, W 0] 3, .imm [W 0, W 0, W 0] 3] 3, .imm [W 1, W 0, W 0] 3]),
  (192, C 3 [W 2, W 2, .m (some 191)]),
  (202, C 5 [O 481 0 3, I 12, I 9, I 0, I 0]),
  (481, C 1 [.imm [Y 0, Y 3, Y 15, Y 1, Y 3, Y 1, Y 2, Y 1, Y 9, Y 0, Y 0, Y 0, Y 2, Y 0, Y 0, Y 0, Y 0, Y 0] 18, .imm [Y 0, Y 3, Y 15, Y 1, Y 3, Y 1, Y 2, Y 1, Y 9, Y 0, Y 0, Y 0, Y 2, Y 0, Y 0, Y 0, Y 0, Y 0] 18, .imm [Y 1, Y 1] 2, .nsl, .nsl, .nsl]),
  (631, C 1 [.imm [Y 0, Y 1, Y 25, Y 0, Y 1, Y 2, Y 3, Y 1, Y 128, Y 0, Y 0, Y 0, Y 0, Y 0, Y 0, Y 0, Y 0, Y 0, Y 9, Y 0, Y 0, Y 0, Y 3, Y 0, Y 0, Y 0, Y 0, Y 0] 28, .imm [Y 0, Y 1, Y 25, Y 0, Y 1, Y 2, Y 3, Y 1, Y 128, Y 0, Y 0, Y 0, Y 0, Y 0, Y 0, Y 0, Y 0, Y 0, Y 9, Y 0, Y 0, Y 0, Y 3, Y 0, Y 0, Y 0, Y 0, Y 0] 28, .nsl, .nsl, .nsl, .nsl]),
  (877, C 10 [I 0, W 1, W 2, I 3, I 1, .f .f64 0, N 0, W 0, .nsl, .imm [Y 0, Y 0, Y 0, Y 3, Y 0, Y 0, Y 0, Y 0, Y 0] 9]),
  (926, C 9 [I 3, I 1, I 0, W 0, W 0, I 0, .tok 6, W 1, I 0, I 1, I 1, I 0, W 1, W 1, I 0, .f .f64 0, W 0, I 0, I 3, I 1, I 0, W 0, W 0, I 0, .tok 106, W 2, I 0, I 1, I 1, I 0, W 2, W 1, I 0, .f .f64 0, W 0, I 0, I 4, I 1, I 0, W 0, W 0, I 1, .f .f64 0, W 0, I 0, I 1, I 1, I 0, W 3, W 1, I 0, .f .f64 0, W 0, I 0, I 2, I 0, I 1, W 1, W 0, I 0, .f .f64 0, W 0, I 0, I 2, I 0, I 1, W 2, W 0, I 0, .f .f64 0, W 0, I 0, I 2, I 0, I 1, W 3, W 0, I 0, .f .f64 0, W 0, I 0, I 1, I 0, I 0, W 1, W 2, I 0, .f .f64 0, W 0, I 0, I 2, I 1, I 0, W 1, W 0, I 0, .f .f64 0, W 0, I 0, I 5, I 1, N 0, W 0, W 0, I 1, .f .f64 0, W 0, I 0])]
def hRF216 : AH := AH.edit hRF215 979 [826, 827] [(149, C 5 [I 2, I 8, I 2, I 0, I 2]),
  (150, C 6 [I 2, I 3, P 149 0, O 809 0 0, O 808 1 0, W 1]),
  (163, C 5 [O 631 0 2, I 14, I 12, I 0, I 0]),
  (202, C 5 [O 481 0 0, I 14, I 14, I 0, I 0]),
  (481, C 1 [.nsl, .nsl, .nsl, .nsl, .nsl, .nsl]),
  (631, C 1 [.imm [Y 1, Y 3] 2, .imm [Y 1, Y 3] 2, .nsl, .nsl, .nsl, .nsl]),
  (809, C 2 [W 0, .nsl])]
def hRF217 : AH := AH.edit hRF216 993 [] [(163, C 5 [O 631 0 0, I 14, I 14, I 0, I 0]),
  (631, C 1 [.nsl, .nsl, .nsl, .nsl, .nsl, .nsl])]
def hRF218 : AH := AH.edit hRF217 995 [] []
def hRF219 : AH := AH.edit hRF218 997 [] []
def hRF220 : AH := AH.edit hRF219 999 [] []
def hRF221 : AH := AH.edit hRF220 1001 [] []
def hRF222 : AH := AH.edit hRF221 1003 [] []
def hRF223 : AH := AH.edit hRF222 1005 [] []
def hRF224 : AH := AH.edit hRF223 1007 [] []
def hRF225 : AH := AH.edit hRF224 1009 [] []
def hRF226 : AH := AH.edit hRF225 1011 [] []
def hRF227 : AH := AH.edit hRF226 1013 [] []
def hRF228 : AH := AH.edit hRF227 1015 [] []
def hRF229 : AH := AH.edit hRF228 1017 [] []
def eRF20 : Entry := ⟨6, [], hRF20, .b true, hRF21⟩
def eRF21 : Entry := ⟨9, [P 127 0, .agg [I 1, I 1, I 0, I 0, I 0, W 0, .tok 0, .nsl]], hRF22, .tup [.agg [.f .f64 0, I 0, W 0], I 0], hRF23⟩
def eRF22 : Entry := ⟨9, [P 127 0, .agg [I 1, I 1, I 0, I 0, I 0, W 0, .tok 100, .nsl]], hRF23, .tup [.agg [.f .f64 0, I 0, W 0], I 0], hRF24⟩
def eRF23 : Entry := ⟨9, [P 127 0, .agg [I 2, I 1, I 0, I 0, I 1, W 0, .f .f64 0, .nsl]], hRF24, .tup [.agg [.f .f64 0, I 0, W 0], I 0], hRF25⟩
def eRF24 : Entry := ⟨36, [P 127 0, I 1, I 0, I 0], hRF27, .b true, hRF28⟩
def eRF25 : Entry := ⟨36, [P 127 0, I 1, I 0, I 0], hRF28, .b true, hRF29⟩
def eRF26 : Entry := ⟨9, [P 127 0, .agg [I 8, I 0, I 0, I 0, I 0, W 0, .f .f64 0, .nsl]], hRF26, .tup [.agg [.f .f64 0, I 0, W 0], I 0], hRF210⟩
def eRF27 : Entry := ⟨36, [P 127 0, I 1, I 0, I 0], hRF211, .b true, hRF212⟩
def eRF28 : Entry := ⟨9, [P 127 0, .agg [I 8, I 0, I 0, I 0, I 0, W 0, .f .f64 0, .nsl]], hRF210, .tup [.agg [.f .f64 0, I 0, W 0], I 0], hRF213⟩
def eRF29 : Entry := ⟨36, [P 127 0, I 0, I 1, I 0], hRF214, .b true, hRF215⟩
def eRF210 : Entry := ⟨9, [P 127 0, .agg [I 8, I 0, I 0, I 0, I 0, W 0, .f .f64 0, .nsl]], hRF213, .tup [.agg [.f .f64 0, I 0, W 0], I 0], hRF216⟩
def eRF211 : Entry := ⟨9, [P 127 0, .agg [I 8, I 0, I 0, I 0, I 0, W 0, .f .f64 0, .nsl]], hRF216, .tup [.agg [.f .f64 0, I 0, W 0], I 0], hRF217⟩
def eRF212 : Entry := ⟨9, [P 127 0, .agg [I 8, I 0, I 0, I 0, I 0, W 0, .f .f64 0, .nsl]], hRF217, .tup [.agg [.f .f64 0, I 0, W 0], I 0], hRF218⟩
def eRF213 : Entry := ⟨9, [P 127 0, .agg [I 8, I 0, I 0, I 0, I 0, W 0, .f .f64 0, .nsl]], hRF218, .tup [.agg [.f .f64 0, I 0, W 0], I 0], hRF219⟩
def eRF214 : Entry := ⟨9, [P 127 0, .agg [I 8, I 0, I 0, I 0, I 0, W 0, .f .f64 0, .nsl]], hRF219, .tup [.agg [.f .f64 0, I 0, W 0], I 0], hRF220⟩
def eRF215 : Entry := ⟨9, [P 127 0, .agg [I 8, I 0, I 0, I 0, I 0, W 0, .f .f64 0, .nsl]], hRF220, .tup [.agg [.f .f64 0, I 0, W 0], I 0], hRF221⟩
def eRF216 : Entry := ⟨9, [P 127 0, .agg [I 8, I 0, I 0, I 0, I 0, W 0, .f .f64 0, .nsl]], hRF221, .tup [.agg [.f .f64 0, I 0, W 0], I 0], hRF222⟩
def eRF217 : Entry := ⟨9, [P 127 0, .agg [I 8, I 0, I 0, I 0, I 0, W 0, .f .f64 0, .nsl]], hRF222, .tup [.agg [.f .f64 0, I 0, W 0], I 0], hRF223⟩
def eRF218 : Entry := ⟨9, [P 127 0, .agg [I 8, I 0, I 0, I 0, I 0, W 0, .f .f64 0, .nsl]], hRF223, .tup [.agg [.f .f64 0, I 0, W 0], I 0], hRF224⟩
def eRF219 : Entry := ⟨9, [P 127 0, .agg [I 8, I 0, I 0, I 0, I 0, W 0, .f .f64 0, .nsl]], hRF224, .tup [.agg [.f .f64 0, I 0, W 0], I 0], hRF225⟩
def eRF220 : Entry := ⟨9, [P 127 0, .agg [I 8, I 0, I 0, I 0, I 0, W 0, .f .f64 0, .nsl]], hRF225, .tup [.agg [.f .f64 0, I 0, W 0], I 0], hRF226⟩
def eRF221 : Entry := ⟨9, [P 127 0, .agg [I 8, I 0, I 0, I 0, I 0, W 0, .f .f64 0, .nsl]], hRF226, .tup [.agg [.f .f64 0, I 0, W 0], I 0], hRF227⟩
def eRF222 : Entry := ⟨9, [P 127 0, .agg [I 8, I 0, I 0, I 0, I 0, W 0, .f .f64 0, .nsl]], hRF227, .tup [.agg [.f .f64 0, I 0, W 0], I 0], hRF228⟩
def eRF223 : Entry := ⟨9, [P 127 0, .agg [I 8, I 0, I 0, I 0, I 0, W 0, .f .f64 0, .nsl]], hRF228, .tup [.agg [.f .f64 0, I 0, W 0], I 0], hRF229⟩
def subRF2 : List Entry := [eRF24, eRF25, eRF27, eRF29]
def mainRF2 : List Entry := [eRF20, eRF21, eRF22, eRF23, eRF26, eRF28, eRF210, eRF211, eRF212, eRF213, eRF214, eRF215, eRF216, eRF217, eRF218, eRF219, eRF220, eRF221, eRF222, eRF223]
def ERF2 : Env := withE (EG 3) [36] subRF2
end
end Go.Proofs.YtkcogdalihcamaaGreatDoor
