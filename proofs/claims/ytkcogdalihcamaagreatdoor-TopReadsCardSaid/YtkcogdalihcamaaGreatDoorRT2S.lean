/-
  The heaps before and behind the calls of this run.
-/
import Derived.Test.YtkcogdalihcamaaGreatDoorBLit
namespace Go.Proofs.YtkcogdalihcamaaGreatDoor
open Go.Av
set_option maxRecDepth 1000000
noncomputable section
def hRT20 : AH := AH.edit emptyH 0 [] []
def hRT21 : AH := AH.edit hRT20 122 [] []
def hRT22 : AH := AH.edit hRT21 224 [] [(122, C 8 [I 3, .imm [W 3, W 1] 2, I 2, I 3, I 2, I 8, I 64, I 2]),
  (126, C 1 [.nsl]),
  (127, C 11 [I 3, .imm [W 3, W 1] 2, I 2, I 3, I 2, I 8, I 64, I 2, P 126 0, O 222 0 3, O 223 0 3]),
  (132, C 3 [.f .f64 0, N 0, W 0, .f .f64 0, N 0, W 0]),
  (133, C 11 [I 3, .imm [W 3, W 1] 2, I 2, I 3, I 2, I 8, I 64, I 2, I 0, O 132 0 2, W 0]),
  (134, C 1 [W 3, W 1]),
  (135, C 1 [.nsl, .nsl, .nsl]),
  (136, C 17 [I 3, O 134 0 2, I 2, I 3, I 2, I 8, I 64, I 2, I 0, P 126 0, O 151 0 3, .ifc 113 (P 138 0), P 133 0, W 0, O 135 0 3, N 0, .nsl]),
  (137, C 1 [W 0, W 0, W 0]),
  (138, C 5 [I 3, I 0, .nsl, W 0, O 137 0 3]),
  (140, C 5 [I 2, I 8, I 2, I 0, I 0]),
  (141, C 6 [I 2, I 3, P 140 0, .nsl, .nsl, W 0]),
  (142, .map []),
  (143, C 3 [W 2, W 1, .m (some 142)]),
  (144, C 2 [P 141 0, P 143 0]),
  (146, C 5 [I 2, I 8, I 2, I 0, I 0]),
  (147, C 6 [I 2, I 3, P 146 0, .nsl, .nsl, W 0]),
  (148, .map []),
  (149, C 3 [W 2, W 1, .m (some 148)]),
  (150, C 2 [P 147 0, P 149 0]),
  (151, C 1 [.p none, P 144 0, P 150 0]),
  (152, C 5 [.nsl, I 0, I 0, I 0, I 0]),
  (154, C 5 [.nsl, I 0, I 0, I 0, I 0]),
  (156, C 5 [.nsl, I 0, I 0, I 0, I 0]),
  (157, C 1 [P 152 0, P 154 0, P 156 0]),
  (164, C 3 [.f .f64 0, N 0, W 0, .f .f64 0, N 0, W 0]),
  (165, C 11 [I 3, .imm [W 3, W 1] 2, I 2, I 3, I 2, I 8, I 64, I 2, I 1, O 164 0 2, W 0]),
  (166, C 1 [W 3, W 1]),
  (167, C 1 [.nsl, .nsl, .nsl]),
  (168, C 17 [I 3, O 166 0 2, I 2, I 3, I 2, I 8, I 64, I 2, I 1, P 126 0, O 183 0 3, .ifc 113 (P 170 0), P 165 0, W 0, O 167 0 3, N 0, .nsl]),
  (169, C 1 [W 0, W 0, W 0]),
  (170, C 5 [I 3, I 1, .nsl, W 0, O 169 0 3]),
  (171, C 5 [I 2, I 8, I 2, I 0, I 0]),
  (172, C 6 [I 2, I 3, P 171 0, .nsl, .nsl, W 0]),
  (173, .map []),
  (174, C 3 [W 2, W 1, .m (some 173)]),
  (175, C 2 [P 172 0, P 174 0]),
  (178, C 5 [I 2, I 8, I 2, I 0, I 0]),
  (179, C 6 [I 2, I 3, P 178 0, .nsl, .nsl, W 0]),
  (180, .map []),
  (181, C 3 [W 2, W 1, .m (some 180)]),
  (182, C 2 [P 179 0, P 181 0]),
  (183, C 1 [P 175 0, .p none, P 182 0]),
  (184, C 5 [.nsl, I 0, I 0, I 0, I 0]),
  (186, C 5 [.nsl, I 0, I 0, I 0, I 0]),
  (188, C 5 [.nsl, I 0, I 0, I 0, I 0]),
  (189, C 1 [P 184 0, P 186 0, P 188 0]),
  (196, C 3 [.f .f64 0, N 0, W 0, .f .f64 0, N 0, W 0]),
  (197, C 11 [I 3, .imm [W 3, W 1] 2, I 2, I 3, I 2, I 8, I 64, I 2, I 2, O 196 0 2, W 0]),
  (198, C 1 [W 3, W 1]),
  (199, C 1 [.nsl, .nsl, .nsl]),
  (200, C 17 [I 3, O 198 0 2, I 2, I 3, I 2, I 8, I 64, I 2, I 2, P 126 0, O 215 0 3, .ifc 113 (P 202 0), P 197 0, W 0, O 199 0 3, N 0, .nsl]),
  (201, C 1 [W 0, W 0, W 0]),
  (202, C 5 [I 3, I 2, .nsl, W 0, O 201 0 3]),
  (203, C 5 [I 2, I 8, I 2, I 0, I 0]),
  (204, C 6 [I 2, I 3, P 203 0, .nsl, .nsl, W 0]),
  (205, .map []),
  (206, C 3 [W 2, W 1, .m (some 205)]),
  (207, C 2 [P 204 0, P 206 0]),
  (209, C 5 [I 2, I 8, I 2, I 0, I 0]),
  (210, C 6 [I 2, I 3, P 209 0, .nsl, .nsl, W 0]),
  (211, .map []),
  (212, C 3 [W 2, W 1, .m (some 211)]),
  (213, C 2 [P 210 0, P 212 0]),
  (215, C 1 [P 207 0, P 213 0, .p none]),
  (216, C 5 [.nsl, I 0, I 0, I 0, I 0]),
  (218, C 5 [.nsl, I 0, I 0, I 0, I 0]),
  (220, C 5 [.nsl, I 0, I 0, I 0, I 0]),
  (221, C 1 [P 216 0, P 218 0, P 220 0]),
  (222, C 1 [P 136 0, P 168 0, P 200 0]),
  (223, C 1 [O 157 0 3, O 189 0 3, O 221 0 3])]
def hRT23 : AH := AH.edit hRT22 258 [] [(126, C 1 [O 255 0 2]),
  (164, C 3 [.tok 6, I 1, W 1, .f .f64 0, N 0, W 0]),
  (165, C 11 [I 3, .imm [W 3, W 1] 2, I 2, I 3, I 2, I 8, I 64, I 2, I 1, O 164 0 2, W 1]),
  (168, C 17 [I 3, O 166 0 2, I 2, I 3, I 2, I 8, I 64, I 2, I 1, P 126 0, O 183 0 3, .ifc 113 (P 170 0), P 165 0, W 1, O 167 0 3, N 0, .nsl]),
  (170, C 5 [I 3, I 1, .imm [I 1, W 1, W 1] 1, W 1, O 169 0 3]),
  (171, C 5 [I 2, I 8, I 2, I 2, I 0]),
  (172, C 6 [I 2, I 3, P 171 0, O 247 0 1, O 246 1 0, W 1]),
  (184, C 5 [O 257 0 1, I 1, I 0, I 0, I 0]),
  (246, C 1 [.imm [Y 1, Y 1, Y 1, Y 1, Y 0, .tok 27, .tok 26, .tok 25, .tok 24, .tok 23, .tok 22, .tok 21, .tok 20, Y 2, Y 1, Y 1, Y 0] 17]),
  (247, C 2 [W 1, .imm [Y 1, Y 1, Y 1, Y 1, Y 0, .tok 27, .tok 26, .tok 25, .tok 24, .tok 23, .tok 22, .tok 21, .tok 20, Y 2, Y 1, Y 1, Y 0] 17]),
  (255, C 9 [I 3, I 1, I 0, W 0, W 0, I 0, .tok 6, W 1, I 0, I 1, I 1, I 0, W 1, W 1, I 0, .f .f64 0, W 0, I 0]),
  (257, C 1 [.imm [Y 0, Y 1, Y 17, Y 1, Y 1, Y 1, Y 1, Y 0, .tok 27, .tok 26, .tok 25, .tok 24, .tok 23, .tok 22, .tok 21, .tok 20, Y 2, Y 1, Y 1, Y 0] 20])]
def hRT24 : AH := AH.edit hRT23 292 [246, 247, 255, 257] [(126, C 1 [O 289 0 4]),
  (164, C 3 [.tok 106, I 1, W 2, .f .f64 0, N 0, W 0]),
  (165, C 11 [I 3, .imm [W 3, W 1] 2, I 2, I 3, I 2, I 8, I 64, I 2, I 1, O 164 0 2, W 2]),
  (168, C 17 [I 3, O 166 0 2, I 2, I 3, I 2, I 8, I 64, I 2, I 1, P 126 0, O 183 0 3, .ifc 113 (P 170 0), P 165 0, W 2, O 167 0 3, N 0, .nsl]),
  (170, C 5 [I 3, I 1, .imm [I 1, W 2, W 1] 1, W 2, O 169 0 3]),
  (172, C 6 [I 2, I 3, P 171 0, O 281 0 2, O 280 1 0, W 2]),
  (184, C 5 [O 291 0 2, I 2, I 0, I 0, I 0]),
  (280, C 1 [.imm [Y 1, Y 2, Y 1, Y 1, Y 0, .tok 127, .tok 126, .tok 125, .tok 124, .tok 123, .tok 122, .tok 121, .tok 120, Y 2, Y 2, Y 4, Y 1, Y 1, Y 1, Y 1] 20]),
  (281, C 2 [W 1, .imm [Y 1, Y 1, Y 1, Y 1, Y 0, .tok 27, .tok 26, .tok 25, .tok 24, .tok 23, .tok 22, .tok 21, .tok 20, Y 2, Y 1, Y 1, Y 0] 17, W 2, .imm [Y 1, Y 2, Y 1, Y 1, Y 0, .tok 127, .tok 126, .tok 125, .tok 124, .tok 123, .tok 122, .tok 121, .tok 120, Y 2, Y 2, Y 4, Y 1, Y 1, Y 1, Y 1] 20]),
  (289, C 9 [I 3, I 1, I 0, W 0, W 0, I 0, .tok 6, W 1, I 0, I 1, I 1, I 0, W 1, W 1, I 0, .f .f64 0, W 0, I 0, I 3, I 1, I 0, W 0, W 0, I 0, .tok 106, W 2, I 0, I 1, I 1, I 0, W 2, W 1, I 0, .f .f64 0, W 0, I 0]),
  (291, C 1 [.imm [Y 0, Y 1, Y 17, Y 1, Y 1, Y 1, Y 1, Y 0, .tok 27, .tok 26, .tok 25, .tok 24, .tok 23, .tok 22, .tok 21, .tok 20, Y 2, Y 1, Y 1, Y 0] 20, .imm [Y 0, Y 2, Y 20, Y 1, Y 2, Y 1, Y 1, Y 0, .tok 127, .tok 126, .tok 125, .tok 124, .tok 123, .tok 122, .tok 121, .tok 120, Y 2, Y 2, Y 4, Y 1, Y 1, Y 1, Y 1] 23])]
def hRT25 : AH := AH.edit hRT24 318 [280, 289] [(126, C 1 [O 317 0 6]),
  (168, C 17 [I 3, O 166 0 2, I 2, I 3, I 2, I 8, I 64, I 2, I 1, P 126 0, O 183 0 3, .ifc 113 (P 170 0), P 165 0, W 3, O 167 0 3, I 1, .nsl]),
  (170, C 5 [I 3, I 1, .imm [I 1, W 3, W 1] 1, W 3, O 169 0 3]),
  (172, C 6 [I 2, I 3, P 171 0, O 281 0 2, O 314 0 1, W 2]),
  (314, C 1 [.imm [Y 1, Y 3, Y 1, Y 2, Y 1, Y 4, Y 1, Y 1, Y 2, Y 1] 10]),
  (317, C 9 [I 3, I 1, I 0, W 0, W 0, I 0, .tok 6, W 1, I 0, I 1, I 1, I 0, W 1, W 1, I 0, .f .f64 0, W 0, I 0, I 3, I 1, I 0, W 0, W 0, I 0, .tok 106, W 2, I 0, I 1, I 1, I 0, W 2, W 1, I 0, .f .f64 0, W 0, I 0, I 4, I 1, I 0, W 0, W 0, I 1, .f .f64 0, W 0, I 0, I 1, I 1, I 0, W 3, W 1, I 0, .f .f64 0, W 0, I 0])]
def hRT26 : AH := AH.edit hRT25 319 [] [(318, C 3 [.f .f64 0, I 0, W 0])]
def hRT27 : AH := AH.edit hRT26 347 [291] [(171, C 5 [I 2, I 8, I 8, I 6, I 2]),
  (184, C 5 [O 346 0 6, I 6, I 0, I 0, I 0]),
  (319, C 8 [I 8, I 0, I 0, I 0, I 0, W 0, .f .f64 0, .nsl]),
  (320, C 3 [.f .f64 0, I 0, W 0]),
  (346, C 1 [.imm [Y 0, Y 1, Y 17, Y 1, Y 1, Y 1, Y 1, Y 0, .tok 27, .tok 26, .tok 25, .tok 24, .tok 23, .tok 22, .tok 21, .tok 20, Y 2, Y 1, Y 1, Y 0] 20, .imm [Y 0, Y 2, Y 20, Y 1, Y 2, Y 1, Y 1, Y 0, .tok 127, .tok 126, .tok 125, .tok 124, .tok 123, .tok 122, .tok 121, .tok 120, Y 2, Y 2, Y 4, Y 1, Y 1, Y 1, Y 1] 23, .imm [Y 0, Y 1, Y 17, Y 1, Y 1, Y 1, Y 1, Y 0, .tok 27, .tok 26, .tok 25, .tok 24, .tok 23, .tok 22, .tok 21, .tok 20, Y 2, Y 1, Y 1, Y 0] 20, .imm [Y 0, Y 2, Y 20, Y 1, Y 2, Y 1, Y 1, Y 0, .tok 127, .tok 126, .tok 125, .tok 124, .tok 123, .tok 122, .tok 121, .tok 120, Y 2, Y 2, Y 4, Y 1, Y 1, Y 1, Y 1] 23, .imm [Y 0, Y 1, Y 17, Y 1, Y 1, Y 1, Y 1, Y 0, .tok 27, .tok 26, .tok 25, .tok 24, .tok 23, .tok 22, .tok 21, .tok 20, Y 2, Y 1, Y 1, Y 0] 20, .imm [Y 0, Y 2, Y 20, Y 1, Y 2, Y 1, Y 1, Y 0, .tok 127, .tok 126, .tok 125, .tok 124, .tok 123, .tok 122, .tok 121, .tok 120, Y 2, Y 2, Y 4, Y 1, Y 1, Y 1, Y 1] 23])]
def hRT28 : AH := AH.edit hRT27 379 [317] [(126, C 1 [O 371 0 7]),
  (132, C 3 [.tok 6, I 1, W 1, .f .f64 0, N 0, W 0]),
  (135, C 1 [.nsl, O 353 10 0, .nsl]),
  (137, C 1 [W 0, W 1, W 0]),
  (138, C 5 [I 3, I 0, .imm [I 1, W 1, W 0] 1, W 0, O 137 0 3]),
  (143, C 3 [W 2, W 2, .m (some 142)]),
  (154, C 5 [O 378 0 1, I 1, I 0, I 0, I 0]),
  (184, C 5 [O 346 0 5, I 6, I 1, I 0, I 0]),
  (346, C 1 [.imm [Y 0, Y 2, Y 20, Y 1, Y 2, Y 1, Y 1, Y 0, .tok 127, .tok 126, .tok 125, .tok 124, .tok 123, .tok 122, .tok 121, .tok 120, Y 2, Y 2, Y 4, Y 1, Y 1, Y 1, Y 1] 23, .imm [Y 0, Y 1, Y 17, Y 1, Y 1, Y 1, Y 1, Y 0, .tok 27, .tok 26, .tok 25, .tok 24, .tok 23, .tok 22, .tok 21, .tok 20, Y 2, Y 1, Y 1, Y 0] 20, .imm [Y 0, Y 2, Y 20, Y 1, Y 2, Y 1, Y 1, Y 0, .tok 127, .tok 126, .tok 125, .tok 124, .tok 123, .tok 122, .tok 121, .tok 120, Y 2, Y 2, Y 4, Y 1, Y 1, Y 1, Y 1] 23, .imm [Y 0, Y 1, Y 17, Y 1, Y 1, Y 1, Y 1, Y 0, .tok 27, .tok 26, .tok 25, .tok 24, .tok 23, .tok 22, .tok 21, .tok 20, Y 2, Y 1, Y 1, Y 0] 20, .imm [Y 0, Y 2, Y 20, Y 1, Y 2, Y 1, Y 1, Y 0, .tok 127, .tok 126, .tok 125, .tok 124, .tok 123, .tok 122, .tok 121, .tok 120, Y 2, Y 2, Y 4, Y 1, Y 1, Y 1, Y 1] 23, .nsl]),
  (353, C 10 [I 1, W 1, W 1, I 1, I 0, .tok 6, I 1, W 1, .nsl, .imm [Y 0] 1]),
  (371, C 9 [I 3, I 1, I 0, W 0, W 0, I 0, .tok 6, W 1, I 0, I 1, I 1, I 0, W 1, W 1, I 0, .f .f64 0, W 0, I 0, I 3, I 1, I 0, W 0, W 0, I 0, .tok 106, W 2, I 0, I 1, I 1, I 0, W 2, W 1, I 0, .f .f64 0, W 0, I 0, I 4, I 1, I 0, W 0, W 0, I 1, .f .f64 0, W 0, I 0, I 1, I 1, I 0, W 3, W 1, I 0, .f .f64 0, W 0, I 0, I 2, I 0, I 1, W 1, W 0, I 0, .f .f64 0, W 0, I 0]),
  (378, C 1 [.imm [Y 1, Y 1] 2])]
def hRT29 : AH := AH.edit hRT28 413 [353, 371, 378] [(126, C 1 [O 405 0 8]),
  (132, C 3 [.tok 106, I 1, W 2, .f .f64 0, N 0, W 0]),
  (135, C 1 [.nsl, O 385 10 0, .nsl]),
  (137, C 1 [W 0, W 2, W 0]),
  (138, C 5 [I 3, I 0, .imm [I 1, W 2, W 0] 1, W 0, O 137 0 3]),
  (143, C 3 [W 2, W 3, .m (some 142)]),
  (154, C 5 [O 412 0 2, I 2, I 0, I 0, I 0]),
  (184, C 5 [O 346 0 4, I 6, I 2, I 0, I 0]),
  (346, C 1 [.imm [Y 0, Y 1, Y 17, Y 1, Y 1, Y 1, Y 1, Y 0, .tok 27, .tok 26, .tok 25, .tok 24, .tok 23, .tok 22, .tok 21, .tok 20, Y 2, Y 1, Y 1, Y 0] 20, .imm [Y 0, Y 2, Y 20, Y 1, Y 2, Y 1, Y 1, Y 0, .tok 127, .tok 126, .tok 125, .tok 124, .tok 123, .tok 122, .tok 121, .tok 120, Y 2, Y 2, Y 4, Y 1, Y 1, Y 1, Y 1] 23, .imm [Y 0, Y 1, Y 17, Y 1, Y 1, Y 1, Y 1, Y 0, .tok 27, .tok 26, .tok 25, .tok 24, .tok 23, .tok 22, .tok 21, .tok 20, Y 2, Y 1, Y 1, Y 0] 20, .imm [Y 0, Y 2, Y 20, Y 1, Y 2, Y 1, Y 1, Y 0, .tok 127, .tok 126, .tok 125, .tok 124, .tok 123, .tok 122, .tok 121, .tok 120, Y 2, Y 2, Y 4, Y 1, Y 1, Y 1, Y 1] 23, .nsl, .nsl]),
  (385, C 10 [I 1, W 2, W 1, I 1, I 0, .tok 106, I 1, W 2, .nsl, .imm [Y 1, Y 1, Y 1, Y 1] 4]),
  (405, C 9 [I 3, I 1, I 0, W 0, W 0, I 0, .tok 6, W 1, I 0, I 1, I 1, I 0, W 1, W 1, I 0, .f .f64 0, W 0, I 0, I 3, I 1, I 0, W 0, W 0, I 0, .tok 106, W 2, I 0, I 1, I 1, I 0, W 2, W 1, I 0, .f .f64 0, W 0, I 0, I 4, I 1, I 0, W 0, W 0, I 1, .f .f64 0, W 0, I 0, I 1, I 1, I 0, W 3, W 1, I 0, .f .f64 0, W 0, I 0, I 2, I 0, I 1, W 1, W 0, I 0, .f .f64 0, W 0, I 0, I 2, I 0, I 1, W 2, W 0, I 0, .f .f64 0, W 0, I 0]),
  (412, C 1 [.imm [Y 1, Y 1] 2, .imm [Y 1, Y 2] 2])]
def hRT210 : AH := AH.edit hRT29 445 [319, 320, 412] [(154, C 5 [O 444 0 6, I 6, I 0, I 0, I 0]),
  (184, C 5 [O 346 0 0, I 6, I 6, I 0, I 0]),
  (346, C 1 [.nsl, .nsl, .nsl, .nsl, .nsl, .nsl]),
  (444, C 1 [.imm [Y 1, Y 1] 2, .imm [Y 1, Y 2] 2, .imm [Y 1, Y 2] 2, .imm [Y 1, Y 2] 2, .imm [Y 1, Y 2] 2, .imm [Y 1, Y 2] 2])]
def hRT211 : AH := AH.edit hRT210 520 [] [(154, C 5 [O 444 0 2, I 8, I 6, I 0, I 0]),
  (171, C 5 [I 2, I 8, I 2, I 2, I 3]),
  (172, C 6 [I 2, I 3, P 171 0, O 281 0 1, O 314 1 0, W 3]),
  (184, C 5 [O 346 0 1, I 9, I 8, I 0, I 0]),
  (281, C 2 [W 3, .imm [Y 1, Y 3, Y 1, Y 2, Y 1, Y 4, Y 1, Y 1, Y 2, Y 1] 10, W 0, .nsl]),
  (346, C 1 [.imm [Y 0, Y 3, Y 10, Y 1, Y 3, Y 1, Y 2, Y 1, Y 4, Y 1, Y 1, Y 2, Y 1] 13, .nsl, .nsl, .nsl, .nsl, .nsl]),
  (444, C 1 [.imm [Y 1, Y 2] 2, .imm [Y 1, Y 2] 2, .nsl, .nsl, .nsl, .nsl]),
  (445, C 8 [I 8, I 0, I 0, I 0, I 0, W 0, .f .f64 0, .nsl]),
  (446, C 3 [.f .f64 0, I 0, W 0])]
def hRT212 : AH := AH.edit hRT211 578 [385, 405] [(126, C 1 [O 569 0 10]),
  (135, C 1 [.nsl, O 526 10 0, .nsl]),
  (136, C 17 [I 3, O 134 0 2, I 2, I 3, I 2, I 8, I 64, I 2, I 0, P 126 0, O 151 0 3, .ifc 113 (P 138 0), P 133 0, W 1, O 135 0 3, N 0, .nsl]),
  (137, C 1 [W 0, W 3, W 0]),
  (138, C 5 [I 3, I 0, .imm [I 0, W 1, W 2, I 1, W 3, W 0] 2, W 1, O 137 0 3]),
  (140, C 5 [I 2, I 8, I 2, I 2, I 0]),
  (141, C 6 [I 2, I 3, P 140 0, O 561 0 1, O 560 1 0, W 1]),
  (143, C 3 [W 2, W 4, .m (some 142)]),
  (154, C 5 [O 444 0 4, I 10, I 6, I 0, I 0]),
  (184, C 5 [O 346 0 0, I 9, I 9, I 0, I 0]),
  (346, C 1 [.nsl, .nsl, .nsl, .nsl, .nsl, .nsl]),
  (444, C 1 [.imm [Y 1, Y 2] 2, .imm [Y 1, Y 2] 2, .imm [Y 1, Y 3] 2, .imm [Y 0, Y 1, Y 20, Y 0, Y 1, Y 2, Y 3, Y 1, Y 128, Y 0, Y 0, Y 0, Y 0, Y 0, Y 0, Y 0, Y 0, Y 0, Y 4, Y 1, Y 1, Y 3, Y 0] 23, .nsl, .nsl]),
  (526, C 10 [I 1, W 3, W 1, I 2, I 1, .f .f64 0, I 0, W 0, .nsl, .imm [Y 1, Y 1, Y 2, Y 1] 4]),
  (560, C 1 [.imm [Y 0, Y 1, Y 2, Y 3, Y 1, Y 128, Y 0, Y 0, Y 0, Y 0, Y 0, Y 0, Y 0, Y 0, Y 0, Y 4, Y 1, Y 1, Y 3, Y 0] 20]),
  (561, C 2 [W 1, .imm [Y 0, Y 1, Y 2, Y 3, Y 1, Y 128, Y 0, Y 0, Y 0, Y 0, Y 0, Y 0, Y 0, Y 0, Y 0, Y 4, Y 1, Y 1, Y 3, Y 0] 20]),
  (569, C 9 [I 3, I 1, I 0, W 0, W 0, I 0, .tok 6, W 1, I 0, I 1, I 1, I 0, W 1, W 1, I 0, .f .f64 0, W 0, I 0, I 3, I 1, I 0, W 0, W 0, I 0, .tok 106, W 2, I 0, I 1, I 1, I 0, W 2, W 1, I 0, .f .f64 0, W 0, I 0, I 4, I 1, I 0, W 0, W 0, I 1, .f .f64 0, W 0, I 0, I 1, I 1, I 0, W 3, W 1, I 0, .f .f64 0, W 0, I 0, I 2, I 0, I 1, W 1, W 0, I 0, .f .f64 0, W 0, I 0, I 2, I 0, I 1, W 2, W 0, I 0, .f .f64 0, W 0, I 0, I 2, I 0, I 1, W 3, W 0, I 0, .f .f64 0, W 0, I 0, I 1, I 0, I 0, W 1, W 2, I 0, .f .f64 0, W 0, I 0])]
def hRT213 : AH := AH.edit hRT212 578 [445, 446] []
def hRT214 : AH := AH.edit hRT213 623 [] [(140, C 5 [I 2, I 8, I 8, I 6, I 2]),
  (154, C 5 [O 444 0 3, I 12, I 9, I 0, I 0]),
  (171, C 5 [I 2, I 8, I 2, I 0, I 5]),
  (172, C 6 [I 2, I 3, P 171 0, O 281 0 0, O 314 1 0, W 3]),
  (184, C 5 [O 346 0 2, I 11, I 9, I 0, I 0]),
  (281, C 2 [W 0, .nsl, W 0, .nsl]),
  (346, C 1 [.imm [Y 0, Y 3, Y 10, Y 1, Y 3, Y 1, Y 2, Y 1, Y 4, Y 1, Y 1, Y 2, Y 1] 13, .imm [Y 0, Y 3, Y 10, Y 1, Y 3, Y 1, Y 2, Y 1, Y 4, Y 1, Y 1, Y 2, Y 1] 13, .nsl, .nsl, .nsl, .nsl]),
  (444, C 1 [.imm [Y 0, Y 1, Y 20, Y 0, Y 1, Y 2, Y 3, Y 1, Y 128, Y 0, Y 0, Y 0, Y 0, Y 0, Y 0, Y 0, Y 0, Y 0, Y 4, Y 1, Y 1, Y 3, Y 0] 23, .imm [Y 0, Y 1, Y 20, Y 0, Y 1, Y 2, Y 3, Y 1, Y 128, Y 0, Y 0, Y 0, Y 0, Y 0, Y 0, Y 0, Y 0, Y 0, Y 4, Y 1, Y 1, Y 3, Y 0] 23, .imm [Y 0, Y 1, Y 20, Y 0, Y 1, Y 2, Y 3, Y 1, Y 128, Y 0, Y 0, Y 0, Y 0, Y 0, Y 0, Y 0, Y 0, Y 0, Y 4, Y 1, Y 1, Y 3, Y 0] 23, .nsl, .nsl, .nsl]),
  (578, C 8 [I 8, I 0, I 0, I 0, I 0, W 0, .f .f64 0, .nsl]),
  (579, C 3 [.f .f64 0, I 0, W 0])]
def hRT215 : AH := AH.edit hRT214 659 [569] [(126, C 1 [O 653 0 12]),
  (154, C 5 [O 444 0 2, I 12, I 10, I 0, I 0]),
  (167, C 1 [O 629 10 0, .nsl, .nsl]),
  (168, C 17 [I 3, O 166 0 2, I 2, I 3, I 2, I 8, I 64, I 2, I 1, P 126 0, O 183 0 3, .ifc 113 (P 170 0), P 165 0, W 3, O 167 0 3, N 0, .nsl]),
  (169, C 1 [W 1, W 0, W 0]),
  (170, C 5 [I 3, I 1, .imm [I 0, W 1, W 0, I 1, W 3, W 0] 2, W 3, O 169 0 3]),
  (174, C 3 [W 2, W 2, .m (some 173)]),
  (184, C 5 [O 346 0 3, I 12, I 9, I 0, I 0]),
  (346, C 1 [.imm [Y 0, Y 3, Y 10, Y 1, Y 3, Y 1, Y 2, Y 1, Y 4, Y 1, Y 1, Y 2, Y 1] 13, .imm [Y 0, Y 3, Y 10, Y 1, Y 3, Y 1, Y 2, Y 1, Y 4, Y 1, Y 1, Y 2, Y 1] 13, .imm [Y 1, Y 1] 2, .nsl, .nsl, .nsl]),
  (444, C 1 [.imm [Y 0, Y 1, Y 20, Y 0, Y 1, Y 2, Y 3, Y 1, Y 128, Y 0, Y 0, Y 0, Y 0, Y 0, Y 0, Y 0, Y 0, Y 0, Y 4, Y 1, Y 1, Y 3, Y 0] 23, .imm [Y 0, Y 1, Y 20, Y 0, Y 1, Y 2, Y 3, Y 1, Y 128, Y 0, Y 0, Y 0, Y 0, Y 0, Y 0, Y 0, Y 0, Y 0, Y 4, Y 1, Y 1, Y 3, Y 0] 23, .nsl, .nsl, .nsl, .nsl]),
  (629, C 10 [I 0, W 1, W 2, I 3, I 1, .f .f64 0, N 0, W 0, .nsl, .imm [Y 1, Y 1, Y 3, Y 0] 4]),
  (653, C 9 [I 3, I 1, I 0, W 0, W 0, I 0, .tok 6, W 1, I 0, I 1, I 1, I 0, W 1, W 1, I 0, .f .f64 0, W 0, I 0, I 3, I 1, I 0, W 0, W 0, I 0, .tok 106, W 2, I 0, I 1, I 1, I 0, W 2, W 1, I 0, .f .f64 0, W 0, I 0, I 4, I 1, I 0, W 0, W 0, I 1, .f .f64 0, W 0, I 0, I 1, I 1, I 0, W 3, W 1, I 0, .f .f64 0, W 0, I 0, I 2, I 0, I 1, W 1, W 0, I 0, .f .f64 0, W 0, I 0, I 2, I 0, I 1, W 2, W 0, I 0, .f .f64 0, W 0, I 0, I 2, I 0, I 1, W 3, W 0, I 0, .f .f64 0, W 0, I 0, I 1, I 0, I 0, W 1, W 2, I 0, .f .f64 0, W 0, I 0, I 2, I 1, I 0, W 1, W 0, I 0, .f .f64 0, W 0, I 0, I 5, I 1, N 0, W 0, W 0, I 1, .f .f64 0, W 0, I 0])]
def hRT216 : AH := AH.edit hRT215 706 [578, 579] [(140, C 5 [I 2, I 8, I 2, I 0, I 2]),
  (141, C 6 [I 2, I 3, P 140 0, O 561 0 0, O 560 1 0, W 1]),
  (154, C 5 [O 444 0 2, I 14, I 12, I 0, I 0]),
  (184, C 5 [O 346 0 0, I 14, I 14, I 0, I 0]),
  (346, C 1 [.nsl, .nsl, .nsl, .nsl, .nsl, .nsl]),
  (444, C 1 [.imm [Y 1, Y 3] 2, .imm [Y 1, Y 3] 2, .nsl, .nsl, .nsl, .nsl]),
  (561, C 2 [W 0, .nsl])]
def hRT217 : AH := AH.edit hRT216 720 [] [(154, C 5 [O 444 0 0, I 14, I 14, I 0, I 0]),
  (444, C 1 [.nsl, .nsl, .nsl, .nsl, .nsl, .nsl])]
def hRT218 : AH := AH.edit hRT217 722 [] []
def hRT219 : AH := AH.edit hRT218 724 [] []
def hRT220 : AH := AH.edit hRT219 726 [] []
def hRT221 : AH := AH.edit hRT220 728 [] []
def hRT222 : AH := AH.edit hRT221 730 [] []
def hRT223 : AH := AH.edit hRT222 732 [] []
def hRT224 : AH := AH.edit hRT223 734 [] []
def hRT225 : AH := AH.edit hRT224 736 [] []
def hRT226 : AH := AH.edit hRT225 738 [] []
def hRT227 : AH := AH.edit hRT226 740 [] []
def hRT228 : AH := AH.edit hRT227 742 [] []
def hRT229 : AH := AH.edit hRT228 744 [] []
def eRT20 : Entry := ⟨6, [], hRT20, .b true, hRT21⟩
def eRT21 : Entry := ⟨9, [P 127 0, .agg [I 1, I 1, I 0, I 0, I 0, W 0, .tok 0, .nsl]], hRT22, .tup [.agg [.f .f64 0, I 0, W 0], I 0], hRT23⟩
def eRT22 : Entry := ⟨9, [P 127 0, .agg [I 1, I 1, I 0, I 0, I 0, W 0, .tok 100, .nsl]], hRT23, .tup [.agg [.f .f64 0, I 0, W 0], I 0], hRT24⟩
def eRT23 : Entry := ⟨9, [P 127 0, .agg [I 2, I 1, I 0, I 0, I 1, W 0, .f .f64 0, .nsl]], hRT24, .tup [.agg [.f .f64 0, I 0, W 0], I 0], hRT25⟩
def eRT24 : Entry := ⟨36, [P 127 0, I 1, I 0, I 0], hRT27, .b true, hRT28⟩
def eRT25 : Entry := ⟨36, [P 127 0, I 1, I 0, I 0], hRT28, .b true, hRT29⟩
def eRT26 : Entry := ⟨9, [P 127 0, .agg [I 8, I 0, I 0, I 0, I 0, W 0, .f .f64 0, .nsl]], hRT26, .tup [.agg [.f .f64 0, I 0, W 0], I 0], hRT210⟩
def eRT27 : Entry := ⟨36, [P 127 0, I 1, I 0, I 0], hRT211, .b true, hRT212⟩
def eRT28 : Entry := ⟨9, [P 127 0, .agg [I 8, I 0, I 0, I 0, I 0, W 0, .f .f64 0, .nsl]], hRT210, .tup [.agg [.f .f64 0, I 0, W 0], I 0], hRT213⟩
def eRT29 : Entry := ⟨36, [P 127 0, I 0, I 1, I 0], hRT214, .b true, hRT215⟩
def eRT210 : Entry := ⟨9, [P 127 0, .agg [I 8, I 0, I 0, I 0, I 0, W 0, .f .f64 0, .nsl]], hRT213, .tup [.agg [.f .f64 0, I 0, W 0], I 0], hRT216⟩
def eRT211 : Entry := ⟨9, [P 127 0, .agg [I 8, I 0, I 0, I 0, I 0, W 0, .f .f64 0, .nsl]], hRT216, .tup [.agg [.f .f64 0, I 0, W 0], I 0], hRT217⟩
def eRT212 : Entry := ⟨9, [P 127 0, .agg [I 8, I 0, I 0, I 0, I 0, W 0, .f .f64 0, .nsl]], hRT217, .tup [.agg [.f .f64 0, I 0, W 0], I 0], hRT218⟩
def eRT213 : Entry := ⟨9, [P 127 0, .agg [I 8, I 0, I 0, I 0, I 0, W 0, .f .f64 0, .nsl]], hRT218, .tup [.agg [.f .f64 0, I 0, W 0], I 0], hRT219⟩
def eRT214 : Entry := ⟨9, [P 127 0, .agg [I 8, I 0, I 0, I 0, I 0, W 0, .f .f64 0, .nsl]], hRT219, .tup [.agg [.f .f64 0, I 0, W 0], I 0], hRT220⟩
def eRT215 : Entry := ⟨9, [P 127 0, .agg [I 8, I 0, I 0, I 0, I 0, W 0, .f .f64 0, .nsl]], hRT220, .tup [.agg [.f .f64 0, I 0, W 0], I 0], hRT221⟩
def eRT216 : Entry := ⟨9, [P 127 0, .agg [I 8, I 0, I 0, I 0, I 0, W 0, .f .f64 0, .nsl]], hRT221, .tup [.agg [.f .f64 0, I 0, W 0], I 0], hRT222⟩
def eRT217 : Entry := ⟨9, [P 127 0, .agg [I 8, I 0, I 0, I 0, I 0, W 0, .f .f64 0, .nsl]], hRT222, .tup [.agg [.f .f64 0, I 0, W 0], I 0], hRT223⟩
def eRT218 : Entry := ⟨9, [P 127 0, .agg [I 8, I 0, I 0, I 0, I 0, W 0, .f .f64 0, .nsl]], hRT223, .tup [.agg [.f .f64 0, I 0, W 0], I 0], hRT224⟩
def eRT219 : Entry := ⟨9, [P 127 0, .agg [I 8, I 0, I 0, I 0, I 0, W 0, .f .f64 0, .nsl]], hRT224, .tup [.agg [.f .f64 0, I 0, W 0], I 0], hRT225⟩
def eRT220 : Entry := ⟨9, [P 127 0, .agg [I 8, I 0, I 0, I 0, I 0, W 0, .f .f64 0, .nsl]], hRT225, .tup [.agg [.f .f64 0, I 0, W 0], I 0], hRT226⟩
def eRT221 : Entry := ⟨9, [P 127 0, .agg [I 8, I 0, I 0, I 0, I 0, W 0, .f .f64 0, .nsl]], hRT226, .tup [.agg [.f .f64 0, I 0, W 0], I 0], hRT227⟩
def eRT222 : Entry := ⟨9, [P 127 0, .agg [I 8, I 0, I 0, I 0, I 0, W 0, .f .f64 0, .nsl]], hRT227, .tup [.agg [.f .f64 0, I 0, W 0], I 0], hRT228⟩
def eRT223 : Entry := ⟨9, [P 127 0, .agg [I 8, I 0, I 0, I 0, I 0, W 0, .f .f64 0, .nsl]], hRT228, .tup [.agg [.f .f64 0, I 0, W 0], I 0], hRT229⟩
def subRT2 : List Entry := [eRT24, eRT25, eRT27, eRT29]
def mainRT2 : List Entry := [eRT20, eRT21, eRT22, eRT23, eRT26, eRT28, eRT210, eRT211, eRT212, eRT213, eRT214, eRT215, eRT216, eRT217, eRT218, eRT219, eRT220, eRT221, eRT222, eRT223]
def ERT2 : Env := withE (EG 3) [36] subRT2
end
end Go.Proofs.YtkcogdalihcamaaGreatDoor
