/-
  The heaps before and behind the calls of this run.
-/
import Derived.Test.YtkcogdalihcamaaGreatDoorBLit
namespace Go.Proofs.YtkcogdalihcamaaGreatDoor
open Go.Av
set_option maxRecDepth 1000000
noncomputable section
def hBT0 : AH := AH.edit emptyH 0 [] []
def hBT1 : AH := AH.edit hBT0 122 [] []
def hBT2 : AH := AH.edit hBT1 224 [] [(122, C 8 [I 3, .imm [W 1, W 2, W 7] 3, I 2, I 3, I 2, I 8, I 64, I 2]),
  (126, C 1 [.nsl]),
  (127, C 11 [I 3, .imm [W 1, W 2, W 7] 3, I 2, I 3, I 2, I 8, I 64, I 2, P 126 0, O 222 0 3, O 223 0 3]),
  (132, C 3 [.f .f64 0, N 0, W 0, .f .f64 0, N 0, W 0, .f .f64 0, N 0, W 0]),
  (133, C 11 [I 3, .imm [W 1, W 2, W 7] 3, I 2, I 3, I 2, I 8, I 64, I 2, I 0, O 132 0 3, W 0]),
  (134, C 1 [W 1, W 2, W 7]),
  (135, C 1 [.nsl, .nsl, .nsl]),
  (136, C 17 [I 3, O 134 0 3, I 2, I 3, I 2, I 8, I 64, I 2, I 0, P 126 0, O 151 0 3, .ifc 113 (P 138 0), P 133 0, W 0, O 135 0 3, N 0, .nsl]),
  (137, C 1 [W 0, W 0, W 0]),
  (138, C 5 [I 3, I 0, .nsl, W 0, O 137 0 3]),
  (140, C 5 [I 2, I 8, I 2, I 0, I 0]),
  (141, C 6 [I 2, I 3, P 140 0, .nsl, .nsl, W 0]),
  (142, .map []),
  (143, C 3 [W 2, W 1, .m (some 142)]),
  (144, C 2 [P 141 0, P 143 0]),
  (146, C 5 [I 2, I 8, I 2, I 0, I 0]),
  (147, C 6 [I 2, I 3, P 146 0, .nsl, .nsl, W 0]),
  (148, .map []),
  (149, C 3 [W 2, W 1, .m (some 148)]),
  (150, C 2 [P 147 0, P 149 0]),
  (151, C 1 [.p none, P 144 0, P 150 0]),
  (152, C 5 [.nsl, I 0, I 0, I 0, I 0]),
  (154, C 5 [.nsl, I 0, I 0, I 0, I 0]),
  (156, C 5 [.nsl, I 0, I 0, I 0, I 0]),
  (157, C 1 [P 152 0, P 154 0, P 156 0]),
  (164, C 3 [.f .f64 0, N 0, W 0, .f .f64 0, N 0, W 0, .f .f64 0, N 0, W 0]),
  (165, C 11 [I 3, .imm [W 1, W 2, W 7] 3, I 2, I 3, I 2, I 8, I 64, I 2, I 1, O 164 0 3, W 0]),
  (166, C 1 [W 1, W 2, W 7]),
  (167, C 1 [.nsl, .nsl, .nsl]),
  (168, C 17 [I 3, O 166 0 3, I 2, I 3, I 2, I 8, I 64, I 2, I 1, P 126 0, O 183 0 3, .ifc 113 (P 170 0), P 165 0, W 0, O 167 0 3, N 0, .nsl]),
  (169, C 1 [W 0, W 0, W 0]),
  (170, C 5 [I 3, I 1, .nsl, W 0, O 169 0 3]),
  (171, C 5 [I 2, I 8, I 2, I 0, I 0]),
  (172, C 6 [I 2, I 3, P 171 0, .nsl, .nsl, W 0]),
  (173, .map []),
  (174, C 3 [W 2, W 1, .m (some 173)]),
  (175, C 2 [P 172 0, P 174 0]),
  (178, C 5 [I 2, I 8, I 2, I 0, I 0]),
  (179, C 6 [I 2, I 3, P 178 0, .nsl, .nsl, W 0]),
  (180, .map []),
  (181, C 3 [W 2, W 1, .m (some 180)]),
  (182, C 2 [P 179 0, P 181 0]),
  (183, C 1 [P 175 0, .p none, P 182 0]),
  (184, C 5 [.nsl, I 0, I 0, I 0, I 0]),
  (186, C 5 [.nsl, I 0, I 0, I 0, I 0]),
  (188, C 5 [.nsl, I 0, I 0, I 0, I 0]),
  (189, C 1 [P 184 0, P 186 0, P 188 0]),
  (196, C 3 [.f .f64 0, N 0, W 0, .f .f64 0, N 0, W 0, .f .f64 0, N 0, W 0]),
  (197, C 11 [I 3, .imm [W 1, W 2, W 7] 3, I 2, I 3, I 2, I 8, I 64, I 2, I 2, O 196 0 3, W 0]),
  (198, C 1 [W 1, W 2, W 7]),
  (199, C 1 [.nsl, .nsl, .nsl]),
  (200, C 17 [I 3, O 198 0 3, I 2, I 3, I 2, I 8, I 64, I 2, I 2, P 126 0, O 215 0 3, .ifc 113 (P 202 0), P 197 0, W 0, O 199 0 3, N 0, .nsl]),
  (201, C 1 [W 0, W 0, W 0]),
  (202, C 5 [I 3, I 2, .nsl, W 0, O 201 0 3]),
  (203, C 5 [I 2, I 8, I 2, I 0, I 0]),
  (204, C 6 [I 2, I 3, P 203 0, .nsl, .nsl, W 0]),
  (205, .map []),
  (206, C 3 [W 2, W 1, .m (some 205)]),
  (207, C 2 [P 204 0, P 206 0]),
  (209, C 5 [I 2, I 8, I 2, I 0, I 0]),
  (210, C 6 [I 2, I 3, P 209 0, .nsl, .nsl, W 0]),
  (211, .map []),
  (212, C 3 [W 2, W 1, .m (some 211)]),
  (213, C 2 [P 210 0, P 212 0]),
  (215, C 1 [P 207 0, P 213 0, .p none]),
  (216, C 5 [.nsl, I 0, I 0, I 0, I 0]),
  (218, C 5 [.nsl, I 0, I 0, I 0, I 0]),
  (220, C 5 [.nsl, I 0, I 0, I 0, I 0]),
  (221, C 1 [P 216 0, P 218 0, P 220 0]),
  (222, C 1 [P 136 0, P 168 0, P 200 0]),
  (223, C 1 [O 157 0 3, O 189 0 3, O 221 0 3])]
def hBT3 : AH := AH.edit hBT2 258 [] [(126, C 1 [O 255 0 2]),
  (168, C 17 [I 3, O 166 0 3, I 2, I 3, I 2, I 8, I 64, I 2, I 1, P 126 0, O 183 0 3, .ifc 113 (P 170 0), P 165 0, W 1, O 167 0 3, I 0, .nsl]),
  (170, C 5 [I 3, I 1, .imm [I 1, W 1, W 1] 1, W 1, O 169 0 3]),
  (171, C 5 [I 2, I 8, I 2, I 2, I 0]),
  (172, C 6 [I 2, I 3, P 171 0, O 247 0 1, O 246 1 0, W 1]),
  (184, C 5 [O 257 0 1, I 1, I 0, I 0, I 0]),
  (246, C 1 [.imm [Y 1, Y 1, Y 1, Y 2, Y 0, Y 1, Y 0] 7]),
  (247, C 2 [W 1, .imm [Y 1, Y 1, Y 1, Y 2, Y 0, Y 1, Y 0] 7]),
  (255, C 9 [I 4, I 1, I 0, W 0, W 0, I 0, .f .f64 0, W 0, I 0, I 1, I 1, I 0, W 1, W 1, I 0, .f .f64 0, W 0, I 0]),
  (257, C 1 [.imm [Y 0, Y 1, Y 7, Y 1, Y 1, Y 1, Y 2, Y 0, Y 1, Y 0] 10])]
def hBT4 : AH := AH.edit hBT3 278 [255] [(126, C 1 [O 276 0 4]),
  (258, C 3 [.f .f64 0, I 0, W 0]),
  (267, C 3 [.f .f64 0, I 0, W 0]),
  (276, C 9 [I 4, I 1, I 0, W 0, W 0, I 0, .f .f64 0, W 0, I 0, I 1, I 1, I 0, W 1, W 1, I 0, .f .f64 0, W 0, I 0, I 6, I 1, I 0, W 0, W 0, I 0, .f .f64 0, W 0, .junk, I 6, I 1, I 0, W 0, W 0, I 0, .f .f64 0, W 0, .junk]),
  (277, C 3 [.f .f64 0, I 0, W 0])]
def hBT5 : AH := AH.edit hBT4 320 [246, 247, 257, 276] [(126, C 1 [O 315 0 5]),
  (168, C 17 [I 3, O 166 0 3, I 2, I 3, I 2, I 8, I 64, I 2, I 1, P 126 0, O 183 0 3, .ifc 113 (P 170 0), P 165 0, W 2, O 167 0 3, I 0, .nsl]),
  (170, C 5 [I 3, I 1, .imm [I 1, W 2, W 5] 1, W 2, O 169 0 3]),
  (172, C 6 [I 2, I 3, P 171 0, O 298 0 2, O 297 1 0, W 2]),
  (178, C 5 [I 2, I 8, I 2, I 2, I 0]),
  (179, C 6 [I 2, I 3, P 178 0, O 307 0 1, O 306 1 0, W 1]),
  (184, C 5 [O 317 0 2, I 2, I 0, I 0, I 0]),
  (188, C 5 [O 319 0 1, I 1, I 0, I 0, I 0]),
  (297, C 1 [.imm [Y 1, Y 2, Y 5, Y 0, Y 0, Y 4, Y 1, Y 1, Y 1, Y 1] 10]),
  (298, C 2 [W 1, .imm [Y 1, Y 1, Y 1, Y 2, Y 0, Y 1, Y 0] 7, W 2, .imm [Y 1, Y 2, Y 5, Y 0, Y 0, Y 4, Y 1, Y 1, Y 1, Y 1] 10]),
  (306, C 1 [.imm [Y 1, Y 2, Y 5, Y 0, Y 0, Y 4, Y 1, Y 1, Y 1, Y 0] 10]),
  (307, C 2 [W 1, .imm [Y 1, Y 2, Y 5, Y 0, Y 0, Y 4, Y 1, Y 1, Y 1, Y 0] 10]),
  (315, C 9 [I 4, I 1, I 0, W 0, W 0, I 0, .f .f64 0, W 0, I 0, I 1, I 1, I 0, W 1, W 1, I 0, .f .f64 0, W 0, I 0, I 6, I 1, I 0, W 0, W 0, I 0, .f .f64 0, W 0, .junk, I 6, I 1, I 0, W 0, W 0, I 0, .f .f64 0, W 0, .junk, I 1, I 1, I 0, W 2, W 5, I 0, .f .f64 0, W 0, I 0]),
  (317, C 1 [.imm [Y 0, Y 1, Y 7, Y 1, Y 1, Y 1, Y 2, Y 0, Y 1, Y 0] 10, .imm [Y 0, Y 2, Y 10, Y 1, Y 2, Y 5, Y 0, Y 0, Y 4, Y 1, Y 1, Y 1, Y 1] 13]),
  (319, C 1 [.imm [Y 0, Y 1, Y 10, Y 1, Y 2, Y 5, Y 0, Y 0, Y 4, Y 1, Y 1, Y 1, Y 0] 13])]
def hBT6 : AH := AH.edit hBT5 321 [] [(320, C 3 [.f .f64 0, I 0, W 0])]
def hBT7 : AH := AH.edit hBT6 363 [317, 319] [(171, C 5 [I 2, I 8, I 8, I 6, I 2]),
  (178, C 5 [I 2, I 8, I 8, I 6, I 2]),
  (184, C 5 [O 360 0 6, I 6, I 0, I 0, I 0]),
  (188, C 5 [O 362 0 3, I 3, I 0, I 0, I 0]),
  (321, C 8 [I 8, I 0, I 0, I 0, I 0, W 0, .f .f64 0, .nsl]),
  (322, C 3 [.f .f64 0, I 0, W 0]),
  (360, C 1 [.imm [Y 0, Y 1, Y 7, Y 1, Y 1, Y 1, Y 2, Y 0, Y 1, Y 0] 10, .imm [Y 0, Y 2, Y 10, Y 1, Y 2, Y 5, Y 0, Y 0, Y 4, Y 1, Y 1, Y 1, Y 1] 13, .imm [Y 0, Y 1, Y 7, Y 1, Y 1, Y 1, Y 2, Y 0, Y 1, Y 0] 10, .imm [Y 0, Y 2, Y 10, Y 1, Y 2, Y 5, Y 0, Y 0, Y 4, Y 1, Y 1, Y 1, Y 1] 13, .imm [Y 0, Y 1, Y 7, Y 1, Y 1, Y 1, Y 2, Y 0, Y 1, Y 0] 10, .imm [Y 0, Y 2, Y 10, Y 1, Y 2, Y 5, Y 0, Y 0, Y 4, Y 1, Y 1, Y 1, Y 1] 13]),
  (362, C 1 [.imm [Y 0, Y 1, Y 10, Y 1, Y 2, Y 5, Y 0, Y 0, Y 4, Y 1, Y 1, Y 1, Y 0] 13, .imm [Y 0, Y 1, Y 10, Y 1, Y 2, Y 5, Y 0, Y 0, Y 4, Y 1, Y 1, Y 1, Y 0] 13, .imm [Y 0, Y 1, Y 10, Y 1, Y 2, Y 5, Y 0, Y 0, Y 4, Y 1, Y 1, Y 1, Y 0] 13])]
def hBT8 : AH := AH.edit hBT7 421 [315] [(126, C 1 [O 410 0 7]),
  (135, C 1 [.nsl, O 369 10 0, .nsl]),
  (136, C 17 [I 3, O 134 0 3, I 2, I 3, I 2, I 8, I 64, I 2, I 0, P 126 0, O 151 0 3, .ifc 113 (P 138 0), P 133 0, W 1, O 135 0 3, N 0, .nsl]),
  (137, C 1 [W 0, W 1, W 0]),
  (138, C 5 [I 3, I 0, .imm [I 0, W 1, W 2, I 1, W 1, W 0] 2, W 1, O 137 0 3]),
  (140, C 5 [I 2, I 8, I 2, I 2, I 0]),
  (141, C 6 [I 2, I 3, P 140 0, O 402 0 1, O 401 1 0, W 1]),
  (143, C 3 [W 2, W 2, .m (some 142)]),
  (154, C 5 [O 420 0 2, I 2, I 0, I 0, I 0]),
  (184, C 5 [O 360 0 5, I 6, I 1, I 0, I 0]),
  (360, C 1 [.imm [Y 0, Y 2, Y 10, Y 1, Y 2, Y 5, Y 0, Y 0, Y 4, Y 1, Y 1, Y 1, Y 1] 13, .imm [Y 0, Y 1, Y 7, Y 1, Y 1, Y 1, Y 2, Y 0, Y 1, Y 0] 10, .imm [Y 0, Y 2, Y 10, Y 1, Y 2, Y 5, Y 0, Y 0, Y 4, Y 1, Y 1, Y 1, Y 1] 13, .imm [Y 0, Y 1, Y 7, Y 1, Y 1, Y 1, Y 2, Y 0, Y 1, Y 0] 10, .imm [Y 0, Y 2, Y 10, Y 1, Y 2, Y 5, Y 0, Y 0, Y 4, Y 1, Y 1, Y 1, Y 1] 13, .nsl]),
  (369, C 10 [I 1, W 1, W 1, I 2, I 0, .f .f64 0, I 0, W 0, .nsl, .imm [Y 0] 1]),
  (401, C 1 [.imm [Y 0, Y 1, Y 2, Y 3, Y 0, Y 128, Y 0, Y 0, Y 0, Y 0, Y 0, Y 0, Y 0, Y 0, Y 0, Y 4, Y 1, Y 1, Y 1, Y 0] 20]),
  (402, C 2 [W 1, .imm [Y 0, Y 1, Y 2, Y 3, Y 0, Y 128, Y 0, Y 0, Y 0, Y 0, Y 0, Y 0, Y 0, Y 0, Y 0, Y 4, Y 1, Y 1, Y 1, Y 0] 20]),
  (410, C 9 [I 4, I 1, I 0, W 0, W 0, I 0, .f .f64 0, W 0, I 0, I 1, I 1, I 0, W 1, W 1, I 0, .f .f64 0, W 0, I 0, I 6, I 1, I 0, W 0, W 0, I 0, .f .f64 0, W 0, .junk, I 6, I 1, I 0, W 0, W 0, I 0, .f .f64 0, W 0, .junk, I 1, I 1, I 0, W 2, W 5, I 0, .f .f64 0, W 0, I 0, I 2, I 0, I 1, W 1, W 0, I 0, .f .f64 0, W 0, I 0, I 1, I 0, I 0, W 1, W 2, I 0, .f .f64 0, W 0, I 0]),
  (420, C 1 [.imm [Y 1, Y 1] 2, .imm [Y 0, Y 1, Y 20, Y 0, Y 1, Y 2, Y 3, Y 0, Y 128, Y 0, Y 0, Y 0, Y 0, Y 0, Y 0, Y 0, Y 0, Y 0, Y 4, Y 1, Y 1, Y 1, Y 0] 23])]
def hBT9 : AH := AH.edit hBT8 455 [369, 410, 420] [(126, C 1 [O 447 0 8]),
  (135, C 1 [.nsl, O 427 10 0, .nsl]),
  (136, C 17 [I 3, O 134 0 3, I 2, I 3, I 2, I 8, I 64, I 2, I 0, P 126 0, O 151 0 3, .ifc 113 (P 138 0), P 133 0, W 1, O 135 0 3, N 0, O 448 0 1]),
  (137, C 1 [W 0, W 2, W 0]),
  (138, C 5 [I 3, I 0, .imm [I 0, W 1, W 2, I 1, W 2, W 4] 2, W 1, O 137 0 3]),
  (143, C 3 [W 2, W 3, .m (some 142)]),
  (154, C 5 [O 454 0 3, I 3, I 0, I 0, I 0]),
  (184, C 5 [O 360 0 4, I 6, I 2, I 0, I 0]),
  (360, C 1 [.imm [Y 0, Y 1, Y 7, Y 1, Y 1, Y 1, Y 2, Y 0, Y 1, Y 0] 10, .imm [Y 0, Y 2, Y 10, Y 1, Y 2, Y 5, Y 0, Y 0, Y 4, Y 1, Y 1, Y 1, Y 1] 13, .imm [Y 0, Y 1, Y 7, Y 1, Y 1, Y 1, Y 2, Y 0, Y 1, Y 0] 10, .imm [Y 0, Y 2, Y 10, Y 1, Y 2, Y 5, Y 0, Y 0, Y 4, Y 1, Y 1, Y 1, Y 1] 13, .nsl, .nsl]),
  (427, C 10 [I 1, W 2, W 5, I 0, I 0, .f .f64 0, I 0, W 0, .imm [] 0, .imm [Y 1, Y 1, Y 1, Y 1] 4]),
  (447, C 9 [I 4, I 1, I 0, W 0, W 0, I 0, .f .f64 0, W 0, I 0, I 1, I 1, I 0, W 1, W 1, I 0, .f .f64 0, W 0, I 0, I 6, I 1, I 0, W 0, W 0, I 0, .f .f64 0, W 0, .junk, I 6, I 1, I 0, W 0, W 0, I 0, .f .f64 0, W 0, .junk, I 1, I 1, I 0, W 2, W 5, I 0, .f .f64 0, W 0, I 0, I 2, I 0, I 1, W 1, W 0, I 0, .f .f64 0, W 0, I 0, I 1, I 0, I 0, W 1, W 2, I 0, .f .f64 0, W 0, I 0, I 2, I 0, I 1, W 2, W 0, I 0, .f .f64 0, W 0, I 0]),
  (448, C 1 [.imm [] 0]),
  (454, C 1 [.imm [Y 1, Y 1] 2, .imm [Y 0, Y 1, Y 20, Y 0, Y 1, Y 2, Y 3, Y 0, Y 128, Y 0, Y 0, Y 0, Y 0, Y 0, Y 0, Y 0, Y 0, Y 0, Y 4, Y 1, Y 1, Y 1, Y 0] 23, .imm [Y 1, Y 2] 2])]
def hBT10 : AH := AH.edit hBT9 487 [454] [(154, C 5 [O 486 0 7, I 7, I 0, I 0, I 0]),
  (184, C 5 [O 360 0 0, I 6, I 6, I 0, I 0]),
  (360, C 1 [.nsl, .nsl, .nsl, .nsl, .nsl, .nsl]),
  (486, C 1 [.imm [Y 1, Y 1] 2, .imm [Y 0, Y 1, Y 20, Y 0, Y 1, Y 2, Y 3, Y 0, Y 128, Y 0, Y 0, Y 0, Y 0, Y 0, Y 0, Y 0, Y 0, Y 0, Y 4, Y 1, Y 1, Y 1, Y 0] 23, .imm [Y 1, Y 2] 2, .imm [Y 1, Y 2] 2, .imm [Y 1, Y 2] 2, .imm [Y 1, Y 2] 2, .imm [Y 1, Y 2] 2])]
def hBT11 : AH := AH.edit hBT10 521 [447] [(126, C 1 [O 513 0 9]),
  (188, C 5 [O 362 0 2, I 3, I 1, I 0, I 0]),
  (199, C 1 [.nsl, O 493 10 0, .nsl]),
  (200, C 17 [I 3, O 198 0 3, I 2, I 3, I 2, I 8, I 64, I 2, I 2, P 126 0, O 215 0 3, .ifc 113 (P 202 0), P 197 0, W 0, O 199 0 3, N 0, O 514 0 1]),
  (201, C 1 [W 0, W 2, W 0]),
  (202, C 5 [I 3, I 2, .imm [I 1, W 2, W 1] 1, W 0, O 201 0 3]),
  (212, C 3 [W 2, W 2, .m (some 211)]),
  (218, C 5 [O 520 0 1, I 1, I 0, I 0, I 0]),
  (362, C 1 [.imm [Y 0, Y 1, Y 10, Y 1, Y 2, Y 5, Y 0, Y 0, Y 4, Y 1, Y 1, Y 1, Y 0] 13, .imm [Y 0, Y 1, Y 10, Y 1, Y 2, Y 5, Y 0, Y 0, Y 4, Y 1, Y 1, Y 1, Y 0] 13, .nsl]),
  (493, C 10 [I 1, W 2, W 5, I 0, I 0, .f .f64 0, I 0, W 0, .imm [] 0, .imm [Y 1, Y 1, Y 1, Y 0] 4]),
  (513, C 9 [I 4, I 1, I 0, W 0, W 0, I 0, .f .f64 0, W 0, I 0, I 1, I 1, I 0, W 1, W 1, I 0, .f .f64 0, W 0, I 0, I 6, I 1, I 0, W 0, W 0, I 0, .f .f64 0, W 0, .junk, I 6, I 1, I 0, W 0, W 0, I 0, .f .f64 0, W 0, .junk, I 1, I 1, I 0, W 2, W 5, I 0, .f .f64 0, W 0, I 0, I 2, I 0, I 1, W 1, W 0, I 0, .f .f64 0, W 0, I 0, I 1, I 0, I 0, W 1, W 2, I 0, .f .f64 0, W 0, I 0, I 2, I 0, I 1, W 2, W 0, I 0, .f .f64 0, W 0, I 0, I 2, I 2, I 1, W 2, W 0, I 0, .f .f64 0, W 0, I 0]),
  (514, C 1 [.imm [] 0]),
  (520, C 1 [.imm [Y 1, Y 1] 2])]
def hBT12 : AH := AH.edit hBT11 556 [321, 322, 520] [(178, C 5 [I 2, I 8, I 2, I 0, I 2]),
  (179, C 6 [I 2, I 3, P 178 0, O 307 0 0, O 306 1 0, W 1]),
  (188, C 5 [O 362 0 0, I 3, I 3, I 0, I 0]),
  (218, C 5 [O 536 0 0, I 3, I 3, I 0, I 0]),
  (307, C 2 [W 0, .nsl]),
  (362, C 1 [.nsl, .nsl, .nsl]),
  (536, C 1 [.nsl, .nsl, .nsl])]
def hBT13 : AH := AH.edit hBT12 592 [486] [(140, C 5 [I 2, I 8, I 8, I 6, I 2]),
  (154, C 5 [O 571 0 8, I 9, I 1, I 0, I 0]),
  (171, C 5 [I 2, I 8, I 2, I 2, I 3]),
  (172, C 6 [I 2, I 3, P 171 0, O 298 0 1, O 297 1 0, W 2]),
  (184, C 5 [O 360 0 2, I 8, I 6, I 0, I 0]),
  (298, C 2 [W 2, .imm [Y 1, Y 2, Y 5, Y 0, Y 0, Y 4, Y 1, Y 1, Y 1, Y 1] 10, W 0, .nsl]),
  (360, C 1 [.imm [Y 0, Y 1, Y 7, Y 1, Y 1, Y 1, Y 2, Y 0, Y 1, Y 0] 10, .imm [Y 0, Y 2, Y 10, Y 1, Y 2, Y 5, Y 0, Y 0, Y 4, Y 1, Y 1, Y 1, Y 1] 13, .nsl, .nsl, .nsl, .nsl]),
  (556, C 8 [I 8, I 0, I 0, I 0, I 0, W 0, .f .f64 0, .nsl]),
  (557, C 3 [.f .f64 0, I 0, W 0]),
  (571, C 1 [.imm [Y 0, Y 1, Y 20, Y 0, Y 1, Y 2, Y 3, Y 0, Y 128, Y 0, Y 0, Y 0, Y 0, Y 0, Y 0, Y 0, Y 0, Y 0, Y 4, Y 1, Y 1, Y 1, Y 0] 23, .imm [Y 1, Y 2] 2, .imm [Y 1, Y 2] 2, .imm [Y 1, Y 2] 2, .imm [Y 1, Y 2] 2, .imm [Y 1, Y 2] 2, .imm [Y 0, Y 1, Y 20, Y 0, Y 1, Y 2, Y 3, Y 0, Y 128, Y 0, Y 0, Y 0, Y 0, Y 0, Y 0, Y 0, Y 0, Y 0, Y 4, Y 1, Y 1, Y 1, Y 0] 23, .imm [Y 0, Y 1, Y 20, Y 0, Y 1, Y 2, Y 3, Y 0, Y 128, Y 0, Y 0, Y 0, Y 0, Y 0, Y 0, Y 0, Y 0, Y 0, Y 4, Y 1, Y 1, Y 1, Y 0] 23, .nsl])]
def hBT14 : AH := AH.edit hBT13 628 [513] [(126, C 1 [O 622 0 11]),
  (154, C 5 [O 571 0 7, I 9, I 2, I 0, I 0]),
  (167, C 1 [O 598 10 0, .nsl, .nsl]),
  (168, C 17 [I 3, O 166 0 3, I 2, I 3, I 2, I 8, I 64, I 2, I 1, P 126 0, O 183 0 3, .ifc 113 (P 170 0), P 165 0, W 2, O 167 0 3, N 0, .nsl]),
  (169, C 1 [W 1, W 0, W 0]),
  (170, C 5 [I 3, I 1, .imm [I 0, W 1, W 0, I 1, W 2, W 5] 2, W 2, O 169 0 3]),
  (174, C 3 [W 2, W 2, .m (some 173)]),
  (184, C 5 [O 360 0 3, I 9, I 6, I 0, I 0]),
  (360, C 1 [.imm [Y 0, Y 1, Y 7, Y 1, Y 1, Y 1, Y 2, Y 0, Y 1, Y 0] 10, .imm [Y 0, Y 2, Y 10, Y 1, Y 2, Y 5, Y 0, Y 0, Y 4, Y 1, Y 1, Y 1, Y 1] 13, .imm [Y 1, Y 1] 2, .nsl, .nsl, .nsl]),
  (571, C 1 [.imm [Y 1, Y 2] 2, .imm [Y 1, Y 2] 2, .imm [Y 1, Y 2] 2, .imm [Y 1, Y 2] 2, .imm [Y 1, Y 2] 2, .imm [Y 0, Y 1, Y 20, Y 0, Y 1, Y 2, Y 3, Y 0, Y 128, Y 0, Y 0, Y 0, Y 0, Y 0, Y 0, Y 0, Y 0, Y 0, Y 4, Y 1, Y 1, Y 1, Y 0] 23, .imm [Y 0, Y 1, Y 20, Y 0, Y 1, Y 2, Y 3, Y 0, Y 128, Y 0, Y 0, Y 0, Y 0, Y 0, Y 0, Y 0, Y 0, Y 0, Y 4, Y 1, Y 1, Y 1, Y 0] 23, .nsl, .nsl]),
  (598, C 10 [I 0, W 1, W 2, I 3, I 0, .f .f64 0, N 0, W 0, .nsl, .imm [Y 1, Y 1, Y 1, Y 0] 4]),
  (622, C 9 [I 4, I 1, I 0, W 0, W 0, I 0, .f .f64 0, W 0, I 0, I 1, I 1, I 0, W 1, W 1, I 0, .f .f64 0, W 0, I 0, I 6, I 1, I 0, W 0, W 0, I 0, .f .f64 0, W 0, .junk, I 6, I 1, I 0, W 0, W 0, I 0, .f .f64 0, W 0, .junk, I 1, I 1, I 0, W 2, W 5, I 0, .f .f64 0, W 0, I 0, I 2, I 0, I 1, W 1, W 0, I 0, .f .f64 0, W 0, I 0, I 1, I 0, I 0, W 1, W 2, I 0, .f .f64 0, W 0, I 0, I 2, I 0, I 1, W 2, W 0, I 0, .f .f64 0, W 0, I 0, I 2, I 2, I 1, W 2, W 0, I 0, .f .f64 0, W 0, I 0, I 2, I 1, I 0, W 1, W 0, I 0, .f .f64 0, W 0, I 0, I 5, I 1, N 0, W 0, W 0, I 0, .f .f64 0, W 0, I 0])]
def hBT15 : AH := AH.edit hBT14 706 [556, 557] [(140, C 5 [I 2, I 8, I 2, I 0, I 2]),
  (141, C 6 [I 2, I 3, P 140 0, O 402 0 0, O 401 1 0, W 1]),
  (154, C 5 [O 571 0 2, I 11, I 9, I 0, I 0]),
  (171, C 5 [I 2, I 8, I 2, I 0, I 3]),
  (172, C 6 [I 2, I 3, P 171 0, O 298 0 0, O 297 1 0, W 2]),
  (184, C 5 [O 360 0 0, I 11, I 11, I 0, I 0]),
  (298, C 2 [W 0, .nsl, W 0, .nsl]),
  (360, C 1 [.nsl, .nsl, .nsl, .nsl, .nsl, .nsl]),
  (402, C 2 [W 0, .nsl]),
  (571, C 1 [.imm [Y 1, Y 2] 2, .imm [Y 1, Y 2] 2, .nsl, .nsl, .nsl, .nsl, .nsl, .nsl, .nsl])]
def hBT16 : AH := AH.edit hBT15 720 [] [(154, C 5 [O 571 0 0, I 11, I 11, I 0, I 0]),
  (571, C 1 [.nsl, .nsl, .nsl, .nsl, .nsl, .nsl, .nsl, .nsl, .nsl])]
def hBT17 : AH := AH.edit hBT16 722 [] []
def hBT18 : AH := AH.edit hBT17 724 [] []
def hBT19 : AH := AH.edit hBT18 726 [] []
def hBT20 : AH := AH.edit hBT19 728 [] []
def hBT21 : AH := AH.edit hBT20 730 [] []
def hBT22 : AH := AH.edit hBT21 732 [] []
def hBT23 : AH := AH.edit hBT22 734 [] []
def hBT24 : AH := AH.edit hBT23 736 [] []
def hBT25 : AH := AH.edit hBT24 738 [] []
def eBT0 : Entry := ⟨6, [], hBT0, .b true, hBT1⟩
def eBT1 : Entry := ⟨9, [P 127 0, .agg [I 2, I 1, I 0, I 0, I 0, W 0, .f .f64 0, .nsl]], hBT2, .tup [.agg [.f .f64 0, I 0, W 0], I 0], hBT3⟩
def eBT2 : Entry := ⟨9, [P 127 0, .agg [I 0, I 1, I 0, I 0, I 0, W 5, .f .f64 0, .nsl]], hBT4, .tup [.agg [.f .f64 0, I 0, W 0], I 0], hBT5⟩
def eBT3 : Entry := ⟨36, [P 127 0, I 1, I 0, I 0], hBT7, .b true, hBT8⟩
def eBT4 : Entry := ⟨36, [P 127 0, I 1, I 0, I 0], hBT8, .b true, hBT9⟩
def eBT5 : Entry := ⟨36, [P 127 0, I 1, I 2, I 0], hBT10, .b true, hBT11⟩
def eBT6 : Entry := ⟨9, [P 127 0, .agg [I 8, I 0, I 0, I 0, I 0, W 0, .f .f64 0, .nsl]], hBT6, .tup [.agg [.f .f64 0, I 0, W 0], I 0], hBT12⟩
def eBT7 : Entry := ⟨36, [P 127 0, I 0, I 1, I 0], hBT13, .b true, hBT14⟩
def eBT8 : Entry := ⟨9, [P 127 0, .agg [I 8, I 0, I 0, I 0, I 0, W 0, .f .f64 0, .nsl]], hBT12, .tup [.agg [.f .f64 0, I 0, W 0], I 0], hBT15⟩
def eBT9 : Entry := ⟨9, [P 127 0, .agg [I 8, I 0, I 0, I 0, I 0, W 0, .f .f64 0, .nsl]], hBT15, .tup [.agg [.f .f64 0, I 0, W 0], I 0], hBT16⟩
def eBT10 : Entry := ⟨9, [P 127 0, .agg [I 8, I 0, I 0, I 0, I 0, W 0, .f .f64 0, .nsl]], hBT16, .tup [.agg [.f .f64 0, I 0, W 0], I 0], hBT17⟩
def eBT11 : Entry := ⟨9, [P 127 0, .agg [I 8, I 0, I 0, I 0, I 0, W 0, .f .f64 0, .nsl]], hBT17, .tup [.agg [.f .f64 0, I 0, W 0], I 0], hBT18⟩
def eBT12 : Entry := ⟨9, [P 127 0, .agg [I 8, I 0, I 0, I 0, I 0, W 0, .f .f64 0, .nsl]], hBT18, .tup [.agg [.f .f64 0, I 0, W 0], I 0], hBT19⟩
def eBT13 : Entry := ⟨9, [P 127 0, .agg [I 8, I 0, I 0, I 0, I 0, W 0, .f .f64 0, .nsl]], hBT19, .tup [.agg [.f .f64 0, I 0, W 0], I 0], hBT20⟩
def eBT14 : Entry := ⟨9, [P 127 0, .agg [I 8, I 0, I 0, I 0, I 0, W 0, .f .f64 0, .nsl]], hBT20, .tup [.agg [.f .f64 0, I 0, W 0], I 0], hBT21⟩
def eBT15 : Entry := ⟨9, [P 127 0, .agg [I 8, I 0, I 0, I 0, I 0, W 0, .f .f64 0, .nsl]], hBT21, .tup [.agg [.f .f64 0, I 0, W 0], I 0], hBT22⟩
def eBT16 : Entry := ⟨9, [P 127 0, .agg [I 8, I 0, I 0, I 0, I 0, W 0, .f .f64 0, .nsl]], hBT22, .tup [.agg [.f .f64 0, I 0, W 0], I 0], hBT23⟩
def eBT17 : Entry := ⟨9, [P 127 0, .agg [I 8, I 0, I 0, I 0, I 0, W 0, .f .f64 0, .nsl]], hBT23, .tup [.agg [.f .f64 0, I 0, W 0], I 0], hBT24⟩
def eBT18 : Entry := ⟨9, [P 127 0, .agg [I 8, I 0, I 0, I 0, I 0, W 0, .f .f64 0, .nsl]], hBT24, .tup [.agg [.f .f64 0, I 0, W 0], I 0], hBT25⟩
def subBT : List Entry := [eBT3, eBT4, eBT5, eBT7]
def mainBT : List Entry := [eBT0, eBT1, eBT2, eBT6, eBT8, eBT9, eBT10, eBT11, eBT12, eBT13, eBT14, eBT15, eBT16, eBT17, eBT18]
def EBT : Env := withE (EG 3) [36] subBT
end
end Go.Proofs.YtkcogdalihcamaaGreatDoor
