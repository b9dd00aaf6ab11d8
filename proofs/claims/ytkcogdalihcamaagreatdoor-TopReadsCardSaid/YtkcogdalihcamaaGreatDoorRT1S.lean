/-
  The heaps before and behind the calls of this run.
-/
import Derived.Test.YtkcogdalihcamaaGreatDoorBLit
namespace Go.Proofs.YtkcogdalihcamaaGreatDoor
open Go.Av
set_option maxRecDepth 1000000
noncomputable section
def hRT10 : AH := AH.edit emptyH 0 [] []
def hRT11 : AH := AH.edit hRT10 122 [] []
def hRT12 : AH := AH.edit hRT11 224 [] [(122, C 8 [I 3, .imm [W 3, W 1] 2, I 2, I 3, I 2, I 8, I 64, I 2]),
  (126, C 1 [.nsl]),
  (127, C 11 [I 3, .imm [W 3, W 1] 2, I 2, I 3, I 2, I 8, I 64, I 2, P 126 0, O 222 0 3, O 223 0 3]),
  (132, C 3 [.f .f64 0, N 0, W 0, .f .f64 0, N 0, W 0]),
  (133, C 11 [I 3, .imm [W 3, W 1] 2, I 2, I 3, I 2, I 8, I 64, I 2, I 0, O 132 0 2, W 0]),
  (134, C 1 [W 3, W 1]),
  (135, C 1 [.nsl, .nsl, .nsl]),
  (136, C 17 [I 3, O 134 0 2, I 2, I 3, I 2, I 8, I 64, I 2, I 0, P 126 0, O 151 0 3, .ifc 113 (P 138 0), P 133 0, W 0, O 135 0 3, N 0, .nsl]),
  (137, C 1 [W 0, W 0, W 0]),
  (138, C 5 [I 3, I 0, .nsl, W 0, O 137 0 3]),
  (140, C 5 [I 2, I 8, I 2, I 0, I 0]),
  (141, C 6 [I 2, I 3, P 140 0, .nsl, .nsl, W 0]),
  (142, .map []),
  (143, C 3 [W 2, W 1, .m (some 142)]),
  (144, C 2 [P 141 0, P 143 0]),
  (146, C 5 [I 2, I 8, I 2, I 0, I 0]),
  (147, C 6 [I 2, I 3, P 146 0, .nsl, .nsl, W 0]),
  (148, .map []),
  (149, C 3 [W 2, W 1, .m (some 148)]),
  (150, C 2 [P 147 0, P 149 0]),
  (151, C 1 [.p none, P 144 0, P 150 0]),
  (152, C 5 [.nsl, I 0, I 0, I 0, I 0]),
  (154, C 5 [.nsl, I 0, I 0, I 0, I 0]),
  (156, C 5 [.nsl, I 0, I 0, I 0, I 0]),
  (157, C 1 [P 152 0, P 154 0, P 156 0]),
  (164, C 3 [.f .f64 0, N 0, W 0, .f .f64 0, N 0, W 0]),
  (165, C 11 [I 3, .imm [W 3, W 1] 2, I 2, I 3, I 2, I 8, I 64, I 2, I 1, O 164 0 2, W 0]),
  (166, C 1 [W 3, W 1]),
  (167, C 1 [.nsl, .nsl, .nsl]),
  (168, C 17 [I 3, O 166 0 2, I 2, I 3, I 2, I 8, I 64, I 2, I 1, P 126 0, O 183 0 3, .ifc 113 (P 170 0), P 165 0, W 0, O 167 0 3, N 0, .nsl]),
  (169, C 1 [W 0, W 0, W 0]),
  (170, C 5 [I 3, I 1, .nsl, W 0, O 169 0 3]),
  (171, C 5 [I 2, I 8, I 2, I 0, I 0]),
  (172, C 6 [I 2, I 3, P 171 0, .nsl, .nsl, W 0]),
  (173, .map []),
  (174, C 3 [W 2, W 1, .m (some 173)]),
  (175, C 2 [P 172 0, P 174 0]),
  (178, C 5 [I 2, I 8, I 2, I 0, I 0]),
  (179, C 6 [I 2, I 3, P 178 0, .nsl, .nsl, W 0]),
  (180, .map []),
  (181, C 3 [W 2, W 1, .m (some 180)]),
  (182, C 2 [P 179 0, P 181 0]),
  (183, C 1 [P 175 0, .p none, P 182 0]),
  (184, C 5 [.nsl, I 0, I 0, I 0, I 0]),
  (186, C 5 [.nsl, I 0, I 0, I 0, I 0]),
  (188, C 5 [.nsl, I 0, I 0, I 0, I 0]),
  (189, C 1 [P 184 0, P 186 0, P 188 0]),
  (196, C 3 [.f .f64 0, N 0, W 0, .f .f64 0, N 0, W 0]),
  (197, C 11 [I 3, .imm [W 3, W 1] 2, I 2, I 3, I 2, I 8, I 64, I 2, I 2, O 196 0 2, W 0]),
  (198, C 1 [W 3, W 1]),
  (199, C 1 [.nsl, .nsl, .nsl]),
  (200, C 17 [I 3, O 198 0 2, I 2, I 3, I 2, I 8, I 64, I 2, I 2, P 126 0, O 215 0 3, .ifc 113 (P 202 0), P 197 0, W 0, O 199 0 3, N 0, .nsl]),
  (201, C 1 [W 0, W 0, W 0]),
  (202, C 5 [I 3, I 2, .nsl, W 0, O 201 0 3]),
  (203, C 5 [I 2, I 8, I 2, I 0, I 0]),
  (204, C 6 [I 2, I 3, P 203 0, .nsl, .nsl, W 0]),
  (205, .map []),
  (206, C 3 [W 2, W 1, .m (some 205)]),
  (207, C 2 [P 204 0, P 206 0]),
  (209, C 5 [I 2, I 8, I 2, I 0, I 0]),
  (210, C 6 [I 2, I 3, P 209 0, .nsl, .nsl, W 0]),
  (211, .map []),
  (212, C 3 [W 2, W 1, .m (some 211)]),
  (213, C 2 [P 210 0, P 212 0]),
  (215, C 1 [P 207 0, P 213 0, .p none]),
  (216, C 5 [.nsl, I 0, I 0, I 0, I 0]),
  (218, C 5 [.nsl, I 0, I 0, I 0, I 0]),
  (220, C 5 [.nsl, I 0, I 0, I 0, I 0]),
  (221, C 1 [P 216 0, P 218 0, P 220 0]),
  (222, C 1 [P 136 0, P 168 0, P 200 0]),
  (223, C 1 [O 157 0 3, O 189 0 3, O 221 0 3])]
def hRT13 : AH := AH.edit hRT12 258 [] [(126, C 1 [O 255 0 2]),
  (164, C 3 [.tok 6, I 1, W 1, .f .f64 0, N 0, W 0]),
  (165, C 11 [I 3, .imm [W 3, W 1] 2, I 2, I 3, I 2, I 8, I 64, I 2, I 1, O 164 0 2, W 1]),
  (168, C 17 [I 3, O 166 0 2, I 2, I 3, I 2, I 8, I 64, I 2, I 1, P 126 0, O 183 0 3, .ifc 113 (P 170 0), P 165 0, W 1, O 167 0 3, N 0, .nsl]),
  (170, C 5 [I 3, I 1, .imm [I 1, W 1, W 1] 1, W 1, O 169 0 3]),
  (171, C 5 [I 2, I 8, I 2, I 2, I 0]),
  (172, C 6 [I 2, I 3, P 171 0, O 247 0 1, O 246 1 0, W 1]),
  (184, C 5 [O 257 0 1, I 1, I 0, I 0, I 0]),
  (246, C 1 [.imm [Y 1, Y 1, Y 1, Y 1, Y 0, .tok 27, .tok 26, .tok 25, .tok 24, .tok 23, .tok 22, .tok 21, .tok 20, Y 2, Y 1, Y 1, Y 0] 17]),
  (247, C 2 [W 1, .imm [Y 1, Y 1, Y 1, Y 1, Y 0, .tok 27, .tok 26, .tok 25, .tok 24, .tok 23, .tok 22, .tok 21, .tok 20, Y 2, Y 1, Y 1, Y 0] 17]),
  (255, C 9 [I 3, I 1, I 0, W 0, W 0, I 0, .tok 6, W 1, I 0, I 1, I 1, I 0, W 1, W 1, I 0, .f .f64 0, W 0, I 0]),
  (257, C 1 [.imm [Y 0, Y 1, Y 17, Y 1, Y 1, Y 1, Y 1, Y 0, .tok 27, .tok 26, .tok 25, .tok 24, .tok 23, .tok 22, .tok 21, .tok 20, Y 2, Y 1, Y 1, Y 0] 20])]
def hRT14 : AH := AH.edit hRT13 292 [246, 247, 255, 257] [(126, C 1 [O 289 0 4]),
  (168, C 17 [I 3, O 166 0 2, I 2, I 3, I 2, I 8, I 64, I 2, I 1, P 126 0, O 183 0 3, .ifc 113 (P 170 0), P 165 0, W 2, O 167 0 3, I 1, .nsl]),
  (170, C 5 [I 3, I 1, .imm [I 1, W 2, W 1] 1, W 2, O 169 0 3]),
  (172, C 6 [I 2, I 3, P 171 0, O 281 0 2, O 280 1 0, W 2]),
  (184, C 5 [O 291 0 2, I 2, I 0, I 0, I 0]),
  (280, C 1 [.imm [Y 1, Y 2, Y 1, Y 2, Y 1, Y 4, Y 1, Y 1, Y 1, Y 1] 10]),
  (281, C 2 [W 1, .imm [Y 1, Y 1, Y 1, Y 1, Y 0, .tok 27, .tok 26, .tok 25, .tok 24, .tok 23, .tok 22, .tok 21, .tok 20, Y 2, Y 1, Y 1, Y 0] 17, W 2, .imm [Y 1, Y 2, Y 1, Y 2, Y 1, Y 4, Y 1, Y 1, Y 1, Y 1] 10]),
  (289, C 9 [I 3, I 1, I 0, W 0, W 0, I 0, .tok 6, W 1, I 0, I 1, I 1, I 0, W 1, W 1, I 0, .f .f64 0, W 0, I 0, I 4, I 1, I 0, W 0, W 0, I 1, .f .f64 0, W 0, I 0, I 1, I 1, I 0, W 2, W 1, I 0, .f .f64 0, W 0, I 0]),
  (291, C 1 [.imm [Y 0, Y 1, Y 17, Y 1, Y 1, Y 1, Y 1, Y 0, .tok 27, .tok 26, .tok 25, .tok 24, .tok 23, .tok 22, .tok 21, .tok 20, Y 2, Y 1, Y 1, Y 0] 20, .imm [Y 0, Y 2, Y 10, Y 1, Y 2, Y 1, Y 2, Y 1, Y 4, Y 1, Y 1, Y 1, Y 1] 13])]
def hRT15 : AH := AH.edit hRT14 293 [] [(292, C 3 [.f .f64 0, I 0, W 0])]
def hRT16 : AH := AH.edit hRT15 321 [291] [(171, C 5 [I 2, I 8, I 8, I 6, I 2]),
  (184, C 5 [O 320 0 6, I 6, I 0, I 0, I 0]),
  (293, C 8 [I 8, I 0, I 0, I 0, I 0, W 0, .f .f64 0, .nsl]),
  (294, C 3 [.f .f64 0, I 0, W 0]),
  (320, C 1 [.imm [Y 0, Y 1, Y 17, Y 1, Y 1, Y 1, Y 1, Y 0, .tok 27, .tok 26, .tok 25, .tok 24, .tok 23, .tok 22, .tok 21, .tok 20, Y 2, Y 1, Y 1, Y 0] 20, .imm [Y 0, Y 2, Y 10, Y 1, Y 2, Y 1, Y 2, Y 1, Y 4, Y 1, Y 1, Y 1, Y 1] 13, .imm [Y 0, Y 1, Y 17, Y 1, Y 1, Y 1, Y 1, Y 0, .tok 27, .tok 26, .tok 25, .tok 24, .tok 23, .tok 22, .tok 21, .tok 20, Y 2, Y 1, Y 1, Y 0] 20, .imm [Y 0, Y 2, Y 10, Y 1, Y 2, Y 1, Y 2, Y 1, Y 4, Y 1, Y 1, Y 1, Y 1] 13, .imm [Y 0, Y 1, Y 17, Y 1, Y 1, Y 1, Y 1, Y 0, .tok 27, .tok 26, .tok 25, .tok 24, .tok 23, .tok 22, .tok 21, .tok 20, Y 2, Y 1, Y 1, Y 0] 20, .imm [Y 0, Y 2, Y 10, Y 1, Y 2, Y 1, Y 2, Y 1, Y 4, Y 1, Y 1, Y 1, Y 1] 13])]
def hRT17 : AH := AH.edit hRT16 353 [289] [(126, C 1 [O 345 0 5]),
  (132, C 3 [.tok 6, I 1, W 1, .f .f64 0, N 0, W 0]),
  (135, C 1 [.nsl, O 327 10 0, .nsl]),
  (137, C 1 [W 0, W 1, W 0]),
  (138, C 5 [I 3, I 0, .imm [I 1, W 1, W 0] 1, W 0, O 137 0 3]),
  (143, C 3 [W 2, W 2, .m (some 142)]),
  (154, C 5 [O 352 0 1, I 1, I 0, I 0, I 0]),
  (184, C 5 [O 320 0 5, I 6, I 1, I 0, I 0]),
  (320, C 1 [.imm [Y 0, Y 2, Y 10, Y 1, Y 2, Y 1, Y 2, Y 1, Y 4, Y 1, Y 1, Y 1, Y 1] 13, .imm [Y 0, Y 1, Y 17, Y 1, Y 1, Y 1, Y 1, Y 0, .tok 27, .tok 26, .tok 25, .tok 24, .tok 23, .tok 22, .tok 21, .tok 20, Y 2, Y 1, Y 1, Y 0] 20, .imm [Y 0, Y 2, Y 10, Y 1, Y 2, Y 1, Y 2, Y 1, Y 4, Y 1, Y 1, Y 1, Y 1] 13, .imm [Y 0, Y 1, Y 17, Y 1, Y 1, Y 1, Y 1, Y 0, .tok 27, .tok 26, .tok 25, .tok 24, .tok 23, .tok 22, .tok 21, .tok 20, Y 2, Y 1, Y 1, Y 0] 20, .imm [Y 0, Y 2, Y 10, Y 1, Y 2, Y 1, Y 2, Y 1, Y 4, Y 1, Y 1, Y 1, Y 1] 13, .nsl]),
  (327, C 10 [I 1, W 1, W 1, I 1, I 0, .tok 6, I 1, W 1, .nsl, .imm [Y 0] 1]),
  (345, C 9 [I 3, I 1, I 0, W 0, W 0, I 0, .tok 6, W 1, I 0, I 1, I 1, I 0, W 1, W 1, I 0, .f .f64 0, W 0, I 0, I 4, I 1, I 0, W 0, W 0, I 1, .f .f64 0, W 0, I 0, I 1, I 1, I 0, W 2, W 1, I 0, .f .f64 0, W 0, I 0, I 2, I 0, I 1, W 1, W 0, I 0, .f .f64 0, W 0, I 0]),
  (352, C 1 [.imm [Y 1, Y 1] 2])]
def hRT18 : AH := AH.edit hRT17 413 [327, 345, 352] [(126, C 1 [O 402 0 7]),
  (135, C 1 [.nsl, O 359 10 0, .nsl]),
  (136, C 17 [I 3, O 134 0 2, I 2, I 3, I 2, I 8, I 64, I 2, I 0, P 126 0, O 151 0 3, .ifc 113 (P 138 0), P 133 0, W 1, O 135 0 3, N 0, .nsl]),
  (137, C 1 [W 0, W 2, W 0]),
  (138, C 5 [I 3, I 0, .imm [I 0, W 1, W 2, I 1, W 2, W 0] 2, W 1, O 137 0 3]),
  (140, C 5 [I 2, I 8, I 2, I 2, I 0]),
  (141, C 6 [I 2, I 3, P 140 0, O 394 0 1, O 393 1 0, W 1]),
  (143, C 3 [W 2, W 3, .m (some 142)]),
  (154, C 5 [O 412 0 3, I 3, I 0, I 0, I 0]),
  (184, C 5 [O 320 0 4, I 6, I 2, I 0, I 0]),
  (320, C 1 [.imm [Y 0, Y 1, Y 17, Y 1, Y 1, Y 1, Y 1, Y 0, .tok 27, .tok 26, .tok 25, .tok 24, .tok 23, .tok 22, .tok 21, .tok 20, Y 2, Y 1, Y 1, Y 0] 20, .imm [Y 0, Y 2, Y 10, Y 1, Y 2, Y 1, Y 2, Y 1, Y 4, Y 1, Y 1, Y 1, Y 1] 13, .imm [Y 0, Y 1, Y 17, Y 1, Y 1, Y 1, Y 1, Y 0, .tok 27, .tok 26, .tok 25, .tok 24, .tok 23, .tok 22, .tok 21, .tok 20, Y 2, Y 1, Y 1, Y 0] 20, .imm [Y 0, Y 2, Y 10, Y 1, Y 2, Y 1, Y 2, Y 1, Y 4, Y 1, Y 1, Y 1, Y 1] 13, .nsl, .nsl]),
  (359, C 10 [I 1, W 2, W 1, I 2, I 1, .f .f64 0, I 0, W 0, .nsl, .imm [Y 1, Y 1, Y 1, Y 1] 4]),
  (393, C 1 [.imm [Y 0, Y 1, Y 2, Y 3, Y 1, Y 128, Y 0, Y 0, Y 0, Y 0, Y 0, Y 0, Y 0, Y 0, Y 0, Y 4, Y 1, Y 1, Y 2, Y 0] 20]),
  (394, C 2 [W 1, .imm [Y 0, Y 1, Y 2, Y 3, Y 1, Y 128, Y 0, Y 0, Y 0, Y 0, Y 0, Y 0, Y 0, Y 0, Y 0, Y 4, Y 1, Y 1, Y 2, Y 0] 20]),
  (402, C 9 [I 3, I 1, I 0, W 0, W 0, I 0, .tok 6, W 1, I 0, I 1, I 1, I 0, W 1, W 1, I 0, .f .f64 0, W 0, I 0, I 4, I 1, I 0, W 0, W 0, I 1, .f .f64 0, W 0, I 0, I 1, I 1, I 0, W 2, W 1, I 0, .f .f64 0, W 0, I 0, I 2, I 0, I 1, W 1, W 0, I 0, .f .f64 0, W 0, I 0, I 2, I 0, I 1, W 2, W 0, I 0, .f .f64 0, W 0, I 0, I 1, I 0, I 0, W 1, W 2, I 0, .f .f64 0, W 0, I 0]),
  (412, C 1 [.imm [Y 1, Y 1] 2, .imm [Y 1, Y 2] 2, .imm [Y 0, Y 1, Y 20, Y 0, Y 1, Y 2, Y 3, Y 1, Y 128, Y 0, Y 0, Y 0, Y 0, Y 0, Y 0, Y 0, Y 0, Y 0, Y 4, Y 1, Y 1, Y 2, Y 0] 23])]
def hRT19 : AH := AH.edit hRT18 445 [293, 294, 412] [(154, C 5 [O 444 0 7, I 7, I 0, I 0, I 0]),
  (184, C 5 [O 320 0 0, I 6, I 6, I 0, I 0]),
  (320, C 1 [.nsl, .nsl, .nsl, .nsl, .nsl, .nsl]),
  (444, C 1 [.imm [Y 1, Y 1] 2, .imm [Y 1, Y 2] 2, .imm [Y 0, Y 1, Y 20, Y 0, Y 1, Y 2, Y 3, Y 1, Y 128, Y 0, Y 0, Y 0, Y 0, Y 0, Y 0, Y 0, Y 0, Y 0, Y 4, Y 1, Y 1, Y 2, Y 0] 23, .imm [Y 1, Y 2] 2, .imm [Y 1, Y 2] 2, .imm [Y 1, Y 2] 2, .imm [Y 1, Y 2] 2])]
def hRT110 : AH := AH.edit hRT19 488 [444] [(140, C 5 [I 2, I 8, I 8, I 6, I 2]),
  (154, C 5 [O 460 0 7, I 9, I 2, I 0, I 0]),
  (171, C 5 [I 2, I 8, I 2, I 0, I 3]),
  (172, C 6 [I 2, I 3, P 171 0, O 281 0 0, O 280 1 0, W 2]),
  (184, C 5 [O 320 0 2, I 8, I 6, I 0, I 0]),
  (281, C 2 [W 0, .nsl, W 0, .nsl]),
  (320, C 1 [.imm [Y 0, Y 1, Y 17, Y 1, Y 1, Y 1, Y 1, Y 0, .tok 27, .tok 26, .tok 25, .tok 24, .tok 23, .tok 22, .tok 21, .tok 20, Y 2, Y 1, Y 1, Y 0] 20, .imm [Y 0, Y 2, Y 10, Y 1, Y 2, Y 1, Y 2, Y 1, Y 4, Y 1, Y 1, Y 1, Y 1] 13, .nsl, .nsl, .nsl, .nsl]),
  (445, C 8 [I 8, I 0, I 0, I 0, I 0, W 0, .f .f64 0, .nsl]),
  (446, C 3 [.f .f64 0, I 0, W 0]),
  (460, C 1 [.imm [Y 0, Y 1, Y 20, Y 0, Y 1, Y 2, Y 3, Y 1, Y 128, Y 0, Y 0, Y 0, Y 0, Y 0, Y 0, Y 0, Y 0, Y 0, Y 4, Y 1, Y 1, Y 2, Y 0] 23, .imm [Y 1, Y 2] 2, .imm [Y 1, Y 2] 2, .imm [Y 1, Y 2] 2, .imm [Y 1, Y 2] 2, .imm [Y 0, Y 1, Y 20, Y 0, Y 1, Y 2, Y 3, Y 1, Y 128, Y 0, Y 0, Y 0, Y 0, Y 0, Y 0, Y 0, Y 0, Y 0, Y 4, Y 1, Y 1, Y 2, Y 0] 23, .imm [Y 0, Y 1, Y 20, Y 0, Y 1, Y 2, Y 3, Y 1, Y 128, Y 0, Y 0, Y 0, Y 0, Y 0, Y 0, Y 0, Y 0, Y 0, Y 4, Y 1, Y 1, Y 2, Y 0] 23, .nsl, .nsl])]
def hRT111 : AH := AH.edit hRT110 524 [402] [(126, C 1 [O 518 0 9]),
  (154, C 5 [O 460 0 6, I 9, I 3, I 0, I 0]),
  (167, C 1 [O 494 10 0, .nsl, .nsl]),
  (168, C 17 [I 3, O 166 0 2, I 2, I 3, I 2, I 8, I 64, I 2, I 1, P 126 0, O 183 0 3, .ifc 113 (P 170 0), P 165 0, W 2, O 167 0 3, N 0, .nsl]),
  (169, C 1 [W 1, W 0, W 0]),
  (170, C 5 [I 3, I 1, .imm [I 0, W 1, W 0, I 1, W 2, W 0] 2, W 2, O 169 0 3]),
  (174, C 3 [W 2, W 2, .m (some 173)]),
  (184, C 5 [O 320 0 3, I 9, I 6, I 0, I 0]),
  (320, C 1 [.imm [Y 0, Y 1, Y 17, Y 1, Y 1, Y 1, Y 1, Y 0, .tok 27, .tok 26, .tok 25, .tok 24, .tok 23, .tok 22, .tok 21, .tok 20, Y 2, Y 1, Y 1, Y 0] 20, .imm [Y 0, Y 2, Y 10, Y 1, Y 2, Y 1, Y 2, Y 1, Y 4, Y 1, Y 1, Y 1, Y 1] 13, .imm [Y 1, Y 1] 2, .nsl, .nsl, .nsl]),
  (460, C 1 [.imm [Y 1, Y 2] 2, .imm [Y 1, Y 2] 2, .imm [Y 1, Y 2] 2, .imm [Y 1, Y 2] 2, .imm [Y 0, Y 1, Y 20, Y 0, Y 1, Y 2, Y 3, Y 1, Y 128, Y 0, Y 0, Y 0, Y 0, Y 0, Y 0, Y 0, Y 0, Y 0, Y 4, Y 1, Y 1, Y 2, Y 0] 23, .imm [Y 0, Y 1, Y 20, Y 0, Y 1, Y 2, Y 3, Y 1, Y 128, Y 0, Y 0, Y 0, Y 0, Y 0, Y 0, Y 0, Y 0, Y 0, Y 4, Y 1, Y 1, Y 2, Y 0] 23, .nsl, .nsl, .nsl]),
  (494, C 10 [I 0, W 1, W 2, I 3, I 1, .f .f64 0, N 0, W 0, .nsl, .imm [Y 1, Y 1, Y 2, Y 0] 4]),
  (518, C 9 [I 3, I 1, I 0, W 0, W 0, I 0, .tok 6, W 1, I 0, I 1, I 1, I 0, W 1, W 1, I 0, .f .f64 0, W 0, I 0, I 4, I 1, I 0, W 0, W 0, I 1, .f .f64 0, W 0, I 0, I 1, I 1, I 0, W 2, W 1, I 0, .f .f64 0, W 0, I 0, I 2, I 0, I 1, W 1, W 0, I 0, .f .f64 0, W 0, I 0, I 2, I 0, I 1, W 2, W 0, I 0, .f .f64 0, W 0, I 0, I 1, I 0, I 0, W 1, W 2, I 0, .f .f64 0, W 0, I 0, I 2, I 1, I 0, W 1, W 0, I 0, .f .f64 0, W 0, I 0, I 5, I 1, N 0, W 0, W 0, I 1, .f .f64 0, W 0, I 0])]
def hRT112 : AH := AH.edit hRT111 595 [445, 446] [(140, C 5 [I 2, I 8, I 2, I 0, I 2]),
  (141, C 6 [I 2, I 3, P 140 0, O 394 0 0, O 393 1 0, W 1]),
  (154, C 5 [O 460 0 2, I 11, I 9, I 0, I 0]),
  (184, C 5 [O 320 0 0, I 11, I 11, I 0, I 0]),
  (320, C 1 [.nsl, .nsl, .nsl, .nsl, .nsl, .nsl]),
  (394, C 2 [W 0, .nsl]),
  (460, C 1 [.imm [Y 1, Y 2] 2, .imm [Y 1, Y 2] 2, .nsl, .nsl, .nsl, .nsl, .nsl, .nsl, .nsl])]
def hRT113 : AH := AH.edit hRT112 609 [] [(154, C 5 [O 460 0 0, I 11, I 11, I 0, I 0]),
  (460, C 1 [.nsl, .nsl, .nsl, .nsl, .nsl, .nsl, .nsl, .nsl, .nsl])]
def hRT114 : AH := AH.edit hRT113 611 [] []
def hRT115 : AH := AH.edit hRT114 613 [] []
def hRT116 : AH := AH.edit hRT115 615 [] []
def hRT117 : AH := AH.edit hRT116 617 [] []
def hRT118 : AH := AH.edit hRT117 619 [] []
def hRT119 : AH := AH.edit hRT118 621 [] []
def hRT120 : AH := AH.edit hRT119 623 [] []
def hRT121 : AH := AH.edit hRT120 625 [] []
def hRT122 : AH := AH.edit hRT121 627 [] []
def hRT123 : AH := AH.edit hRT122 629 [] []
def hRT124 : AH := AH.edit hRT123 631 [] []
def hRT125 : AH := AH.edit hRT124 633 [] []
def hRT126 : AH := AH.edit hRT125 635 [] []
def eRT10 : Entry := ⟨6, [], hRT10, .b true, hRT11⟩
def eRT11 : Entry := ⟨9, [P 127 0, .agg [I 1, I 1, I 0, I 0, I 0, W 0, .tok 0, .nsl]], hRT12, .tup [.agg [.f .f64 0, I 0, W 0], I 0], hRT13⟩
def eRT12 : Entry := ⟨9, [P 127 0, .agg [I 2, I 1, I 0, I 0, I 1, W 0, .f .f64 0, .nsl]], hRT13, .tup [.agg [.f .f64 0, I 0, W 0], I 0], hRT14⟩
def eRT13 : Entry := ⟨36, [P 127 0, I 1, I 0, I 0], hRT16, .b true, hRT17⟩
def eRT14 : Entry := ⟨36, [P 127 0, I 1, I 0, I 0], hRT17, .b true, hRT18⟩
def eRT15 : Entry := ⟨9, [P 127 0, .agg [I 8, I 0, I 0, I 0, I 0, W 0, .f .f64 0, .nsl]], hRT15, .tup [.agg [.f .f64 0, I 0, W 0], I 0], hRT19⟩
def eRT16 : Entry := ⟨36, [P 127 0, I 0, I 1, I 0], hRT110, .b true, hRT111⟩
def eRT17 : Entry := ⟨9, [P 127 0, .agg [I 8, I 0, I 0, I 0, I 0, W 0, .f .f64 0, .nsl]], hRT19, .tup [.agg [.f .f64 0, I 0, W 0], I 0], hRT112⟩
def eRT18 : Entry := ⟨9, [P 127 0, .agg [I 8, I 0, I 0, I 0, I 0, W 0, .f .f64 0, .nsl]], hRT112, .tup [.agg [.f .f64 0, I 0, W 0], I 0], hRT113⟩
def eRT19 : Entry := ⟨9, [P 127 0, .agg [I 8, I 0, I 0, I 0, I 0, W 0, .f .f64 0, .nsl]], hRT113, .tup [.agg [.f .f64 0, I 0, W 0], I 0], hRT114⟩
def eRT110 : Entry := ⟨9, [P 127 0, .agg [I 8, I 0, I 0, I 0, I 0, W 0, .f .f64 0, .nsl]], hRT114, .tup [.agg [.f .f64 0, I 0, W 0], I 0], hRT115⟩
def eRT111 : Entry := ⟨9, [P 127 0, .agg [I 8, I 0, I 0, I 0, I 0, W 0, .f .f64 0, .nsl]], hRT115, .tup [.agg [.f .f64 0, I 0, W 0], I 0], hRT116⟩
def eRT112 : Entry := ⟨9, [P 127 0, .agg [I 8, I 0, I 0, I 0, I 0, W 0, .f .f64 0, .nsl]], hRT116, .tup [.agg [.f .f64 0, I 0, W 0], I 0], hRT117⟩
def eRT113 : Entry := ⟨9, [P 127 0, .agg [I 8, I 0, I 0, I 0, I 0, W 0, .f .f64 0, .nsl]], hRT117, .tup [.agg [.f .f64 0, I 0, W 0], I 0], hRT118⟩
def eRT114 : Entry := ⟨9, [P 127 0, .agg [I 8, I 0, I 0, I 0, I 0, W 0, .f .f64 0, .nsl]], hRT118, .tup [.agg [.f .f64 0, I 0, W 0], I 0], hRT119⟩
def eRT115 : Entry := ⟨9, [P 127 0, .agg [I 8, I 0, I 0, I 0, I 0, W 0, .f .f64 0, .nsl]], hRT119, .tup [.agg [.f .f64 0, I 0, W 0], I 0], hRT120⟩
def eRT116 : Entry := ⟨9, [P 127 0, .agg [I 8, I 0, I 0, I 0, I 0, W 0, .f .f64 0, .nsl]], hRT120, .tup [.agg [.f .f64 0, I 0, W 0], I 0], hRT121⟩
def eRT117 : Entry := ⟨9, [P 127 0, .agg [I 8, I 0, I 0, I 0, I 0, W 0, .f .f64 0, .nsl]], hRT121, .tup [.agg [.f .f64 0, I 0, W 0], I 0], hRT122⟩
def eRT118 : Entry := ⟨9, [P 127 0, .agg [I 8, I 0, I 0, I 0, I 0, W 0, .f .f64 0, .nsl]], hRT122, .tup [.agg [.f .f64 0, I 0, W 0], I 0], hRT123⟩
def eRT119 : Entry := ⟨9, [P 127 0, .agg [I 8, I 0, I 0, I 0, I 0, W 0, .f .f64 0, .nsl]], hRT123, .tup [.agg [.f .f64 0, I 0, W 0], I 0], hRT124⟩
def eRT120 : Entry := ⟨9, [P 127 0, .agg [I 8, I 0, I 0, I 0, I 0, W 0, .f .f64 0, .nsl]], hRT124, .tup [.agg [.f .f64 0, I 0, W 0], I 0], hRT125⟩
def eRT121 : Entry := ⟨9, [P 127 0, .agg [I 8, I 0, I 0, I 0, I 0, W 0, .f .f64 0, .nsl]], hRT125, .tup [.agg [.f .f64 0, I 0, W 0], I 0], hRT126⟩
def subRT1 : List Entry := [eRT13, eRT14, eRT16]
def mainRT1 : List Entry := [eRT10, eRT11, eRT12, eRT15, eRT17, eRT18, eRT19, eRT110, eRT111, eRT112, eRT113, eRT114, eRT115, eRT116, eRT117, eRT118, eRT119, eRT120, eRT121]
def ERT1 : Env := withE (EG 3) [36] subRT1
end
end Go.Proofs.YtkcogdalihcamaaGreatDoor
