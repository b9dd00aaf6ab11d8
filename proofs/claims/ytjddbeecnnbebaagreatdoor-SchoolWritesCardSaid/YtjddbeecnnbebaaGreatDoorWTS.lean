/-
  The heaps before and behind the calls of these runs.
-/
import Derived.Test.YtjddbeecnnbebaaGreatDoorBEnv
namespace Go.Proofs.YtjddbeecnnbebaaGreatDoor
open Go.Av
set_option maxRecDepth 1000000
noncomputable section
def hWT0 : AH := AH.edit emptyH 0 [] []
def hWT1 : AH := AH.edit hWT0 126 [] []
def hWT2 : AH := AH.edit hWT1 227 [] [(129, C 1 [.nsl]),
  (130, C 11 [I 3, .imm [W 7] 1, I 2, I 3, I 2, I 8, I 64, I 2, P 129 0, O 225 0 3, O 226 0 3]),
  (135, C 3 [.f .f64 0, N 0, W 0]),
  (136, C 11 [I 3, .imm [W 7] 1, I 2, I 3, I 2, I 8, I 64, I 2, I 0, O 135 0 1, W 0]),
  (137, C 1 [W 7]),
  (138, C 1 [.nsl, .nsl, .nsl]),
  (139, C 17 [I 3, O 137 0 1, I 2, I 3, I 2, I 8, I 64, I 2, I 0, P 129 0, O 154 0 3, .ifc 108 (P 141 0), P 136 0, W 0, O 138 0 3, N 0, .nsl]),
  (140, C 1 [W 0, W 0, W 0]),
  (141, C 5 [I 3, I 0, .nsl, W 0, O 140 0 3]),
  (143, C 5 [I 2, I 8, I 2, I 0, I 0]),
  (144, C 6 [I 2, I 3, P 143 0, .nsl, .nsl, W 0]),
  (145, .map []),
  (146, C 3 [W 2, W 1, .m (some 145)]),
  (147, C 2 [P 144 0, P 146 0]),
  (149, C 5 [I 2, I 8, I 2, I 0, I 0]),
  (150, C 6 [I 2, I 3, P 149 0, .nsl, .nsl, W 0]),
  (151, .map []),
  (152, C 3 [W 2, W 1, .m (some 151)]),
  (153, C 2 [P 150 0, P 152 0]),
  (154, C 1 [.p none, P 147 0, P 153 0]),
  (155, C 5 [.nsl, I 0, I 0, I 0, I 0]),
  (157, C 5 [.nsl, I 0, I 0, I 0, I 0]),
  (159, C 5 [.nsl, I 0, I 0, I 0, I 0]),
  (160, C 1 [P 155 0, P 157 0, P 159 0]),
  (167, C 3 [.f .f64 0, N 0, W 0]),
  (168, C 11 [I 3, .imm [W 7] 1, I 2, I 3, I 2, I 8, I 64, I 2, I 1, O 167 0 1, W 0]),
  (169, C 1 [W 7]),
  (170, C 1 [.nsl, .nsl, .nsl]),
  (171, C 17 [I 3, O 169 0 1, I 2, I 3, I 2, I 8, I 64, I 2, I 1, P 129 0, O 186 0 3, .ifc 108 (P 173 0), P 168 0, W 0, O 170 0 3, N 0, .nsl]),
  (172, C 1 [W 0, W 0, W 0]),
  (173, C 5 [I 3, I 1, .nsl, W 0, O 172 0 3]),
  (174, C 5 [I 2, I 8, I 2, I 0, I 0]),
  (175, C 6 [I 2, I 3, P 174 0, .nsl, .nsl, W 0]),
  (176, .map []),
  (177, C 3 [W 2, W 1, .m (some 176)]),
  (178, C 2 [P 175 0, P 177 0]),
  (181, C 5 [I 2, I 8, I 2, I 0, I 0]),
  (182, C 6 [I 2, I 3, P 181 0, .nsl, .nsl, W 0]),
  (183, .map []),
  (184, C 3 [W 2, W 1, .m (some 183)]),
  (185, C 2 [P 182 0, P 184 0]),
  (186, C 1 [P 178 0, .p none, P 185 0]),
  (187, C 5 [.nsl, I 0, I 0, I 0, I 0]),
  (189, C 5 [.nsl, I 0, I 0, I 0, I 0]),
  (191, C 5 [.nsl, I 0, I 0, I 0, I 0]),
  (192, C 1 [P 187 0, P 189 0, P 191 0]),
  (199, C 3 [.f .f64 0, N 0, W 0]),
  (200, C 11 [I 3, .imm [W 7] 1, I 2, I 3, I 2, I 8, I 64, I 2, I 2, O 199 0 1, W 0]),
  (201, C 1 [W 7]),
  (202, C 1 [.nsl, .nsl, .nsl]),
  (203, C 17 [I 3, O 201 0 1, I 2, I 3, I 2, I 8, I 64, I 2, I 2, P 129 0, O 218 0 3, .ifc 108 (P 205 0), P 200 0, W 0, O 202 0 3, N 0, .nsl]),
  (204, C 1 [W 0, W 0, W 0]),
  (205, C 5 [I 3, I 2, .nsl, W 0, O 204 0 3]),
  (206, C 5 [I 2, I 8, I 2, I 0, I 0]),
  (207, C 6 [I 2, I 3, P 206 0, .nsl, .nsl, W 0]),
  (208, .map []),
  (209, C 3 [W 2, W 1, .m (some 208)]),
  (210, C 2 [P 207 0, P 209 0]),
  (212, C 5 [I 2, I 8, I 2, I 0, I 0]),
  (213, C 6 [I 2, I 3, P 212 0, .nsl, .nsl, W 0]),
  (214, .map []),
  (215, C 3 [W 2, W 1, .m (some 214)]),
  (216, C 2 [P 213 0, P 215 0]),
  (218, C 1 [P 210 0, P 216 0, .p none]),
  (219, C 5 [.nsl, I 0, I 0, I 0, I 0]),
  (221, C 5 [.nsl, I 0, I 0, I 0, I 0]),
  (223, C 5 [.nsl, I 0, I 0, I 0, I 0]),
  (224, C 1 [P 219 0, P 221 0, P 223 0]),
  (225, C 1 [P 139 0, P 171 0, P 203 0]),
  (226, C 1 [O 160 0 3, O 192 0 3, O 224 0 3])]
def hWT3 : AH := AH.edit hWT2 274 [] [(129, C 1 [O 269 0 2]),
  (167, C 3 [.tok 6, I 1, W 1]),
  (168, C 11 [I 3, .imm [W 7] 1, I 2, I 3, I 2, I 8, I 64, I 2, I 1, O 167 0 1, W 1]),
  (171, C 17 [I 3, O 169 0 1, I 2, I 3, I 2, I 8, I 64, I 2, I 1, P 129 0, O 186 0 3, .ifc 108 (P 173 0), P 168 0, W 1, O 170 0 3, N 0, .nsl]),
  (173, C 5 [I 3, I 1, .imm [I 1, W 1, W 5] 1, W 1, O 172 0 3]),
  (174, C 5 [I 2, I 8, I 2, I 2, I 0]),
  (175, C 6 [I 2, I 3, P 174 0, O 252 0 1, O 251 1 0, W 1]),
  (181, C 5 [I 2, I 8, I 2, I 2, I 0]),
  (182, C 6 [I 2, I 3, P 181 0, O 261 0 1, O 260 1 0, W 1]),
  (187, C 5 [O 271 0 1, I 1, I 0, I 0, I 0]),
  (191, C 5 [O 273 0 1, I 1, I 0, I 0, I 0]),
  (251, C 1 [.imm [Y 1, Y 1, Y 5, Y 1, Y 0, .tok 27, .tok 26, .tok 25, .tok 24, .tok 23, .tok 22, .tok 21, .tok 20, Y 2, Y 1, Y 1, Y 0] 17]),
  (252, C 2 [W 1, .imm [Y 1, Y 1, Y 5, Y 1, Y 0, .tok 27, .tok 26, .tok 25, .tok 24, .tok 23, .tok 22, .tok 21, .tok 20, Y 2, Y 1, Y 1, Y 0] 17]),
  (260, C 1 [.imm [Y 1, Y 1, Y 5, Y 1, Y 0, .tok 27, .tok 26, .tok 25, .tok 24, .tok 23, .tok 22, .tok 21, .tok 20, Y 2, Y 1, Y 1, Y 0] 17]),
  (261, C 2 [W 1, .imm [Y 1, Y 1, Y 5, Y 1, Y 0, .tok 27, .tok 26, .tok 25, .tok 24, .tok 23, .tok 22, .tok 21, .tok 20, Y 2, Y 1, Y 1, Y 0] 17]),
  (269, C 9 [I 3, I 1, I 0, W 0, W 0, I 0, .tok 6, W 1, I 0, I 1, I 1, I 0, W 1, W 5, I 0, .f .f64 0, W 0, I 0]),
  (271, C 1 [.imm [Y 0, Y 1, Y 17, Y 1, Y 1, Y 5, Y 1, Y 0, .tok 27, .tok 26, .tok 25, .tok 24, .tok 23, .tok 22, .tok 21, .tok 20, Y 2, Y 1, Y 1, Y 0] 20]),
  (273, C 1 [.imm [Y 0, Y 1, Y 17, Y 1, Y 1, Y 5, Y 1, Y 0, .tok 27, .tok 26, .tok 25, .tok 24, .tok 23, .tok 22, .tok 21, .tok 20, Y 2, Y 1, Y 1, Y 0] 20])]
def hWT4 : AH := AH.edit hWT3 275 [] [(274, C 3 [.f .f64 0, I 0, W 0])]
def hWT5 : AH := AH.edit hWT4 305 [271, 273] [(174, C 5 [I 2, I 8, I 8, I 6, I 2]),
  (181, C 5 [I 2, I 8, I 8, I 6, I 2]),
  (187, C 5 [O 302 0 3, I 3, I 0, I 0, I 0]),
  (191, C 5 [O 304 0 3, I 3, I 0, I 0, I 0]),
  (275, C 8 [I 8, I 0, I 0, I 0, I 0, W 0, .f .f64 0, .nsl]),
  (276, C 3 [.f .f64 0, I 0, W 0]),
  (302, C 1 [.imm [Y 0, Y 1, Y 17, Y 1, Y 1, Y 5, Y 1, Y 0, .tok 27, .tok 26, .tok 25, .tok 24, .tok 23, .tok 22, .tok 21, .tok 20, Y 2, Y 1, Y 1, Y 0] 20, .imm [Y 0, Y 1, Y 17, Y 1, Y 1, Y 5, Y 1, Y 0, .tok 27, .tok 26, .tok 25, .tok 24, .tok 23, .tok 22, .tok 21, .tok 20, Y 2, Y 1, Y 1, Y 0] 20, .imm [Y 0, Y 1, Y 17, Y 1, Y 1, Y 5, Y 1, Y 0, .tok 27, .tok 26, .tok 25, .tok 24, .tok 23, .tok 22, .tok 21, .tok 20, Y 2, Y 1, Y 1, Y 0] 20]),
  (304, C 1 [.imm [Y 0, Y 1, Y 17, Y 1, Y 1, Y 5, Y 1, Y 0, .tok 27, .tok 26, .tok 25, .tok 24, .tok 23, .tok 22, .tok 21, .tok 20, Y 2, Y 1, Y 1, Y 0] 20, .imm [Y 0, Y 1, Y 17, Y 1, Y 1, Y 5, Y 1, Y 0, .tok 27, .tok 26, .tok 25, .tok 24, .tok 23, .tok 22, .tok 21, .tok 20, Y 2, Y 1, Y 1, Y 0] 20, .imm [Y 0, Y 1, Y 17, Y 1, Y 1, Y 5, Y 1, Y 0, .tok 27, .tok 26, .tok 25, .tok 24, .tok 23, .tok 22, .tok 21, .tok 20, Y 2, Y 1, Y 1, Y 0] 20])]
def hWT6 : AH := AH.edit hWT5 337 [269] [(129, C 1 [O 329 0 3]),
  (135, C 3 [.tok 6, I 1, W 1]),
  (138, C 1 [.nsl, O 311 10 0, .nsl]),
  (140, C 1 [W 0, W 1, W 0]),
  (141, C 5 [I 3, I 0, .imm [I 1, W 1, W 4] 1, W 0, O 140 0 3]),
  (146, C 3 [W 2, W 2, .m (some 145)]),
  (157, C 5 [O 336 0 1, I 1, I 0, I 0, I 0]),
  (187, C 5 [O 302 0 2, I 3, I 1, I 0, I 0]),
  (302, C 1 [.imm [Y 0, Y 1, Y 17, Y 1, Y 1, Y 5, Y 1, Y 0, .tok 27, .tok 26, .tok 25, .tok 24, .tok 23, .tok 22, .tok 21, .tok 20, Y 2, Y 1, Y 1, Y 0] 20, .imm [Y 0, Y 1, Y 17, Y 1, Y 1, Y 5, Y 1, Y 0, .tok 27, .tok 26, .tok 25, .tok 24, .tok 23, .tok 22, .tok 21, .tok 20, Y 2, Y 1, Y 1, Y 0] 20, .nsl]),
  (311, C 10 [I 1, W 1, W 5, I 1, I 0, .tok 6, I 1, W 1, .nsl, .imm [Y 0] 1]),
  (329, C 9 [I 3, I 1, I 0, W 0, W 0, I 0, .tok 6, W 1, I 0, I 1, I 1, I 0, W 1, W 5, I 0, .f .f64 0, W 0, I 0, I 2, I 0, I 1, W 1, W 0, I 0, .f .f64 0, W 0, I 0]),
  (336, C 1 [.imm [Y 1, Y 1] 2])]
def hWT7 : AH := AH.edit hWT6 353 [336] [(157, C 5 [O 352 0 3, I 3, I 0, I 0, I 0]),
  (187, C 5 [O 302 0 0, I 3, I 3, I 0, I 0]),
  (302, C 1 [.nsl, .nsl, .nsl]),
  (352, C 1 [.imm [Y 1, Y 1] 2, .imm [Y 1, Y 1] 2, .imm [Y 1, Y 1] 2])]
def hWT8 : AH := AH.edit hWT7 385 [329] [(129, C 1 [O 377 0 4]),
  (191, C 5 [O 304 0 2, I 3, I 1, I 0, I 0]),
  (199, C 3 [.tok 6, I 1, W 1]),
  (202, C 1 [.nsl, O 359 10 0, .nsl]),
  (204, C 1 [W 0, W 1, W 0]),
  (205, C 5 [I 3, I 2, .imm [I 1, W 1, W 1] 1, W 0, O 204 0 3]),
  (215, C 3 [W 2, W 2, .m (some 214)]),
  (221, C 5 [O 384 0 1, I 1, I 0, I 0, I 0]),
  (304, C 1 [.imm [Y 0, Y 1, Y 17, Y 1, Y 1, Y 5, Y 1, Y 0, .tok 27, .tok 26, .tok 25, .tok 24, .tok 23, .tok 22, .tok 21, .tok 20, Y 2, Y 1, Y 1, Y 0] 20, .imm [Y 0, Y 1, Y 17, Y 1, Y 1, Y 5, Y 1, Y 0, .tok 27, .tok 26, .tok 25, .tok 24, .tok 23, .tok 22, .tok 21, .tok 20, Y 2, Y 1, Y 1, Y 0] 20, .nsl]),
  (359, C 10 [I 1, W 1, W 5, I 1, I 0, .tok 6, I 1, W 1, .nsl, .imm [Y 0] 1]),
  (377, C 9 [I 3, I 1, I 0, W 0, W 0, I 0, .tok 6, W 1, I 0, I 1, I 1, I 0, W 1, W 5, I 0, .f .f64 0, W 0, I 0, I 2, I 0, I 1, W 1, W 0, I 0, .f .f64 0, W 0, I 0, I 2, I 2, I 1, W 1, W 0, I 0, .f .f64 0, W 0, I 0]),
  (384, C 1 [.imm [Y 1, Y 1] 2])]
def hWT9 : AH := AH.edit hWT8 420 [275, 276, 384] [(181, C 5 [I 2, I 8, I 2, I 0, I 2]),
  (182, C 6 [I 2, I 3, P 181 0, O 261 0 0, O 260 1 0, W 1]),
  (191, C 5 [O 304 0 0, I 3, I 3, I 0, I 0]),
  (221, C 5 [O 400 0 0, I 3, I 3, I 0, I 0]),
  (261, C 2 [W 0, .nsl]),
  (304, C 1 [.nsl, .nsl, .nsl]),
  (400, C 1 [.nsl, .nsl, .nsl])]
def hWT10 : AH := AH.edit hWT9 454 [] [(157, C 5 [O 352 0 1, I 4, I 3, I 0, I 0]),
  (174, C 5 [I 2, I 8, I 2, I 0, I 3]),
  (175, C 6 [I 2, I 3, P 174 0, O 252 0 0, O 251 1 0, W 1]),
  (187, C 5 [O 302 0 0, I 4, I 4, I 0, I 0]),
  (252, C 2 [W 0, .nsl]),
  (352, C 1 [.imm [Y 1, Y 1] 2, .nsl, .nsl])]
def hWT11 : AH := AH.edit hWT10 462 [] [(157, C 5 [O 352 0 0, I 4, I 4, I 0, I 0]),
  (352, C 1 [.nsl, .nsl, .nsl])]
def hWT12 : AH := AH.edit hWT4 322 [251, 252, 260, 261, 269, 271, 273] [(129, C 1 [O 317 0 4]),
  (167, C 3 [.tok 106, I 1, W 2]),
  (168, C 11 [I 3, .imm [W 7] 1, I 2, I 3, I 2, I 8, I 64, I 2, I 1, O 167 0 1, W 2]),
  (171, C 17 [I 3, O 169 0 1, I 2, I 3, I 2, I 8, I 64, I 2, I 1, P 129 0, O 186 0 3, .ifc 108 (P 173 0), P 168 0, W 2, O 170 0 3, N 0, .nsl]),
  (173, C 5 [I 3, I 1, .imm [I 1, W 2, W 5] 1, W 2, O 172 0 3]),
  (175, C 6 [I 2, I 3, P 174 0, O 300 0 2, O 299 1 0, W 2]),
  (182, C 6 [I 2, I 3, P 181 0, O 309 0 2, O 308 1 0, W 2]),
  (187, C 5 [O 319 0 2, I 2, I 0, I 0, I 0]),
  (191, C 5 [O 321 0 2, I 2, I 0, I 0, I 0]),
  (299, C 1 [.imm [Y 1, Y 2, Y 5, Y 1, Y 0, .tok 127, .tok 126, .tok 125, .tok 124, .tok 123, .tok 122, .tok 121, .tok 120, Y 2, Y 2, Y 4, Y 1, Y 1, Y 1, Y 1] 20]),
  (300, C 2 [W 1, .imm [Y 1, Y 1, Y 5, Y 1, Y 0, .tok 27, .tok 26, .tok 25, .tok 24, .tok 23, .tok 22, .tok 21, .tok 20, Y 2, Y 1, Y 1, Y 0] 17, W 2, .imm [Y 1, Y 2, Y 5, Y 1, Y 0, .tok 127, .tok 126, .tok 125, .tok 124, .tok 123, .tok 122, .tok 121, .tok 120, Y 2, Y 2, Y 4, Y 1, Y 1, Y 1, Y 1] 20]),
  (308, C 1 [.imm [Y 1, Y 2, Y 5, Y 1, Y 0, .tok 127, .tok 126, .tok 125, .tok 124, .tok 123, .tok 122, .tok 121, .tok 120, Y 2, Y 2, Y 4, Y 1, Y 1, Y 1, Y 4] 20]),
  (309, C 2 [W 1, .imm [Y 1, Y 1, Y 5, Y 1, Y 0, .tok 27, .tok 26, .tok 25, .tok 24, .tok 23, .tok 22, .tok 21, .tok 20, Y 2, Y 1, Y 1, Y 0] 17, W 2, .imm [Y 1, Y 2, Y 5, Y 1, Y 0, .tok 127, .tok 126, .tok 125, .tok 124, .tok 123, .tok 122, .tok 121, .tok 120, Y 2, Y 2, Y 4, Y 1, Y 1, Y 1, Y 4] 20]),
  (317, C 9 [I 3, I 1, I 0, W 0, W 0, I 0, .tok 6, W 1, I 0, I 1, I 1, I 0, W 1, W 5, I 0, .f .f64 0, W 0, I 0, I 3, I 1, I 0, W 0, W 0, I 0, .tok 106, W 2, I 0, I 1, I 1, I 0, W 2, W 5, I 0, .f .f64 0, W 0, I 0]),
  (319, C 1 [.imm [Y 0, Y 1, Y 17, Y 1, Y 1, Y 5, Y 1, Y 0, .tok 27, .tok 26, .tok 25, .tok 24, .tok 23, .tok 22, .tok 21, .tok 20, Y 2, Y 1, Y 1, Y 0] 20, .imm [Y 0, Y 2, Y 20, Y 1, Y 2, Y 5, Y 1, Y 0, .tok 127, .tok 126, .tok 125, .tok 124, .tok 123, .tok 122, .tok 121, .tok 120, Y 2, Y 2, Y 4, Y 1, Y 1, Y 1, Y 1] 23]),
  (321, C 1 [.imm [Y 0, Y 1, Y 17, Y 1, Y 1, Y 5, Y 1, Y 0, .tok 27, .tok 26, .tok 25, .tok 24, .tok 23, .tok 22, .tok 21, .tok 20, Y 2, Y 1, Y 1, Y 0] 20, .imm [Y 0, Y 2, Y 20, Y 1, Y 2, Y 5, Y 1, Y 0, .tok 127, .tok 126, .tok 125, .tok 124, .tok 123, .tok 122, .tok 121, .tok 120, Y 2, Y 2, Y 4, Y 1, Y 1, Y 1, Y 4] 23])]
def hWT13 : AH := AH.edit hWT12 323 [274] [(322, C 3 [.f .f64 0, I 0, W 0])]
def hWT14 : AH := AH.edit hWT13 377 [319, 321] [(174, C 5 [I 2, I 8, I 8, I 6, I 2]),
  (181, C 5 [I 2, I 8, I 8, I 6, I 2]),
  (187, C 5 [O 372 0 6, I 6, I 0, I 0, I 0]),
  (191, C 5 [O 376 0 6, I 6, I 0, I 0, I 0]),
  (323, C 8 [I 8, I 0, I 0, I 0, I 0, W 0, .f .f64 0, .nsl]),
  (324, C 3 [.f .f64 0, I 0, W 0]),
  (372, C 1 [.imm [Y 0, Y 1, Y 17, Y 1, Y 1, Y 5, Y 1, Y 0, .tok 27, .tok 26, .tok 25, .tok 24, .tok 23, .tok 22, .tok 21, .tok 20, Y 2, Y 1, Y 1, Y 0] 20, .imm [Y 0, Y 2, Y 20, Y 1, Y 2, Y 5, Y 1, Y 0, .tok 127, .tok 126, .tok 125, .tok 124, .tok 123, .tok 122, .tok 121, .tok 120, Y 2, Y 2, Y 4, Y 1, Y 1, Y 1, Y 1] 23, .imm [Y 0, Y 1, Y 17, Y 1, Y 1, Y 5, Y 1, Y 0, .tok 27, .tok 26, .tok 25, .tok 24, .tok 23, .tok 22, .tok 21, .tok 20, Y 2, Y 1, Y 1, Y 0] 20, .imm [Y 0, Y 2, Y 20, Y 1, Y 2, Y 5, Y 1, Y 0, .tok 127, .tok 126, .tok 125, .tok 124, .tok 123, .tok 122, .tok 121, .tok 120, Y 2, Y 2, Y 4, Y 1, Y 1, Y 1, Y 1] 23, .imm [Y 0, Y 1, Y 17, Y 1, Y 1, Y 5, Y 1, Y 0, .tok 27, .tok 26, .tok 25, .tok 24, .tok 23, .tok 22, .tok 21, .tok 20, Y 2, Y 1, Y 1, Y 0] 20, .imm [Y 0, Y 2, Y 20, Y 1, Y 2, Y 5, Y 1, Y 0, .tok 127, .tok 126, .tok 125, .tok 124, .tok 123, .tok 122, .tok 121, .tok 120, Y 2, Y 2, Y 4, Y 1, Y 1, Y 1, Y 1] 23]),
  (376, C 1 [.imm [Y 0, Y 1, Y 17, Y 1, Y 1, Y 5, Y 1, Y 0, .tok 27, .tok 26, .tok 25, .tok 24, .tok 23, .tok 22, .tok 21, .tok 20, Y 2, Y 1, Y 1, Y 0] 20, .imm [Y 0, Y 2, Y 20, Y 1, Y 2, Y 5, Y 1, Y 0, .tok 127, .tok 126, .tok 125, .tok 124, .tok 123, .tok 122, .tok 121, .tok 120, Y 2, Y 2, Y 4, Y 1, Y 1, Y 1, Y 4] 23, .imm [Y 0, Y 1, Y 17, Y 1, Y 1, Y 5, Y 1, Y 0, .tok 27, .tok 26, .tok 25, .tok 24, .tok 23, .tok 22, .tok 21, .tok 20, Y 2, Y 1, Y 1, Y 0] 20, .imm [Y 0, Y 2, Y 20, Y 1, Y 2, Y 5, Y 1, Y 0, .tok 127, .tok 126, .tok 125, .tok 124, .tok 123, .tok 122, .tok 121, .tok 120, Y 2, Y 2, Y 4, Y 1, Y 1, Y 1, Y 4] 23, .imm [Y 0, Y 1, Y 17, Y 1, Y 1, Y 5, Y 1, Y 0, .tok 27, .tok 26, .tok 25, .tok 24, .tok 23, .tok 22, .tok 21, .tok 20, Y 2, Y 1, Y 1, Y 0] 20, .imm [Y 0, Y 2, Y 20, Y 1, Y 2, Y 5, Y 1, Y 0, .tok 127, .tok 126, .tok 125, .tok 124, .tok 123, .tok 122, .tok 121, .tok 120, Y 2, Y 2, Y 4, Y 1, Y 1, Y 1, Y 4] 23])]
def hWT15 : AH := AH.edit hWT14 409 [317] [(129, C 1 [O 401 0 5]),
  (135, C 3 [.tok 6, I 1, W 1]),
  (138, C 1 [.nsl, O 383 10 0, .nsl]),
  (140, C 1 [W 0, W 1, W 0]),
  (141, C 5 [I 3, I 0, .imm [I 1, W 1, W 4] 1, W 0, O 140 0 3]),
  (146, C 3 [W 2, W 2, .m (some 145)]),
  (157, C 5 [O 408 0 1, I 1, I 0, I 0, I 0]),
  (187, C 5 [O 372 0 5, I 6, I 1, I 0, I 0]),
  (372, C 1 [.imm [Y 0, Y 2, Y 20, Y 1, Y 2, Y 5, Y 1, Y 0, .tok 127, .tok 126, .tok 125, .tok 124, .tok 123, .tok 122, .tok 121, .tok 120, Y 2, Y 2, Y 4, Y 1, Y 1, Y 1, Y 1] 23, .imm [Y 0, Y 1, Y 17, Y 1, Y 1, Y 5, Y 1, Y 0, .tok 27, .tok 26, .tok 25, .tok 24, .tok 23, .tok 22, .tok 21, .tok 20, Y 2, Y 1, Y 1, Y 0] 20, .imm [Y 0, Y 2, Y 20, Y 1, Y 2, Y 5, Y 1, Y 0, .tok 127, .tok 126, .tok 125, .tok 124, .tok 123, .tok 122, .tok 121, .tok 120, Y 2, Y 2, Y 4, Y 1, Y 1, Y 1, Y 1] 23, .imm [Y 0, Y 1, Y 17, Y 1, Y 1, Y 5, Y 1, Y 0, .tok 27, .tok 26, .tok 25, .tok 24, .tok 23, .tok 22, .tok 21, .tok 20, Y 2, Y 1, Y 1, Y 0] 20, .imm [Y 0, Y 2, Y 20, Y 1, Y 2, Y 5, Y 1, Y 0, .tok 127, .tok 126, .tok 125, .tok 124, .tok 123, .tok 122, .tok 121, .tok 120, Y 2, Y 2, Y 4, Y 1, Y 1, Y 1, Y 1] 23, .nsl]),
  (383, C 10 [I 1, W 1, W 5, I 1, I 0, .tok 6, I 1, W 1, .nsl, .imm [Y 0] 1]),
  (401, C 9 [I 3, I 1, I 0, W 0, W 0, I 0, .tok 6, W 1, I 0, I 1, I 1, I 0, W 1, W 5, I 0, .f .f64 0, W 0, I 0, I 3, I 1, I 0, W 0, W 0, I 0, .tok 106, W 2, I 0, I 1, I 1, I 0, W 2, W 5, I 0, .f .f64 0, W 0, I 0, I 2, I 0, I 1, W 1, W 0, I 0, .f .f64 0, W 0, I 0]),
  (408, C 1 [.imm [Y 1, Y 1] 2])]
def hWT16 : AH := AH.edit hWT15 443 [383, 401, 408] [(129, C 1 [O 435 0 6]),
  (135, C 3 [.tok 106, I 1, W 2]),
  (138, C 1 [.nsl, O 415 10 0, .nsl]),
  (140, C 1 [W 0, W 2, W 0]),
  (141, C 5 [I 3, I 0, .imm [I 1, W 2, W 4] 1, W 0, O 140 0 3]),
  (146, C 3 [W 2, W 3, .m (some 145)]),
  (157, C 5 [O 442 0 2, I 2, I 0, I 0, I 0]),
  (187, C 5 [O 372 0 4, I 6, I 2, I 0, I 0]),
  (372, C 1 [.imm [Y 0, Y 1, Y 17, Y 1, Y 1, Y 5, Y 1, Y 0, .tok 27, .tok 26, .tok 25, .tok 24, .tok 23, .tok 22, .tok 21, .tok 20, Y 2, Y 1, Y 1, Y 0] 20, .imm [Y 0, Y 2, Y 20, Y 1, Y 2, Y 5, Y 1, Y 0, .tok 127, .tok 126, .tok 125, .tok 124, .tok 123, .tok 122, .tok 121, .tok 120, Y 2, Y 2, Y 4, Y 1, Y 1, Y 1, Y 1] 23, .imm [Y 0, Y 1, Y 17, Y 1, Y 1, Y 5, Y 1, Y 0, .tok 27, .tok 26, .tok 25, .tok 24, .tok 23, .tok 22, .tok 21, .tok 20, Y 2, Y 1, Y 1, Y 0] 20, .imm [Y 0, Y 2, Y 20, Y 1, Y 2, Y 5, Y 1, Y 0, .tok 127, .tok 126, .tok 125, .tok 124, .tok 123, .tok 122, .tok 121, .tok 120, Y 2, Y 2, Y 4, Y 1, Y 1, Y 1, Y 1] 23, .nsl, .nsl]),
  (415, C 10 [I 1, W 2, W 5, I 1, I 0, .tok 106, I 1, W 2, .nsl, .imm [Y 1, Y 1, Y 1, Y 1] 4]),
  (435, C 9 [I 3, I 1, I 0, W 0, W 0, I 0, .tok 6, W 1, I 0, I 1, I 1, I 0, W 1, W 5, I 0, .f .f64 0, W 0, I 0, I 3, I 1, I 0, W 0, W 0, I 0, .tok 106, W 2, I 0, I 1, I 1, I 0, W 2, W 5, I 0, .f .f64 0, W 0, I 0, I 2, I 0, I 1, W 1, W 0, I 0, .f .f64 0, W 0, I 0, I 2, I 0, I 1, W 2, W 0, I 0, .f .f64 0, W 0, I 0]),
  (442, C 1 [.imm [Y 1, Y 1] 2, .imm [Y 1, Y 2] 2])]
def hWT17 : AH := AH.edit hWT16 475 [442] [(157, C 5 [O 474 0 6, I 6, I 0, I 0, I 0]),
  (187, C 5 [O 372 0 0, I 6, I 6, I 0, I 0]),
  (372, C 1 [.nsl, .nsl, .nsl, .nsl, .nsl, .nsl]),
  (474, C 1 [.imm [Y 1, Y 1] 2, .imm [Y 1, Y 2] 2, .imm [Y 1, Y 2] 2, .imm [Y 1, Y 2] 2, .imm [Y 1, Y 2] 2, .imm [Y 1, Y 2] 2])]
def hWT18 : AH := AH.edit hWT17 507 [435] [(129, C 1 [O 499 0 7]),
  (191, C 5 [O 376 0 5, I 6, I 1, I 0, I 0]),
  (199, C 3 [.tok 6, I 1, W 1]),
  (202, C 1 [.nsl, O 481 10 0, .nsl]),
  (204, C 1 [W 0, W 1, W 0]),
  (205, C 5 [I 3, I 2, .imm [I 1, W 1, W 1] 1, W 0, O 204 0 3]),
  (215, C 3 [W 2, W 2, .m (some 214)]),
  (221, C 5 [O 506 0 1, I 1, I 0, I 0, I 0]),
  (376, C 1 [.imm [Y 0, Y 2, Y 20, Y 1, Y 2, Y 5, Y 1, Y 0, .tok 127, .tok 126, .tok 125, .tok 124, .tok 123, .tok 122, .tok 121, .tok 120, Y 2, Y 2, Y 4, Y 1, Y 1, Y 1, Y 4] 23, .imm [Y 0, Y 1, Y 17, Y 1, Y 1, Y 5, Y 1, Y 0, .tok 27, .tok 26, .tok 25, .tok 24, .tok 23, .tok 22, .tok 21, .tok 20, Y 2, Y 1, Y 1, Y 0] 20, .imm [Y 0, Y 2, Y 20, Y 1, Y 2, Y 5, Y 1, Y 0, .tok 127, .tok 126, .tok 125, .tok 124, .tok 123, .tok 122, .tok 121, .tok 120, Y 2, Y 2, Y 4, Y 1, Y 1, Y 1, Y 4] 23, .imm [Y 0, Y 1, Y 17, Y 1, Y 1, Y 5, Y 1, Y 0, .tok 27, .tok 26, .tok 25, .tok 24, .tok 23, .tok 22, .tok 21, .tok 20, Y 2, Y 1, Y 1, Y 0] 20, .imm [Y 0, Y 2, Y 20, Y 1, Y 2, Y 5, Y 1, Y 0, .tok 127, .tok 126, .tok 125, .tok 124, .tok 123, .tok 122, .tok 121, .tok 120, Y 2, Y 2, Y 4, Y 1, Y 1, Y 1, Y 4] 23, .nsl]),
  (481, C 10 [I 1, W 1, W 5, I 1, I 0, .tok 6, I 1, W 1, .nsl, .imm [Y 0] 1]),
  (499, C 9 [I 3, I 1, I 0, W 0, W 0, I 0, .tok 6, W 1, I 0, I 1, I 1, I 0, W 1, W 5, I 0, .f .f64 0, W 0, I 0, I 3, I 1, I 0, W 0, W 0, I 0, .tok 106, W 2, I 0, I 1, I 1, I 0, W 2, W 5, I 0, .f .f64 0, W 0, I 0, I 2, I 0, I 1, W 1, W 0, I 0, .f .f64 0, W 0, I 0, I 2, I 0, I 1, W 2, W 0, I 0, .f .f64 0, W 0, I 0, I 2, I 2, I 1, W 1, W 0, I 0, .f .f64 0, W 0, I 0]),
  (506, C 1 [.imm [Y 1, Y 1] 2])]
def hWT19 : AH := AH.edit hWT18 541 [481, 499, 506] [(129, C 1 [O 533 0 8]),
  (191, C 5 [O 376 0 4, I 6, I 2, I 0, I 0]),
  (199, C 3 [.tok 106, I 1, W 2]),
  (202, C 1 [.nsl, O 513 10 0, .nsl]),
  (204, C 1 [W 0, W 2, W 0]),
  (205, C 5 [I 3, I 2, .imm [I 1, W 2, W 1] 1, W 0, O 204 0 3]),
  (215, C 3 [W 2, W 3, .m (some 214)]),
  (221, C 5 [O 540 0 2, I 2, I 0, I 0, I 0]),
  (376, C 1 [.imm [Y 0, Y 1, Y 17, Y 1, Y 1, Y 5, Y 1, Y 0, .tok 27, .tok 26, .tok 25, .tok 24, .tok 23, .tok 22, .tok 21, .tok 20, Y 2, Y 1, Y 1, Y 0] 20, .imm [Y 0, Y 2, Y 20, Y 1, Y 2, Y 5, Y 1, Y 0, .tok 127, .tok 126, .tok 125, .tok 124, .tok 123, .tok 122, .tok 121, .tok 120, Y 2, Y 2, Y 4, Y 1, Y 1, Y 1, Y 4] 23, .imm [Y 0, Y 1, Y 17, Y 1, Y 1, Y 5, Y 1, Y 0, .tok 27, .tok 26, .tok 25, .tok 24, .tok 23, .tok 22, .tok 21, .tok 20, Y 2, Y 1, Y 1, Y 0] 20, .imm [Y 0, Y 2, Y 20, Y 1, Y 2, Y 5, Y 1, Y 0, .tok 127, .tok 126, .tok 125, .tok 124, .tok 123, .tok 122, .tok 121, .tok 120, Y 2, Y 2, Y 4, Y 1, Y 1, Y 1, Y 4] 23, .nsl, .nsl]),
  (513, C 10 [I 1, W 2, W 5, I 1, I 0, .tok 106, I 1, W 2, .nsl, .imm [Y 1, Y 1, Y 1, Y 4] 4]),
  (533, C 9 [I 3, I 1, I 0, W 0, W 0, I 0, .tok 6, W 1, I 0, I 1, I 1, I 0, W 1, W 5, I 0, .f .f64 0, W 0, I 0, I 3, I 1, I 0, W 0, W 0, I 0, .tok 106, W 2, I 0, I 1, I 1, I 0, W 2, W 5, I 0, .f .f64 0, W 0, I 0, I 2, I 0, I 1, W 1, W 0, I 0, .f .f64 0, W 0, I 0, I 2, I 0, I 1, W 2, W 0, I 0, .f .f64 0, W 0, I 0, I 2, I 2, I 1, W 1, W 0, I 0, .f .f64 0, W 0, I 0, I 2, I 2, I 1, W 2, W 0, I 0, .f .f64 0, W 0, I 0]),
  (540, C 1 [.imm [Y 1, Y 1] 2, .imm [Y 1, Y 2] 2])]
def hWT20 : AH := AH.edit hWT19 613 [323, 324, 540] [(181, C 5 [I 2, I 8, I 2, I 0, I 2]),
  (182, C 6 [I 2, I 3, P 181 0, O 309 0 0, O 308 1 0, W 2]),
  (191, C 5 [O 376 0 0, I 6, I 6, I 0, I 0]),
  (221, C 5 [O 572 0 0, I 6, I 6, I 0, I 0]),
  (309, C 2 [W 0, .nsl, W 0, .nsl]),
  (376, C 1 [.nsl, .nsl, .nsl, .nsl, .nsl, .nsl]),
  (572, C 1 [.nsl, .nsl, .nsl, .nsl, .nsl, .nsl])]
def hWT21 : AH := AH.edit hWT20 680 [] [(157, C 5 [O 474 0 2, I 8, I 6, I 0, I 0]),
  (174, C 5 [I 2, I 8, I 2, I 0, I 3]),
  (175, C 6 [I 2, I 3, P 174 0, O 300 0 0, O 299 1 0, W 2]),
  (187, C 5 [O 372 0 0, I 8, I 8, I 0, I 0]),
  (300, C 2 [W 0, .nsl, W 0, .nsl]),
  (474, C 1 [.imm [Y 1, Y 2] 2, .imm [Y 1, Y 2] 2, .nsl, .nsl, .nsl, .nsl])]
def hWT22 : AH := AH.edit hWT21 694 [] [(157, C 5 [O 474 0 0, I 8, I 8, I 0, I 0]),
  (474, C 1 [.nsl, .nsl, .nsl, .nsl, .nsl, .nsl])]
def hWT23 : AH := AH.edit hWT13 354 [299, 308, 317] [(129, C 1 [O 353 0 6]),
  (167, C 3 [.tok 206, I 1, W 3]),
  (168, C 11 [I 3, .imm [W 7] 1, I 2, I 3, I 2, I 8, I 64, I 2, I 1, O 167 0 1, W 3]),
  (171, C 17 [I 3, O 169 0 1, I 2, I 3, I 2, I 8, I 64, I 2, I 1, P 129 0, O 186 0 3, .ifc 108 (P 173 0), P 168 0, W 3, O 170 0 3, N 0, .nsl]),
  (173, C 5 [I 3, I 1, .imm [I 1, W 3, W 5] 1, W 3, O 172 0 3]),
  (175, C 6 [I 2, I 3, P 174 0, O 300 0 2, O 347 0 1, W 2]),
  (182, C 6 [I 2, I 3, P 181 0, O 309 0 2, O 350 0 1, W 2]),
  (347, C 1 [.imm [Y 1, Y 3, Y 5, Y 1, Y 0, .tok 227, .tok 226, .tok 225, .tok 224, .tok 223, .tok 222, .tok 221, .tok 220, Y 2, Y 3, Y 4, Y 1, Y 1, Y 2, Y 1] 20]),
  (350, C 1 [.imm [Y 1, Y 3, Y 5, Y 1, Y 0, .tok 227, .tok 226, .tok 225, .tok 224, .tok 223, .tok 222, .tok 221, .tok 220, Y 2, Y 3, Y 4, Y 1, Y 1, Y 2, Y 4] 20]),
  (353, C 9 [I 3, I 1, I 0, W 0, W 0, I 0, .tok 6, W 1, I 0, I 1, I 1, I 0, W 1, W 5, I 0, .f .f64 0, W 0, I 0, I 3, I 1, I 0, W 0, W 0, I 0, .tok 106, W 2, I 0, I 1, I 1, I 0, W 2, W 5, I 0, .f .f64 0, W 0, I 0, I 3, I 1, I 0, W 0, W 0, I 0, .tok 206, W 3, I 0, I 1, I 1, I 0, W 3, W 5, I 0, .f .f64 0, W 0, I 0])]
def hWT24 : AH := AH.edit hWT23 355 [322] [(354, C 3 [.f .f64 0, I 0, W 0])]
def hWT25 : AH := AH.edit hWT24 409 [319, 321] [(174, C 5 [I 2, I 8, I 8, I 6, I 2]),
  (181, C 5 [I 2, I 8, I 8, I 6, I 2]),
  (187, C 5 [O 404 0 6, I 6, I 0, I 0, I 0]),
  (191, C 5 [O 408 0 6, I 6, I 0, I 0, I 0]),
  (355, C 8 [I 8, I 0, I 0, I 0, I 0, W 0, .f .f64 0, .nsl]),
  (356, C 3 [.f .f64 0, I 0, W 0]),
  (404, C 1 [.imm [Y 0, Y 1, Y 17, Y 1, Y 1, Y 5, Y 1, Y 0, .tok 27, .tok 26, .tok 25, .tok 24, .tok 23, .tok 22, .tok 21, .tok 20, Y 2, Y 1, Y 1, Y 0] 20, .imm [Y 0, Y 2, Y 20, Y 1, Y 2, Y 5, Y 1, Y 0, .tok 127, .tok 126, .tok 125, .tok 124, .tok 123, .tok 122, .tok 121, .tok 120, Y 2, Y 2, Y 4, Y 1, Y 1, Y 1, Y 1] 23, .imm [Y 0, Y 1, Y 17, Y 1, Y 1, Y 5, Y 1, Y 0, .tok 27, .tok 26, .tok 25, .tok 24, .tok 23, .tok 22, .tok 21, .tok 20, Y 2, Y 1, Y 1, Y 0] 20, .imm [Y 0, Y 2, Y 20, Y 1, Y 2, Y 5, Y 1, Y 0, .tok 127, .tok 126, .tok 125, .tok 124, .tok 123, .tok 122, .tok 121, .tok 120, Y 2, Y 2, Y 4, Y 1, Y 1, Y 1, Y 1] 23, .imm [Y 0, Y 1, Y 17, Y 1, Y 1, Y 5, Y 1, Y 0, .tok 27, .tok 26, .tok 25, .tok 24, .tok 23, .tok 22, .tok 21, .tok 20, Y 2, Y 1, Y 1, Y 0] 20, .imm [Y 0, Y 2, Y 20, Y 1, Y 2, Y 5, Y 1, Y 0, .tok 127, .tok 126, .tok 125, .tok 124, .tok 123, .tok 122, .tok 121, .tok 120, Y 2, Y 2, Y 4, Y 1, Y 1, Y 1, Y 1] 23]),
  (408, C 1 [.imm [Y 0, Y 1, Y 17, Y 1, Y 1, Y 5, Y 1, Y 0, .tok 27, .tok 26, .tok 25, .tok 24, .tok 23, .tok 22, .tok 21, .tok 20, Y 2, Y 1, Y 1, Y 0] 20, .imm [Y 0, Y 2, Y 20, Y 1, Y 2, Y 5, Y 1, Y 0, .tok 127, .tok 126, .tok 125, .tok 124, .tok 123, .tok 122, .tok 121, .tok 120, Y 2, Y 2, Y 4, Y 1, Y 1, Y 1, Y 4] 23, .imm [Y 0, Y 1, Y 17, Y 1, Y 1, Y 5, Y 1, Y 0, .tok 27, .tok 26, .tok 25, .tok 24, .tok 23, .tok 22, .tok 21, .tok 20, Y 2, Y 1, Y 1, Y 0] 20, .imm [Y 0, Y 2, Y 20, Y 1, Y 2, Y 5, Y 1, Y 0, .tok 127, .tok 126, .tok 125, .tok 124, .tok 123, .tok 122, .tok 121, .tok 120, Y 2, Y 2, Y 4, Y 1, Y 1, Y 1, Y 4] 23, .imm [Y 0, Y 1, Y 17, Y 1, Y 1, Y 5, Y 1, Y 0, .tok 27, .tok 26, .tok 25, .tok 24, .tok 23, .tok 22, .tok 21, .tok 20, Y 2, Y 1, Y 1, Y 0] 20, .imm [Y 0, Y 2, Y 20, Y 1, Y 2, Y 5, Y 1, Y 0, .tok 127, .tok 126, .tok 125, .tok 124, .tok 123, .tok 122, .tok 121, .tok 120, Y 2, Y 2, Y 4, Y 1, Y 1, Y 1, Y 4] 23])]
def hWT26 : AH := AH.edit hWT25 441 [353] [(129, C 1 [O 433 0 7]),
  (135, C 3 [.tok 6, I 1, W 1]),
  (138, C 1 [.nsl, O 415 10 0, .nsl]),
  (140, C 1 [W 0, W 1, W 0]),
  (141, C 5 [I 3, I 0, .imm [I 1, W 1, W 4] 1, W 0, O 140 0 3]),
  (146, C 3 [W 2, W 2, .m (some 145)]),
  (157, C 5 [O 440 0 1, I 1, I 0, I 0, I 0]),
  (187, C 5 [O 404 0 5, I 6, I 1, I 0, I 0]),
  (404, C 1 [.imm [Y 0, Y 2, Y 20, Y 1, Y 2, Y 5, Y 1, Y 0, .tok 127, .tok 126, .tok 125, .tok 124, .tok 123, .tok 122, .tok 121, .tok 120, Y 2, Y 2, Y 4, Y 1, Y 1, Y 1, Y 1] 23, .imm [Y 0, Y 1, Y 17, Y 1, Y 1, Y 5, Y 1, Y 0, .tok 27, .tok 26, .tok 25, .tok 24, .tok 23, .tok 22, .tok 21, .tok 20, Y 2, Y 1, Y 1, Y 0] 20, .imm [Y 0, Y 2, Y 20, Y 1, Y 2, Y 5, Y 1, Y 0, .tok 127, .tok 126, .tok 125, .tok 124, .tok 123, .tok 122, .tok 121, .tok 120, Y 2, Y 2, Y 4, Y 1, Y 1, Y 1, Y 1] 23, .imm [Y 0, Y 1, Y 17, Y 1, Y 1, Y 5, Y 1, Y 0, .tok 27, .tok 26, .tok 25, .tok 24, .tok 23, .tok 22, .tok 21, .tok 20, Y 2, Y 1, Y 1, Y 0] 20, .imm [Y 0, Y 2, Y 20, Y 1, Y 2, Y 5, Y 1, Y 0, .tok 127, .tok 126, .tok 125, .tok 124, .tok 123, .tok 122, .tok 121, .tok 120, Y 2, Y 2, Y 4, Y 1, Y 1, Y 1, Y 1] 23, .nsl]),
  (415, C 10 [I 1, W 1, W 5, I 1, I 0, .tok 6, I 1, W 1, .nsl, .imm [Y 0] 1]),
  (433, C 9 [I 3, I 1, I 0, W 0, W 0, I 0, .tok 6, W 1, I 0, I 1, I 1, I 0, W 1, W 5, I 0, .f .f64 0, W 0, I 0, I 3, I 1, I 0, W 0, W 0, I 0, .tok 106, W 2, I 0, I 1, I 1, I 0, W 2, W 5, I 0, .f .f64 0, W 0, I 0, I 3, I 1, I 0, W 0, W 0, I 0, .tok 206, W 3, I 0, I 1, I 1, I 0, W 3, W 5, I 0, .f .f64 0, W 0, I 0, I 2, I 0, I 1, W 1, W 0, I 0, .f .f64 0, W 0, I 0]),
  (440, C 1 [.imm [Y 1, Y 1] 2])]
def hWT27 : AH := AH.edit hWT26 475 [415, 433, 440] [(129, C 1 [O 467 0 8]),
  (135, C 3 [.tok 106, I 1, W 2]),
  (138, C 1 [.nsl, O 447 10 0, .nsl]),
  (140, C 1 [W 0, W 2, W 0]),
  (141, C 5 [I 3, I 0, .imm [I 1, W 2, W 4] 1, W 0, O 140 0 3]),
  (146, C 3 [W 2, W 3, .m (some 145)]),
  (157, C 5 [O 474 0 2, I 2, I 0, I 0, I 0]),
  (187, C 5 [O 404 0 4, I 6, I 2, I 0, I 0]),
  (404, C 1 [.imm [Y 0, Y 1, Y 17, Y 1, Y 1, Y 5, Y 1, Y 0, .tok 27, .tok 26, .tok 25, .tok 24, .tok 23, .tok 22, .tok 21, .tok 20, Y 2, Y 1, Y 1, Y 0] 20, .imm [Y 0, Y 2, Y 20, Y 1, Y 2, Y 5, Y 1, Y 0, .tok 127, .tok 126, .tok 125, .tok 124, .tok 123, .tok 122, .tok 121, .tok 120, Y 2, Y 2, Y 4, Y 1, Y 1, Y 1, Y 1] 23, .imm [Y 0, Y 1, Y 17, Y 1, Y 1, Y 5, Y 1, Y 0, .tok 27, .tok 26, .tok 25, .tok 24, .tok 23, .tok 22, .tok 21, .tok 20, Y 2, Y 1, Y 1, Y 0] 20, .imm [Y 0, Y 2, Y 20, Y 1, Y 2, Y 5, Y 1, Y 0, .tok 127, .tok 126, .tok 125, .tok 124, .tok 123, .tok 122, .tok 121, .tok 120, Y 2, Y 2, Y 4, Y 1, Y 1, Y 1, Y 1] 23, .nsl, .nsl]),
  (447, C 10 [I 1, W 2, W 5, I 1, I 0, .tok 106, I 1, W 2, .nsl, .imm [Y 1, Y 1, Y 1, Y 1] 4]),
  (467, C 9 [I 3, I 1, I 0, W 0, W 0, I 0, .tok 6, W 1, I 0, I 1, I 1, I 0, W 1, W 5, I 0, .f .f64 0, W 0, I 0, I 3, I 1, I 0, W 0, W 0, I 0, .tok 106, W 2, I 0, I 1, I 1, I 0, W 2, W 5, I 0, .f .f64 0, W 0, I 0, I 3, I 1, I 0, W 0, W 0, I 0, .tok 206, W 3, I 0, I 1, I 1, I 0, W 3, W 5, I 0, .f .f64 0, W 0, I 0, I 2, I 0, I 1, W 1, W 0, I 0, .f .f64 0, W 0, I 0, I 2, I 0, I 1, W 2, W 0, I 0, .f .f64 0, W 0, I 0]),
  (474, C 1 [.imm [Y 1, Y 1] 2, .imm [Y 1, Y 2] 2])]
def hWT28 : AH := AH.edit hWT27 507 [474] [(157, C 5 [O 506 0 6, I 6, I 0, I 0, I 0]),
  (187, C 5 [O 404 0 0, I 6, I 6, I 0, I 0]),
  (404, C 1 [.nsl, .nsl, .nsl, .nsl, .nsl, .nsl]),
  (506, C 1 [.imm [Y 1, Y 1] 2, .imm [Y 1, Y 2] 2, .imm [Y 1, Y 2] 2, .imm [Y 1, Y 2] 2, .imm [Y 1, Y 2] 2, .imm [Y 1, Y 2] 2])]
def hWT29 : AH := AH.edit hWT28 539 [467] [(129, C 1 [O 531 0 9]),
  (191, C 5 [O 408 0 5, I 6, I 1, I 0, I 0]),
  (199, C 3 [.tok 6, I 1, W 1]),
  (202, C 1 [.nsl, O 513 10 0, .nsl]),
  (204, C 1 [W 0, W 1, W 0]),
  (205, C 5 [I 3, I 2, .imm [I 1, W 1, W 1] 1, W 0, O 204 0 3]),
  (215, C 3 [W 2, W 2, .m (some 214)]),
  (221, C 5 [O 538 0 1, I 1, I 0, I 0, I 0]),
  (408, C 1 [.imm [Y 0, Y 2, Y 20, Y 1, Y 2, Y 5, Y 1, Y 0, .tok 127, .tok 126, .tok 125, .tok 124, .tok 123, .tok 122, .tok 121, .tok 120, Y 2, Y 2, Y 4, Y 1, Y 1, Y 1, Y 4] 23, .imm [Y 0, Y 1, Y 17, Y 1, Y 1, Y 5, Y 1, Y 0, .tok 27, .tok 26, .tok 25, .tok 24, .tok 23, .tok 22, .tok 21, .tok 20, Y 2, Y 1, Y 1, Y 0] 20, .imm [Y 0, Y 2, Y 20, Y 1, Y 2, Y 5, Y 1, Y 0, .tok 127, .tok 126, .tok 125, .tok 124, .tok 123, .tok 122, .tok 121, .tok 120, Y 2, Y 2, Y 4, Y 1, Y 1, Y 1, Y 4] 23, .imm [Y 0, Y 1, Y 17, Y 1, Y 1, Y 5, Y 1, Y 0, .tok 27, .tok 26, .tok 25, .tok 24, .tok 23, .tok 22, .tok 21, .tok 20, Y 2, Y 1, Y 1, Y 0] 20, .imm [Y 0, Y 2, Y 20, Y 1, Y 2, Y 5, Y 1, Y 0, .tok 127, .tok 126, .tok 125, .tok 124, .tok 123, .tok 122, .tok 121, .tok 120, Y 2, Y 2, Y 4, Y 1, Y 1, Y 1, Y 4] 23, .nsl]),
  (513, C 10 [I 1, W 1, W 5, I 1, I 0, .tok 6, I 1, W 1, .nsl, .imm [Y 0] 1]),
  (531, C 9 [I 3, I 1, I 0, W 0, W 0, I 0, .tok 6, W 1, I 0, I 1, I 1, I 0, W 1, W 5, I 0, .f .f64 0, W 0, I 0, I 3, I 1, I 0, W 0, W 0, I 0, .tok 106, W 2, I 0, I 1, I 1, I 0, W 2, W 5, I 0, .f .f64 0, W 0, I 0, I 3, I 1, I 0, W 0, W 0, I 0, .tok 206, W 3, I 0, I 1, I 1, I 0, W 3, W 5, I 0, .f .f64 0, W 0, I 0, I 2, I 0, I 1, W 1, W 0, I 0, .f .f64 0, W 0, I 0, I 2, I 0, I 1, W 2, W 0, I 0, .f .f64 0, W 0, I 0, I 2, I 2, I 1, W 1, W 0, I 0, .f .f64 0, W 0, I 0]),
  (538, C 1 [.imm [Y 1, Y 1] 2])]
def hWT30 : AH := AH.edit hWT29 573 [513, 531, 538] [(129, C 1 [O 565 0 10]),
  (191, C 5 [O 408 0 4, I 6, I 2, I 0, I 0]),
  (199, C 3 [.tok 106, I 1, W 2]),
  (202, C 1 [.nsl, O 545 10 0, .nsl]),
  (204, C 1 [W 0, W 2, W 0]),
  (205, C 5 [I 3, I 2, .imm [I 1, W 2, W 1] 1, W 0, O 204 0 3]),
  (215, C 3 [W 2, W 3, .m (some 214)]),
  (221, C 5 [O 572 0 2, I 2, I 0, I 0, I 0]),
  (408, C 1 [.imm [Y 0, Y 1, Y 17, Y 1, Y 1, Y 5, Y 1, Y 0, .tok 27, .tok 26, .tok 25, .tok 24, .tok 23, .tok 22, .tok 21, .tok 20, Y 2, Y 1, Y 1, Y 0] 20, .imm [Y 0, Y 2, Y 20, Y 1, Y 2, Y 5, Y 1, Y 0, .tok 127, .tok 126, .tok 125, .tok 124, .tok 123, .tok 122, .tok 121, .tok 120, Y 2, Y 2, Y 4, Y 1, Y 1, Y 1, Y 4] 23, .imm [Y 0, Y 1, Y 17, Y 1, Y 1, Y 5, Y 1, Y 0, .tok 27, .tok 26, .tok 25, .tok 24, .tok 23, .tok 22, .tok 21, .tok 20, Y 2, Y 1, Y 1, Y 0] 20, .imm [Y 0, Y 2, Y 20, Y 1, Y 2, Y 5, Y 1, Y 0, .tok 127, .tok 126, .tok 125, .tok 124, .tok 123, .tok 122, .tok 121, .tok 120, Y 2, Y 2, Y 4, Y 1, Y 1, Y 1, Y 4] 23, .nsl, .nsl]),
  (545, C 10 [I 1, W 2, W 5, I 1, I 0, .tok 106, I 1, W 2, .nsl, .imm [Y 1, Y 1, Y 1, Y 4] 4]),
  (565, C 9 [I 3, I 1, I 0, W 0, W 0, I 0, .tok 6, W 1, I 0, I 1, I 1, I 0, W 1, W 5, I 0, .f .f64 0, W 0, I 0, I 3, I 1, I 0, W 0, W 0, I 0, .tok 106, W 2, I 0, I 1, I 1, I 0, W 2, W 5, I 0, .f .f64 0, W 0, I 0, I 3, I 1, I 0, W 0, W 0, I 0, .tok 206, W 3, I 0, I 1, I 1, I 0, W 3, W 5, I 0, .f .f64 0, W 0, I 0, I 2, I 0, I 1, W 1, W 0, I 0, .f .f64 0, W 0, I 0, I 2, I 0, I 1, W 2, W 0, I 0, .f .f64 0, W 0, I 0, I 2, I 2, I 1, W 1, W 0, I 0, .f .f64 0, W 0, I 0, I 2, I 2, I 1, W 2, W 0, I 0, .f .f64 0, W 0, I 0]),
  (572, C 1 [.imm [Y 1, Y 1] 2, .imm [Y 1, Y 2] 2])]
def hWT31 : AH := AH.edit hWT30 653 [355, 356, 572] [(181, C 5 [I 2, I 8, I 2, I 2, I 2]),
  (182, C 6 [I 2, I 3, P 181 0, O 309 0 1, O 350 1 0, W 3]),
  (191, C 5 [O 408 0 1, I 7, I 6, I 0, I 0]),
  (221, C 5 [O 604 0 0, I 6, I 6, I 0, I 0]),
  (309, C 2 [W 3, .imm [Y 1, Y 3, Y 5, Y 1, Y 0, .tok 227, .tok 226, .tok 225, .tok 224, .tok 223, .tok 222, .tok 221, .tok 220, Y 2, Y 3, Y 4, Y 1, Y 1, Y 2, Y 4] 20, W 0, .nsl]),
  (408, C 1 [.imm [Y 0, Y 3, Y 20, Y 1, Y 3, Y 5, Y 1, Y 0, .tok 227, .tok 226, .tok 225, .tok 224, .tok 223, .tok 222, .tok 221, .tok 220, Y 2, Y 3, Y 4, Y 1, Y 1, Y 2, Y 4] 23, .nsl, .nsl, .nsl, .nsl, .nsl]),
  (604, C 1 [.nsl, .nsl, .nsl, .nsl, .nsl, .nsl])]
def hWT32 : AH := AH.edit hWT31 740 [] [(157, C 5 [O 506 0 2, I 8, I 6, I 0, I 0]),
  (174, C 5 [I 2, I 8, I 2, I 2, I 3]),
  (175, C 6 [I 2, I 3, P 174 0, O 300 0 1, O 347 1 0, W 3]),
  (181, C 5 [I 2, I 8, I 8, I 6, I 4]),
  (187, C 5 [O 404 0 1, I 9, I 8, I 0, I 0]),
  (191, C 5 [O 408 0 3, I 9, I 6, I 0, I 0]),
  (300, C 2 [W 3, .imm [Y 1, Y 3, Y 5, Y 1, Y 0, .tok 227, .tok 226, .tok 225, .tok 224, .tok 223, .tok 222, .tok 221, .tok 220, Y 2, Y 3, Y 4, Y 1, Y 1, Y 2, Y 1] 20, W 0, .nsl]),
  (404, C 1 [.imm [Y 0, Y 3, Y 20, Y 1, Y 3, Y 5, Y 1, Y 0, .tok 227, .tok 226, .tok 225, .tok 224, .tok 223, .tok 222, .tok 221, .tok 220, Y 2, Y 3, Y 4, Y 1, Y 1, Y 2, Y 1] 23, .nsl, .nsl, .nsl, .nsl, .nsl]),
  (408, C 1 [.imm [Y 0, Y 3, Y 20, Y 1, Y 3, Y 5, Y 1, Y 0, .tok 227, .tok 226, .tok 225, .tok 224, .tok 223, .tok 222, .tok 221, .tok 220, Y 2, Y 3, Y 4, Y 1, Y 1, Y 2, Y 4] 23, .imm [Y 0, Y 3, Y 20, Y 1, Y 3, Y 5, Y 1, Y 0, .tok 227, .tok 226, .tok 225, .tok 224, .tok 223, .tok 222, .tok 221, .tok 220, Y 2, Y 3, Y 4, Y 1, Y 1, Y 2, Y 4] 23, .imm [Y 0, Y 3, Y 20, Y 1, Y 3, Y 5, Y 1, Y 0, .tok 227, .tok 226, .tok 225, .tok 224, .tok 223, .tok 222, .tok 221, .tok 220, Y 2, Y 3, Y 4, Y 1, Y 1, Y 2, Y 4] 23, .nsl, .nsl, .nsl]),
  (506, C 1 [.imm [Y 1, Y 2] 2, .imm [Y 1, Y 2] 2, .nsl, .nsl, .nsl, .nsl]),
  (653, C 8 [I 8, I 0, I 0, I 0, I 0, W 0, .f .f64 0, .nsl]),
  (654, C 3 [.f .f64 0, I 0, W 0])]
def hWT33 : AH := AH.edit hWT32 773 [447, 565] [(129, C 1 [O 766 0 11]),
  (135, C 3 [.tok 206, I 1, W 3]),
  (138, C 1 [.nsl, O 746 10 0, .nsl]),
  (140, C 1 [W 0, W 3, W 0]),
  (141, C 5 [I 3, I 0, .imm [I 1, W 3, W 4] 1, W 0, O 140 0 3]),
  (146, C 3 [W 2, W 4, .m (some 145)]),
  (157, C 5 [O 506 0 3, I 9, I 6, I 0, I 0]),
  (187, C 5 [O 404 0 0, I 9, I 9, I 0, I 0]),
  (404, C 1 [.nsl, .nsl, .nsl, .nsl, .nsl, .nsl]),
  (506, C 1 [.imm [Y 1, Y 2] 2, .imm [Y 1, Y 2] 2, .imm [Y 1, Y 3] 2, .nsl, .nsl, .nsl]),
  (746, C 10 [I 1, W 3, W 5, I 1, I 0, .tok 206, I 1, W 3, .nsl, .imm [Y 1, Y 1, Y 2, Y 1] 4]),
  (766, C 9 [I 3, I 1, I 0, W 0, W 0, I 0, .tok 6, W 1, I 0, I 1, I 1, I 0, W 1, W 5, I 0, .f .f64 0, W 0, I 0, I 3, I 1, I 0, W 0, W 0, I 0, .tok 106, W 2, I 0, I 1, I 1, I 0, W 2, W 5, I 0, .f .f64 0, W 0, I 0, I 3, I 1, I 0, W 0, W 0, I 0, .tok 206, W 3, I 0, I 1, I 1, I 0, W 3, W 5, I 0, .f .f64 0, W 0, I 0, I 2, I 0, I 1, W 1, W 0, I 0, .f .f64 0, W 0, I 0, I 2, I 0, I 1, W 2, W 0, I 0, .f .f64 0, W 0, I 0, I 2, I 2, I 1, W 1, W 0, I 0, .f .f64 0, W 0, I 0, I 2, I 2, I 1, W 2, W 0, I 0, .f .f64 0, W 0, I 0, I 2, I 0, I 1, W 3, W 0, I 0, .f .f64 0, W 0, I 0])]
def hWT34 : AH := AH.edit hWT33 806 [545, 766] [(129, C 1 [O 799 0 12]),
  (191, C 5 [O 408 0 2, I 9, I 7, I 0, I 0]),
  (199, C 3 [.tok 206, I 1, W 3]),
  (202, C 1 [.nsl, O 779 10 0, .nsl]),
  (204, C 1 [W 0, W 3, W 0]),
  (205, C 5 [I 3, I 2, .imm [I 1, W 3, W 1] 1, W 0, O 204 0 3]),
  (215, C 3 [W 2, W 4, .m (some 214)]),
  (221, C 5 [O 604 0 1, I 7, I 6, I 0, I 0]),
  (408, C 1 [.imm [Y 0, Y 3, Y 20, Y 1, Y 3, Y 5, Y 1, Y 0, .tok 227, .tok 226, .tok 225, .tok 224, .tok 223, .tok 222, .tok 221, .tok 220, Y 2, Y 3, Y 4, Y 1, Y 1, Y 2, Y 4] 23, .imm [Y 0, Y 3, Y 20, Y 1, Y 3, Y 5, Y 1, Y 0, .tok 227, .tok 226, .tok 225, .tok 224, .tok 223, .tok 222, .tok 221, .tok 220, Y 2, Y 3, Y 4, Y 1, Y 1, Y 2, Y 4] 23, .nsl, .nsl, .nsl, .nsl]),
  (604, C 1 [.imm [Y 1, Y 3] 2, .nsl, .nsl, .nsl, .nsl, .nsl]),
  (779, C 10 [I 1, W 3, W 5, I 1, I 0, .tok 206, I 1, W 3, .nsl, .imm [Y 1, Y 1, Y 2, Y 4] 4]),
  (799, C 9 [I 3, I 1, I 0, W 0, W 0, I 0, .tok 6, W 1, I 0, I 1, I 1, I 0, W 1, W 5, I 0, .f .f64 0, W 0, I 0, I 3, I 1, I 0, W 0, W 0, I 0, .tok 106, W 2, I 0, I 1, I 1, I 0, W 2, W 5, I 0, .f .f64 0, W 0, I 0, I 3, I 1, I 0, W 0, W 0, I 0, .tok 206, W 3, I 0, I 1, I 1, I 0, W 3, W 5, I 0, .f .f64 0, W 0, I 0, I 2, I 0, I 1, W 1, W 0, I 0, .f .f64 0, W 0, I 0, I 2, I 0, I 1, W 2, W 0, I 0, .f .f64 0, W 0, I 0, I 2, I 2, I 1, W 1, W 0, I 0, .f .f64 0, W 0, I 0, I 2, I 2, I 1, W 2, W 0, I 0, .f .f64 0, W 0, I 0, I 2, I 0, I 1, W 3, W 0, I 0, .f .f64 0, W 0, I 0, I 2, I 2, I 1, W 3, W 0, I 0, .f .f64 0, W 0, I 0])]
def hWT35 : AH := AH.edit hWT34 839 [653, 654] [(181, C 5 [I 2, I 8, I 2, I 0, I 4]),
  (182, C 6 [I 2, I 3, P 181 0, O 309 0 0, O 350 1 0, W 3]),
  (191, C 5 [O 408 0 0, I 9, I 9, I 0, I 0]),
  (221, C 5 [O 604 0 0, I 9, I 9, I 0, I 0]),
  (309, C 2 [W 0, .nsl, W 0, .nsl]),
  (408, C 1 [.nsl, .nsl, .nsl, .nsl, .nsl, .nsl]),
  (604, C 1 [.nsl, .nsl, .nsl, .nsl, .nsl, .nsl])]
def hWT36 : AH := AH.edit hWT35 886 [] [(157, C 5 [O 506 0 2, I 11, I 9, I 0, I 0]),
  (174, C 5 [I 2, I 8, I 2, I 0, I 5]),
  (175, C 6 [I 2, I 3, P 174 0, O 300 0 0, O 347 1 0, W 3]),
  (187, C 5 [O 404 0 0, I 11, I 11, I 0, I 0]),
  (300, C 2 [W 0, .nsl, W 0, .nsl]),
  (506, C 1 [.imm [Y 1, Y 3] 2, .imm [Y 1, Y 3] 2, .nsl, .nsl, .nsl, .nsl])]
def hWT37 : AH := AH.edit hWT36 900 [] [(157, C 5 [O 506 0 0, I 11, I 11, I 0, I 0]),
  (506, C 1 [.nsl, .nsl, .nsl, .nsl, .nsl, .nsl])]
def hWT38 : AH := AH.edit hWT24 386 [347, 350, 353] [(129, C 1 [O 385 0 8]),
  (167, C 3 [.tok 306, I 1, W 4]),
  (168, C 11 [I 3, .imm [W 7] 1, I 2, I 3, I 2, I 8, I 64, I 2, I 1, O 167 0 1, W 4]),
  (171, C 17 [I 3, O 169 0 1, I 2, I 3, I 2, I 8, I 64, I 2, I 1, P 129 0, O 186 0 3, .ifc 108 (P 173 0), P 168 0, W 4, O 170 0 3, N 0, .nsl]),
  (173, C 5 [I 3, I 1, .imm [I 1, W 4, W 5] 1, W 4, O 172 0 3]),
  (175, C 6 [I 2, I 3, P 174 0, O 300 0 2, O 379 0 2, W 2]),
  (182, C 6 [I 2, I 3, P 181 0, O 309 0 2, O 382 0 2, W 2]),
  (379, C 1 [.imm [Y 1, Y 3, Y 5, Y 1, Y 0, .tok 227, .tok 226, .tok 225, .tok 224, .tok 223, .tok 222, .tok 221, .tok 220, Y 2, Y 3, Y 4, Y 1, Y 1, Y 2, Y 1] 20, .imm [Y 1, Y 4, Y 5, Y 1, Y 0, .tok 327, .tok 326, .tok 325, .tok 324, .tok 323, .tok 322, .tok 321, .tok 320, Y 2, Y 4, Y 4, Y 1, Y 1, Y 3, Y 1] 20]),
  (382, C 1 [.imm [Y 1, Y 3, Y 5, Y 1, Y 0, .tok 227, .tok 226, .tok 225, .tok 224, .tok 223, .tok 222, .tok 221, .tok 220, Y 2, Y 3, Y 4, Y 1, Y 1, Y 2, Y 4] 20, .imm [Y 1, Y 4, Y 5, Y 1, Y 0, .tok 327, .tok 326, .tok 325, .tok 324, .tok 323, .tok 322, .tok 321, .tok 320, Y 2, Y 4, Y 4, Y 1, Y 1, Y 3, Y 4] 20]),
  (385, C 9 [I 3, I 1, I 0, W 0, W 0, I 0, .tok 6, W 1, I 0, I 1, I 1, I 0, W 1, W 5, I 0, .f .f64 0, W 0, I 0, I 3, I 1, I 0, W 0, W 0, I 0, .tok 106, W 2, I 0, I 1, I 1, I 0, W 2, W 5, I 0, .f .f64 0, W 0, I 0, I 3, I 1, I 0, W 0, W 0, I 0, .tok 206, W 3, I 0, I 1, I 1, I 0, W 3, W 5, I 0, .f .f64 0, W 0, I 0, I 3, I 1, I 0, W 0, W 0, I 0, .tok 306, W 4, I 0, I 1, I 1, I 0, W 4, W 5, I 0, .f .f64 0, W 0, I 0])]
def hWT39 : AH := AH.edit hWT38 387 [354] [(386, C 3 [.f .f64 0, I 0, W 0])]
def hWT40 : AH := AH.edit hWT39 441 [319, 321] [(174, C 5 [I 2, I 8, I 8, I 6, I 2]),
  (181, C 5 [I 2, I 8, I 8, I 6, I 2]),
  (187, C 5 [O 436 0 6, I 6, I 0, I 0, I 0]),
  (191, C 5 [O 440 0 6, I 6, I 0, I 0, I 0]),
  (387, C 8 [I 8, I 0, I 0, I 0, I 0, W 0, .f .f64 0, .nsl]),
  (388, C 3 [.f .f64 0, I 0, W 0]),
  (436, C 1 [.imm [Y 0, Y 1, Y 17, Y 1, Y 1, Y 5, Y 1, Y 0, .tok 27, .tok 26, .tok 25, .tok 24, .tok 23, .tok 22, .tok 21, .tok 20, Y 2, Y 1, Y 1, Y 0] 20, .imm [Y 0, Y 2, Y 20, Y 1, Y 2, Y 5, Y 1, Y 0, .tok 127, .tok 126, .tok 125, .tok 124, .tok 123, .tok 122, .tok 121, .tok 120, Y 2, Y 2, Y 4, Y 1, Y 1, Y 1, Y 1] 23, .imm [Y 0, Y 1, Y 17, Y 1, Y 1, Y 5, Y 1, Y 0, .tok 27, .tok 26, .tok 25, .tok 24, .tok 23, .tok 22, .tok 21, .tok 20, Y 2, Y 1, Y 1, Y 0] 20, .imm [Y 0, Y 2, Y 20, Y 1, Y 2, Y 5, Y 1, Y 0, .tok 127, .tok 126, .tok 125, .tok 124, .tok 123, .tok 122, .tok 121, .tok 120, Y 2, Y 2, Y 4, Y 1, Y 1, Y 1, Y 1] 23, .imm [Y 0, Y 1, Y 17, Y 1, Y 1, Y 5, Y 1, Y 0, .tok 27, .tok 26, .tok 25, .tok 24, .tok 23, .tok 22, .tok 21, .tok 20, Y 2, Y 1, Y 1, Y 0] 20, .imm [Y 0, Y 2, Y 20, Y 1, Y 2, Y 5, Y 1, Y 0, .tok 127, .tok 126, .tok 125, .tok 124, .tok 123, .tok 122, .tok 121, .tok 120, Y 2, Y 2, Y 4, Y 1, Y 1, Y 1, Y 1] 23]),
  (440, C 1 [.imm [Y 0, Y 1, Y 17, Y 1, Y 1, Y 5, Y 1, Y 0, .tok 27, .tok 26, .tok 25, .tok 24, .tok 23, .tok 22, .tok 21, .tok 20, Y 2, Y 1, Y 1, Y 0] 20, .imm [Y 0, Y 2, Y 20, Y 1, Y 2, Y 5, Y 1, Y 0, .tok 127, .tok 126, .tok 125, .tok 124, .tok 123, .tok 122, .tok 121, .tok 120, Y 2, Y 2, Y 4, Y 1, Y 1, Y 1, Y 4] 23, .imm [Y 0, Y 1, Y 17, Y 1, Y 1, Y 5, Y 1, Y 0, .tok 27, .tok 26, .tok 25, .tok 24, .tok 23, .tok 22, .tok 21, .tok 20, Y 2, Y 1, Y 1, Y 0] 20, .imm [Y 0, Y 2, Y 20, Y 1, Y 2, Y 5, Y 1, Y 0, .tok 127, .tok 126, .tok 125, .tok 124, .tok 123, .tok 122, .tok 121, .tok 120, Y 2, Y 2, Y 4, Y 1, Y 1, Y 1, Y 4] 23, .imm [Y 0, Y 1, Y 17, Y 1, Y 1, Y 5, Y 1, Y 0, .tok 27, .tok 26, .tok 25, .tok 24, .tok 23, .tok 22, .tok 21, .tok 20, Y 2, Y 1, Y 1, Y 0] 20, .imm [Y 0, Y 2, Y 20, Y 1, Y 2, Y 5, Y 1, Y 0, .tok 127, .tok 126, .tok 125, .tok 124, .tok 123, .tok 122, .tok 121, .tok 120, Y 2, Y 2, Y 4, Y 1, Y 1, Y 1, Y 4] 23])]
def hWT41 : AH := AH.edit hWT40 473 [385] [(129, C 1 [O 465 0 9]),
  (135, C 3 [.tok 6, I 1, W 1]),
  (138, C 1 [.nsl, O 447 10 0, .nsl]),
  (140, C 1 [W 0, W 1, W 0]),
  (141, C 5 [I 3, I 0, .imm [I 1, W 1, W 4] 1, W 0, O 140 0 3]),
  (146, C 3 [W 2, W 2, .m (some 145)]),
  (157, C 5 [O 472 0 1, I 1, I 0, I 0, I 0]),
  (187, C 5 [O 436 0 5, I 6, I 1, I 0, I 0]),
  (436, C 1 [.imm [Y 0, Y 2, Y 20, Y 1, Y 2, Y 5, Y 1, Y 0, .tok 127, .tok 126, .tok 125, .tok 124, .tok 123, .tok 122, .tok 121, .tok 120, Y 2, Y 2, Y 4, Y 1, Y 1, Y 1, Y 1] 23, .imm [Y 0, Y 1, Y 17, Y 1, Y 1, Y 5, Y 1, Y 0, .tok 27, .tok 26, .tok 25, .tok 24, .tok 23, .tok 22, .tok 21, .tok 20, Y 2, Y 1, Y 1, Y 0] 20, .imm [Y 0, Y 2, Y 20, Y 1, Y 2, Y 5, Y 1, Y 0, .tok 127, .tok 126, .tok 125, .tok 124, .tok 123, .tok 122, .tok 121, .tok 120, Y 2, Y 2, Y 4, Y 1, Y 1, Y 1, Y 1] 23, .imm [Y 0, Y 1, Y 17, Y 1, Y 1, Y 5, Y 1, Y 0, .tok 27, .tok 26, .tok 25, .tok 24, .tok 23, .tok 22, .tok 21, .tok 20, Y 2, Y 1, Y 1, Y 0] 20, .imm [Y 0, Y 2, Y 20, Y 1, Y 2, Y 5, Y 1, Y 0, .tok 127, .tok 126, .tok 125, .tok 124, .tok 123, .tok 122, .tok 121, .tok 120, Y 2, Y 2, Y 4, Y 1, Y 1, Y 1, Y 1] 23, .nsl]),
  (447, C 10 [I 1, W 1, W 5, I 1, I 0, .tok 6, I 1, W 1, .nsl, .imm [Y 0] 1]),
  (465, C 9 [I 3, I 1, I 0, W 0, W 0, I 0, .tok 6, W 1, I 0, I 1, I 1, I 0, W 1, W 5, I 0, .f .f64 0, W 0, I 0, I 3, I 1, I 0, W 0, W 0, I 0, .tok 106, W 2, I 0, I 1, I 1, I 0, W 2, W 5, I 0, .f .f64 0, W 0, I 0, I 3, I 1, I 0, W 0, W 0, I 0, .tok 206, W 3, I 0, I 1, I 1, I 0, W 3, W 5, I 0, .f .f64 0, W 0, I 0, I 3, I 1, I 0, W 0, W 0, I 0, .tok 306, W 4, I 0, I 1, I 1, I 0, W 4, W 5, I 0, .f .f64 0, W 0, I 0, I 2, I 0, I 1, W 1, W 0, I 0, .f .f64 0, W 0, I 0]),
  (472, C 1 [.imm [Y 1, Y 1] 2])]
def hWT42 : AH := AH.edit hWT41 507 [447, 465, 472] [(129, C 1 [O 499 0 10]),
  (135, C 3 [.tok 106, I 1, W 2]),
  (138, C 1 [.nsl, O 479 10 0, .nsl]),
  (140, C 1 [W 0, W 2, W 0]),
  (141, C 5 [I 3, I 0, .imm [I 1, W 2, W 4] 1, W 0, O 140 0 3]),
  (146, C 3 [W 2, W 3, .m (some 145)]),
  (157, C 5 [O 506 0 2, I 2, I 0, I 0, I 0]),
  (187, C 5 [O 436 0 4, I 6, I 2, I 0, I 0]),
  (436, C 1 [.imm [Y 0, Y 1, Y 17, Y 1, Y 1, Y 5, Y 1, Y 0, .tok 27, .tok 26, .tok 25, .tok 24, .tok 23, .tok 22, .tok 21, .tok 20, Y 2, Y 1, Y 1, Y 0] 20, .imm [Y 0, Y 2, Y 20, Y 1, Y 2, Y 5, Y 1, Y 0, .tok 127, .tok 126, .tok 125, .tok 124, .tok 123, .tok 122, .tok 121, .tok 120, Y 2, Y 2, Y 4, Y 1, Y 1, Y 1, Y 1] 23, .imm [Y 0, Y 1, Y 17, Y 1, Y 1, Y 5, Y 1, Y 0, .tok 27, .tok 26, .tok 25, .tok 24, .tok 23, .tok 22, .tok 21, .tok 20, Y 2, Y 1, Y 1, Y 0] 20, .imm [Y 0, Y 2, Y 20, Y 1, Y 2, Y 5, Y 1, Y 0, .tok 127, .tok 126, .tok 125, .tok 124, .tok 123, .tok 122, .tok 121, .tok 120, Y 2, Y 2, Y 4, Y 1, Y 1, Y 1, Y 1] 23, .nsl, .nsl]),
  (479, C 10 [I 1, W 2, W 5, I 1, I 0, .tok 106, I 1, W 2, .nsl, .imm [Y 1, Y 1, Y 1, Y 1] 4]),
  (499, C 9 [I 3, I 1, I 0, W 0, W 0, I 0, .tok 6, W 1, I 0, I 1, I 1, I 0, W 1, W 5, I 0, .f .f64 0, W 0, I 0, I 3, I 1, I 0, W 0, W 0, I 0, .tok 106, W 2, I 0, I 1, I 1, I 0, W 2, W 5, I 0, .f .f64 0, W 0, I 0, I 3, I 1, I 0, W 0, W 0, I 0, .tok 206, W 3, I 0, I 1, I 1, I 0, W 3, W 5, I 0, .f .f64 0, W 0, I 0, I 3, I 1, I 0, W 0, W 0, I 0, .tok 306, W 4, I 0, I 1, I 1, I 0, W 4, W 5, I 0, .f .f64 0, W 0, I 0, I 2, I 0, I 1, W 1, W 0, I 0, .f .f64 0, W 0, I 0, I 2, I 0, I 1, W 2, W 0, I 0, .f .f64 0, W 0, I 0]),
  (506, C 1 [.imm [Y 1, Y 1] 2, .imm [Y 1, Y 2] 2])]
def hWT43 : AH := AH.edit hWT42 539 [506] [(157, C 5 [O 538 0 6, I 6, I 0, I 0, I 0]),
  (187, C 5 [O 436 0 0, I 6, I 6, I 0, I 0]),
  (436, C 1 [.nsl, .nsl, .nsl, .nsl, .nsl, .nsl]),
  (538, C 1 [.imm [Y 1, Y 1] 2, .imm [Y 1, Y 2] 2, .imm [Y 1, Y 2] 2, .imm [Y 1, Y 2] 2, .imm [Y 1, Y 2] 2, .imm [Y 1, Y 2] 2])]
def hWT44 : AH := AH.edit hWT43 571 [499] [(129, C 1 [O 563 0 11]),
  (191, C 5 [O 440 0 5, I 6, I 1, I 0, I 0]),
  (199, C 3 [.tok 6, I 1, W 1]),
  (202, C 1 [.nsl, O 545 10 0, .nsl]),
  (204, C 1 [W 0, W 1, W 0]),
  (205, C 5 [I 3, I 2, .imm [I 1, W 1, W 1] 1, W 0, O 204 0 3]),
  (215, C 3 [W 2, W 2, .m (some 214)]),
  (221, C 5 [O 570 0 1, I 1, I 0, I 0, I 0]),
  (440, C 1 [.imm [Y 0, Y 2, Y 20, Y 1, Y 2, Y 5, Y 1, Y 0, .tok 127, .tok 126, .tok 125, .tok 124, .tok 123, .tok 122, .tok 121, .tok 120, Y 2, Y 2, Y 4, Y 1, Y 1, Y 1, Y 4] 23, .imm [Y 0, Y 1, Y 17, Y 1, Y 1, Y 5, Y 1, Y 0, .tok 27, .tok 26, .tok 25, .tok 24, .tok 23, .tok 22, .tok 21, .tok 20, Y 2, Y 1, Y 1, Y 0] 20, .imm [Y 0, Y 2, Y 20, Y 1, Y 2, Y 5, Y 1, Y 0, .tok 127, .tok 126, .tok 125, .tok 124, .tok 123, .tok 122, .tok 121, .tok 120, Y 2, Y 2, Y 4, Y 1, Y 1, Y 1, Y 4] 23, .imm [Y 0, Y 1, Y 17, Y 1, Y 1, Y 5, Y 1, Y 0, .tok 27, .tok 26, .tok 25, .tok 24, .tok 23, .tok 22, .tok 21, .tok 20, Y 2, Y 1, Y 1, Y 0] 20, .imm [Y 0, Y 2, Y 20, Y 1, Y 2, Y 5, Y 1, Y 0, .tok 127, .tok 126, .tok 125, .tok 124, .tok 123, .tok 122, .tok 121, .tok 120, Y 2, Y 2, Y 4, Y 1, Y 1, Y 1, Y 4] 23, .nsl]),
  (545, C 10 [I 1, W 1, W 5, I 1, I 0, .tok 6, I 1, W 1, .nsl, .imm [Y 0] 1]),
  (563, C 9 [I 3, I 1, I 0, W 0, W 0, I 0, .tok 6, W 1, I 0, I 1, I 1, I 0, W 1, W 5, I 0, .f .f64 0, W 0, I 0, I 3, I 1, I 0, W 0, W 0, I 0, .tok 106, W 2, I 0, I 1, I 1, I 0, W 2, W 5, I 0, .f .f64 0, W 0, I 0, I 3, I 1, I 0, W 0, W 0, I 0, .tok 206, W 3, I 0, I 1, I 1, I 0, W 3, W 5, I 0, .f .f64 0, W 0, I 0, I 3, I 1, I 0, W 0, W 0, I 0, .tok 306, W 4, I 0, I 1, I 1, I 0, W 4, W 5, I 0, .f .f64 0, W 0, I 0, I 2, I 0, I 1, W 1, W 0, I 0, .f .f64 0, W 0, I 0, I 2, I 0, I 1, W 2, W 0, I 0, .f .f64 0, W 0, I 0, I 2, I 2, I 1, W 1, W 0, I 0, .f .f64 0, W 0, I 0]),
  (570, C 1 [.imm [Y 1, Y 1] 2])]
def hWT45 : AH := AH.edit hWT44 605 [545, 563, 570] [(129, C 1 [O 597 0 12]),
  (191, C 5 [O 440 0 4, I 6, I 2, I 0, I 0]),
  (199, C 3 [.tok 106, I 1, W 2]),
  (202, C 1 [.nsl, O 577 10 0, .nsl]),
  (204, C 1 [W 0, W 2, W 0]),
  (205, C 5 [I 3, I 2, .imm [I 1, W 2, W 1] 1, W 0, O 204 0 3]),
  (215, C 3 [W 2, W 3, .m (some 214)]),
  (221, C 5 [O 604 0 2, I 2, I 0, I 0, I 0]),
  (440, C 1 [.imm [Y 0, Y 1, Y 17, Y 1, Y 1, Y 5, Y 1, Y 0, .tok 27, .tok 26, .tok 25, .tok 24, .tok 23, .tok 22, .tok 21, .tok 20, Y 2, Y 1, Y 1, Y 0] 20, .imm [Y 0, Y 2, Y 20, Y 1, Y 2, Y 5, Y 1, Y 0, .tok 127, .tok 126, .tok 125, .tok 124, .tok 123, .tok 122, .tok 121, .tok 120, Y 2, Y 2, Y 4, Y 1, Y 1, Y 1, Y 4] 23, .imm [Y 0, Y 1, Y 17, Y 1, Y 1, Y 5, Y 1, Y 0, .tok 27, .tok 26, .tok 25, .tok 24, .tok 23, .tok 22, .tok 21, .tok 20, Y 2, Y 1, Y 1, Y 0] 20, .imm [Y 0, Y 2, Y 20, Y 1, Y 2, Y 5, Y 1, Y 0, .tok 127, .tok 126, .tok 125, .tok 124, .tok 123, .tok 122, .tok 121, .tok 120, Y 2, Y 2, Y 4, Y 1, Y 1, Y 1, Y 4] 23, .nsl, .nsl]),
  (577, C 10 [I 1, W 2, W 5, I 1, I 0, .tok 106, I 1, W 2, .nsl, .imm [Y 1, Y 1, Y 1, Y 4] 4]),
  (597, C 9 [I 3, I 1, I 0, W 0, W 0, I 0, .tok 6, W 1, I 0, I 1, I 1, I 0, W 1, W 5, I 0, .f .f64 0, W 0, I 0, I 3, I 1, I 0, W 0, W 0, I 0, .tok 106, W 2, I 0, I 1, I 1, I 0, W 2, W 5, I 0, .f .f64 0, W 0, I 0, I 3, I 1, I 0, W 0, W 0, I 0, .tok 206, W 3, I 0, I 1, I 1, I 0, W 3, W 5, I 0, .f .f64 0, W 0, I 0, I 3, I 1, I 0, W 0, W 0, I 0, .tok 306, W 4, I 0, I 1, I 1, I 0, W 4, W 5, I 0, .f .f64 0, W 0, I 0, I 2, I 0, I 1, W 1, W 0, I 0, .f .f64 0, W 0, I 0, I 2, I 0, I 1, W 2, W 0, I 0, .f .f64 0, W 0, I 0, I 2, I 2, I 1, W 1, W 0, I 0, .f .f64 0, W 0, I 0, I 2, I 2, I 1, W 2, W 0, I 0, .f .f64 0, W 0, I 0]),
  (604, C 1 [.imm [Y 1, Y 1] 2, .imm [Y 1, Y 2] 2])]
def hWT46 : AH := AH.edit hWT45 691 [387, 388, 604] [(181, C 5 [I 2, I 8, I 2, I 2, I 2]),
  (182, C 6 [I 2, I 3, P 181 0, O 309 0 2, O 382 2 0, W 4]),
  (191, C 5 [O 440 0 2, I 8, I 6, I 0, I 0]),
  (221, C 5 [O 636 0 0, I 6, I 6, I 0, I 0]),
  (309, C 2 [W 3, .imm [Y 1, Y 3, Y 5, Y 1, Y 0, .tok 227, .tok 226, .tok 225, .tok 224, .tok 223, .tok 222, .tok 221, .tok 220, Y 2, Y 3, Y 4, Y 1, Y 1, Y 2, Y 4] 20, W 4, .imm [Y 1, Y 4, Y 5, Y 1, Y 0, .tok 327, .tok 326, .tok 325, .tok 324, .tok 323, .tok 322, .tok 321, .tok 320, Y 2, Y 4, Y 4, Y 1, Y 1, Y 3, Y 4] 20]),
  (440, C 1 [.imm [Y 0, Y 3, Y 20, Y 1, Y 3, Y 5, Y 1, Y 0, .tok 227, .tok 226, .tok 225, .tok 224, .tok 223, .tok 222, .tok 221, .tok 220, Y 2, Y 3, Y 4, Y 1, Y 1, Y 2, Y 4] 23, .imm [Y 0, Y 4, Y 20, Y 1, Y 4, Y 5, Y 1, Y 0, .tok 327, .tok 326, .tok 325, .tok 324, .tok 323, .tok 322, .tok 321, .tok 320, Y 2, Y 4, Y 4, Y 1, Y 1, Y 3, Y 4] 23, .nsl, .nsl, .nsl, .nsl]),
  (636, C 1 [.nsl, .nsl, .nsl, .nsl, .nsl, .nsl])]
def hWT47 : AH := AH.edit hWT46 794 [] [(157, C 5 [O 538 0 2, I 8, I 6, I 0, I 0]),
  (174, C 5 [I 2, I 8, I 2, I 2, I 3]),
  (175, C 6 [I 2, I 3, P 174 0, O 300 0 2, O 379 2 0, W 4]),
  (181, C 5 [I 2, I 8, I 8, I 6, I 4]),
  (187, C 5 [O 436 0 2, I 10, I 8, I 0, I 0]),
  (191, C 5 [O 440 0 6, I 12, I 6, I 0, I 0]),
  (300, C 2 [W 3, .imm [Y 1, Y 3, Y 5, Y 1, Y 0, .tok 227, .tok 226, .tok 225, .tok 224, .tok 223, .tok 222, .tok 221, .tok 220, Y 2, Y 3, Y 4, Y 1, Y 1, Y 2, Y 1] 20, W 4, .imm [Y 1, Y 4, Y 5, Y 1, Y 0, .tok 327, .tok 326, .tok 325, .tok 324, .tok 323, .tok 322, .tok 321, .tok 320, Y 2, Y 4, Y 4, Y 1, Y 1, Y 3, Y 1] 20]),
  (436, C 1 [.imm [Y 0, Y 3, Y 20, Y 1, Y 3, Y 5, Y 1, Y 0, .tok 227, .tok 226, .tok 225, .tok 224, .tok 223, .tok 222, .tok 221, .tok 220, Y 2, Y 3, Y 4, Y 1, Y 1, Y 2, Y 1] 23, .imm [Y 0, Y 4, Y 20, Y 1, Y 4, Y 5, Y 1, Y 0, .tok 327, .tok 326, .tok 325, .tok 324, .tok 323, .tok 322, .tok 321, .tok 320, Y 2, Y 4, Y 4, Y 1, Y 1, Y 3, Y 1] 23, .nsl, .nsl, .nsl, .nsl]),
  (440, C 1 [.imm [Y 0, Y 3, Y 20, Y 1, Y 3, Y 5, Y 1, Y 0, .tok 227, .tok 226, .tok 225, .tok 224, .tok 223, .tok 222, .tok 221, .tok 220, Y 2, Y 3, Y 4, Y 1, Y 1, Y 2, Y 4] 23, .imm [Y 0, Y 4, Y 20, Y 1, Y 4, Y 5, Y 1, Y 0, .tok 327, .tok 326, .tok 325, .tok 324, .tok 323, .tok 322, .tok 321, .tok 320, Y 2, Y 4, Y 4, Y 1, Y 1, Y 3, Y 4] 23, .imm [Y 0, Y 3, Y 20, Y 1, Y 3, Y 5, Y 1, Y 0, .tok 227, .tok 226, .tok 225, .tok 224, .tok 223, .tok 222, .tok 221, .tok 220, Y 2, Y 3, Y 4, Y 1, Y 1, Y 2, Y 4] 23, .imm [Y 0, Y 4, Y 20, Y 1, Y 4, Y 5, Y 1, Y 0, .tok 327, .tok 326, .tok 325, .tok 324, .tok 323, .tok 322, .tok 321, .tok 320, Y 2, Y 4, Y 4, Y 1, Y 1, Y 3, Y 4] 23, .imm [Y 0, Y 3, Y 20, Y 1, Y 3, Y 5, Y 1, Y 0, .tok 227, .tok 226, .tok 225, .tok 224, .tok 223, .tok 222, .tok 221, .tok 220, Y 2, Y 3, Y 4, Y 1, Y 1, Y 2, Y 4] 23, .imm [Y 0, Y 4, Y 20, Y 1, Y 4, Y 5, Y 1, Y 0, .tok 327, .tok 326, .tok 325, .tok 324, .tok 323, .tok 322, .tok 321, .tok 320, Y 2, Y 4, Y 4, Y 1, Y 1, Y 3, Y 4] 23]),
  (538, C 1 [.imm [Y 1, Y 2] 2, .imm [Y 1, Y 2] 2, .nsl, .nsl, .nsl, .nsl]),
  (691, C 8 [I 8, I 0, I 0, I 0, I 0, W 0, .f .f64 0, .nsl]),
  (692, C 3 [.f .f64 0, I 0, W 0])]
def hWT48 : AH := AH.edit hWT47 827 [479, 597] [(129, C 1 [O 820 0 13]),
  (135, C 3 [.tok 206, I 1, W 3]),
  (138, C 1 [.nsl, O 800 10 0, .nsl]),
  (140, C 1 [W 0, W 3, W 0]),
  (141, C 5 [I 3, I 0, .imm [I 1, W 3, W 4] 1, W 0, O 140 0 3]),
  (146, C 3 [W 2, W 4, .m (some 145)]),
  (157, C 5 [O 538 0 3, I 9, I 6, I 0, I 0]),
  (187, C 5 [O 436 0 1, I 10, I 9, I 0, I 0]),
  (436, C 1 [.imm [Y 0, Y 4, Y 20, Y 1, Y 4, Y 5, Y 1, Y 0, .tok 327, .tok 326, .tok 325, .tok 324, .tok 323, .tok 322, .tok 321, .tok 320, Y 2, Y 4, Y 4, Y 1, Y 1, Y 3, Y 1] 23, .nsl, .nsl, .nsl, .nsl, .nsl]),
  (538, C 1 [.imm [Y 1, Y 2] 2, .imm [Y 1, Y 2] 2, .imm [Y 1, Y 3] 2, .nsl, .nsl, .nsl]),
  (800, C 10 [I 1, W 3, W 5, I 1, I 0, .tok 206, I 1, W 3, .nsl, .imm [Y 1, Y 1, Y 2, Y 1] 4]),
  (820, C 9 [I 3, I 1, I 0, W 0, W 0, I 0, .tok 6, W 1, I 0, I 1, I 1, I 0, W 1, W 5, I 0, .f .f64 0, W 0, I 0, I 3, I 1, I 0, W 0, W 0, I 0, .tok 106, W 2, I 0, I 1, I 1, I 0, W 2, W 5, I 0, .f .f64 0, W 0, I 0, I 3, I 1, I 0, W 0, W 0, I 0, .tok 206, W 3, I 0, I 1, I 1, I 0, W 3, W 5, I 0, .f .f64 0, W 0, I 0, I 3, I 1, I 0, W 0, W 0, I 0, .tok 306, W 4, I 0, I 1, I 1, I 0, W 4, W 5, I 0, .f .f64 0, W 0, I 0, I 2, I 0, I 1, W 1, W 0, I 0, .f .f64 0, W 0, I 0, I 2, I 0, I 1, W 2, W 0, I 0, .f .f64 0, W 0, I 0, I 2, I 2, I 1, W 1, W 0, I 0, .f .f64 0, W 0, I 0, I 2, I 2, I 1, W 2, W 0, I 0, .f .f64 0, W 0, I 0, I 2, I 0, I 1, W 3, W 0, I 0, .f .f64 0, W 0, I 0])]
def hWT49 : AH := AH.edit hWT48 860 [800, 820] [(129, C 1 [O 853 0 14]),
  (135, C 3 [.tok 306, I 1, W 4]),
  (138, C 1 [.nsl, O 833 10 0, .nsl]),
  (140, C 1 [W 0, W 4, W 0]),
  (141, C 5 [I 3, I 0, .imm [I 1, W 4, W 4] 1, W 0, O 140 0 3]),
  (146, C 3 [W 2, W 5, .m (some 145)]),
  (157, C 5 [O 538 0 4, I 10, I 6, I 0, I 0]),
  (187, C 5 [O 436 0 0, I 10, I 10, I 0, I 0]),
  (436, C 1 [.nsl, .nsl, .nsl, .nsl, .nsl, .nsl]),
  (538, C 1 [.imm [Y 1, Y 2] 2, .imm [Y 1, Y 2] 2, .imm [Y 1, Y 3] 2, .imm [Y 1, Y 4] 2, .nsl, .nsl]),
  (833, C 10 [I 1, W 4, W 5, I 1, I 0, .tok 306, I 1, W 4, .nsl, .imm [Y 1, Y 1, Y 3, Y 1] 4]),
  (853, C 9 [I 3, I 1, I 0, W 0, W 0, I 0, .tok 6, W 1, I 0, I 1, I 1, I 0, W 1, W 5, I 0, .f .f64 0, W 0, I 0, I 3, I 1, I 0, W 0, W 0, I 0, .tok 106, W 2, I 0, I 1, I 1, I 0, W 2, W 5, I 0, .f .f64 0, W 0, I 0, I 3, I 1, I 0, W 0, W 0, I 0, .tok 206, W 3, I 0, I 1, I 1, I 0, W 3, W 5, I 0, .f .f64 0, W 0, I 0, I 3, I 1, I 0, W 0, W 0, I 0, .tok 306, W 4, I 0, I 1, I 1, I 0, W 4, W 5, I 0, .f .f64 0, W 0, I 0, I 2, I 0, I 1, W 1, W 0, I 0, .f .f64 0, W 0, I 0, I 2, I 0, I 1, W 2, W 0, I 0, .f .f64 0, W 0, I 0, I 2, I 2, I 1, W 1, W 0, I 0, .f .f64 0, W 0, I 0, I 2, I 2, I 1, W 2, W 0, I 0, .f .f64 0, W 0, I 0, I 2, I 0, I 1, W 3, W 0, I 0, .f .f64 0, W 0, I 0, I 2, I 0, I 1, W 4, W 0, I 0, .f .f64 0, W 0, I 0])]
def hWT50 : AH := AH.edit hWT49 893 [577, 853] [(129, C 1 [O 886 0 15]),
  (191, C 5 [O 440 0 5, I 12, I 7, I 0, I 0]),
  (199, C 3 [.tok 206, I 1, W 3]),
  (202, C 1 [.nsl, O 866 10 0, .nsl]),
  (204, C 1 [W 0, W 3, W 0]),
  (205, C 5 [I 3, I 2, .imm [I 1, W 3, W 1] 1, W 0, O 204 0 3]),
  (215, C 3 [W 2, W 4, .m (some 214)]),
  (221, C 5 [O 636 0 1, I 7, I 6, I 0, I 0]),
  (440, C 1 [.imm [Y 0, Y 4, Y 20, Y 1, Y 4, Y 5, Y 1, Y 0, .tok 327, .tok 326, .tok 325, .tok 324, .tok 323, .tok 322, .tok 321, .tok 320, Y 2, Y 4, Y 4, Y 1, Y 1, Y 3, Y 4] 23, .imm [Y 0, Y 3, Y 20, Y 1, Y 3, Y 5, Y 1, Y 0, .tok 227, .tok 226, .tok 225, .tok 224, .tok 223, .tok 222, .tok 221, .tok 220, Y 2, Y 3, Y 4, Y 1, Y 1, Y 2, Y 4] 23, .imm [Y 0, Y 4, Y 20, Y 1, Y 4, Y 5, Y 1, Y 0, .tok 327, .tok 326, .tok 325, .tok 324, .tok 323, .tok 322, .tok 321, .tok 320, Y 2, Y 4, Y 4, Y 1, Y 1, Y 3, Y 4] 23, .imm [Y 0, Y 3, Y 20, Y 1, Y 3, Y 5, Y 1, Y 0, .tok 227, .tok 226, .tok 225, .tok 224, .tok 223, .tok 222, .tok 221, .tok 220, Y 2, Y 3, Y 4, Y 1, Y 1, Y 2, Y 4] 23, .imm [Y 0, Y 4, Y 20, Y 1, Y 4, Y 5, Y 1, Y 0, .tok 327, .tok 326, .tok 325, .tok 324, .tok 323, .tok 322, .tok 321, .tok 320, Y 2, Y 4, Y 4, Y 1, Y 1, Y 3, Y 4] 23, .nsl]),
  (636, C 1 [.imm [Y 1, Y 3] 2, .nsl, .nsl, .nsl, .nsl, .nsl]),
  (866, C 10 [I 1, W 3, W 5, I 1, I 0, .tok 206, I 1, W 3, .nsl, .imm [Y 1, Y 1, Y 2, Y 4] 4]),
  (886, C 9 [I 3, I 1, I 0, W 0, W 0, I 0, .tok 6, W 1, I 0, I 1, I 1, I 0, W 1, W 5, I 0, .f .f64 0, W 0, I 0, I 3, I 1, I 0, W 0, W 0, I 0, .tok 106, W 2, I 0, I 1, I 1, I 0, W 2, W 5, I 0, .f .f64 0, W 0, I 0, I 3, I 1, I 0, W 0, W 0, I 0, .tok 206, W 3, I 0, I 1, I 1, I 0, W 3, W 5, I 0, .f .f64 0, W 0, I 0, I 3, I 1, I 0, W 0, W 0, I 0, .tok 306, W 4, I 0, I 1, I 1, I 0, W 4, W 5, I 0, .f .f64 0, W 0, I 0, I 2, I 0, I 1, W 1, W 0, I 0, .f .f64 0, W 0, I 0, I 2, I 0, I 1, W 2, W 0, I 0, .f .f64 0, W 0, I 0, I 2, I 2, I 1, W 1, W 0, I 0, .f .f64 0, W 0, I 0, I 2, I 2, I 1, W 2, W 0, I 0, .f .f64 0, W 0, I 0, I 2, I 0, I 1, W 3, W 0, I 0, .f .f64 0, W 0, I 0, I 2, I 0, I 1, W 4, W 0, I 0, .f .f64 0, W 0, I 0, I 2, I 2, I 1, W 3, W 0, I 0, .f .f64 0, W 0, I 0])]
def hWT51 : AH := AH.edit hWT50 926 [866, 886] [(129, C 1 [O 919 0 16]),
  (191, C 5 [O 440 0 4, I 12, I 8, I 0, I 0]),
  (199, C 3 [.tok 306, I 1, W 4]),
  (202, C 1 [.nsl, O 899 10 0, .nsl]),
  (204, C 1 [W 0, W 4, W 0]),
  (205, C 5 [I 3, I 2, .imm [I 1, W 4, W 1] 1, W 0, O 204 0 3]),
  (215, C 3 [W 2, W 5, .m (some 214)]),
  (221, C 5 [O 636 0 2, I 8, I 6, I 0, I 0]),
  (440, C 1 [.imm [Y 0, Y 3, Y 20, Y 1, Y 3, Y 5, Y 1, Y 0, .tok 227, .tok 226, .tok 225, .tok 224, .tok 223, .tok 222, .tok 221, .tok 220, Y 2, Y 3, Y 4, Y 1, Y 1, Y 2, Y 4] 23, .imm [Y 0, Y 4, Y 20, Y 1, Y 4, Y 5, Y 1, Y 0, .tok 327, .tok 326, .tok 325, .tok 324, .tok 323, .tok 322, .tok 321, .tok 320, Y 2, Y 4, Y 4, Y 1, Y 1, Y 3, Y 4] 23, .imm [Y 0, Y 3, Y 20, Y 1, Y 3, Y 5, Y 1, Y 0, .tok 227, .tok 226, .tok 225, .tok 224, .tok 223, .tok 222, .tok 221, .tok 220, Y 2, Y 3, Y 4, Y 1, Y 1, Y 2, Y 4] 23, .imm [Y 0, Y 4, Y 20, Y 1, Y 4, Y 5, Y 1, Y 0, .tok 327, .tok 326, .tok 325, .tok 324, .tok 323, .tok 322, .tok 321, .tok 320, Y 2, Y 4, Y 4, Y 1, Y 1, Y 3, Y 4] 23, .nsl, .nsl]),
  (636, C 1 [.imm [Y 1, Y 3] 2, .imm [Y 1, Y 4] 2, .nsl, .nsl, .nsl, .nsl]),
  (899, C 10 [I 1, W 4, W 5, I 1, I 0, .tok 306, I 1, W 4, .nsl, .imm [Y 1, Y 1, Y 3, Y 4] 4]),
  (919, C 9 [I 3, I 1, I 0, W 0, W 0, I 0, .tok 6, W 1, I 0, I 1, I 1, I 0, W 1, W 5, I 0, .f .f64 0, W 0, I 0, I 3, I 1, I 0, W 0, W 0, I 0, .tok 106, W 2, I 0, I 1, I 1, I 0, W 2, W 5, I 0, .f .f64 0, W 0, I 0, I 3, I 1, I 0, W 0, W 0, I 0, .tok 206, W 3, I 0, I 1, I 1, I 0, W 3, W 5, I 0, .f .f64 0, W 0, I 0, I 3, I 1, I 0, W 0, W 0, I 0, .tok 306, W 4, I 0, I 1, I 1, I 0, W 4, W 5, I 0, .f .f64 0, W 0, I 0, I 2, I 0, I 1, W 1, W 0, I 0, .f .f64 0, W 0, I 0, I 2, I 0, I 1, W 2, W 0, I 0, .f .f64 0, W 0, I 0, I 2, I 2, I 1, W 1, W 0, I 0, .f .f64 0, W 0, I 0, I 2, I 2, I 1, W 2, W 0, I 0, .f .f64 0, W 0, I 0, I 2, I 0, I 1, W 3, W 0, I 0, .f .f64 0, W 0, I 0, I 2, I 0, I 1, W 4, W 0, I 0, .f .f64 0, W 0, I 0, I 2, I 2, I 1, W 3, W 0, I 0, .f .f64 0, W 0, I 0, I 2, I 2, I 1, W 4, W 0, I 0, .f .f64 0, W 0, I 0])]
def hWT52 : AH := AH.edit hWT51 994 [691, 692] [(181, C 5 [I 2, I 8, I 2, I 0, I 4]),
  (182, C 6 [I 2, I 3, P 181 0, O 309 0 0, O 382 2 0, W 4]),
  (191, C 5 [O 440 0 0, I 12, I 12, I 0, I 0]),
  (221, C 5 [O 636 0 0, I 12, I 12, I 0, I 0]),
  (309, C 2 [W 0, .nsl, W 0, .nsl]),
  (440, C 1 [.nsl, .nsl, .nsl, .nsl, .nsl, .nsl]),
  (636, C 1 [.nsl, .nsl, .nsl, .nsl, .nsl, .nsl])]
def hWT53 : AH := AH.edit hWT52 1074 [] [(157, C 5 [O 538 0 4, I 14, I 10, I 0, I 0]),
  (174, C 5 [I 2, I 8, I 2, I 0, I 5]),
  (175, C 6 [I 2, I 3, P 174 0, O 300 0 0, O 379 2 0, W 4]),
  (187, C 5 [O 436 0 0, I 14, I 14, I 0, I 0]),
  (300, C 2 [W 0, .nsl, W 0, .nsl]),
  (538, C 1 [.imm [Y 1, Y 4] 2, .imm [Y 1, Y 4] 2, .imm [Y 1, Y 4] 2, .imm [Y 1, Y 4] 2, .nsl, .nsl])]
def hWT54 : AH := AH.edit hWT53 1100 [] [(157, C 5 [O 538 0 0, I 14, I 14, I 0, I 0]),
  (538, C 1 [.nsl, .nsl, .nsl, .nsl, .nsl, .nsl])]
def hWT55 : AH := AH.edit hWT38 399 [354, 385] [(129, C 1 [O 397 0 9]),
  (397, C 9 [I 3, I 1, I 0, W 0, W 0, I 0, .tok 6, W 1, I 0, I 1, I 1, I 0, W 1, W 5, I 0, .f .f64 0, W 0, I 0, I 3, I 1, I 0, W 0, W 0, I 0, .tok 106, W 2, I 0, I 1, I 1, I 0, W 2, W 5, I 0, .f .f64 0, W 0, I 0, I 3, I 1, I 0, W 0, W 0, I 0, .tok 206, W 3, I 0, I 1, I 1, I 0, W 3, W 5, I 0, .f .f64 0, W 0, I 0, I 3, I 1, I 0, W 0, W 0, I 0, .tok 306, W 4, I 0, I 1, I 1, I 0, W 4, W 5, I 0, .f .f64 0, W 0, I 0, I 6, I 1, I 0, W 0, W 0, I 0, .f .f64 0, W 0, I 7]),
  (398, C 3 [.f .f64 0, I 0, W 0])]
def hWT56 : AH := AH.edit hWT55 453 [319, 321] [(174, C 5 [I 2, I 8, I 8, I 6, I 2]),
  (181, C 5 [I 2, I 8, I 8, I 6, I 2]),
  (187, C 5 [O 448 0 6, I 6, I 0, I 0, I 0]),
  (191, C 5 [O 452 0 6, I 6, I 0, I 0, I 0]),
  (399, C 8 [I 8, I 0, I 0, I 0, I 0, W 0, .f .f64 0, .nsl]),
  (400, C 3 [.f .f64 0, I 0, W 0]),
  (448, C 1 [.imm [Y 0, Y 1, Y 17, Y 1, Y 1, Y 5, Y 1, Y 0, .tok 27, .tok 26, .tok 25, .tok 24, .tok 23, .tok 22, .tok 21, .tok 20, Y 2, Y 1, Y 1, Y 0] 20, .imm [Y 0, Y 2, Y 20, Y 1, Y 2, Y 5, Y 1, Y 0, .tok 127, .tok 126, .tok 125, .tok 124, .tok 123, .tok 122, .tok 121, .tok 120, Y 2, Y 2, Y 4, Y 1, Y 1, Y 1, Y 1] 23, .imm [Y 0, Y 1, Y 17, Y 1, Y 1, Y 5, Y 1, Y 0, .tok 27, .tok 26, .tok 25, .tok 24, .tok 23, .tok 22, .tok 21, .tok 20, Y 2, Y 1, Y 1, Y 0] 20, .imm [Y 0, Y 2, Y 20, Y 1, Y 2, Y 5, Y 1, Y 0, .tok 127, .tok 126, .tok 125, .tok 124, .tok 123, .tok 122, .tok 121, .tok 120, Y 2, Y 2, Y 4, Y 1, Y 1, Y 1, Y 1] 23, .imm [Y 0, Y 1, Y 17, Y 1, Y 1, Y 5, Y 1, Y 0, .tok 27, .tok 26, .tok 25, .tok 24, .tok 23, .tok 22, .tok 21, .tok 20, Y 2, Y 1, Y 1, Y 0] 20, .imm [Y 0, Y 2, Y 20, Y 1, Y 2, Y 5, Y 1, Y 0, .tok 127, .tok 126, .tok 125, .tok 124, .tok 123, .tok 122, .tok 121, .tok 120, Y 2, Y 2, Y 4, Y 1, Y 1, Y 1, Y 1] 23]),
  (452, C 1 [.imm [Y 0, Y 1, Y 17, Y 1, Y 1, Y 5, Y 1, Y 0, .tok 27, .tok 26, .tok 25, .tok 24, .tok 23, .tok 22, .tok 21, .tok 20, Y 2, Y 1, Y 1, Y 0] 20, .imm [Y 0, Y 2, Y 20, Y 1, Y 2, Y 5, Y 1, Y 0, .tok 127, .tok 126, .tok 125, .tok 124, .tok 123, .tok 122, .tok 121, .tok 120, Y 2, Y 2, Y 4, Y 1, Y 1, Y 1, Y 4] 23, .imm [Y 0, Y 1, Y 17, Y 1, Y 1, Y 5, Y 1, Y 0, .tok 27, .tok 26, .tok 25, .tok 24, .tok 23, .tok 22, .tok 21, .tok 20, Y 2, Y 1, Y 1, Y 0] 20, .imm [Y 0, Y 2, Y 20, Y 1, Y 2, Y 5, Y 1, Y 0, .tok 127, .tok 126, .tok 125, .tok 124, .tok 123, .tok 122, .tok 121, .tok 120, Y 2, Y 2, Y 4, Y 1, Y 1, Y 1, Y 4] 23, .imm [Y 0, Y 1, Y 17, Y 1, Y 1, Y 5, Y 1, Y 0, .tok 27, .tok 26, .tok 25, .tok 24, .tok 23, .tok 22, .tok 21, .tok 20, Y 2, Y 1, Y 1, Y 0] 20, .imm [Y 0, Y 2, Y 20, Y 1, Y 2, Y 5, Y 1, Y 0, .tok 127, .tok 126, .tok 125, .tok 124, .tok 123, .tok 122, .tok 121, .tok 120, Y 2, Y 2, Y 4, Y 1, Y 1, Y 1, Y 4] 23])]
def hWT57 : AH := AH.edit hWT56 485 [397] [(129, C 1 [O 477 0 10]),
  (135, C 3 [.tok 6, I 1, W 1]),
  (138, C 1 [.nsl, O 459 10 0, .nsl]),
  (140, C 1 [W 0, W 1, W 0]),
  (141, C 5 [I 3, I 0, .imm [I 1, W 1, W 4] 1, W 0, O 140 0 3]),
  (146, C 3 [W 2, W 2, .m (some 145)]),
  (157, C 5 [O 484 0 1, I 1, I 0, I 0, I 0]),
  (187, C 5 [O 448 0 5, I 6, I 1, I 0, I 0]),
  (448, C 1 [.imm [Y 0, Y 2, Y 20, Y 1, Y 2, Y 5, Y 1, Y 0, .tok 127, .tok 126, .tok 125, .tok 124, .tok 123, .tok 122, .tok 121, .tok 120, Y 2, Y 2, Y 4, Y 1, Y 1, Y 1, Y 1] 23, .imm [Y 0, Y 1, Y 17, Y 1, Y 1, Y 5, Y 1, Y 0, .tok 27, .tok 26, .tok 25, .tok 24, .tok 23, .tok 22, .tok 21, .tok 20, Y 2, Y 1, Y 1, Y 0] 20, .imm [Y 0, Y 2, Y 20, Y 1, Y 2, Y 5, Y 1, Y 0, .tok 127, .tok 126, .tok 125, .tok 124, .tok 123, .tok 122, .tok 121, .tok 120, Y 2, Y 2, Y 4, Y 1, Y 1, Y 1, Y 1] 23, .imm [Y 0, Y 1, Y 17, Y 1, Y 1, Y 5, Y 1, Y 0, .tok 27, .tok 26, .tok 25, .tok 24, .tok 23, .tok 22, .tok 21, .tok 20, Y 2, Y 1, Y 1, Y 0] 20, .imm [Y 0, Y 2, Y 20, Y 1, Y 2, Y 5, Y 1, Y 0, .tok 127, .tok 126, .tok 125, .tok 124, .tok 123, .tok 122, .tok 121, .tok 120, Y 2, Y 2, Y 4, Y 1, Y 1, Y 1, Y 1] 23, .nsl]),
  (459, C 10 [I 1, W 1, W 5, I 1, I 0, .tok 6, I 1, W 1, .nsl, .imm [Y 0] 1]),
  (477, C 9 [I 3, I 1, I 0, W 0, W 0, I 0, .tok 6, W 1, I 0, I 1, I 1, I 0, W 1, W 5, I 0, .f .f64 0, W 0, I 0, I 3, I 1, I 0, W 0, W 0, I 0, .tok 106, W 2, I 0, I 1, I 1, I 0, W 2, W 5, I 0, .f .f64 0, W 0, I 0, I 3, I 1, I 0, W 0, W 0, I 0, .tok 206, W 3, I 0, I 1, I 1, I 0, W 3, W 5, I 0, .f .f64 0, W 0, I 0, I 3, I 1, I 0, W 0, W 0, I 0, .tok 306, W 4, I 0, I 1, I 1, I 0, W 4, W 5, I 0, .f .f64 0, W 0, I 0, I 6, I 1, I 0, W 0, W 0, I 0, .f .f64 0, W 0, I 7, I 2, I 0, I 1, W 1, W 0, I 0, .f .f64 0, W 0, I 0]),
  (484, C 1 [.imm [Y 1, Y 1] 2])]
def hWT58 : AH := AH.edit hWT57 519 [459, 477, 484] [(129, C 1 [O 511 0 11]),
  (135, C 3 [.tok 106, I 1, W 2]),
  (138, C 1 [.nsl, O 491 10 0, .nsl]),
  (140, C 1 [W 0, W 2, W 0]),
  (141, C 5 [I 3, I 0, .imm [I 1, W 2, W 4] 1, W 0, O 140 0 3]),
  (146, C 3 [W 2, W 3, .m (some 145)]),
  (157, C 5 [O 518 0 2, I 2, I 0, I 0, I 0]),
  (187, C 5 [O 448 0 4, I 6, I 2, I 0, I 0]),
  (448, C 1 [.imm [Y 0, Y 1, Y 17, Y 1, Y 1, Y 5, Y 1, Y 0, .tok 27, .tok 26, .tok 25, .tok 24, .tok 23, .tok 22, .tok 21, .tok 20, Y 2, Y 1, Y 1, Y 0] 20, .imm [Y 0, Y 2, Y 20, Y 1, Y 2, Y 5, Y 1, Y 0, .tok 127, .tok 126, .tok 125, .tok 124, .tok 123, .tok 122, .tok 121, .tok 120, Y 2, Y 2, Y 4, Y 1, Y 1, Y 1, Y 1] 23, .imm [Y 0, Y 1, Y 17, Y 1, Y 1, Y 5, Y 1, Y 0, .tok 27, .tok 26, .tok 25, .tok 24, .tok 23, .tok 22, .tok 21, .tok 20, Y 2, Y 1, Y 1, Y 0] 20, .imm [Y 0, Y 2, Y 20, Y 1, Y 2, Y 5, Y 1, Y 0, .tok 127, .tok 126, .tok 125, .tok 124, .tok 123, .tok 122, .tok 121, .tok 120, Y 2, Y 2, Y 4, Y 1, Y 1, Y 1, Y 1] 23, .nsl, .nsl]),
  (491, C 10 [I 1, W 2, W 5, I 1, I 0, .tok 106, I 1, W 2, .nsl, .imm [Y 1, Y 1, Y 1, Y 1] 4]),
  (511, C 9 [I 3, I 1, I 0, W 0, W 0, I 0, .tok 6, W 1, I 0, I 1, I 1, I 0, W 1, W 5, I 0, .f .f64 0, W 0, I 0, I 3, I 1, I 0, W 0, W 0, I 0, .tok 106, W 2, I 0, I 1, I 1, I 0, W 2, W 5, I 0, .f .f64 0, W 0, I 0, I 3, I 1, I 0, W 0, W 0, I 0, .tok 206, W 3, I 0, I 1, I 1, I 0, W 3, W 5, I 0, .f .f64 0, W 0, I 0, I 3, I 1, I 0, W 0, W 0, I 0, .tok 306, W 4, I 0, I 1, I 1, I 0, W 4, W 5, I 0, .f .f64 0, W 0, I 0, I 6, I 1, I 0, W 0, W 0, I 0, .f .f64 0, W 0, I 7, I 2, I 0, I 1, W 1, W 0, I 0, .f .f64 0, W 0, I 0, I 2, I 0, I 1, W 2, W 0, I 0, .f .f64 0, W 0, I 0]),
  (518, C 1 [.imm [Y 1, Y 1] 2, .imm [Y 1, Y 2] 2])]
def hWT59 : AH := AH.edit hWT58 551 [518] [(157, C 5 [O 550 0 6, I 6, I 0, I 0, I 0]),
  (187, C 5 [O 448 0 0, I 6, I 6, I 0, I 0]),
  (448, C 1 [.nsl, .nsl, .nsl, .nsl, .nsl, .nsl]),
  (550, C 1 [.imm [Y 1, Y 1] 2, .imm [Y 1, Y 2] 2, .imm [Y 1, Y 2] 2, .imm [Y 1, Y 2] 2, .imm [Y 1, Y 2] 2, .imm [Y 1, Y 2] 2])]
def hWT60 : AH := AH.edit hWT59 583 [511] [(129, C 1 [O 575 0 12]),
  (191, C 5 [O 452 0 5, I 6, I 1, I 0, I 0]),
  (199, C 3 [.tok 6, I 1, W 1]),
  (202, C 1 [.nsl, O 557 10 0, .nsl]),
  (204, C 1 [W 0, W 1, W 0]),
  (205, C 5 [I 3, I 2, .imm [I 1, W 1, W 1] 1, W 0, O 204 0 3]),
  (215, C 3 [W 2, W 2, .m (some 214)]),
  (221, C 5 [O 582 0 1, I 1, I 0, I 0, I 0]),
  (452, C 1 [.imm [Y 0, Y 2, Y 20, Y 1, Y 2, Y 5, Y 1, Y 0, .tok 127, .tok 126, .tok 125, .tok 124, .tok 123, .tok 122, .tok 121, .tok 120, Y 2, Y 2, Y 4, Y 1, Y 1, Y 1, Y 4] 23, .imm [Y 0, Y 1, Y 17, Y 1, Y 1, Y 5, Y 1, Y 0, .tok 27, .tok 26, .tok 25, .tok 24, .tok 23, .tok 22, .tok 21, .tok 20, Y 2, Y 1, Y 1, Y 0] 20, .imm [Y 0, Y 2, Y 20, Y 1, Y 2, Y 5, Y 1, Y 0, .tok 127, .tok 126, .tok 125, .tok 124, .tok 123, .tok 122, .tok 121, .tok 120, Y 2, Y 2, Y 4, Y 1, Y 1, Y 1, Y 4] 23, .imm [Y 0, Y 1, Y 17, Y 1, Y 1, Y 5, Y 1, Y 0, .tok 27, .tok 26, .tok 25, .tok 24, .tok 23, .tok 22, .tok 21, .tok 20, Y 2, Y 1, Y 1, Y 0] 20, .imm [Y 0, Y 2, Y 20, Y 1, Y 2, Y 5, Y 1, Y 0, .tok 127, .tok 126, .tok 125, .tok 124, .tok 123, .tok 122, .tok 121, .tok 120, Y 2, Y 2, Y 4, Y 1, Y 1, Y 1, Y 4] 23, .nsl]),
  (557, C 10 [I 1, W 1, W 5, I 1, I 0, .tok 6, I 1, W 1, .nsl, .imm [Y 0] 1]),
  (575, C 9 [I 3, I 1, I 0, W 0, W 0, I 0, .tok 6, W 1, I 0, I 1, I 1, I 0, W 1, W 5, I 0, .f .f64 0, W 0, I 0, I 3, I 1, I 0, W 0, W 0, I 0, .tok 106, W 2, I 0, I 1, I 1, I 0, W 2, W 5, I 0, .f .f64 0, W 0, I 0, I 3, I 1, I 0, W 0, W 0, I 0, .tok 206, W 3, I 0, I 1, I 1, I 0, W 3, W 5, I 0, .f .f64 0, W 0, I 0, I 3, I 1, I 0, W 0, W 0, I 0, .tok 306, W 4, I 0, I 1, I 1, I 0, W 4, W 5, I 0, .f .f64 0, W 0, I 0, I 6, I 1, I 0, W 0, W 0, I 0, .f .f64 0, W 0, I 7, I 2, I 0, I 1, W 1, W 0, I 0, .f .f64 0, W 0, I 0, I 2, I 0, I 1, W 2, W 0, I 0, .f .f64 0, W 0, I 0, I 2, I 2, I 1, W 1, W 0, I 0, .f .f64 0, W 0, I 0]),
  (582, C 1 [.imm [Y 1, Y 1] 2])]
def hWT61 : AH := AH.edit hWT60 617 [557, 575, 582] [(129, C 1 [O 609 0 13]),
  (191, C 5 [O 452 0 4, I 6, I 2, I 0, I 0]),
  (199, C 3 [.tok 106, I 1, W 2]),
  (202, C 1 [.nsl, O 589 10 0, .nsl]),
  (204, C 1 [W 0, W 2, W 0]),
  (205, C 5 [I 3, I 2, .imm [I 1, W 2, W 1] 1, W 0, O 204 0 3]),
  (215, C 3 [W 2, W 3, .m (some 214)]),
  (221, C 5 [O 616 0 2, I 2, I 0, I 0, I 0]),
  (452, C 1 [.imm [Y 0, Y 1, Y 17, Y 1, Y 1, Y 5, Y 1, Y 0, .tok 27, .tok 26, .tok 25, .tok 24, .tok 23, .tok 22, .tok 21, .tok 20, Y 2, Y 1, Y 1, Y 0] 20, .imm [Y 0, Y 2, Y 20, Y 1, Y 2, Y 5, Y 1, Y 0, .tok 127, .tok 126, .tok 125, .tok 124, .tok 123, .tok 122, .tok 121, .tok 120, Y 2, Y 2, Y 4, Y 1, Y 1, Y 1, Y 4] 23, .imm [Y 0, Y 1, Y 17, Y 1, Y 1, Y 5, Y 1, Y 0, .tok 27, .tok 26, .tok 25, .tok 24, .tok 23, .tok 22, .tok 21, .tok 20, Y 2, Y 1, Y 1, Y 0] 20, .imm [Y 0, Y 2, Y 20, Y 1, Y 2, Y 5, Y 1, Y 0, .tok 127, .tok 126, .tok 125, .tok 124, .tok 123, .tok 122, .tok 121, .tok 120, Y 2, Y 2, Y 4, Y 1, Y 1, Y 1, Y 4] 23, .nsl, .nsl]),
  (589, C 10 [I 1, W 2, W 5, I 1, I 0, .tok 106, I 1, W 2, .nsl, .imm [Y 1, Y 1, Y 1, Y 4] 4]),
  (609, C 9 [I 3, I 1, I 0, W 0, W 0, I 0, .tok 6, W 1, I 0, I 1, I 1, I 0, W 1, W 5, I 0, .f .f64 0, W 0, I 0, I 3, I 1, I 0, W 0, W 0, I 0, .tok 106, W 2, I 0, I 1, I 1, I 0, W 2, W 5, I 0, .f .f64 0, W 0, I 0, I 3, I 1, I 0, W 0, W 0, I 0, .tok 206, W 3, I 0, I 1, I 1, I 0, W 3, W 5, I 0, .f .f64 0, W 0, I 0, I 3, I 1, I 0, W 0, W 0, I 0, .tok 306, W 4, I 0, I 1, I 1, I 0, W 4, W 5, I 0, .f .f64 0, W 0, I 0, I 6, I 1, I 0, W 0, W 0, I 0, .f .f64 0, W 0, I 7, I 2, I 0, I 1, W 1, W 0, I 0, .f .f64 0, W 0, I 0, I 2, I 0, I 1, W 2, W 0, I 0, .f .f64 0, W 0, I 0, I 2, I 2, I 1, W 1, W 0, I 0, .f .f64 0, W 0, I 0, I 2, I 2, I 1, W 2, W 0, I 0, .f .f64 0, W 0, I 0]),
  (616, C 1 [.imm [Y 1, Y 1] 2, .imm [Y 1, Y 2] 2])]
def hWT62 : AH := AH.edit hWT61 703 [399, 400, 616] [(181, C 5 [I 2, I 8, I 2, I 2, I 2]),
  (182, C 6 [I 2, I 3, P 181 0, O 309 0 2, O 382 2 0, W 4]),
  (191, C 5 [O 452 0 2, I 8, I 6, I 0, I 0]),
  (221, C 5 [O 648 0 0, I 6, I 6, I 0, I 0]),
  (309, C 2 [W 3, .imm [Y 1, Y 3, Y 5, Y 1, Y 0, .tok 227, .tok 226, .tok 225, .tok 224, .tok 223, .tok 222, .tok 221, .tok 220, Y 2, Y 3, Y 4, Y 1, Y 1, Y 2, Y 4] 20, W 4, .imm [Y 1, Y 4, Y 5, Y 1, Y 0, .tok 327, .tok 326, .tok 325, .tok 324, .tok 323, .tok 322, .tok 321, .tok 320, Y 2, Y 4, Y 4, Y 1, Y 1, Y 3, Y 4] 20]),
  (452, C 1 [.imm [Y 0, Y 3, Y 20, Y 1, Y 3, Y 5, Y 1, Y 0, .tok 227, .tok 226, .tok 225, .tok 224, .tok 223, .tok 222, .tok 221, .tok 220, Y 2, Y 3, Y 4, Y 1, Y 1, Y 2, Y 4] 23, .imm [Y 0, Y 4, Y 20, Y 1, Y 4, Y 5, Y 1, Y 0, .tok 327, .tok 326, .tok 325, .tok 324, .tok 323, .tok 322, .tok 321, .tok 320, Y 2, Y 4, Y 4, Y 1, Y 1, Y 3, Y 4] 23, .nsl, .nsl, .nsl, .nsl]),
  (648, C 1 [.nsl, .nsl, .nsl, .nsl, .nsl, .nsl])]
def hWT63 : AH := AH.edit hWT62 806 [] [(157, C 5 [O 550 0 2, I 8, I 6, I 0, I 0]),
  (174, C 5 [I 2, I 8, I 2, I 2, I 3]),
  (175, C 6 [I 2, I 3, P 174 0, O 300 0 2, O 379 2 0, W 4]),
  (181, C 5 [I 2, I 8, I 8, I 6, I 4]),
  (187, C 5 [O 448 0 2, I 10, I 8, I 0, I 0]),
  (191, C 5 [O 452 0 6, I 12, I 6, I 0, I 0]),
  (300, C 2 [W 3, .imm [Y 1, Y 3, Y 5, Y 1, Y 0, .tok 227, .tok 226, .tok 225, .tok 224, .tok 223, .tok 222, .tok 221, .tok 220, Y 2, Y 3, Y 4, Y 1, Y 1, Y 2, Y 1] 20, W 4, .imm [Y 1, Y 4, Y 5, Y 1, Y 0, .tok 327, .tok 326, .tok 325, .tok 324, .tok 323, .tok 322, .tok 321, .tok 320, Y 2, Y 4, Y 4, Y 1, Y 1, Y 3, Y 1] 20]),
  (448, C 1 [.imm [Y 0, Y 3, Y 20, Y 1, Y 3, Y 5, Y 1, Y 0, .tok 227, .tok 226, .tok 225, .tok 224, .tok 223, .tok 222, .tok 221, .tok 220, Y 2, Y 3, Y 4, Y 1, Y 1, Y 2, Y 1] 23, .imm [Y 0, Y 4, Y 20, Y 1, Y 4, Y 5, Y 1, Y 0, .tok 327, .tok 326, .tok 325, .tok 324, .tok 323, .tok 322, .tok 321, .tok 320, Y 2, Y 4, Y 4, Y 1, Y 1, Y 3, Y 1] 23, .nsl, .nsl, .nsl, .nsl]),
  (452, C 1 [.imm [Y 0, Y 3, Y 20, Y 1, Y 3, Y 5, Y 1, Y 0, .tok 227, .tok 226, .tok 225, .tok 224, .tok 223, .tok 222, .tok 221, .tok 220, Y 2, Y 3, Y 4, Y 1, Y 1, Y 2, Y 4] 23, .imm [Y 0, Y 4, Y 20, Y 1, Y 4, Y 5, Y 1, Y 0, .tok 327, .tok 326, .tok 325, .tok 324, .tok 323, .tok 322, .tok 321, .tok 320, Y 2, Y 4, Y 4, Y 1, Y 1, Y 3, Y 4] 23, .imm [Y 0, Y 3, Y 20, Y 1, Y 3, Y 5, Y 1, Y 0, .tok 227, .tok 226, .tok 225, .tok 224, .tok 223, .tok 222, .tok 221, .tok 220, Y 2, Y 3, Y 4, Y 1, Y 1, Y 2, Y 4] 23, .imm [Y 0, Y 4, Y 20, Y 1, Y 4, Y 5, Y 1, Y 0, .tok 327, .tok 326, .tok 325, .tok 324, .tok 323, .tok 322, .tok 321, .tok 320, Y 2, Y 4, Y 4, Y 1, Y 1, Y 3, Y 4] 23, .imm [Y 0, Y 3, Y 20, Y 1, Y 3, Y 5, Y 1, Y 0, .tok 227, .tok 226, .tok 225, .tok 224, .tok 223, .tok 222, .tok 221, .tok 220, Y 2, Y 3, Y 4, Y 1, Y 1, Y 2, Y 4] 23, .imm [Y 0, Y 4, Y 20, Y 1, Y 4, Y 5, Y 1, Y 0, .tok 327, .tok 326, .tok 325, .tok 324, .tok 323, .tok 322, .tok 321, .tok 320, Y 2, Y 4, Y 4, Y 1, Y 1, Y 3, Y 4] 23]),
  (550, C 1 [.imm [Y 1, Y 2] 2, .imm [Y 1, Y 2] 2, .nsl, .nsl, .nsl, .nsl]),
  (703, C 8 [I 8, I 0, I 0, I 0, I 0, W 0, .f .f64 0, .nsl]),
  (704, C 3 [.f .f64 0, I 0, W 0])]
def hWT64 : AH := AH.edit hWT63 839 [491, 609] [(129, C 1 [O 832 0 14]),
  (135, C 3 [.tok 206, I 1, W 3]),
  (138, C 1 [.nsl, O 812 10 0, .nsl]),
  (140, C 1 [W 0, W 3, W 0]),
  (141, C 5 [I 3, I 0, .imm [I 1, W 3, W 4] 1, W 0, O 140 0 3]),
  (146, C 3 [W 2, W 4, .m (some 145)]),
  (157, C 5 [O 550 0 3, I 9, I 6, I 0, I 0]),
  (187, C 5 [O 448 0 1, I 10, I 9, I 0, I 0]),
  (448, C 1 [.imm [Y 0, Y 4, Y 20, Y 1, Y 4, Y 5, Y 1, Y 0, .tok 327, .tok 326, .tok 325, .tok 324, .tok 323, .tok 322, .tok 321, .tok 320, Y 2, Y 4, Y 4, Y 1, Y 1, Y 3, Y 1] 23, .nsl, .nsl, .nsl, .nsl, .nsl]),
  (550, C 1 [.imm [Y 1, Y 2] 2, .imm [Y 1, Y 2] 2, .imm [Y 1, Y 3] 2, .nsl, .nsl, .nsl]),
  (812, C 10 [I 1, W 3, W 5, I 1, I 0, .tok 206, I 1, W 3, .nsl, .imm [Y 1, Y 1, Y 2, Y 1] 4]),
  (832, C 9 [I 3, I 1, I 0, W 0, W 0, I 0, .tok 6, W 1, I 0, I 1, I 1, I 0, W 1, W 5, I 0, .f .f64 0, W 0, I 0, I 3, I 1, I 0, W 0, W 0, I 0, .tok 106, W 2, I 0, I 1, I 1, I 0, W 2, W 5, I 0, .f .f64 0, W 0, I 0, I 3, I 1, I 0, W 0, W 0, I 0, .tok 206, W 3, I 0, I 1, I 1, I 0, W 3, W 5, I 0, .f .f64 0, W 0, I 0, I 3, I 1, I 0, W 0, W 0, I 0, .tok 306, W 4, I 0, I 1, I 1, I 0, W 4, W 5, I 0, .f .f64 0, W 0, I 0, I 6, I 1, I 0, W 0, W 0, I 0, .f .f64 0, W 0, I 7, I 2, I 0, I 1, W 1, W 0, I 0, .f .f64 0, W 0, I 0, I 2, I 0, I 1, W 2, W 0, I 0, .f .f64 0, W 0, I 0, I 2, I 2, I 1, W 1, W 0, I 0, .f .f64 0, W 0, I 0, I 2, I 2, I 1, W 2, W 0, I 0, .f .f64 0, W 0, I 0, I 2, I 0, I 1, W 3, W 0, I 0, .f .f64 0, W 0, I 0])]
def hWT65 : AH := AH.edit hWT64 872 [812, 832] [(129, C 1 [O 865 0 15]),
  (135, C 3 [.tok 306, I 1, W 4]),
  (138, C 1 [.nsl, O 845 10 0, .nsl]),
  (140, C 1 [W 0, W 4, W 0]),
  (141, C 5 [I 3, I 0, .imm [I 1, W 4, W 4] 1, W 0, O 140 0 3]),
  (146, C 3 [W 2, W 5, .m (some 145)]),
  (157, C 5 [O 550 0 4, I 10, I 6, I 0, I 0]),
  (187, C 5 [O 448 0 0, I 10, I 10, I 0, I 0]),
  (448, C 1 [.nsl, .nsl, .nsl, .nsl, .nsl, .nsl]),
  (550, C 1 [.imm [Y 1, Y 2] 2, .imm [Y 1, Y 2] 2, .imm [Y 1, Y 3] 2, .imm [Y 1, Y 4] 2, .nsl, .nsl]),
  (845, C 10 [I 1, W 4, W 5, I 1, I 0, .tok 306, I 1, W 4, .nsl, .imm [Y 1, Y 1, Y 3, Y 1] 4]),
  (865, C 9 [I 3, I 1, I 0, W 0, W 0, I 0, .tok 6, W 1, I 0, I 1, I 1, I 0, W 1, W 5, I 0, .f .f64 0, W 0, I 0, I 3, I 1, I 0, W 0, W 0, I 0, .tok 106, W 2, I 0, I 1, I 1, I 0, W 2, W 5, I 0, .f .f64 0, W 0, I 0, I 3, I 1, I 0, W 0, W 0, I 0, .tok 206, W 3, I 0, I 1, I 1, I 0, W 3, W 5, I 0, .f .f64 0, W 0, I 0, I 3, I 1, I 0, W 0, W 0, I 0, .tok 306, W 4, I 0, I 1, I 1, I 0, W 4, W 5, I 0, .f .f64 0, W 0, I 0, I 6, I 1, I 0, W 0, W 0, I 0, .f .f64 0, W 0, I 7, I 2, I 0, I 1, W 1, W 0, I 0, .f .f64 0, W 0, I 0, I 2, I 0, I 1, W 2, W 0, I 0, .f .f64 0, W 0, I 0, I 2, I 2, I 1, W 1, W 0, I 0, .f .f64 0, W 0, I 0, I 2, I 2, I 1, W 2, W 0, I 0, .f .f64 0, W 0, I 0, I 2, I 0, I 1, W 3, W 0, I 0, .f .f64 0, W 0, I 0, I 2, I 0, I 1, W 4, W 0, I 0, .f .f64 0, W 0, I 0])]
def hWT66 : AH := AH.edit hWT65 905 [589, 865] [(129, C 1 [O 898 0 16]),
  (191, C 5 [O 452 0 5, I 12, I 7, I 0, I 0]),
  (199, C 3 [.tok 206, I 1, W 3]),
  (202, C 1 [.nsl, O 878 10 0, .nsl]),
  (204, C 1 [W 0, W 3, W 0]),
  (205, C 5 [I 3, I 2, .imm [I 1, W 3, W 1] 1, W 0, O 204 0 3]),
  (215, C 3 [W 2, W 4, .m (some 214)]),
  (221, C 5 [O 648 0 1, I 7, I 6, I 0, I 0]),
  (452, C 1 [.imm [Y 0, Y 4, Y 20, Y 1, Y 4, Y 5, Y 1, Y 0, .tok 327, .tok 326, .tok 325, .tok 324, .tok 323, .tok 322, .tok 321, .tok 320, Y 2, Y 4, Y 4, Y 1, Y 1, Y 3, Y 4] 23, .imm [Y 0, Y 3, Y 20, Y 1, Y 3, Y 5, Y 1, Y 0, .tok 227, .tok 226, .tok 225, .tok 224, .tok 223, .tok 222, .tok 221, .tok 220, Y 2, Y 3, Y 4, Y 1, Y 1, Y 2, Y 4] 23, .imm [Y 0, Y 4, Y 20, Y 1, Y 4, Y 5, Y 1, Y 0, .tok 327, .tok 326, .tok 325, .tok 324, .tok 323, .tok 322, .tok 321, .tok 320, Y 2, Y 4, Y 4, Y 1, Y 1, Y 3, Y 4] 23, .imm [Y 0, Y 3, Y 20, Y 1, Y 3, Y 5, Y 1, Y 0, .tok 227, .tok 226, .tok 225, .tok 224, .tok 223, .tok 222, .tok 221, .tok 220, Y 2, Y 3, Y 4, Y 1, Y 1, Y 2, Y 4] 23, .imm [Y 0, Y 4, Y 20, Y 1, Y 4, Y 5, Y 1, Y 0, .tok 327, .tok 326, .tok 325, .tok 324, .tok 323, .tok 322, .tok 321, .tok 320, Y 2, Y 4, Y 4, Y 1, Y 1, Y 3, Y 4] 23, .nsl]),
  (648, C 1 [.imm [Y 1, Y 3] 2, .nsl, .nsl, .nsl, .nsl, .nsl]),
  (878, C 10 [I 1, W 3, W 5, I 1, I 0, .tok 206, I 1, W 3, .nsl, .imm [Y 1, Y 1, Y 2, Y 4] 4]),
  (898, C 9 [I 3, I 1, I 0, W 0, W 0, I 0, .tok 6, W 1, I 0, I 1, I 1, I 0, W 1, W 5, I 0, .f .f64 0, W 0, I 0, I 3, I 1, I 0, W 0, W 0, I 0, .tok 106, W 2, I 0, I 1, I 1, I 0, W 2, W 5, I 0, .f .f64 0, W 0, I 0, I 3, I 1, I 0, W 0, W 0, I 0, .tok 206, W 3, I 0, I 1, I 1, I 0, W 3, W 5, I 0, .f .f64 0, W 0, I 0, I 3, I 1, I 0, W 0, W 0, I 0, .tok 306, W 4, I 0, I 1, I 1, I 0, W 4, W 5, I 0, .f .f64 0, W 0, I 0, I 6, I 1, I 0, W 0, W 0, I 0, .f .f64 0, W 0, I 7, I 2, I 0, I 1, W 1, W 0, I 0, .f .f64 0, W 0, I 0, I 2, I 0, I 1, W 2, W 0, I 0, .f .f64 0, W 0, I 0, I 2, I 2, I 1, W 1, W 0, I 0, .f .f64 0, W 0, I 0, I 2, I 2, I 1, W 2, W 0, I 0, .f .f64 0, W 0, I 0, I 2, I 0, I 1, W 3, W 0, I 0, .f .f64 0, W 0, I 0, I 2, I 0, I 1, W 4, W 0, I 0, .f .f64 0, W 0, I 0, I 2, I 2, I 1, W 3, W 0, I 0, .f .f64 0, W 0, I 0])]
def hWT67 : AH := AH.edit hWT66 938 [878, 898] [(129, C 1 [O 931 0 17]),
  (191, C 5 [O 452 0 4, I 12, I 8, I 0, I 0]),
  (199, C 3 [.tok 306, I 1, W 4]),
  (202, C 1 [.nsl, O 911 10 0, .nsl]),
  (204, C 1 [W 0, W 4, W 0]),
  (205, C 5 [I 3, I 2, .imm [I 1, W 4, W 1] 1, W 0, O 204 0 3]),
  (215, C 3 [W 2, W 5, .m (some 214)]),
  (221, C 5 [O 648 0 2, I 8, I 6, I 0, I 0]),
  (452, C 1 [.imm [Y 0, Y 3, Y 20, Y 1, Y 3, Y 5, Y 1, Y 0, .tok 227, .tok 226, .tok 225, .tok 224, .tok 223, .tok 222, .tok 221, .tok 220, Y 2, Y 3, Y 4, Y 1, Y 1, Y 2, Y 4] 23, .imm [Y 0, Y 4, Y 20, Y 1, Y 4, Y 5, Y 1, Y 0, .tok 327, .tok 326, .tok 325, .tok 324, .tok 323, .tok 322, .tok 321, .tok 320, Y 2, Y 4, Y 4, Y 1, Y 1, Y 3, Y 4] 23, .imm [Y 0, Y 3, Y 20, Y 1, Y 3, Y 5, Y 1, Y 0, .tok 227, .tok 226, .tok 225, .tok 224, .tok 223, .tok 222, .tok 221, .tok 220, Y 2, Y 3, Y 4, Y 1, Y 1, Y 2, Y 4] 23, .imm [Y 0, Y 4, Y 20, Y 1, Y 4, Y 5, Y 1, Y 0, .tok 327, .tok 326, .tok 325, .tok 324, .tok 323, .tok 322, .tok 321, .tok 320, Y 2, Y 4, Y 4, Y 1, Y 1, Y 3, Y 4] 23, .nsl, .nsl]),
  (648, C 1 [.imm [Y 1, Y 3] 2, .imm [Y 1, Y 4] 2, .nsl, .nsl, .nsl, .nsl]),
  (911, C 10 [I 1, W 4, W 5, I 1, I 0, .tok 306, I 1, W 4, .nsl, .imm [Y 1, Y 1, Y 3, Y 4] 4]),
  (931, C 9 [I 3, I 1, I 0, W 0, W 0, I 0, .tok 6, W 1, I 0, I 1, I 1, I 0, W 1, W 5, I 0, .f .f64 0, W 0, I 0, I 3, I 1, I 0, W 0, W 0, I 0, .tok 106, W 2, I 0, I 1, I 1, I 0, W 2, W 5, I 0, .f .f64 0, W 0, I 0, I 3, I 1, I 0, W 0, W 0, I 0, .tok 206, W 3, I 0, I 1, I 1, I 0, W 3, W 5, I 0, .f .f64 0, W 0, I 0, I 3, I 1, I 0, W 0, W 0, I 0, .tok 306, W 4, I 0, I 1, I 1, I 0, W 4, W 5, I 0, .f .f64 0, W 0, I 0, I 6, I 1, I 0, W 0, W 0, I 0, .f .f64 0, W 0, I 7, I 2, I 0, I 1, W 1, W 0, I 0, .f .f64 0, W 0, I 0, I 2, I 0, I 1, W 2, W 0, I 0, .f .f64 0, W 0, I 0, I 2, I 2, I 1, W 1, W 0, I 0, .f .f64 0, W 0, I 0, I 2, I 2, I 1, W 2, W 0, I 0, .f .f64 0, W 0, I 0, I 2, I 0, I 1, W 3, W 0, I 0, .f .f64 0, W 0, I 0, I 2, I 0, I 1, W 4, W 0, I 0, .f .f64 0, W 0, I 0, I 2, I 2, I 1, W 3, W 0, I 0, .f .f64 0, W 0, I 0, I 2, I 2, I 1, W 4, W 0, I 0, .f .f64 0, W 0, I 0])]
def hWT68 : AH := AH.edit hWT67 1006 [703, 704] [(181, C 5 [I 2, I 8, I 2, I 0, I 4]),
  (182, C 6 [I 2, I 3, P 181 0, O 309 0 0, O 382 2 0, W 4]),
  (191, C 5 [O 452 0 0, I 12, I 12, I 0, I 0]),
  (221, C 5 [O 648 0 0, I 12, I 12, I 0, I 0]),
  (309, C 2 [W 0, .nsl, W 0, .nsl]),
  (452, C 1 [.nsl, .nsl, .nsl, .nsl, .nsl, .nsl]),
  (648, C 1 [.nsl, .nsl, .nsl, .nsl, .nsl, .nsl])]
def hWT69 : AH := AH.edit hWT68 1086 [] [(157, C 5 [O 550 0 4, I 14, I 10, I 0, I 0]),
  (174, C 5 [I 2, I 8, I 2, I 0, I 5]),
  (175, C 6 [I 2, I 3, P 174 0, O 300 0 0, O 379 2 0, W 4]),
  (187, C 5 [O 448 0 0, I 14, I 14, I 0, I 0]),
  (300, C 2 [W 0, .nsl, W 0, .nsl]),
  (550, C 1 [.imm [Y 1, Y 4] 2, .imm [Y 1, Y 4] 2, .imm [Y 1, Y 4] 2, .imm [Y 1, Y 4] 2, .nsl, .nsl])]
def hWT70 : AH := AH.edit hWT69 1112 [] [(157, C 5 [O 550 0 0, I 14, I 14, I 0, I 0]),
  (550, C 1 [.nsl, .nsl, .nsl, .nsl, .nsl, .nsl])]
def hWT71 : AH := AH.edit hWT62 715 [398, 609] [(129, C 1 [O 713 0 14]),
  (713, C 9 [I 3, I 1, I 0, W 0, W 0, I 0, .tok 6, W 1, I 0, I 1, I 1, I 0, W 1, W 5, I 0, .f .f64 0, W 0, I 0, I 3, I 1, I 0, W 0, W 0, I 0, .tok 106, W 2, I 0, I 1, I 1, I 0, W 2, W 5, I 0, .f .f64 0, W 0, I 0, I 3, I 1, I 0, W 0, W 0, I 0, .tok 206, W 3, I 0, I 1, I 1, I 0, W 3, W 5, I 0, .f .f64 0, W 0, I 0, I 3, I 1, I 0, W 0, W 0, I 0, .tok 306, W 4, I 0, I 1, I 1, I 0, W 4, W 5, I 0, .f .f64 0, W 0, I 0, I 6, I 1, I 0, W 0, W 0, I 0, .f .f64 0, W 0, I 7, I 2, I 0, I 1, W 1, W 0, I 0, .f .f64 0, W 0, I 0, I 2, I 0, I 1, W 2, W 0, I 0, .f .f64 0, W 0, I 0, I 2, I 2, I 1, W 1, W 0, I 0, .f .f64 0, W 0, I 0, I 2, I 2, I 1, W 2, W 0, I 0, .f .f64 0, W 0, I 0, I 6, I 1, I 0, W 0, W 0, I 0, .f .f64 0, W 0, I 7]),
  (714, C 3 [.f .f64 0, I 0, W 0])]
def hWT72 : AH := AH.edit hWT71 818 [] [(157, C 5 [O 550 0 2, I 8, I 6, I 0, I 0]),
  (174, C 5 [I 2, I 8, I 2, I 2, I 3]),
  (175, C 6 [I 2, I 3, P 174 0, O 300 0 2, O 379 2 0, W 4]),
  (181, C 5 [I 2, I 8, I 8, I 6, I 4]),
  (187, C 5 [O 448 0 2, I 10, I 8, I 0, I 0]),
  (191, C 5 [O 452 0 6, I 12, I 6, I 0, I 0]),
  (300, C 2 [W 3, .imm [Y 1, Y 3, Y 5, Y 1, Y 0, .tok 227, .tok 226, .tok 225, .tok 224, .tok 223, .tok 222, .tok 221, .tok 220, Y 2, Y 3, Y 4, Y 1, Y 1, Y 2, Y 1] 20, W 4, .imm [Y 1, Y 4, Y 5, Y 1, Y 0, .tok 327, .tok 326, .tok 325, .tok 324, .tok 323, .tok 322, .tok 321, .tok 320, Y 2, Y 4, Y 4, Y 1, Y 1, Y 3, Y 1] 20]),
  (448, C 1 [.imm [Y 0, Y 3, Y 20, Y 1, Y 3, Y 5, Y 1, Y 0, .tok 227, .tok 226, .tok 225, .tok 224, .tok 223, .tok 222, .tok 221, .tok 220, Y 2, Y 3, Y 4, Y 1, Y 1, Y 2, Y 1] 23, .imm [Y 0, Y 4, Y 20, Y 1, Y 4, Y 5, Y 1, Y 0, .tok 327, .tok 326, .tok 325, .tok 324, .tok 323, .tok 322, .tok 321, .tok 320, Y 2, Y 4, Y 4, Y 1, Y 1, Y 3, Y 1] 23, .nsl, .nsl, .nsl, .nsl]),
  (452, C 1 [.imm [Y 0, Y 3, Y 20, Y 1, Y 3, Y 5, Y 1, Y 0, .tok 227, .tok 226, .tok 225, .tok 224, .tok 223, .tok 222, .tok 221, .tok 220, Y 2, Y 3, Y 4, Y 1, Y 1, Y 2, Y 4] 23, .imm [Y 0, Y 4, Y 20, Y 1, Y 4, Y 5, Y 1, Y 0, .tok 327, .tok 326, .tok 325, .tok 324, .tok 323, .tok 322, .tok 321, .tok 320, Y 2, Y 4, Y 4, Y 1, Y 1, Y 3, Y 4] 23, .imm [Y 0, Y 3, Y 20, Y 1, Y 3, Y 5, Y 1, Y 0, .tok 227, .tok 226, .tok 225, .tok 224, .tok 223, .tok 222, .tok 221, .tok 220, Y 2, Y 3, Y 4, Y 1, Y 1, Y 2, Y 4] 23, .imm [Y 0, Y 4, Y 20, Y 1, Y 4, Y 5, Y 1, Y 0, .tok 327, .tok 326, .tok 325, .tok 324, .tok 323, .tok 322, .tok 321, .tok 320, Y 2, Y 4, Y 4, Y 1, Y 1, Y 3, Y 4] 23, .imm [Y 0, Y 3, Y 20, Y 1, Y 3, Y 5, Y 1, Y 0, .tok 227, .tok 226, .tok 225, .tok 224, .tok 223, .tok 222, .tok 221, .tok 220, Y 2, Y 3, Y 4, Y 1, Y 1, Y 2, Y 4] 23, .imm [Y 0, Y 4, Y 20, Y 1, Y 4, Y 5, Y 1, Y 0, .tok 327, .tok 326, .tok 325, .tok 324, .tok 323, .tok 322, .tok 321, .tok 320, Y 2, Y 4, Y 4, Y 1, Y 1, Y 3, Y 4] 23]),
  (550, C 1 [.imm [Y 1, Y 2] 2, .imm [Y 1, Y 2] 2, .nsl, .nsl, .nsl, .nsl]),
  (715, C 8 [I 8, I 0, I 0, I 0, I 0, W 0, .f .f64 0, .nsl]),
  (716, C 3 [.f .f64 0, I 0, W 0])]
def hWT73 : AH := AH.edit hWT72 851 [491, 713] [(129, C 1 [O 844 0 15]),
  (135, C 3 [.tok 206, I 1, W 3]),
  (138, C 1 [.nsl, O 824 10 0, .nsl]),
  (140, C 1 [W 0, W 3, W 0]),
  (141, C 5 [I 3, I 0, .imm [I 1, W 3, W 4] 1, W 0, O 140 0 3]),
  (146, C 3 [W 2, W 4, .m (some 145)]),
  (157, C 5 [O 550 0 3, I 9, I 6, I 0, I 0]),
  (187, C 5 [O 448 0 1, I 10, I 9, I 0, I 0]),
  (448, C 1 [.imm [Y 0, Y 4, Y 20, Y 1, Y 4, Y 5, Y 1, Y 0, .tok 327, .tok 326, .tok 325, .tok 324, .tok 323, .tok 322, .tok 321, .tok 320, Y 2, Y 4, Y 4, Y 1, Y 1, Y 3, Y 1] 23, .nsl, .nsl, .nsl, .nsl, .nsl]),
  (550, C 1 [.imm [Y 1, Y 2] 2, .imm [Y 1, Y 2] 2, .imm [Y 1, Y 3] 2, .nsl, .nsl, .nsl]),
  (824, C 10 [I 1, W 3, W 5, I 1, I 0, .tok 206, I 1, W 3, .nsl, .imm [Y 1, Y 1, Y 2, Y 1] 4]),
  (844, C 9 [I 3, I 1, I 0, W 0, W 0, I 0, .tok 6, W 1, I 0, I 1, I 1, I 0, W 1, W 5, I 0, .f .f64 0, W 0, I 0, I 3, I 1, I 0, W 0, W 0, I 0, .tok 106, W 2, I 0, I 1, I 1, I 0, W 2, W 5, I 0, .f .f64 0, W 0, I 0, I 3, I 1, I 0, W 0, W 0, I 0, .tok 206, W 3, I 0, I 1, I 1, I 0, W 3, W 5, I 0, .f .f64 0, W 0, I 0, I 3, I 1, I 0, W 0, W 0, I 0, .tok 306, W 4, I 0, I 1, I 1, I 0, W 4, W 5, I 0, .f .f64 0, W 0, I 0, I 6, I 1, I 0, W 0, W 0, I 0, .f .f64 0, W 0, I 7, I 2, I 0, I 1, W 1, W 0, I 0, .f .f64 0, W 0, I 0, I 2, I 0, I 1, W 2, W 0, I 0, .f .f64 0, W 0, I 0, I 2, I 2, I 1, W 1, W 0, I 0, .f .f64 0, W 0, I 0, I 2, I 2, I 1, W 2, W 0, I 0, .f .f64 0, W 0, I 0, I 6, I 1, I 0, W 0, W 0, I 0, .f .f64 0, W 0, I 7, I 2, I 0, I 1, W 3, W 0, I 0, .f .f64 0, W 0, I 0])]
def hWT74 : AH := AH.edit hWT73 884 [824, 844] [(129, C 1 [O 877 0 16]),
  (135, C 3 [.tok 306, I 1, W 4]),
  (138, C 1 [.nsl, O 857 10 0, .nsl]),
  (140, C 1 [W 0, W 4, W 0]),
  (141, C 5 [I 3, I 0, .imm [I 1, W 4, W 4] 1, W 0, O 140 0 3]),
  (146, C 3 [W 2, W 5, .m (some 145)]),
  (157, C 5 [O 550 0 4, I 10, I 6, I 0, I 0]),
  (187, C 5 [O 448 0 0, I 10, I 10, I 0, I 0]),
  (448, C 1 [.nsl, .nsl, .nsl, .nsl, .nsl, .nsl]),
  (550, C 1 [.imm [Y 1, Y 2] 2, .imm [Y 1, Y 2] 2, .imm [Y 1, Y 3] 2, .imm [Y 1, Y 4] 2, .nsl, .nsl]),
  (857, C 10 [I 1, W 4, W 5, I 1, I 0, .tok 306, I 1, W 4, .nsl, .imm [Y 1, Y 1, Y 3, Y 1] 4]),
  (877, C 9 [I 3, I 1, I 0, W 0, W 0, I 0, .tok 6, W 1, I 0, I 1, I 1, I 0, W 1, W 5, I 0, .f .f64 0, W 0, I 0, I 3, I 1, I 0, W 0, W 0, I 0, .tok 106, W 2, I 0, I 1, I 1, I 0, W 2, W 5, I 0, .f .f64 0, W 0, I 0, I 3, I 1, I 0, W 0, W 0, I 0, .tok 206, W 3, I 0, I 1, I 1, I 0, W 3, W 5, I 0, .f .f64 0, W 0, I 0, I 3, I 1, I 0, W 0, W 0, I 0, .tok 306, W 4, I 0, I 1, I 1, I 0, W 4, W 5, I 0, .f .f64 0, W 0, I 0, I 6, I 1, I 0, W 0, W 0, I 0, .f .f64 0, W 0, I 7, I 2, I 0, I 1, W 1, W 0, I 0, .f .f64 0, W 0, I 0, I 2, I 0, I 1, W 2, W 0, I 0, .f .f64 0, W 0, I 0, I 2, I 2, I 1, W 1, W 0, I 0, .f .f64 0, W 0, I 0, I 2, I 2, I 1, W 2, W 0, I 0, .f .f64 0, W 0, I 0, I 6, I 1, I 0, W 0, W 0, I 0, .f .f64 0, W 0, I 7, I 2, I 0, I 1, W 3, W 0, I 0, .f .f64 0, W 0, I 0, I 2, I 0, I 1, W 4, W 0, I 0, .f .f64 0, W 0, I 0])]
def hWT75 : AH := AH.edit hWT74 917 [589, 877] [(129, C 1 [O 910 0 17]),
  (191, C 5 [O 452 0 5, I 12, I 7, I 0, I 0]),
  (199, C 3 [.tok 206, I 1, W 3]),
  (202, C 1 [.nsl, O 890 10 0, .nsl]),
  (204, C 1 [W 0, W 3, W 0]),
  (205, C 5 [I 3, I 2, .imm [I 1, W 3, W 1] 1, W 0, O 204 0 3]),
  (215, C 3 [W 2, W 4, .m (some 214)]),
  (221, C 5 [O 648 0 1, I 7, I 6, I 0, I 0]),
  (452, C 1 [.imm [Y 0, Y 4, Y 20, Y 1, Y 4, Y 5, Y 1, Y 0, .tok 327, .tok 326, .tok 325, .tok 324, .tok 323, .tok 322, .tok 321, .tok 320, Y 2, Y 4, Y 4, Y 1, Y 1, Y 3, Y 4] 23, .imm [Y 0, Y 3, Y 20, Y 1, Y 3, Y 5, Y 1, Y 0, .tok 227, .tok 226, .tok 225, .tok 224, .tok 223, .tok 222, .tok 221, .tok 220, Y 2, Y 3, Y 4, Y 1, Y 1, Y 2, Y 4] 23, .imm [Y 0, Y 4, Y 20, Y 1, Y 4, Y 5, Y 1, Y 0, .tok 327, .tok 326, .tok 325, .tok 324, .tok 323, .tok 322, .tok 321, .tok 320, Y 2, Y 4, Y 4, Y 1, Y 1, Y 3, Y 4] 23, .imm [Y 0, Y 3, Y 20, Y 1, Y 3, Y 5, Y 1, Y 0, .tok 227, .tok 226, .tok 225, .tok 224, .tok 223, .tok 222, .tok 221, .tok 220, Y 2, Y 3, Y 4, Y 1, Y 1, Y 2, Y 4] 23, .imm [Y 0, Y 4, Y 20, Y 1, Y 4, Y 5, Y 1, Y 0, .tok 327, .tok 326, .tok 325, .tok 324, .tok 323, .tok 322, .tok 321, .tok 320, Y 2, Y 4, Y 4, Y 1, Y 1, Y 3, Y 4] 23, .nsl]),
  (648, C 1 [.imm [Y 1, Y 3] 2, .nsl, .nsl, .nsl, .nsl, .nsl]),
  (890, C 10 [I 1, W 3, W 5, I 1, I 0, .tok 206, I 1, W 3, .nsl, .imm [Y 1, Y 1, Y 2, Y 4] 4]),
  (910, C 9 [I 3, I 1, I 0, W 0, W 0, I 0, .tok 6, W 1, I 0, I 1, I 1, I 0, W 1, W 5, I 0, .f .f64 0, W 0, I 0, I 3, I 1, I 0, W 0, W 0, I 0, .tok 106, W 2, I 0, I 1, I 1, I 0, W 2, W 5, I 0, .f .f64 0, W 0, I 0, I 3, I 1, I 0, W 0, W 0, I 0, .tok 206, W 3, I 0, I 1, I 1, I 0, W 3, W 5, I 0, .f .f64 0, W 0, I 0, I 3, I 1, I 0, W 0, W 0, I 0, .tok 306, W 4, I 0, I 1, I 1, I 0, W 4, W 5, I 0, .f .f64 0, W 0, I 0, I 6, I 1, I 0, W 0, W 0, I 0, .f .f64 0, W 0, I 7, I 2, I 0, I 1, W 1, W 0, I 0, .f .f64 0, W 0, I 0, I 2, I 0, I 1, W 2, W 0, I 0, .f .f64 0, W 0, I 0, I 2, I 2, I 1, W 1, W 0, I 0, .f .f64 0, W 0, I 0, I 2, I 2, I 1, W 2, W 0, I 0, .f .f64 0, W 0, I 0, I 6, I 1, I 0, W 0, W 0, I 0, .f .f64 0, W 0, I 7, I 2, I 0, I 1, W 3, W 0, I 0, .f .f64 0, W 0, I 0, I 2, I 0, I 1, W 4, W 0, I 0, .f .f64 0, W 0, I 0, I 2, I 2, I 1, W 3, W 0, I 0, .f .f64 0, W 0, I 0])]
def hWT76 : AH := AH.edit hWT75 950 [890, 910] [(129, C 1 [O 943 0 18]),
  (191, C 5 [O 452 0 4, I 12, I 8, I 0, I 0]),
  (199, C 3 [.tok 306, I 1, W 4]),
  (202, C 1 [.nsl, O 923 10 0, .nsl]),
  (204, C 1 [W 0, W 4, W 0]),
  (205, C 5 [I 3, I 2, .imm [I 1, W 4, W 1] 1, W 0, O 204 0 3]),
  (215, C 3 [W 2, W 5, .m (some 214)]),
  (221, C 5 [O 648 0 2, I 8, I 6, I 0, I 0]),
  (452, C 1 [.imm [Y 0, Y 3, Y 20, Y 1, Y 3, Y 5, Y 1, Y 0, .tok 227, .tok 226, .tok 225, .tok 224, .tok 223, .tok 222, .tok 221, .tok 220, Y 2, Y 3, Y 4, Y 1, Y 1, Y 2, Y 4] 23, .imm [Y 0, Y 4, Y 20, Y 1, Y 4, Y 5, Y 1, Y 0, .tok 327, .tok 326, .tok 325, .tok 324, .tok 323, .tok 322, .tok 321, .tok 320, Y 2, Y 4, Y 4, Y 1, Y 1, Y 3, Y 4] 23, .imm [Y 0, Y 3, Y 20, Y 1, Y 3, Y 5, Y 1, Y 0, .tok 227, .tok 226, .tok 225, .tok 224, .tok 223, .tok 222, .tok 221, .tok 220, Y 2, Y 3, Y 4, Y 1, Y 1, Y 2, Y 4] 23, .imm [Y 0, Y 4, Y 20, Y 1, Y 4, Y 5, Y 1, Y 0, .tok 327, .tok 326, .tok 325, .tok 324, .tok 323, .tok 322, .tok 321, .tok 320, Y 2, Y 4, Y 4, Y 1, Y 1, Y 3, Y 4] 23, .nsl, .nsl]),
  (648, C 1 [.imm [Y 1, Y 3] 2, .imm [Y 1, Y 4] 2, .nsl, .nsl, .nsl, .nsl]),
  (923, C 10 [I 1, W 4, W 5, I 1, I 0, .tok 306, I 1, W 4, .nsl, .imm [Y 1, Y 1, Y 3, Y 4] 4]),
  (943, C 9 [I 3, I 1, I 0, W 0, W 0, I 0, .tok 6, W 1, I 0, I 1, I 1, I 0, W 1, W 5, I 0, .f .f64 0, W 0, I 0, I 3, I 1, I 0, W 0, W 0, I 0, .tok 106, W 2, I 0, I 1, I 1, I 0, W 2, W 5, I 0, .f .f64 0, W 0, I 0, I 3, I 1, I 0, W 0, W 0, I 0, .tok 206, W 3, I 0, I 1, I 1, I 0, W 3, W 5, I 0, .f .f64 0, W 0, I 0, I 3, I 1, I 0, W 0, W 0, I 0, .tok 306, W 4, I 0, I 1, I 1, I 0, W 4, W 5, I 0, .f .f64 0, W 0, I 0, I 6, I 1, I 0, W 0, W 0, I 0, .f .f64 0, W 0, I 7, I 2, I 0, I 1, W 1, W 0, I 0, .f .f64 0, W 0, I 0, I 2, I 0, I 1, W 2, W 0, I 0, .f .f64 0, W 0, I 0, I 2, I 2, I 1, W 1, W 0, I 0, .f .f64 0, W 0, I 0, I 2, I 2, I 1, W 2, W 0, I 0, .f .f64 0, W 0, I 0, I 6, I 1, I 0, W 0, W 0, I 0, .f .f64 0, W 0, I 7, I 2, I 0, I 1, W 3, W 0, I 0, .f .f64 0, W 0, I 0, I 2, I 0, I 1, W 4, W 0, I 0, .f .f64 0, W 0, I 0, I 2, I 2, I 1, W 3, W 0, I 0, .f .f64 0, W 0, I 0, I 2, I 2, I 1, W 4, W 0, I 0, .f .f64 0, W 0, I 0])]
def hWT77 : AH := AH.edit hWT76 1018 [715, 716] [(181, C 5 [I 2, I 8, I 2, I 0, I 4]),
  (182, C 6 [I 2, I 3, P 181 0, O 309 0 0, O 382 2 0, W 4]),
  (191, C 5 [O 452 0 0, I 12, I 12, I 0, I 0]),
  (221, C 5 [O 648 0 0, I 12, I 12, I 0, I 0]),
  (309, C 2 [W 0, .nsl, W 0, .nsl]),
  (452, C 1 [.nsl, .nsl, .nsl, .nsl, .nsl, .nsl]),
  (648, C 1 [.nsl, .nsl, .nsl, .nsl, .nsl, .nsl])]
def hWT78 : AH := AH.edit hWT77 1098 [] [(157, C 5 [O 550 0 4, I 14, I 10, I 0, I 0]),
  (174, C 5 [I 2, I 8, I 2, I 0, I 5]),
  (175, C 6 [I 2, I 3, P 174 0, O 300 0 0, O 379 2 0, W 4]),
  (187, C 5 [O 448 0 0, I 14, I 14, I 0, I 0]),
  (300, C 2 [W 0, .nsl, W 0, .nsl]),
  (550, C 1 [.imm [Y 1, Y 4] 2, .imm [Y 1, Y 4] 2, .imm [Y 1, Y 4] 2, .imm [Y 1, Y 4] 2, .nsl, .nsl])]
def hWT79 : AH := AH.edit hWT78 1124 [] [(157, C 5 [O 550 0 0, I 14, I 14, I 0, I 0]),
  (550, C 1 [.nsl, .nsl, .nsl, .nsl, .nsl, .nsl])]
def hWT80 : AH := AH.edit hWT77 1055 [379, 382, 943] [(129, C 1 [O 1053 0 20]),
  (167, C 3 [.tok 606, I 1, W 5]),
  (168, C 11 [I 3, .imm [W 7] 1, I 2, I 3, I 2, I 8, I 64, I 2, I 1, O 167 0 1, W 5]),
  (171, C 17 [I 3, O 169 0 1, I 2, I 3, I 2, I 8, I 64, I 2, I 1, P 129 0, O 186 0 3, .ifc 108 (P 173 0), P 168 0, W 5, O 170 0 3, N 0, .nsl]),
  (173, C 5 [I 3, I 1, .imm [I 1, W 5, W 5] 1, W 5, O 172 0 3]),
  (175, C 6 [I 2, I 3, P 174 0, O 300 0 2, O 1042 0 1, W 4]),
  (181, C 5 [I 2, I 8, I 2, I 2, I 4]),
  (182, C 6 [I 2, I 3, P 181 0, O 309 0 1, O 1045 1 0, W 5]),
  (191, C 5 [O 452 0 1, I 13, I 12, I 0, I 0]),
  (309, C 2 [W 5, .imm [Y 1, Y 5, Y 5, Y 1, Y 0, .tok 627, .tok 626, .tok 625, .tok 624, .tok 623, .tok 622, .tok 621, .tok 620, Y 2, Y 5, Y 4, Y 1, Y 1, Y 4, Y 4] 20, W 0, .nsl]),
  (452, C 1 [.imm [Y 0, Y 5, Y 20, Y 1, Y 5, Y 5, Y 1, Y 0, .tok 627, .tok 626, .tok 625, .tok 624, .tok 623, .tok 622, .tok 621, .tok 620, Y 2, Y 5, Y 4, Y 1, Y 1, Y 4, Y 4] 23, .nsl, .nsl, .nsl, .nsl, .nsl]),
  (1042, C 1 [.imm [Y 1, Y 5, Y 5, Y 1, Y 0, .tok 627, .tok 626, .tok 625, .tok 624, .tok 623, .tok 622, .tok 621, .tok 620, Y 2, Y 5, Y 4, Y 1, Y 1, Y 4, Y 1] 20]),
  (1045, C 1 [.imm [Y 1, Y 5, Y 5, Y 1, Y 0, .tok 627, .tok 626, .tok 625, .tok 624, .tok 623, .tok 622, .tok 621, .tok 620, Y 2, Y 5, Y 4, Y 1, Y 1, Y 4, Y 4] 20]),
  (1053, C 9 [I 3, I 1, I 0, W 0, W 0, I 0, .tok 6, W 1, I 0, I 1, I 1, I 0, W 1, W 5, I 0, .f .f64 0, W 0, I 0, I 3, I 1, I 0, W 0, W 0, I 0, .tok 106, W 2, I 0, I 1, I 1, I 0, W 2, W 5, I 0, .f .f64 0, W 0, I 0, I 3, I 1, I 0, W 0, W 0, I 0, .tok 206, W 3, I 0, I 1, I 1, I 0, W 3, W 5, I 0, .f .f64 0, W 0, I 0, I 3, I 1, I 0, W 0, W 0, I 0, .tok 306, W 4, I 0, I 1, I 1, I 0, W 4, W 5, I 0, .f .f64 0, W 0, I 0, I 6, I 1, I 0, W 0, W 0, I 0, .f .f64 0, W 0, I 7, I 2, I 0, I 1, W 1, W 0, I 0, .f .f64 0, W 0, I 0, I 2, I 0, I 1, W 2, W 0, I 0, .f .f64 0, W 0, I 0, I 2, I 2, I 1, W 1, W 0, I 0, .f .f64 0, W 0, I 0, I 2, I 2, I 1, W 2, W 0, I 0, .f .f64 0, W 0, I 0, I 6, I 1, I 0, W 0, W 0, I 0, .f .f64 0, W 0, I 7, I 2, I 0, I 1, W 3, W 0, I 0, .f .f64 0, W 0, I 0, I 2, I 0, I 1, W 4, W 0, I 0, .f .f64 0, W 0, I 0, I 2, I 2, I 1, W 3, W 0, I 0, .f .f64 0, W 0, I 0, I 2, I 2, I 1, W 4, W 0, I 0, .f .f64 0, W 0, I 0, I 3, I 1, I 0, W 0, W 0, I 0, .tok 606, W 5, I 0, I 1, I 1, I 0, W 5, W 5, I 0, .f .f64 0, W 0, I 0])]
def hWT81 : AH := AH.edit hWT80 1056 [714] [(1055, C 3 [.f .f64 0, I 0, W 0])]
def hWT82 : AH := AH.edit hWT81 1156 [] [(157, C 5 [O 550 0 4, I 14, I 10, I 0, I 0]),
  (174, C 5 [I 2, I 8, I 2, I 2, I 5]),
  (175, C 6 [I 2, I 3, P 174 0, O 300 0 1, O 1042 1 0, W 5]),
  (181, C 5 [I 2, I 8, I 8, I 6, I 6]),
  (187, C 5 [O 448 0 1, I 15, I 14, I 0, I 0]),
  (191, C 5 [O 452 0 3, I 15, I 12, I 0, I 0]),
  (300, C 2 [W 5, .imm [Y 1, Y 5, Y 5, Y 1, Y 0, .tok 627, .tok 626, .tok 625, .tok 624, .tok 623, .tok 622, .tok 621, .tok 620, Y 2, Y 5, Y 4, Y 1, Y 1, Y 4, Y 1] 20, W 0, .nsl]),
  (448, C 1 [.imm [Y 0, Y 5, Y 20, Y 1, Y 5, Y 5, Y 1, Y 0, .tok 627, .tok 626, .tok 625, .tok 624, .tok 623, .tok 622, .tok 621, .tok 620, Y 2, Y 5, Y 4, Y 1, Y 1, Y 4, Y 1] 23, .nsl, .nsl, .nsl, .nsl, .nsl]),
  (452, C 1 [.imm [Y 0, Y 5, Y 20, Y 1, Y 5, Y 5, Y 1, Y 0, .tok 627, .tok 626, .tok 625, .tok 624, .tok 623, .tok 622, .tok 621, .tok 620, Y 2, Y 5, Y 4, Y 1, Y 1, Y 4, Y 4] 23, .imm [Y 0, Y 5, Y 20, Y 1, Y 5, Y 5, Y 1, Y 0, .tok 627, .tok 626, .tok 625, .tok 624, .tok 623, .tok 622, .tok 621, .tok 620, Y 2, Y 5, Y 4, Y 1, Y 1, Y 4, Y 4] 23, .imm [Y 0, Y 5, Y 20, Y 1, Y 5, Y 5, Y 1, Y 0, .tok 627, .tok 626, .tok 625, .tok 624, .tok 623, .tok 622, .tok 621, .tok 620, Y 2, Y 5, Y 4, Y 1, Y 1, Y 4, Y 4] 23, .nsl, .nsl, .nsl]),
  (550, C 1 [.imm [Y 1, Y 4] 2, .imm [Y 1, Y 4] 2, .imm [Y 1, Y 4] 2, .imm [Y 1, Y 4] 2, .nsl, .nsl]),
  (1056, C 8 [I 8, I 0, I 0, I 0, I 0, W 0, .f .f64 0, .nsl]),
  (1057, C 3 [.f .f64 0, I 0, W 0])]
def hWT83 : AH := AH.edit hWT82 1189 [857, 1053] [(129, C 1 [O 1182 0 21]),
  (135, C 3 [.tok 606, I 1, W 5]),
  (138, C 1 [.nsl, O 1162 10 0, .nsl]),
  (140, C 1 [W 0, W 5, W 0]),
  (141, C 5 [I 3, I 0, .imm [I 1, W 5, W 4] 1, W 0, O 140 0 3]),
  (146, C 3 [W 2, W 6, .m (some 145)]),
  (157, C 5 [O 550 0 5, I 15, I 10, I 0, I 0]),
  (187, C 5 [O 448 0 0, I 15, I 15, I 0, I 0]),
  (448, C 1 [.nsl, .nsl, .nsl, .nsl, .nsl, .nsl]),
  (550, C 1 [.imm [Y 1, Y 4] 2, .imm [Y 1, Y 4] 2, .imm [Y 1, Y 4] 2, .imm [Y 1, Y 4] 2, .imm [Y 1, Y 5] 2, .nsl]),
  (1162, C 10 [I 1, W 5, W 5, I 1, I 0, .tok 606, I 1, W 5, .nsl, .imm [Y 1, Y 1, Y 4, Y 1] 4]),
  (1182, C 9 [I 3, I 1, I 0, W 0, W 0, I 0, .tok 6, W 1, I 0, I 1, I 1, I 0, W 1, W 5, I 0, .f .f64 0, W 0, I 0, I 3, I 1, I 0, W 0, W 0, I 0, .tok 106, W 2, I 0, I 1, I 1, I 0, W 2, W 5, I 0, .f .f64 0, W 0, I 0, I 3, I 1, I 0, W 0, W 0, I 0, .tok 206, W 3, I 0, I 1, I 1, I 0, W 3, W 5, I 0, .f .f64 0, W 0, I 0, I 3, I 1, I 0, W 0, W 0, I 0, .tok 306, W 4, I 0, I 1, I 1, I 0, W 4, W 5, I 0, .f .f64 0, W 0, I 0, I 6, I 1, I 0, W 0, W 0, I 0, .f .f64 0, W 0, I 7, I 2, I 0, I 1, W 1, W 0, I 0, .f .f64 0, W 0, I 0, I 2, I 0, I 1, W 2, W 0, I 0, .f .f64 0, W 0, I 0, I 2, I 2, I 1, W 1, W 0, I 0, .f .f64 0, W 0, I 0, I 2, I 2, I 1, W 2, W 0, I 0, .f .f64 0, W 0, I 0, I 6, I 1, I 0, W 0, W 0, I 0, .f .f64 0, W 0, I 7, I 2, I 0, I 1, W 3, W 0, I 0, .f .f64 0, W 0, I 0, I 2, I 0, I 1, W 4, W 0, I 0, .f .f64 0, W 0, I 0, I 2, I 2, I 1, W 3, W 0, I 0, .f .f64 0, W 0, I 0, I 2, I 2, I 1, W 4, W 0, I 0, .f .f64 0, W 0, I 0, I 3, I 1, I 0, W 0, W 0, I 0, .tok 606, W 5, I 0, I 1, I 1, I 0, W 5, W 5, I 0, .f .f64 0, W 0, I 0, I 2, I 0, I 1, W 5, W 0, I 0, .f .f64 0, W 0, I 0])]
def hWT84 : AH := AH.edit hWT83 1222 [923, 1182] [(129, C 1 [O 1215 0 22]),
  (191, C 5 [O 452 0 2, I 15, I 13, I 0, I 0]),
  (199, C 3 [.tok 606, I 1, W 5]),
  (202, C 1 [.nsl, O 1195 10 0, .nsl]),
  (204, C 1 [W 0, W 5, W 0]),
  (205, C 5 [I 3, I 2, .imm [I 1, W 5, W 1] 1, W 0, O 204 0 3]),
  (215, C 3 [W 2, W 6, .m (some 214)]),
  (221, C 5 [O 648 0 1, I 13, I 12, I 0, I 0]),
  (452, C 1 [.imm [Y 0, Y 5, Y 20, Y 1, Y 5, Y 5, Y 1, Y 0, .tok 627, .tok 626, .tok 625, .tok 624, .tok 623, .tok 622, .tok 621, .tok 620, Y 2, Y 5, Y 4, Y 1, Y 1, Y 4, Y 4] 23, .imm [Y 0, Y 5, Y 20, Y 1, Y 5, Y 5, Y 1, Y 0, .tok 627, .tok 626, .tok 625, .tok 624, .tok 623, .tok 622, .tok 621, .tok 620, Y 2, Y 5, Y 4, Y 1, Y 1, Y 4, Y 4] 23, .nsl, .nsl, .nsl, .nsl]),
  (648, C 1 [.imm [Y 1, Y 5] 2, .nsl, .nsl, .nsl, .nsl, .nsl]),
  (1195, C 10 [I 1, W 5, W 5, I 1, I 0, .tok 606, I 1, W 5, .nsl, .imm [Y 1, Y 1, Y 4, Y 4] 4]),
  (1215, C 9 [I 3, I 1, I 0, W 0, W 0, I 0, .tok 6, W 1, I 0, I 1, I 1, I 0, W 1, W 5, I 0, .f .f64 0, W 0, I 0, I 3, I 1, I 0, W 0, W 0, I 0, .tok 106, W 2, I 0, I 1, I 1, I 0, W 2, W 5, I 0, .f .f64 0, W 0, I 0, I 3, I 1, I 0, W 0, W 0, I 0, .tok 206, W 3, I 0, I 1, I 1, I 0, W 3, W 5, I 0, .f .f64 0, W 0, I 0, I 3, I 1, I 0, W 0, W 0, I 0, .tok 306, W 4, I 0, I 1, I 1, I 0, W 4, W 5, I 0, .f .f64 0, W 0, I 0, I 6, I 1, I 0, W 0, W 0, I 0, .f .f64 0, W 0, I 7, I 2, I 0, I 1, W 1, W 0, I 0, .f .f64 0, W 0, I 0, I 2, I 0, I 1, W 2, W 0, I 0, .f .f64 0, W 0, I 0, I 2, I 2, I 1, W 1, W 0, I 0, .f .f64 0, W 0, I 0, I 2, I 2, I 1, W 2, W 0, I 0, .f .f64 0, W 0, I 0, I 6, I 1, I 0, W 0, W 0, I 0, .f .f64 0, W 0, I 7, I 2, I 0, I 1, W 3, W 0, I 0, .f .f64 0, W 0, I 0, I 2, I 0, I 1, W 4, W 0, I 0, .f .f64 0, W 0, I 0, I 2, I 2, I 1, W 3, W 0, I 0, .f .f64 0, W 0, I 0, I 2, I 2, I 1, W 4, W 0, I 0, .f .f64 0, W 0, I 0, I 3, I 1, I 0, W 0, W 0, I 0, .tok 606, W 5, I 0, I 1, I 1, I 0, W 5, W 5, I 0, .f .f64 0, W 0, I 0, I 2, I 0, I 1, W 5, W 0, I 0, .f .f64 0, W 0, I 0, I 2, I 2, I 1, W 5, W 0, I 0, .f .f64 0, W 0, I 0])]
def hWT85 : AH := AH.edit hWT84 1255 [1056, 1057] [(181, C 5 [I 2, I 8, I 2, I 0, I 6]),
  (182, C 6 [I 2, I 3, P 181 0, O 309 0 0, O 1045 1 0, W 5]),
  (191, C 5 [O 452 0 0, I 15, I 15, I 0, I 0]),
  (221, C 5 [O 648 0 0, I 15, I 15, I 0, I 0]),
  (309, C 2 [W 0, .nsl, W 0, .nsl]),
  (452, C 1 [.nsl, .nsl, .nsl, .nsl, .nsl, .nsl]),
  (648, C 1 [.nsl, .nsl, .nsl, .nsl, .nsl, .nsl])]
def hWT86 : AH := AH.edit hWT85 1314 [] [(157, C 5 [O 550 0 2, I 17, I 15, I 0, I 0]),
  (174, C 5 [I 2, I 8, I 2, I 0, I 7]),
  (175, C 6 [I 2, I 3, P 174 0, O 300 0 0, O 1042 1 0, W 5]),
  (187, C 5 [O 448 0 0, I 17, I 17, I 0, I 0]),
  (300, C 2 [W 0, .nsl, W 0, .nsl]),
  (550, C 1 [.imm [Y 1, Y 5] 2, .imm [Y 1, Y 5] 2, .nsl, .nsl, .nsl, .nsl])]
def hWT87 : AH := AH.edit hWT86 1328 [] [(157, C 5 [O 550 0 0, I 17, I 17, I 0, I 0]),
  (550, C 1 [.nsl, .nsl, .nsl, .nsl, .nsl, .nsl])]
def hWT88 : AH := AH.edit hWT81 1093 [1042, 1045, 1053] [(129, C 1 [O 1091 0 22]),
  (167, C 3 [.tok 706, I 1, W 6]),
  (168, C 11 [I 3, .imm [W 7] 1, I 2, I 3, I 2, I 8, I 64, I 2, I 1, O 167 0 1, W 6]),
  (171, C 17 [I 3, O 169 0 1, I 2, I 3, I 2, I 8, I 64, I 2, I 1, P 129 0, O 186 0 3, .ifc 108 (P 173 0), P 168 0, W 6, O 170 0 3, N 0, .nsl]),
  (173, C 5 [I 3, I 1, .imm [I 1, W 6, W 5] 1, W 6, O 172 0 3]),
  (175, C 6 [I 2, I 3, P 174 0, O 300 0 2, O 1080 0 2, W 4]),
  (182, C 6 [I 2, I 3, P 181 0, O 309 0 2, O 1083 1 0, W 6]),
  (191, C 5 [O 452 0 2, I 14, I 12, I 0, I 0]),
  (309, C 2 [W 5, .imm [Y 1, Y 5, Y 5, Y 1, Y 0, .tok 627, .tok 626, .tok 625, .tok 624, .tok 623, .tok 622, .tok 621, .tok 620, Y 2, Y 5, Y 4, Y 1, Y 1, Y 4, Y 4] 20, W 6, .imm [Y 1, Y 6, Y 5, Y 1, Y 0, .tok 727, .tok 726, .tok 725, .tok 724, .tok 723, .tok 722, .tok 721, .tok 720, Y 2, Y 6, Y 4, Y 1, Y 1, Y 5, Y 4] 20]),
  (452, C 1 [.imm [Y 0, Y 5, Y 20, Y 1, Y 5, Y 5, Y 1, Y 0, .tok 627, .tok 626, .tok 625, .tok 624, .tok 623, .tok 622, .tok 621, .tok 620, Y 2, Y 5, Y 4, Y 1, Y 1, Y 4, Y 4] 23, .imm [Y 0, Y 6, Y 20, Y 1, Y 6, Y 5, Y 1, Y 0, .tok 727, .tok 726, .tok 725, .tok 724, .tok 723, .tok 722, .tok 721, .tok 720, Y 2, Y 6, Y 4, Y 1, Y 1, Y 5, Y 4] 23, .nsl, .nsl, .nsl, .nsl]),
  (1080, C 1 [.imm [Y 1, Y 5, Y 5, Y 1, Y 0, .tok 627, .tok 626, .tok 625, .tok 624, .tok 623, .tok 622, .tok 621, .tok 620, Y 2, Y 5, Y 4, Y 1, Y 1, Y 4, Y 1] 20, .imm [Y 1, Y 6, Y 5, Y 1, Y 0, .tok 727, .tok 726, .tok 725, .tok 724, .tok 723, .tok 722, .tok 721, .tok 720, Y 2, Y 6, Y 4, Y 1, Y 1, Y 5, Y 1] 20]),
  (1083, C 1 [.imm [Y 1, Y 6, Y 5, Y 1, Y 0, .tok 727, .tok 726, .tok 725, .tok 724, .tok 723, .tok 722, .tok 721, .tok 720, Y 2, Y 6, Y 4, Y 1, Y 1, Y 5, Y 4] 20]),
  (1091, C 9 [I 3, I 1, I 0, W 0, W 0, I 0, .tok 6, W 1, I 0, I 1, I 1, I 0, W 1, W 5, I 0, .f .f64 0, W 0, I 0, I 3, I 1, I 0, W 0, W 0, I 0, .tok 106, W 2, I 0, I 1, I 1, I 0, W 2, W 5, I 0, .f .f64 0, W 0, I 0, I 3, I 1, I 0, W 0, W 0, I 0, .tok 206, W 3, I 0, I 1, I 1, I 0, W 3, W 5, I 0, .f .f64 0, W 0, I 0, I 3, I 1, I 0, W 0, W 0, I 0, .tok 306, W 4, I 0, I 1, I 1, I 0, W 4, W 5, I 0, .f .f64 0, W 0, I 0, I 6, I 1, I 0, W 0, W 0, I 0, .f .f64 0, W 0, I 7, I 2, I 0, I 1, W 1, W 0, I 0, .f .f64 0, W 0, I 0, I 2, I 0, I 1, W 2, W 0, I 0, .f .f64 0, W 0, I 0, I 2, I 2, I 1, W 1, W 0, I 0, .f .f64 0, W 0, I 0, I 2, I 2, I 1, W 2, W 0, I 0, .f .f64 0, W 0, I 0, I 6, I 1, I 0, W 0, W 0, I 0, .f .f64 0, W 0, I 7, I 2, I 0, I 1, W 3, W 0, I 0, .f .f64 0, W 0, I 0, I 2, I 0, I 1, W 4, W 0, I 0, .f .f64 0, W 0, I 0, I 2, I 2, I 1, W 3, W 0, I 0, .f .f64 0, W 0, I 0, I 2, I 2, I 1, W 4, W 0, I 0, .f .f64 0, W 0, I 0, I 3, I 1, I 0, W 0, W 0, I 0, .tok 606, W 5, I 0, I 1, I 1, I 0, W 5, W 5, I 0, .f .f64 0, W 0, I 0, I 3, I 1, I 0, W 0, W 0, I 0, .tok 706, W 6, I 0, I 1, I 1, I 0, W 6, W 5, I 0, .f .f64 0, W 0, I 0])]
def hWT89 : AH := AH.edit hWT88 1094 [1055] [(1093, C 3 [.f .f64 0, I 0, W 0])]
def hWT90 : AH := AH.edit hWT89 1210 [] [(157, C 5 [O 550 0 4, I 14, I 10, I 0, I 0]),
  (174, C 5 [I 2, I 8, I 2, I 2, I 5]),
  (175, C 6 [I 2, I 3, P 174 0, O 300 0 2, O 1080 2 0, W 6]),
  (181, C 5 [I 2, I 8, I 8, I 6, I 6]),
  (187, C 5 [O 448 0 2, I 16, I 14, I 0, I 0]),
  (191, C 5 [O 452 0 6, I 18, I 12, I 0, I 0]),
  (300, C 2 [W 5, .imm [Y 1, Y 5, Y 5, Y 1, Y 0, .tok 627, .tok 626, .tok 625, .tok 624, .tok 623, .tok 622, .tok 621, .tok 620, Y 2, Y 5, Y 4, Y 1, Y 1, Y 4, Y 1] 20, W 6, .imm [Y 1, Y 6, Y 5, Y 1, Y 0, .tok 727, .tok 726, .tok 725, .tok 724, .tok 723, .tok 722, .tok 721, .tok 720, Y 2, Y 6, Y 4, Y 1, Y 1, Y 5, Y 1] 20]),
  (448, C 1 [.imm [Y 0, Y 5, Y 20, Y 1, Y 5, Y 5, Y 1, Y 0, .tok 627, .tok 626, .tok 625, .tok 624, .tok 623, .tok 622, .tok 621, .tok 620, Y 2, Y 5, Y 4, Y 1, Y 1, Y 4, Y 1] 23, .imm [Y 0, Y 6, Y 20, Y 1, Y 6, Y 5, Y 1, Y 0, .tok 727, .tok 726, .tok 725, .tok 724, .tok 723, .tok 722, .tok 721, .tok 720, Y 2, Y 6, Y 4, Y 1, Y 1, Y 5, Y 1] 23, .nsl, .nsl, .nsl, .nsl]),
  (452, C 1 [.imm [Y 0, Y 5, Y 20, Y 1, Y 5, Y 5, Y 1, Y 0, .tok 627, .tok 626, .tok 625, .tok 624, .tok 623, .tok 622, .tok 621, .tok 620, Y 2, Y 5, Y 4, Y 1, Y 1, Y 4, Y 4] 23, .imm [Y 0, Y 6, Y 20, Y 1, Y 6, Y 5, Y 1, Y 0, .tok 727, .tok 726, .tok 725, .tok 724, .tok 723, .tok 722, .tok 721, .tok 720, Y 2, Y 6, Y 4, Y 1, Y 1, Y 5, Y 4] 23, .imm [Y 0, Y 5, Y 20, Y 1, Y 5, Y 5, Y 1, Y 0, .tok 627, .tok 626, .tok 625, .tok 624, .tok 623, .tok 622, .tok 621, .tok 620, Y 2, Y 5, Y 4, Y 1, Y 1, Y 4, Y 4] 23, .imm [Y 0, Y 6, Y 20, Y 1, Y 6, Y 5, Y 1, Y 0, .tok 727, .tok 726, .tok 725, .tok 724, .tok 723, .tok 722, .tok 721, .tok 720, Y 2, Y 6, Y 4, Y 1, Y 1, Y 5, Y 4] 23, .imm [Y 0, Y 5, Y 20, Y 1, Y 5, Y 5, Y 1, Y 0, .tok 627, .tok 626, .tok 625, .tok 624, .tok 623, .tok 622, .tok 621, .tok 620, Y 2, Y 5, Y 4, Y 1, Y 1, Y 4, Y 4] 23, .imm [Y 0, Y 6, Y 20, Y 1, Y 6, Y 5, Y 1, Y 0, .tok 727, .tok 726, .tok 725, .tok 724, .tok 723, .tok 722, .tok 721, .tok 720, Y 2, Y 6, Y 4, Y 1, Y 1, Y 5, Y 4] 23]),
  (550, C 1 [.imm [Y 1, Y 4] 2, .imm [Y 1, Y 4] 2, .imm [Y 1, Y 4] 2, .imm [Y 1, Y 4] 2, .nsl, .nsl]),
  (1094, C 8 [I 8, I 0, I 0, I 0, I 0, W 0, .f .f64 0, .nsl]),
  (1095, C 3 [.f .f64 0, I 0, W 0])]
def hWT91 : AH := AH.edit hWT90 1243 [857, 1091] [(129, C 1 [O 1236 0 23]),
  (135, C 3 [.tok 606, I 1, W 5]),
  (138, C 1 [.nsl, O 1216 10 0, .nsl]),
  (140, C 1 [W 0, W 5, W 0]),
  (141, C 5 [I 3, I 0, .imm [I 1, W 5, W 4] 1, W 0, O 140 0 3]),
  (146, C 3 [W 2, W 6, .m (some 145)]),
  (157, C 5 [O 550 0 5, I 15, I 10, I 0, I 0]),
  (187, C 5 [O 448 0 1, I 16, I 15, I 0, I 0]),
  (448, C 1 [.imm [Y 0, Y 6, Y 20, Y 1, Y 6, Y 5, Y 1, Y 0, .tok 727, .tok 726, .tok 725, .tok 724, .tok 723, .tok 722, .tok 721, .tok 720, Y 2, Y 6, Y 4, Y 1, Y 1, Y 5, Y 1] 23, .nsl, .nsl, .nsl, .nsl, .nsl]),
  (550, C 1 [.imm [Y 1, Y 4] 2, .imm [Y 1, Y 4] 2, .imm [Y 1, Y 4] 2, .imm [Y 1, Y 4] 2, .imm [Y 1, Y 5] 2, .nsl]),
  (1216, C 10 [I 1, W 5, W 5, I 1, I 0, .tok 606, I 1, W 5, .nsl, .imm [Y 1, Y 1, Y 4, Y 1] 4]),
  (1236, C 9 [I 3, I 1, I 0, W 0, W 0, I 0, .tok 6, W 1, I 0, I 1, I 1, I 0, W 1, W 5, I 0, .f .f64 0, W 0, I 0, I 3, I 1, I 0, W 0, W 0, I 0, .tok 106, W 2, I 0, I 1, I 1, I 0, W 2, W 5, I 0, .f .f64 0, W 0, I 0, I 3, I 1, I 0, W 0, W 0, I 0, .tok 206, W 3, I 0, I 1, I 1, I 0, W 3, W 5, I 0, .f .f64 0, W 0, I 0, I 3, I 1, I 0, W 0, W 0, I 0, .tok 306, W 4, I 0, I 1, I 1, I 0, W 4, W 5, I 0, .f .f64 0, W 0, I 0, I 6, I 1, I 0, W 0, W 0, I 0, .f .f64 0, W 0, I 7, I 2, I 0, I 1, W 1, W 0, I 0, .f .f64 0, W 0, I 0, I 2, I 0, I 1, W 2, W 0, I 0, .f .f64 0, W 0, I 0, I 2, I 2, I 1, W 1, W 0, I 0, .f .f64 0, W 0, I 0, I 2, I 2, I 1, W 2, W 0, I 0, .f .f64 0, W 0, I 0, I 6, I 1, I 0, W 0, W 0, I 0, .f .f64 0, W 0, I 7, I 2, I 0, I 1, W 3, W 0, I 0, .f .f64 0, W 0, I 0, I 2, I 0, I 1, W 4, W 0, I 0, .f .f64 0, W 0, I 0, I 2, I 2, I 1, W 3, W 0, I 0, .f .f64 0, W 0, I 0, I 2, I 2, I 1, W 4, W 0, I 0, .f .f64 0, W 0, I 0, I 3, I 1, I 0, W 0, W 0, I 0, .tok 606, W 5, I 0, I 1, I 1, I 0, W 5, W 5, I 0, .f .f64 0, W 0, I 0, I 3, I 1, I 0, W 0, W 0, I 0, .tok 706, W 6, I 0, I 1, I 1, I 0, W 6, W 5, I 0, .f .f64 0, W 0, I 0, I 2, I 0, I 1, W 5, W 0, I 0, .f .f64 0, W 0, I 0])]
def hWT92 : AH := AH.edit hWT91 1276 [1216, 1236] [(129, C 1 [O 1269 0 24]),
  (135, C 3 [.tok 706, I 1, W 6]),
  (138, C 1 [.nsl, O 1249 10 0, .nsl]),
  (140, C 1 [W 0, W 6, W 0]),
  (141, C 5 [I 3, I 0, .imm [I 1, W 6, W 4] 1, W 0, O 140 0 3]),
  (146, C 3 [W 2, W 7, .m (some 145)]),
  (157, C 5 [O 550 0 6, I 16, I 10, I 0, I 0]),
  (187, C 5 [O 448 0 0, I 16, I 16, I 0, I 0]),
  (448, C 1 [.nsl, .nsl, .nsl, .nsl, .nsl, .nsl]),
  (550, C 1 [.imm [Y 1, Y 4] 2, .imm [Y 1, Y 4] 2, .imm [Y 1, Y 4] 2, .imm [Y 1, Y 4] 2, .imm [Y 1, Y 5] 2, .imm [Y 1, Y 6] 2]),
  (1249, C 10 [I 1, W 6, W 5, I 1, I 0, .tok 706, I 1, W 6, .nsl, .imm [Y 1, Y 1, Y 5, Y 1] 4]),
  (1269, C 9 [I 3, I 1, I 0, W 0, W 0, I 0, .tok 6, W 1, I 0, I 1, I 1, I 0, W 1, W 5, I 0, .f .f64 0, W 0, I 0, I 3, I 1, I 0, W 0, W 0, I 0, .tok 106, W 2, I 0, I 1, I 1, I 0, W 2, W 5, I 0, .f .f64 0, W 0, I 0, I 3, I 1, I 0, W 0, W 0, I 0, .tok 206, W 3, I 0, I 1, I 1, I 0, W 3, W 5, I 0, .f .f64 0, W 0, I 0, I 3, I 1, I 0, W 0, W 0, I 0, .tok 306, W 4, I 0, I 1, I 1, I 0, W 4, W 5, I 0, .f .f64 0, W 0, I 0, I 6, I 1, I 0, W 0, W 0, I 0, .f .f64 0, W 0, I 7, I 2, I 0, I 1, W 1, W 0, I 0, .f .f64 0, W 0, I 0, I 2, I 0, I 1, W 2, W 0, I 0, .f .f64 0, W 0, I 0, I 2, I 2, I 1, W 1, W 0, I 0, .f .f64 0, W 0, I 0, I 2, I 2, I 1, W 2, W 0, I 0, .f .f64 0, W 0, I 0, I 6, I 1, I 0, W 0, W 0, I 0, .f .f64 0, W 0, I 7, I 2, I 0, I 1, W 3, W 0, I 0, .f .f64 0, W 0, I 0, I 2, I 0, I 1, W 4, W 0, I 0, .f .f64 0, W 0, I 0, I 2, I 2, I 1, W 3, W 0, I 0, .f .f64 0, W 0, I 0, I 2, I 2, I 1, W 4, W 0, I 0, .f .f64 0, W 0, I 0, I 3, I 1, I 0, W 0, W 0, I 0, .tok 606, W 5, I 0, I 1, I 1, I 0, W 5, W 5, I 0, .f .f64 0, W 0, I 0, I 3, I 1, I 0, W 0, W 0, I 0, .tok 706, W 6, I 0, I 1, I 1, I 0, W 6, W 5, I 0, .f .f64 0, W 0, I 0, I 2, I 0, I 1, W 5, W 0, I 0, .f .f64 0, W 0, I 0, I 2, I 0, I 1, W 6, W 0, I 0, .f .f64 0, W 0, I 0])]
def hWT93 : AH := AH.edit hWT92 1309 [923, 1269] [(129, C 1 [O 1302 0 25]),
  (191, C 5 [O 452 0 5, I 18, I 13, I 0, I 0]),
  (199, C 3 [.tok 606, I 1, W 5]),
  (202, C 1 [.nsl, O 1282 10 0, .nsl]),
  (204, C 1 [W 0, W 5, W 0]),
  (205, C 5 [I 3, I 2, .imm [I 1, W 5, W 1] 1, W 0, O 204 0 3]),
  (215, C 3 [W 2, W 6, .m (some 214)]),
  (221, C 5 [O 648 0 1, I 13, I 12, I 0, I 0]),
  (452, C 1 [.imm [Y 0, Y 6, Y 20, Y 1, Y 6, Y 5, Y 1, Y 0, .tok 727, .tok 726, .tok 725, .tok 724, .tok 723, .tok 722, .tok 721, .tok 720, Y 2, Y 6, Y 4, Y 1, Y 1, Y 5, Y 4] 23, .imm [Y 0, Y 5, Y 20, Y 1, Y 5, Y 5, Y 1, Y 0, .tok 627, .tok 626, .tok 625, .tok 624, .tok 623, .tok 622, .tok 621, .tok 620, Y 2, Y 5, Y 4, Y 1, Y 1, Y 4, Y 4] 23, .imm [Y 0, Y 6, Y 20, Y 1, Y 6, Y 5, Y 1, Y 0, .tok 727, .tok 726, .tok 725, .tok 724, .tok 723, .tok 722, .tok 721, .tok 720, Y 2, Y 6, Y 4, Y 1, Y 1, Y 5, Y 4] 23, .imm [Y 0, Y 5, Y 20, Y 1, Y 5, Y 5, Y 1, Y 0, .tok 627, .tok 626, .tok 625, .tok 624, .tok 623, .tok 622, .tok 621, .tok 620, Y 2, Y 5, Y 4, Y 1, Y 1, Y 4, Y 4] 23, .imm [Y 0, Y 6, Y 20, Y 1, Y 6, Y 5, Y 1, Y 0, .tok 727, .tok 726, .tok 725, .tok 724, .tok 723, .tok 722, .tok 721, .tok 720, Y 2, Y 6, Y 4, Y 1, Y 1, Y 5, Y 4] 23, .nsl]),
  (648, C 1 [.imm [Y 1, Y 5] 2, .nsl, .nsl, .nsl, .nsl, .nsl]),
  (1282, C 10 [I 1, W 5, W 5, I 1, I 0, .tok 606, I 1, W 5, .nsl, .imm [Y 1, Y 1, Y 4, Y 4] 4]),
  (1302, C 9 [I 3, I 1, I 0, W 0, W 0, I 0, .tok 6, W 1, I 0, I 1, I 1, I 0, W 1, W 5, I 0, .f .f64 0, W 0, I 0, I 3, I 1, I 0, W 0, W 0, I 0, .tok 106, W 2, I 0, I 1, I 1, I 0, W 2, W 5, I 0, .f .f64 0, W 0, I 0, I 3, I 1, I 0, W 0, W 0, I 0, .tok 206, W 3, I 0, I 1, I 1, I 0, W 3, W 5, I 0, .f .f64 0, W 0, I 0, I 3, I 1, I 0, W 0, W 0, I 0, .tok 306, W 4, I 0, I 1, I 1, I 0, W 4, W 5, I 0, .f .f64 0, W 0, I 0, I 6, I 1, I 0, W 0, W 0, I 0, .f .f64 0, W 0, I 7, I 2, I 0, I 1, W 1, W 0, I 0, .f .f64 0, W 0, I 0, I 2, I 0, I 1, W 2, W 0, I 0, .f .f64 0, W 0, I 0, I 2, I 2, I 1, W 1, W 0, I 0, .f .f64 0, W 0, I 0, I 2, I 2, I 1, W 2, W 0, I 0, .f .f64 0, W 0, I 0, I 6, I 1, I 0, W 0, W 0, I 0, .f .f64 0, W 0, I 7, I 2, I 0, I 1, W 3, W 0, I 0, .f .f64 0, W 0, I 0, I 2, I 0, I 1, W 4, W 0, I 0, .f .f64 0, W 0, I 0, I 2, I 2, I 1, W 3, W 0, I 0, .f .f64 0, W 0, I 0, I 2, I 2, I 1, W 4, W 0, I 0, .f .f64 0, W 0, I 0, I 3, I 1, I 0, W 0, W 0, I 0, .tok 606, W 5, I 0, I 1, I 1, I 0, W 5, W 5, I 0, .f .f64 0, W 0, I 0, I 3, I 1, I 0, W 0, W 0, I 0, .tok 706, W 6, I 0, I 1, I 1, I 0, W 6, W 5, I 0, .f .f64 0, W 0, I 0, I 2, I 0, I 1, W 5, W 0, I 0, .f .f64 0, W 0, I 0, I 2, I 0, I 1, W 6, W 0, I 0, .f .f64 0, W 0, I 0, I 2, I 2, I 1, W 5, W 0, I 0, .f .f64 0, W 0, I 0])]
def hWT94 : AH := AH.edit hWT93 1342 [1282, 1302] [(129, C 1 [O 1335 0 26]),
  (191, C 5 [O 452 0 4, I 18, I 14, I 0, I 0]),
  (199, C 3 [.tok 706, I 1, W 6]),
  (202, C 1 [.nsl, O 1315 10 0, .nsl]),
  (204, C 1 [W 0, W 6, W 0]),
  (205, C 5 [I 3, I 2, .imm [I 1, W 6, W 1] 1, W 0, O 204 0 3]),
  (215, C 3 [W 2, W 7, .m (some 214)]),
  (221, C 5 [O 648 0 2, I 14, I 12, I 0, I 0]),
  (452, C 1 [.imm [Y 0, Y 5, Y 20, Y 1, Y 5, Y 5, Y 1, Y 0, .tok 627, .tok 626, .tok 625, .tok 624, .tok 623, .tok 622, .tok 621, .tok 620, Y 2, Y 5, Y 4, Y 1, Y 1, Y 4, Y 4] 23, .imm [Y 0, Y 6, Y 20, Y 1, Y 6, Y 5, Y 1, Y 0, .tok 727, .tok 726, .tok 725, .tok 724, .tok 723, .tok 722, .tok 721, .tok 720, Y 2, Y 6, Y 4, Y 1, Y 1, Y 5, Y 4] 23, .imm [Y 0, Y 5, Y 20, Y 1, Y 5, Y 5, Y 1, Y 0, .tok 627, .tok 626, .tok 625, .tok 624, .tok 623, .tok 622, .tok 621, .tok 620, Y 2, Y 5, Y 4, Y 1, Y 1, Y 4, Y 4] 23, .imm [Y 0, Y 6, Y 20, Y 1, Y 6, Y 5, Y 1, Y 0, .tok 727, .tok 726, .tok 725, .tok 724, .tok 723, .tok 722, .tok 721, .tok 720, Y 2, Y 6, Y 4, Y 1, Y 1, Y 5, Y 4] 23, .nsl, .nsl]),
  (648, C 1 [.imm [Y 1, Y 5] 2, .imm [Y 1, Y 6] 2, .nsl, .nsl, .nsl, .nsl]),
  (1315, C 10 [I 1, W 6, W 5, I 1, I 0, .tok 706, I 1, W 6, .nsl, .imm [Y 1, Y 1, Y 5, Y 4] 4]),
  (1335, C 9 [I 3, I 1, I 0, W 0, W 0, I 0, .tok 6, W 1, I 0, I 1, I 1, I 0, W 1, W 5, I 0, .f .f64 0, W 0, I 0, I 3, I 1, I 0, W 0, W 0, I 0, .tok 106, W 2, I 0, I 1, I 1, I 0, W 2, W 5, I 0, .f .f64 0, W 0, I 0, I 3, I 1, I 0, W 0, W 0, I 0, .tok 206, W 3, I 0, I 1, I 1, I 0, W 3, W 5, I 0, .f .f64 0, W 0, I 0, I 3, I 1, I 0, W 0, W 0, I 0, .tok 306, W 4, I 0, I 1, I 1, I 0, W 4, W 5, I 0, .f .f64 0, W 0, I 0, I 6, I 1, I 0, W 0, W 0, I 0, .f .f64 0, W 0, I 7, I 2, I 0, I 1, W 1, W 0, I 0, .f .f64 0, W 0, I 0, I 2, I 0, I 1, W 2, W 0, I 0, .f .f64 0, W 0, I 0, I 2, I 2, I 1, W 1, W 0, I 0, .f .f64 0, W 0, I 0, I 2, I 2, I 1, W 2, W 0, I 0, .f .f64 0, W 0, I 0, I 6, I 1, I 0, W 0, W 0, I 0, .f .f64 0, W 0, I 7, I 2, I 0, I 1, W 3, W 0, I 0, .f .f64 0, W 0, I 0, I 2, I 0, I 1, W 4, W 0, I 0, .f .f64 0, W 0, I 0, I 2, I 2, I 1, W 3, W 0, I 0, .f .f64 0, W 0, I 0, I 2, I 2, I 1, W 4, W 0, I 0, .f .f64 0, W 0, I 0, I 3, I 1, I 0, W 0, W 0, I 0, .tok 606, W 5, I 0, I 1, I 1, I 0, W 5, W 5, I 0, .f .f64 0, W 0, I 0, I 3, I 1, I 0, W 0, W 0, I 0, .tok 706, W 6, I 0, I 1, I 1, I 0, W 6, W 5, I 0, .f .f64 0, W 0, I 0, I 2, I 0, I 1, W 5, W 0, I 0, .f .f64 0, W 0, I 0, I 2, I 0, I 1, W 6, W 0, I 0, .f .f64 0, W 0, I 0, I 2, I 2, I 1, W 5, W 0, I 0, .f .f64 0, W 0, I 0, I 2, I 2, I 1, W 6, W 0, I 0, .f .f64 0, W 0, I 0])]
def hWT95 : AH := AH.edit hWT94 1410 [1094, 1095] [(181, C 5 [I 2, I 8, I 2, I 0, I 6]),
  (182, C 6 [I 2, I 3, P 181 0, O 309 0 0, O 1083 1 0, W 6]),
  (191, C 5 [O 452 0 0, I 18, I 18, I 0, I 0]),
  (221, C 5 [O 648 0 0, I 18, I 18, I 0, I 0]),
  (309, C 2 [W 0, .nsl, W 0, .nsl]),
  (452, C 1 [.nsl, .nsl, .nsl, .nsl, .nsl, .nsl]),
  (648, C 1 [.nsl, .nsl, .nsl, .nsl, .nsl, .nsl])]
def hWT96 : AH := AH.edit hWT95 1502 [] [(157, C 5 [O 550 0 4, I 20, I 16, I 0, I 0]),
  (174, C 5 [I 2, I 8, I 2, I 0, I 7]),
  (175, C 6 [I 2, I 3, P 174 0, O 300 0 0, O 1080 2 0, W 6]),
  (187, C 5 [O 448 0 0, I 20, I 20, I 0, I 0]),
  (300, C 2 [W 0, .nsl, W 0, .nsl]),
  (550, C 1 [.imm [Y 1, Y 6] 2, .imm [Y 1, Y 6] 2, .imm [Y 1, Y 6] 2, .imm [Y 1, Y 6] 2, .nsl, .nsl])]
def hWT97 : AH := AH.edit hWT96 1528 [] [(157, C 5 [O 550 0 0, I 20, I 20, I 0, I 0]),
  (550, C 1 [.nsl, .nsl, .nsl, .nsl, .nsl, .nsl])]
def eWT0 : Entry := ⟨4, [], hWT0, .b true, hWT1⟩
def eWT1 : Entry := ⟨7, [P 130 0, .agg [I 1, I 1, I 0, I 0, I 0, W 0, .tok 0, .nsl]], hWT2, .tup [.agg [.f .f64 0, I 0, W 0], I 0], hWT3⟩
def eWT2 : Entry := ⟨7, [P 130 0, .agg [I 8, I 0, I 0, I 0, I 0, W 0, .f .f64 0, .nsl]], hWT4, .tup [.agg [.f .f64 0, I 0, W 0], I 0], hWT9⟩
def eWT3 : Entry := ⟨32, [P 130 0, I 1, I 0, I 0], hWT5, .b true, hWT6⟩
def eWT4 : Entry := ⟨32, [P 130 0, I 1, I 2, I 0], hWT7, .b true, hWT8⟩
def eWT5 : Entry := ⟨7, [P 130 0, .agg [I 8, I 0, I 0, I 0, I 0, W 0, .f .f64 0, .nsl]], hWT9, .tup [.agg [.f .f64 0, I 0, W 0], I 0], hWT10⟩
def eWT6 : Entry := ⟨7, [P 130 0, .agg [I 8, I 0, I 0, I 0, I 0, W 0, .f .f64 0, .nsl]], hWT10, .tup [.agg [.f .f64 0, I 0, W 0], I 0], hWT11⟩
def eWT7 : Entry := ⟨7, [P 130 0, .agg [I 8, I 0, I 0, I 0, I 0, W 0, .f .f64 0, .nsl]], hWT11, .tup [.agg [.f .f64 0, I 0, W 0], I 0], hWT11⟩
def eWT8 : Entry := ⟨7, [P 130 0, .agg [I 1, I 1, I 0, I 0, I 0, W 0, .tok 100, .nsl]], hWT4, .tup [.agg [.f .f64 0, I 0, W 0], I 0], hWT12⟩
def eWT9 : Entry := ⟨7, [P 130 0, .agg [I 8, I 0, I 0, I 0, I 0, W 0, .f .f64 0, .nsl]], hWT13, .tup [.agg [.f .f64 0, I 0, W 0], I 0], hWT20⟩
def eWT10 : Entry := ⟨32, [P 130 0, I 1, I 0, I 0], hWT14, .b true, hWT15⟩
def eWT11 : Entry := ⟨32, [P 130 0, I 1, I 0, I 0], hWT15, .b true, hWT16⟩
def eWT12 : Entry := ⟨32, [P 130 0, I 1, I 2, I 0], hWT17, .b true, hWT18⟩
def eWT13 : Entry := ⟨32, [P 130 0, I 1, I 2, I 0], hWT18, .b true, hWT19⟩
def eWT14 : Entry := ⟨7, [P 130 0, .agg [I 8, I 0, I 0, I 0, I 0, W 0, .f .f64 0, .nsl]], hWT20, .tup [.agg [.f .f64 0, I 0, W 0], I 0], hWT21⟩
def eWT15 : Entry := ⟨7, [P 130 0, .agg [I 8, I 0, I 0, I 0, I 0, W 0, .f .f64 0, .nsl]], hWT21, .tup [.agg [.f .f64 0, I 0, W 0], I 0], hWT22⟩
def eWT16 : Entry := ⟨7, [P 130 0, .agg [I 8, I 0, I 0, I 0, I 0, W 0, .f .f64 0, .nsl]], hWT22, .tup [.agg [.f .f64 0, I 0, W 0], I 0], hWT22⟩
def eWT17 : Entry := ⟨7, [P 130 0, .agg [I 1, I 1, I 0, I 0, I 0, W 0, .tok 200, .nsl]], hWT13, .tup [.agg [.f .f64 0, I 0, W 0], I 0], hWT23⟩
def eWT18 : Entry := ⟨7, [P 130 0, .agg [I 8, I 0, I 0, I 0, I 0, W 0, .f .f64 0, .nsl]], hWT24, .tup [.agg [.f .f64 0, I 0, W 0], I 0], hWT31⟩
def eWT19 : Entry := ⟨32, [P 130 0, I 1, I 0, I 0], hWT25, .b true, hWT26⟩
def eWT20 : Entry := ⟨32, [P 130 0, I 1, I 0, I 0], hWT26, .b true, hWT27⟩
def eWT21 : Entry := ⟨32, [P 130 0, I 1, I 2, I 0], hWT28, .b true, hWT29⟩
def eWT22 : Entry := ⟨32, [P 130 0, I 1, I 2, I 0], hWT29, .b true, hWT30⟩
def eWT23 : Entry := ⟨7, [P 130 0, .agg [I 8, I 0, I 0, I 0, I 0, W 0, .f .f64 0, .nsl]], hWT31, .tup [.agg [.f .f64 0, I 0, W 0], I 0], hWT35⟩
def eWT24 : Entry := ⟨32, [P 130 0, I 1, I 0, I 0], hWT32, .b true, hWT33⟩
def eWT25 : Entry := ⟨32, [P 130 0, I 1, I 2, I 0], hWT33, .b true, hWT34⟩
def eWT26 : Entry := ⟨7, [P 130 0, .agg [I 8, I 0, I 0, I 0, I 0, W 0, .f .f64 0, .nsl]], hWT35, .tup [.agg [.f .f64 0, I 0, W 0], I 0], hWT36⟩
def eWT27 : Entry := ⟨7, [P 130 0, .agg [I 8, I 0, I 0, I 0, I 0, W 0, .f .f64 0, .nsl]], hWT36, .tup [.agg [.f .f64 0, I 0, W 0], I 0], hWT37⟩
def eWT28 : Entry := ⟨7, [P 130 0, .agg [I 8, I 0, I 0, I 0, I 0, W 0, .f .f64 0, .nsl]], hWT37, .tup [.agg [.f .f64 0, I 0, W 0], I 0], hWT37⟩
def eWT29 : Entry := ⟨7, [P 130 0, .agg [I 1, I 1, I 0, I 0, I 0, W 0, .tok 300, .nsl]], hWT24, .tup [.agg [.f .f64 0, I 0, W 0], I 0], hWT38⟩
def eWT30 : Entry := ⟨7, [P 130 0, .agg [I 8, I 0, I 0, I 0, I 0, W 0, .f .f64 0, .nsl]], hWT39, .tup [.agg [.f .f64 0, I 0, W 0], I 0], hWT46⟩
def eWT31 : Entry := ⟨32, [P 130 0, I 1, I 0, I 0], hWT40, .b true, hWT41⟩
def eWT32 : Entry := ⟨32, [P 130 0, I 1, I 0, I 0], hWT41, .b true, hWT42⟩
def eWT33 : Entry := ⟨32, [P 130 0, I 1, I 2, I 0], hWT43, .b true, hWT44⟩
def eWT34 : Entry := ⟨32, [P 130 0, I 1, I 2, I 0], hWT44, .b true, hWT45⟩
def eWT35 : Entry := ⟨7, [P 130 0, .agg [I 8, I 0, I 0, I 0, I 0, W 0, .f .f64 0, .nsl]], hWT46, .tup [.agg [.f .f64 0, I 0, W 0], I 0], hWT52⟩
def eWT36 : Entry := ⟨32, [P 130 0, I 1, I 0, I 0], hWT47, .b true, hWT48⟩
def eWT37 : Entry := ⟨32, [P 130 0, I 1, I 0, I 0], hWT48, .b true, hWT49⟩
def eWT38 : Entry := ⟨32, [P 130 0, I 1, I 2, I 0], hWT49, .b true, hWT50⟩
def eWT39 : Entry := ⟨32, [P 130 0, I 1, I 2, I 0], hWT50, .b true, hWT51⟩
def eWT40 : Entry := ⟨7, [P 130 0, .agg [I 8, I 0, I 0, I 0, I 0, W 0, .f .f64 0, .nsl]], hWT52, .tup [.agg [.f .f64 0, I 0, W 0], I 0], hWT53⟩
def eWT41 : Entry := ⟨7, [P 130 0, .agg [I 8, I 0, I 0, I 0, I 0, W 0, .f .f64 0, .nsl]], hWT53, .tup [.agg [.f .f64 0, I 0, W 0], I 0], hWT54⟩
def eWT42 : Entry := ⟨7, [P 130 0, .agg [I 8, I 0, I 0, I 0, I 0, W 0, .f .f64 0, .nsl]], hWT54, .tup [.agg [.f .f64 0, I 0, W 0], I 0], hWT54⟩
def eWT43 : Entry := ⟨7, [P 130 0, .agg [I 8, I 0, I 0, I 0, I 0, W 0, .f .f64 0, .nsl]], hWT55, .tup [.agg [.f .f64 0, I 0, W 0], I 0], hWT62⟩
def eWT44 : Entry := ⟨32, [P 130 0, I 1, I 0, I 0], hWT56, .b true, hWT57⟩
def eWT45 : Entry := ⟨32, [P 130 0, I 1, I 0, I 0], hWT57, .b true, hWT58⟩
def eWT46 : Entry := ⟨32, [P 130 0, I 1, I 2, I 0], hWT59, .b true, hWT60⟩
def eWT47 : Entry := ⟨32, [P 130 0, I 1, I 2, I 0], hWT60, .b true, hWT61⟩
def eWT48 : Entry := ⟨7, [P 130 0, .agg [I 8, I 0, I 0, I 0, I 0, W 0, .f .f64 0, .nsl]], hWT62, .tup [.agg [.f .f64 0, I 0, W 0], I 0], hWT68⟩
def eWT49 : Entry := ⟨32, [P 130 0, I 1, I 0, I 0], hWT63, .b true, hWT64⟩
def eWT50 : Entry := ⟨32, [P 130 0, I 1, I 0, I 0], hWT64, .b true, hWT65⟩
def eWT51 : Entry := ⟨32, [P 130 0, I 1, I 2, I 0], hWT65, .b true, hWT66⟩
def eWT52 : Entry := ⟨32, [P 130 0, I 1, I 2, I 0], hWT66, .b true, hWT67⟩
def eWT53 : Entry := ⟨7, [P 130 0, .agg [I 8, I 0, I 0, I 0, I 0, W 0, .f .f64 0, .nsl]], hWT68, .tup [.agg [.f .f64 0, I 0, W 0], I 0], hWT69⟩
def eWT54 : Entry := ⟨7, [P 130 0, .agg [I 8, I 0, I 0, I 0, I 0, W 0, .f .f64 0, .nsl]], hWT69, .tup [.agg [.f .f64 0, I 0, W 0], I 0], hWT70⟩
def eWT55 : Entry := ⟨7, [P 130 0, .agg [I 8, I 0, I 0, I 0, I 0, W 0, .f .f64 0, .nsl]], hWT70, .tup [.agg [.f .f64 0, I 0, W 0], I 0], hWT70⟩
def eWT56 : Entry := ⟨7, [P 130 0, .agg [I 8, I 0, I 0, I 0, I 0, W 0, .f .f64 0, .nsl]], hWT71, .tup [.agg [.f .f64 0, I 0, W 0], I 0], hWT77⟩
def eWT57 : Entry := ⟨32, [P 130 0, I 1, I 0, I 0], hWT72, .b true, hWT73⟩
def eWT58 : Entry := ⟨32, [P 130 0, I 1, I 0, I 0], hWT73, .b true, hWT74⟩
def eWT59 : Entry := ⟨32, [P 130 0, I 1, I 2, I 0], hWT74, .b true, hWT75⟩
def eWT60 : Entry := ⟨32, [P 130 0, I 1, I 2, I 0], hWT75, .b true, hWT76⟩
def eWT61 : Entry := ⟨7, [P 130 0, .agg [I 8, I 0, I 0, I 0, I 0, W 0, .f .f64 0, .nsl]], hWT77, .tup [.agg [.f .f64 0, I 0, W 0], I 0], hWT78⟩
def eWT62 : Entry := ⟨7, [P 130 0, .agg [I 8, I 0, I 0, I 0, I 0, W 0, .f .f64 0, .nsl]], hWT78, .tup [.agg [.f .f64 0, I 0, W 0], I 0], hWT79⟩
def eWT63 : Entry := ⟨7, [P 130 0, .agg [I 8, I 0, I 0, I 0, I 0, W 0, .f .f64 0, .nsl]], hWT79, .tup [.agg [.f .f64 0, I 0, W 0], I 0], hWT79⟩
def eWT64 : Entry := ⟨7, [P 130 0, .agg [I 1, I 1, I 0, I 0, I 0, W 0, .tok 600, .nsl]], hWT77, .tup [.agg [.f .f64 0, I 0, W 0], I 0], hWT80⟩
def eWT65 : Entry := ⟨7, [P 130 0, .agg [I 8, I 0, I 0, I 0, I 0, W 0, .f .f64 0, .nsl]], hWT81, .tup [.agg [.f .f64 0, I 0, W 0], I 0], hWT85⟩
def eWT66 : Entry := ⟨32, [P 130 0, I 1, I 0, I 0], hWT82, .b true, hWT83⟩
def eWT67 : Entry := ⟨32, [P 130 0, I 1, I 2, I 0], hWT83, .b true, hWT84⟩
def eWT68 : Entry := ⟨7, [P 130 0, .agg [I 8, I 0, I 0, I 0, I 0, W 0, .f .f64 0, .nsl]], hWT85, .tup [.agg [.f .f64 0, I 0, W 0], I 0], hWT86⟩
def eWT69 : Entry := ⟨7, [P 130 0, .agg [I 8, I 0, I 0, I 0, I 0, W 0, .f .f64 0, .nsl]], hWT86, .tup [.agg [.f .f64 0, I 0, W 0], I 0], hWT87⟩
def eWT70 : Entry := ⟨7, [P 130 0, .agg [I 8, I 0, I 0, I 0, I 0, W 0, .f .f64 0, .nsl]], hWT87, .tup [.agg [.f .f64 0, I 0, W 0], I 0], hWT87⟩
def eWT71 : Entry := ⟨7, [P 130 0, .agg [I 1, I 1, I 0, I 0, I 0, W 0, .tok 700, .nsl]], hWT81, .tup [.agg [.f .f64 0, I 0, W 0], I 0], hWT88⟩
def eWT72 : Entry := ⟨7, [P 130 0, .agg [I 8, I 0, I 0, I 0, I 0, W 0, .f .f64 0, .nsl]], hWT89, .tup [.agg [.f .f64 0, I 0, W 0], I 0], hWT95⟩
def eWT73 : Entry := ⟨32, [P 130 0, I 1, I 0, I 0], hWT90, .b true, hWT91⟩
def eWT74 : Entry := ⟨32, [P 130 0, I 1, I 0, I 0], hWT91, .b true, hWT92⟩
def eWT75 : Entry := ⟨32, [P 130 0, I 1, I 2, I 0], hWT92, .b true, hWT93⟩
def eWT76 : Entry := ⟨32, [P 130 0, I 1, I 2, I 0], hWT93, .b true, hWT94⟩
def eWT77 : Entry := ⟨7, [P 130 0, .agg [I 8, I 0, I 0, I 0, I 0, W 0, .f .f64 0, .nsl]], hWT95, .tup [.agg [.f .f64 0, I 0, W 0], I 0], hWT96⟩
def eWT78 : Entry := ⟨7, [P 130 0, .agg [I 8, I 0, I 0, I 0, I 0, W 0, .f .f64 0, .nsl]], hWT96, .tup [.agg [.f .f64 0, I 0, W 0], I 0], hWT97⟩
def eWT79 : Entry := ⟨7, [P 130 0, .agg [I 8, I 0, I 0, I 0, I 0, W 0, .f .f64 0, .nsl]], hWT97, .tup [.agg [.f .f64 0, I 0, W 0], I 0], hWT97⟩
def subWT : List Entry := [eWT3, eWT4, eWT10, eWT11, eWT12, eWT13, eWT19, eWT20, eWT21, eWT22, eWT24, eWT25, eWT31, eWT32, eWT33, eWT34, eWT36, eWT37, eWT38, eWT39, eWT44, eWT45, eWT46, eWT47, eWT49, eWT50, eWT51, eWT52, eWT57, eWT58, eWT59, eWT60, eWT66, eWT67, eWT73, eWT74, eWT75, eWT76]
def EWT : Env := withE (EG 3) [32] subWT
def mainWT1 : List Entry := [eWT0, eWT1, eWT2, eWT5, eWT6, eWT7]
def mainWT2 : List Entry := [eWT0, eWT1, eWT8, eWT9, eWT14, eWT15, eWT16]
def mainWT3 : List Entry := [eWT0, eWT1, eWT8, eWT17, eWT18, eWT23, eWT26, eWT27, eWT28]
def mainWT4 : List Entry := [eWT0, eWT1, eWT8, eWT17, eWT29, eWT30, eWT35, eWT40, eWT41, eWT42]
def mainWT5 : List Entry := [eWT0, eWT1, eWT8, eWT17, eWT29, eWT43, eWT48, eWT53, eWT54, eWT55]
def mainWT6 : List Entry := [eWT0, eWT1, eWT8, eWT17, eWT29, eWT43, eWT56, eWT61, eWT62, eWT63]
def mainWT7 : List Entry := [eWT0, eWT1, eWT8, eWT17, eWT29, eWT43, eWT56, eWT64, eWT65, eWT68, eWT69, eWT70]
def mainWT8 : List Entry := [eWT0, eWT1, eWT8, eWT17, eWT29, eWT43, eWT56, eWT64, eWT71, eWT72, eWT77, eWT78, eWT79]
end
end Go.Proofs.YtjddbeecnnbebaaGreatDoor
