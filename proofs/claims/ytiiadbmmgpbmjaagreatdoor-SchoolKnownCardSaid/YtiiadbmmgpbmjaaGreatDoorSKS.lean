/-
  The heaps before and behind the calls of this run.
-/
import Derived.Test.YtiiadbmmgpbmjaaGreatDoorSEnv
namespace Go.Proofs.YtiiadbmmgpbmjaaGreatDoor
open Go.Av
set_option maxRecDepth 1000000
noncomputable section
def hSK0 : AH := AH.edit emptyH 0 [] []
def hSK1 : AH := AH.edit hSK0 126 [] []
def hSK2 : AH := AH.edit hSK1 268 [] [(130, C 1 [.nsl]),
  (131, C 11 [I 3, .imm [W 7] 1, I 2, I 3, I 2, I 8, I 64, I 1, P 130 0, O 253 0 3, O 254 0 3]),
  (136, C 3 [.f .f64 0, N 0, W 0]),
  (137, C 11 [I 3, .imm [W 7] 1, I 2, I 3, I 2, I 8, I 64, I 1, I 0, O 136 0 1, W 0]),
  (138, C 1 [W 7]),
  (139, C 1 [.nsl, .nsl, .nsl]),
  (140, C 17 [I 3, O 138 0 1, I 2, I 3, I 2, I 8, I 64, I 1, I 0, P 130 0, O 164 0 3, .ifc 138 (P 151 0), P 137 0, W 0, O 139 0 3, N 0, .nsl]),
  (143, C 1 [W 0, W 0, W 0]),
  (145, C 1 [W 0, W 0, W 0]),
  (147, C 1 [W 0, W 0, W 0]),
  (148, C 1 [O 143 0 3, O 145 0 3, O 147 0 3]),
  (150, C 1 [W 0, W 0, W 0]),
  (151, C 5 [I 3, I 0, I 3, O 148 0 3, O 150 0 3]),
  (153, C 5 [I 2, I 8, I 2, I 0, I 0]),
  (154, C 6 [I 2, I 3, P 153 0, .nsl, .nsl, W 0]),
  (155, .map []),
  (156, C 3 [W 2, W 1, .m (some 155)]),
  (157, C 2 [P 154 0, P 156 0]),
  (159, C 5 [I 2, I 8, I 2, I 0, I 0]),
  (160, C 6 [I 2, I 3, P 159 0, .nsl, .nsl, W 0]),
  (161, .map []),
  (162, C 3 [W 2, W 1, .m (some 161)]),
  (163, C 2 [P 160 0, P 162 0]),
  (164, C 1 [.p none, P 157 0, P 163 0]),
  (165, C 5 [.nsl, I 0, I 0, I 0, I 0]),
  (167, C 5 [.nsl, I 0, I 0, I 0, I 0]),
  (169, C 5 [.nsl, I 0, I 0, I 0, I 0]),
  (170, C 1 [P 165 0, P 167 0, P 169 0]),
  (177, C 3 [.f .f64 0, N 0, W 0]),
  (178, C 11 [I 3, .imm [W 7] 1, I 2, I 3, I 2, I 8, I 64, I 1, I 1, O 177 0 1, W 0]),
  (179, C 1 [W 7]),
  (180, C 1 [.nsl, .nsl, .nsl]),
  (181, C 17 [I 3, O 179 0 1, I 2, I 3, I 2, I 8, I 64, I 1, I 1, P 130 0, O 205 0 3, .ifc 138 (P 192 0), P 178 0, W 0, O 180 0 3, N 0, .nsl]),
  (184, C 1 [W 0, W 0, W 0]),
  (186, C 1 [W 0, W 0, W 0]),
  (188, C 1 [W 0, W 0, W 0]),
  (189, C 1 [O 184 0 3, O 186 0 3, O 188 0 3]),
  (191, C 1 [W 0, W 0, W 0]),
  (192, C 5 [I 3, I 1, I 3, O 189 0 3, O 191 0 3]),
  (193, C 5 [I 2, I 8, I 2, I 0, I 0]),
  (194, C 6 [I 2, I 3, P 193 0, .nsl, .nsl, W 0]),
  (195, .map []),
  (196, C 3 [W 2, W 1, .m (some 195)]),
  (197, C 2 [P 194 0, P 196 0]),
  (200, C 5 [I 2, I 8, I 2, I 0, I 0]),
  (201, C 6 [I 2, I 3, P 200 0, .nsl, .nsl, W 0]),
  (202, .map []),
  (203, C 3 [W 2, W 1, .m (some 202)]),
  (204, C 2 [P 201 0, P 203 0]),
  (205, C 1 [P 197 0, .p none, P 204 0]),
  (206, C 5 [.nsl, I 0, I 0, I 0, I 0]),
  (208, C 5 [.nsl, I 0, I 0, I 0, I 0]),
  (210, C 5 [.nsl, I 0, I 0, I 0, I 0]),
  (211, C 1 [P 206 0, P 208 0, P 210 0]),
  (218, C 3 [.f .f64 0, N 0, W 0]),
  (219, C 11 [I 3, .imm [W 7] 1, I 2, I 3, I 2, I 8, I 64, I 1, I 2, O 218 0 1, W 0]),
  (220, C 1 [W 7]),
  (221, C 1 [.nsl, .nsl, .nsl]),
  (222, C 17 [I 3, O 220 0 1, I 2, I 3, I 2, I 8, I 64, I 1, I 2, P 130 0, O 246 0 3, .ifc 138 (P 233 0), P 219 0, W 0, O 221 0 3, N 0, .nsl]),
  (225, C 1 [W 0, W 0, W 0]),
  (227, C 1 [W 0, W 0, W 0]),
  (229, C 1 [W 0, W 0, W 0]),
  (230, C 1 [O 225 0 3, O 227 0 3, O 229 0 3]),
  (232, C 1 [W 0, W 0, W 0]),
  (233, C 5 [I 3, I 2, I 3, O 230 0 3, O 232 0 3]),
  (234, C 5 [I 2, I 8, I 2, I 0, I 0]),
  (235, C 6 [I 2, I 3, P 234 0, .nsl, .nsl, W 0]),
  (236, .map []),
  (237, C 3 [W 2, W 1, .m (some 236)]),
  (238, C 2 [P 235 0, P 237 0]),
  (240, C 5 [I 2, I 8, I 2, I 0, I 0]),
  (241, C 6 [I 2, I 3, P 240 0, .nsl, .nsl, W 0]),
  (242, .map []),
  (243, C 3 [W 2, W 1, .m (some 242)]),
  (244, C 2 [P 241 0, P 243 0]),
  (246, C 1 [P 238 0, P 244 0, .p none]),
  (247, C 5 [.nsl, I 0, I 0, I 0, I 0]),
  (249, C 5 [.nsl, I 0, I 0, I 0, I 0]),
  (251, C 5 [.nsl, I 0, I 0, I 0, I 0]),
  (252, C 1 [P 247 0, P 249 0, P 251 0]),
  (253, C 1 [P 140 0, P 181 0, P 222 0]),
  (254, C 1 [O 170 0 3, O 211 0 3, O 252 0 3]),
  (257, C 3 [.f .f64 0, I 0, W 0]),
  (260, C 3 [.f .f64 0, I 0, W 0]),
  (263, C 3 [.f .f64 0, I 0, W 0]),
  (267, C 3 [.f .f64 0, I 0, W 0])]
def hSK3 : AH := AH.edit hSK2 372 [143, 145, 147, 148] [(130, C 1 [O 367 0 2]),
  (136, C 3 [.f .f64 4611686018427387904, I 0, W 1]),
  (137, C 11 [I 3, .imm [W 7] 1, I 2, I 3, I 2, I 8, I 64, I 1, I 0, O 136 0 1, W 1]),
  (140, C 17 [I 3, O 138 0 1, I 2, I 3, I 2, I 8, I 64, I 1, I 0, P 130 0, O 164 0 3, .ifc 138 (P 151 0), P 137 0, W 1, O 139 0 3, N 0, .nsl]),
  (151, C 5 [I 3, I 0, I 3, .imm [.imm [W 0, W 1, W 1] 3, .imm [W 0, W 0, W 0] 3, .imm [W 0, W 0, W 0] 3] 3, O 150 0 3]),
  (153, C 5 [I 2, I 8, I 2, I 2, I 0]),
  (154, C 6 [I 2, I 3, P 153 0, O 350 0 1, O 349 1 0, W 1]),
  (159, C 5 [I 2, I 8, I 2, I 2, I 0]),
  (160, C 6 [I 2, I 3, P 159 0, O 359 0 1, O 358 1 0, W 1]),
  (167, C 5 [O 369 0 1, I 1, I 0, I 0, I 0]),
  (169, C 5 [O 371 0 1, I 1, I 0, I 0, I 0]),
  (349, C 1 [.imm [Y 0, Y 1, Y 6, Y 1, Y 0, Y 192, Y 0, Y 0, Y 0, Y 0, Y 0, Y 0, Y 0, Y 1, Y 1, Y 9, Y 0, Y 0, Y 0, Y 0, Y 0, Y 0, Y 0, Y 0, Y 0] 25]),
  (350, C 2 [W 1, .imm [Y 0, Y 1, Y 6, Y 1, Y 0, Y 192, Y 0, Y 0, Y 0, Y 0, Y 0, Y 0, Y 0, Y 1, Y 1, Y 9, Y 0, Y 0, Y 0, Y 0, Y 0, Y 0, Y 0, Y 0, Y 0] 25]),
  (358, C 1 [.imm [Y 0, Y 1, Y 6, Y 1, Y 0, Y 192, Y 0, Y 0, Y 0, Y 0, Y 0, Y 0, Y 0, Y 1, Y 1, Y 9, Y 0, Y 0, Y 0, Y 0, Y 0, Y 0, Y 0, Y 0, Y 0] 25]),
  (359, C 2 [W 1, .imm [Y 0, Y 1, Y 6, Y 1, Y 0, Y 192, Y 0, Y 0, Y 0, Y 0, Y 0, Y 0, Y 0, Y 1, Y 1, Y 9, Y 0, Y 0, Y 0, Y 0, Y 0, Y 0, Y 0, Y 0, Y 0] 25]),
  (367, C 9 [I 3, I 0, I 0, W 0, W 0, I 0, .f .f64 4611686018427387904, W 1, I 0, I 1, I 0, I 0, W 1, W 6, I 0, .f .f64 0, W 0, I 0]),
  (369, C 1 [.imm [Y 0, Y 1, Y 25, Y 0, Y 1, Y 6, Y 1, Y 0, Y 192, Y 0, Y 0, Y 0, Y 0, Y 0, Y 0, Y 0, Y 1, Y 1, Y 9, Y 0, Y 0, Y 0, Y 0, Y 0, Y 0, Y 0, Y 0, Y 0] 28]),
  (371, C 1 [.imm [Y 0, Y 1, Y 25, Y 0, Y 1, Y 6, Y 1, Y 0, Y 192, Y 0, Y 0, Y 0, Y 0, Y 0, Y 0, Y 0, Y 1, Y 1, Y 9, Y 0, Y 0, Y 0, Y 0, Y 0, Y 0, Y 0, Y 0, Y 0] 28])]
def hSK4 : AH := AH.edit hSK3 392 [] [(167, C 5 [O 369 0 0, I 1, I 0, I 1, I 0]),
  (369, C 1 [.nsl]),
  (381, C 4 [.b false, W 1, I 0, W 1])]
def hSK5 : AH := AH.edit hSK4 421 [369, 371] [(153, C 5 [I 2, I 8, I 8, I 6, I 2]),
  (159, C 5 [I 2, I 8, I 8, I 6, I 2]),
  (167, C 5 [O 418 0 2, I 3, I 0, I 1, I 0]),
  (169, C 5 [O 420 0 3, I 3, I 0, I 0, I 0]),
  (392, C 8 [I 8, I 0, I 0, I 0, I 0, W 0, .f .f64 0, .nsl]),
  (393, C 3 [.f .f64 0, I 0, W 0]),
  (418, C 1 [.imm [Y 0, Y 1, Y 25, Y 0, Y 1, Y 6, Y 1, Y 0, Y 192, Y 0, Y 0, Y 0, Y 0, Y 0, Y 0, Y 0, Y 1, Y 1, Y 9, Y 0, Y 0, Y 0, Y 0, Y 0, Y 0, Y 0, Y 0, Y 0] 28, .imm [Y 0, Y 1, Y 25, Y 0, Y 1, Y 6, Y 1, Y 0, Y 192, Y 0, Y 0, Y 0, Y 0, Y 0, Y 0, Y 0, Y 1, Y 1, Y 9, Y 0, Y 0, Y 0, Y 0, Y 0, Y 0, Y 0, Y 0, Y 0] 28]),
  (420, C 1 [.imm [Y 0, Y 1, Y 25, Y 0, Y 1, Y 6, Y 1, Y 0, Y 192, Y 0, Y 0, Y 0, Y 0, Y 0, Y 0, Y 0, Y 1, Y 1, Y 9, Y 0, Y 0, Y 0, Y 0, Y 0, Y 0, Y 0, Y 0, Y 0] 28, .imm [Y 0, Y 1, Y 25, Y 0, Y 1, Y 6, Y 1, Y 0, Y 192, Y 0, Y 0, Y 0, Y 0, Y 0, Y 0, Y 0, Y 1, Y 1, Y 9, Y 0, Y 0, Y 0, Y 0, Y 0, Y 0, Y 0, Y 0, Y 0] 28, .imm [Y 0, Y 1, Y 25, Y 0, Y 1, Y 6, Y 1, Y 0, Y 192, Y 0, Y 0, Y 0, Y 0, Y 0, Y 0, Y 0, Y 1, Y 1, Y 9, Y 0, Y 0, Y 0, Y 0, Y 0, Y 0, Y 0, Y 0, Y 0] 28])]
def hSK6 : AH := AH.edit hSK5 480 [184, 186, 188, 189, 191, 367] [(130, C 1 [O 472 0 3]),
  (167, C 5 [O 418 0 1, I 3, I 1, I 1, I 0]),
  (177, C 3 [.f .f64 4611686018427387904, I 0, W 1]),
  (180, C 1 [O 427 10 0, .nsl, .nsl]),
  (192, C 5 [I 3, I 1, I 3, .imm [.imm [W 0, W 1, W 1] 3, .imm [W 0, W 0, W 0] 3, .imm [W 0, W 0, W 0] 3] 3, .imm [W 1, W 0, W 0] 3]),
  (196, C 3 [W 2, W 2, .m (some 195)]),
  (206, C 5 [O 479 0 1, I 1, I 0, I 0, I 0]),
  (418, C 1 [.imm [Y 0, Y 1, Y 25, Y 0, Y 1, Y 6, Y 1, Y 0, Y 192, Y 0, Y 0, Y 0, Y 0, Y 0, Y 0, Y 0, Y 1, Y 1, Y 9, Y 0, Y 0, Y 0, Y 0, Y 0, Y 0, Y 0, Y 0, Y 0] 28, .nsl]),
  (427, C 10 [I 0, W 1, W 6, I 1, I 0, .f .f64 4611686018427387904, I 0, W 1, .nsl, .imm [Y 0, Y 0, Y 0, Y 0, Y 0, Y 0, Y 0, Y 0, Y 0] 9]),
  (472, C 9 [I 3, I 0, I 0, W 0, W 0, I 0, .f .f64 4611686018427387904, W 1, I 0, I 1, I 0, I 0, W 1, W 6, I 0, .f .f64 0, W 0, I 0, I 2, I 1, I 0, W 1, W 0, I 0, .f .f64 0, W 0, I 0]),
  (479, C 1 [.imm [Y 1, Y 1] 2])]
def hSK7 : AH := AH.edit hSK6 488 [479] [(167, C 5 [O 418 0 0, I 3, I 2, I 1, I 0]),
  (206, C 5 [O 487 0 2, I 2, I 0, I 0, I 0]),
  (418, C 1 [.nsl, .nsl]),
  (487, C 1 [.imm [Y 1, Y 1] 2, .imm [Y 1, Y 1] 2])]
def hSK8 : AH := AH.edit hSK7 547 [225, 227, 229, 230, 232, 472] [(130, C 1 [O 539 0 4]),
  (169, C 5 [O 420 0 2, I 3, I 1, I 0, I 0]),
  (218, C 3 [.f .f64 4611686018427387904, I 0, W 1]),
  (221, C 1 [O 494 10 0, .nsl, .nsl]),
  (233, C 5 [I 3, I 2, I 3, .imm [.imm [W 0, W 1, W 1] 3, .imm [W 0, W 0, W 0] 3, .imm [W 0, W 0, W 0] 3] 3, .imm [W 1, W 0, W 0] 3]),
  (237, C 3 [W 2, W 2, .m (some 236)]),
  (247, C 5 [O 546 0 1, I 1, I 0, I 0, I 0]),
  (420, C 1 [.imm [Y 0, Y 1, Y 25, Y 0, Y 1, Y 6, Y 1, Y 0, Y 192, Y 0, Y 0, Y 0, Y 0, Y 0, Y 0, Y 0, Y 1, Y 1, Y 9, Y 0, Y 0, Y 0, Y 0, Y 0, Y 0, Y 0, Y 0, Y 0] 28, .imm [Y 0, Y 1, Y 25, Y 0, Y 1, Y 6, Y 1, Y 0, Y 192, Y 0, Y 0, Y 0, Y 0, Y 0, Y 0, Y 0, Y 1, Y 1, Y 9, Y 0, Y 0, Y 0, Y 0, Y 0, Y 0, Y 0, Y 0, Y 0] 28, .nsl]),
  (494, C 10 [I 0, W 1, W 6, I 1, I 0, .f .f64 4611686018427387904, I 0, W 1, .nsl, .imm [Y 0, Y 0, Y 0, Y 0, Y 0, Y 0, Y 0, Y 0, Y 0] 9]),
  (539, C 9 [I 3, I 0, I 0, W 0, W 0, I 0, .f .f64 4611686018427387904, W 1, I 0, I 1, I 0, I 0, W 1, W 6, I 0, .f .f64 0, W 0, I 0, I 2, I 1, I 0, W 1, W 0, I 0, .f .f64 0, W 0, I 0, I 2, I 2, I 0, W 1, W 0, I 0, .f .f64 0, W 0, I 0]),
  (546, C 1 [.imm [Y 1, Y 1] 2])]
def hSK9 : AH := AH.edit hSK8 595 [392, 393, 546] [(153, C 5 [I 2, I 8, I 2, I 0, I 2]),
  (154, C 6 [I 2, I 3, P 153 0, O 350 0 0, O 349 1 0, W 1]),
  (159, C 5 [I 2, I 8, I 2, I 0, I 2]),
  (160, C 6 [I 2, I 3, P 159 0, O 359 0 0, O 358 1 0, W 1]),
  (169, C 5 [O 420 0 0, I 3, I 3, I 0, I 0]),
  (206, C 5 [O 487 0 0, I 2, I 2, I 0, I 0]),
  (247, C 5 [O 562 0 0, I 3, I 3, I 0, I 0]),
  (350, C 2 [W 0, .nsl]),
  (359, C 2 [W 0, .nsl]),
  (420, C 1 [.nsl, .nsl, .nsl]),
  (487, C 1 [.nsl, .nsl]),
  (562, C 1 [.nsl, .nsl, .nsl])]
def hSK10 : AH := AH.edit hSK9 597 [] []
def hSK11 : AH := AH.edit hSK10 599 [] []
def hSK12 : AH := AH.edit hSK11 601 [] []
def hSK13 : AH := AH.edit hSK12 603 [] []
def hSK14 : AH := AH.edit hSK13 605 [] []
def hSK15 : AH := AH.edit hSK14 607 [] []
def hSK16 : AH := AH.edit hSK15 609 [] []
def eSK0 : Entry := ⟨4, [], hSK0, .b true, hSK1⟩
def eSK1 : Entry := ⟨7, [P 131 0, .agg [I 1, I 0, I 0, I 0, I 0, W 0, .f .f64 4611686018427387904, .nsl]], hSK2, .tup [.agg [.f .f64 0, I 0, W 0], I 0], hSK3⟩
def eSK2 : Entry := ⟨44, [P 131 0, I 0, I 1, I 0], hSK5, .b true, hSK6⟩
def eSK3 : Entry := ⟨44, [P 131 0, I 0, I 2, I 0], hSK7, .b true, hSK8⟩
def eSK4 : Entry := ⟨7, [P 131 0, .agg [I 8, I 0, I 0, I 0, I 0, W 0, .f .f64 0, .nsl]], hSK4, .tup [.agg [.f .f64 0, I 0, W 0], I 0], hSK9⟩
def eSK5 : Entry := ⟨7, [P 131 0, .agg [I 8, I 0, I 0, I 0, I 0, W 0, .f .f64 0, .nsl]], hSK9, .tup [.agg [.f .f64 0, I 0, W 0], I 0], hSK10⟩
def eSK6 : Entry := ⟨7, [P 131 0, .agg [I 8, I 0, I 0, I 0, I 0, W 0, .f .f64 0, .nsl]], hSK10, .tup [.agg [.f .f64 0, I 0, W 0], I 0], hSK11⟩
def eSK7 : Entry := ⟨7, [P 131 0, .agg [I 8, I 0, I 0, I 0, I 0, W 0, .f .f64 0, .nsl]], hSK11, .tup [.agg [.f .f64 0, I 0, W 0], I 0], hSK12⟩
def eSK8 : Entry := ⟨7, [P 131 0, .agg [I 8, I 0, I 0, I 0, I 0, W 0, .f .f64 0, .nsl]], hSK12, .tup [.agg [.f .f64 0, I 0, W 0], I 0], hSK13⟩
def eSK9 : Entry := ⟨7, [P 131 0, .agg [I 8, I 0, I 0, I 0, I 0, W 0, .f .f64 0, .nsl]], hSK13, .tup [.agg [.f .f64 0, I 0, W 0], I 0], hSK14⟩
def eSK10 : Entry := ⟨7, [P 131 0, .agg [I 8, I 0, I 0, I 0, I 0, W 0, .f .f64 0, .nsl]], hSK14, .tup [.agg [.f .f64 0, I 0, W 0], I 0], hSK15⟩
def eSK11 : Entry := ⟨7, [P 131 0, .agg [I 8, I 0, I 0, I 0, I 0, W 0, .f .f64 0, .nsl]], hSK15, .tup [.agg [.f .f64 0, I 0, W 0], I 0], hSK16⟩
def subSK : List Entry := [eSK2, eSK3]
def mainSK : List Entry := [eSK0, eSK1, eSK4, eSK5, eSK6, eSK7, eSK8, eSK9, eSK10, eSK11]
def ESK : Env := withE (ES) [44] subSK
end
end Go.Proofs.YtiiadbmmgpbmjaaGreatDoor
