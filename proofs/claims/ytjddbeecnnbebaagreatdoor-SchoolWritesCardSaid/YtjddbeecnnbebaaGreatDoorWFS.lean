/-
  The heaps before and behind the calls of these runs.
-/
import Derived.Test.YtjddbeecnnbebaaGreatDoorBEnv
namespace Go.Proofs.YtjddbeecnnbebaaGreatDoor
open Go.Av
set_option maxRecDepth 1000000
noncomputable section
def hWF0 : AH := AH.edit emptyH 0 [] []
def hWF1 : AH := AH.edit hWF0 126 [] []
def hWF2 : AH := AH.edit hWF1 254 [] [(129, C 1 [.nsl]),
  (130, C 11 [I 3, .imm [W 7] 1, I 2, I 3, I 2, I 8, I 64, I 1, P 129 0, O 252 0 3, O 253 0 3]),
  (135, C 3 [.f .f64 0, N 0, W 0]),
  (136, C 11 [I 3, .imm [W 7] 1, I 2, I 3, I 2, I 8, I 64, I 1, I 0, O 135 0 1, W 0]),
  (137, C 1 [W 7]),
  (138, C 1 [.nsl, .nsl, .nsl]),
  (139, C 17 [I 3, O 137 0 1, I 2, I 3, I 2, I 8, I 64, I 1, I 0, P 129 0, O 163 0 3, .ifc 105 (P 150 0), P 136 0, W 0, O 138 0 3, N 0, .nsl]),
  (142, C 1 [W 0, W 0, W 0]),
  (144, C 1 [W 0, W 0, W 0]),
  (146, C 1 [W 0, W 0, W 0]),
  (147, C 1 [O 142 0 3, O 144 0 3, O 146 0 3]),
  (149, C 1 [W 0, W 0, W 0]),
  (150, C 5 [I 3, I 0, I 3, O 147 0 3, O 149 0 3]),
  (152, C 5 [I 2, I 8, I 2, I 0, I 0]),
  (153, C 6 [I 2, I 3, P 152 0, .nsl, .nsl, W 0]),
  (154, .map []),
  (155, C 3 [W 2, W 1, .m (some 154)]),
  (156, C 2 [P 153 0, P 155 0]),
  (158, C 5 [I 2, I 8, I 2, I 0, I 0]),
  (159, C 6 [I 2, I 3, P 158 0, .nsl, .nsl, W 0]),
  (160, .map []),
  (161, C 3 [W 2, W 1, .m (some 160)]),
  (162, C 2 [P 159 0, P 161 0]),
  (163, C 1 [.p none, P 156 0, P 162 0]),
  (164, C 5 [.nsl, I 0, I 0, I 0, I 0]),
  (166, C 5 [.nsl, I 0, I 0, I 0, I 0]),
  (168, C 5 [.nsl, I 0, I 0, I 0, I 0]),
  (169, C 1 [P 164 0, P 166 0, P 168 0]),
  (176, C 3 [.f .f64 0, N 0, W 0]),
  (177, C 11 [I 3, .imm [W 7] 1, I 2, I 3, I 2, I 8, I 64, I 1, I 1, O 176 0 1, W 0]),
  (178, C 1 [W 7]),
  (179, C 1 [.nsl, .nsl, .nsl]),
  (180, C 17 [I 3, O 178 0 1, I 2, I 3, I 2, I 8, I 64, I 1, I 1, P 129 0, O 204 0 3, .ifc 105 (P 191 0), P 177 0, W 0, O 179 0 3, N 0, .nsl]),
  (183, C 1 [W 0, W 0, W 0]),
  (185, C 1 [W 0, W 0, W 0]),
  (187, C 1 [W 0, W 0, W 0]),
  (188, C 1 [O 183 0 3, O 185 0 3, O 187 0 3]),
  (190, C 1 [W 0, W 0, W 0]),
  (191, C 5 [I 3, I 1, I 3, O 188 0 3, O 190 0 3]),
  (192, C 5 [I 2, I 8, I 2, I 0, I 0]),
  (193, C 6 [I 2, I 3, P 192 0, .nsl, .nsl, W 0]),
  (194, .map []),
  (195, C 3 [W 2, W 1, .m (some 194)]),
  (196, C 2 [P 193 0, P 195 0]),
  (199, C 5 [I 2, I 8, I 2, I 0, I 0]),
  (200, C 6 [I 2, I 3, P 199 0, .nsl, .nsl, W 0]),
  (201, .map []),
  (202, C 3 [W 2, W 1, .m (some 201)]),
  (203, C 2 [P 200 0, P 202 0]),
  (204, C 1 [P 196 0, .p none, P 203 0]),
  (205, C 5 [.nsl, I 0, I 0, I 0, I 0]),
  (207, C 5 [.nsl, I 0, I 0, I 0, I 0]),
  (209, C 5 [.nsl, I 0, I 0, I 0, I 0]),
  (210, C 1 [P 205 0, P 207 0, P 209 0]),
  (217, C 3 [.f .f64 0, N 0, W 0]),
  (218, C 11 [I 3, .imm [W 7] 1, I 2, I 3, I 2, I 8, I 64, I 1, I 2, O 217 0 1, W 0]),
  (219, C 1 [W 7]),
  (220, C 1 [.nsl, .nsl, .nsl]),
  (221, C 17 [I 3, O 219 0 1, I 2, I 3, I 2, I 8, I 64, I 1, I 2, P 129 0, O 245 0 3, .ifc 105 (P 232 0), P 218 0, W 0, O 220 0 3, N 0, .nsl]),
  (224, C 1 [W 0, W 0, W 0]),
  (226, C 1 [W 0, W 0, W 0]),
  (228, C 1 [W 0, W 0, W 0]),
  (229, C 1 [O 224 0 3, O 226 0 3, O 228 0 3]),
  (231, C 1 [W 0, W 0, W 0]),
  (232, C 5 [I 3, I 2, I 3, O 229 0 3, O 231 0 3]),
  (233, C 5 [I 2, I 8, I 2, I 0, I 0]),
  (234, C 6 [I 2, I 3, P 233 0, .nsl, .nsl, W 0]),
  (235, .map []),
  (236, C 3 [W 2, W 1, .m (some 235)]),
  (237, C 2 [P 234 0, P 236 0]),
  (239, C 5 [I 2, I 8, I 2, I 0, I 0]),
  (240, C 6 [I 2, I 3, P 239 0, .nsl, .nsl, W 0]),
  (241, .map []),
  (242, C 3 [W 2, W 1, .m (some 241)]),
  (243, C 2 [P 240 0, P 242 0]),
  (245, C 1 [P 237 0, P 243 0, .p none]),
  (246, C 5 [.nsl, I 0, I 0, I 0, I 0]),
  (248, C 5 [.nsl, I 0, I 0, I 0, I 0]),
  (250, C 5 [.nsl, I 0, I 0, I 0, I 0]),
  (251, C 1 [P 246 0, P 248 0, P 250 0]),
  (252, C 1 [P 139 0, P 180 0, P 221 0]),
  (253, C 1 [O 169 0 3, O 210 0 3, O 251 0 3])]
def hWF3 : AH := AH.edit hWF2 358 [183, 185, 187, 188] [(129, C 1 [O 353 0 2]),
  (176, C 3 [.tok 6, I 1, W 1]),
  (177, C 11 [I 3, .imm [W 7] 1, I 2, I 3, I 2, I 8, I 64, I 1, I 1, O 176 0 1, W 1]),
  (180, C 17 [I 3, O 178 0 1, I 2, I 3, I 2, I 8, I 64, I 1, I 1, P 129 0, O 204 0 3, .ifc 105 (P 191 0), P 177 0, W 1, O 179 0 3, N 0, .nsl]),
  (191, C 5 [I 3, I 1, I 3, .imm [.imm [W 0, W 0, W 0] 3, .imm [W 1, W 0, W 1] 3, .imm [W 0, W 0, W 0] 3] 3, O 190 0 3]),
  (192, C 5 [I 2, I 8, I 2, I 2, I 0]),
  (193, C 6 [I 2, I 3, P 192 0, O 336 0 1, O 335 1 0, W 1]),
  (199, C 5 [I 2, I 8, I 2, I 2, I 0]),
  (200, C 6 [I 2, I 3, P 199 0, O 345 0 1, O 344 1 0, W 1]),
  (205, C 5 [O 355 0 1, I 1, I 0, I 0, I 0]),
  (209, C 5 [O 357 0 1, I 1, I 0, I 0, I 0]),
  (335, C 1 [.imm [Y 1, Y 1, Y 5, Y 1, Y 0, .tok 27, .tok 26, .tok 25, .tok 24, .tok 23, .tok 22, .tok 21, .tok 20, Y 2, Y 1, Y 9, Y 0, Y 0, Y 0, Y 0, Y 0, Y 0, Y 0, Y 0, Y 0] 25]),
  (336, C 2 [W 1, .imm [Y 1, Y 1, Y 5, Y 1, Y 0, .tok 27, .tok 26, .tok 25, .tok 24, .tok 23, .tok 22, .tok 21, .tok 20, Y 2, Y 1, Y 9, Y 0, Y 0, Y 0, Y 0, Y 0, Y 0, Y 0, Y 0, Y 0] 25]),
  (344, C 1 [.imm [Y 1, Y 1, Y 5, Y 1, Y 0, .tok 27, .tok 26, .tok 25, .tok 24, .tok 23, .tok 22, .tok 21, .tok 20, Y 2, Y 1, Y 9, Y 0, Y 0, Y 0, Y 0, Y 0, Y 0, Y 0, Y 0, Y 0] 25]),
  (345, C 2 [W 1, .imm [Y 1, Y 1, Y 5, Y 1, Y 0, .tok 27, .tok 26, .tok 25, .tok 24, .tok 23, .tok 22, .tok 21, .tok 20, Y 2, Y 1, Y 9, Y 0, Y 0, Y 0, Y 0, Y 0, Y 0, Y 0, Y 0, Y 0] 25]),
  (353, C 9 [I 3, I 1, I 0, W 0, W 0, I 0, .tok 6, W 1, I 0, I 1, I 1, I 0, W 1, W 5, I 0, .f .f64 0, W 0, I 0]),
  (355, C 1 [.imm [Y 0, Y 1, Y 25, Y 1, Y 1, Y 5, Y 1, Y 0, .tok 27, .tok 26, .tok 25, .tok 24, .tok 23, .tok 22, .tok 21, .tok 20, Y 2, Y 1, Y 9, Y 0, Y 0, Y 0, Y 0, Y 0, Y 0, Y 0, Y 0, Y 0] 28]),
  (357, C 1 [.imm [Y 0, Y 1, Y 25, Y 1, Y 1, Y 5, Y 1, Y 0, .tok 27, .tok 26, .tok 25, .tok 24, .tok 23, .tok 22, .tok 21, .tok 20, Y 2, Y 1, Y 9, Y 0, Y 0, Y 0, Y 0, Y 0, Y 0, Y 0, Y 0, Y 0] 28])]
def hWF4 : AH := AH.edit hWF3 359 [] [(358, C 3 [.f .f64 0, I 0, W 0])]
def hWF5 : AH := AH.edit hWF4 389 [355, 357] [(192, C 5 [I 2, I 8, I 8, I 6, I 2]),
  (199, C 5 [I 2, I 8, I 8, I 6, I 2]),
  (205, C 5 [O 386 0 3, I 3, I 0, I 0, I 0]),
  (209, C 5 [O 388 0 3, I 3, I 0, I 0, I 0]),
  (359, C 8 [I 8, I 0, I 0, I 0, I 0, W 0, .f .f64 0, .nsl]),
  (360, C 3 [.f .f64 0, I 0, W 0]),
  (386, C 1 [.imm [Y 0, Y 1, Y 25, Y 1, Y 1, Y 5, Y 1, Y 0, .tok 27, .tok 26, .tok 25, .tok 24, .tok 23, .tok 22, .tok 21, .tok 20, Y 2, Y 1, Y 9, Y 0, Y 0, Y 0, Y 0, Y 0, Y 0, Y 0, Y 0, Y 0] 28, .imm [Y 0, Y 1, Y 25, Y 1, Y 1, Y 5, Y 1, Y 0, .tok 27, .tok 26, .tok 25, .tok 24, .tok 23, .tok 22, .tok 21, .tok 20, Y 2, Y 1, Y 9, Y 0, Y 0, Y 0, Y 0, Y 0, Y 0, Y 0, Y 0, Y 0] 28, .imm [Y 0, Y 1, Y 25, Y 1, Y 1, Y 5, Y 1, Y 0, .tok 27, .tok 26, .tok 25, .tok 24, .tok 23, .tok 22, .tok 21, .tok 20, Y 2, Y 1, Y 9, Y 0, Y 0, Y 0, Y 0, Y 0, Y 0, Y 0, Y 0, Y 0] 28]),
  (388, C 1 [.imm [Y 0, Y 1, Y 25, Y 1, Y 1, Y 5, Y 1, Y 0, .tok 27, .tok 26, .tok 25, .tok 24, .tok 23, .tok 22, .tok 21, .tok 20, Y 2, Y 1, Y 9, Y 0, Y 0, Y 0, Y 0, Y 0, Y 0, Y 0, Y 0, Y 0] 28, .imm [Y 0, Y 1, Y 25, Y 1, Y 1, Y 5, Y 1, Y 0, .tok 27, .tok 26, .tok 25, .tok 24, .tok 23, .tok 22, .tok 21, .tok 20, Y 2, Y 1, Y 9, Y 0, Y 0, Y 0, Y 0, Y 0, Y 0, Y 0, Y 0, Y 0] 28, .imm [Y 0, Y 1, Y 25, Y 1, Y 1, Y 5, Y 1, Y 0, .tok 27, .tok 26, .tok 25, .tok 24, .tok 23, .tok 22, .tok 21, .tok 20, Y 2, Y 1, Y 9, Y 0, Y 0, Y 0, Y 0, Y 0, Y 0, Y 0, Y 0, Y 0] 28])]
def hWF6 : AH := AH.edit hWF5 448 [142, 144, 146, 147, 149, 353] [(129, C 1 [O 440 0 3]),
  (135, C 3 [.tok 6, I 1, W 1]),
  (138, C 1 [.nsl, O 395 10 0, .nsl]),
  (150, C 5 [I 3, I 0, I 3, .imm [.imm [W 0, W 0, W 0] 3, .imm [W 1, W 0, W 1] 3, .imm [W 0, W 0, W 0] 3] 3, .imm [W 0, W 1, W 0] 3]),
  (155, C 3 [W 2, W 2, .m (some 154)]),
  (166, C 5 [O 447 0 1, I 1, I 0, I 0, I 0]),
  (205, C 5 [O 386 0 2, I 3, I 1, I 0, I 0]),
  (386, C 1 [.imm [Y 0, Y 1, Y 25, Y 1, Y 1, Y 5, Y 1, Y 0, .tok 27, .tok 26, .tok 25, .tok 24, .tok 23, .tok 22, .tok 21, .tok 20, Y 2, Y 1, Y 9, Y 0, Y 0, Y 0, Y 0, Y 0, Y 0, Y 0, Y 0, Y 0] 28, .imm [Y 0, Y 1, Y 25, Y 1, Y 1, Y 5, Y 1, Y 0, .tok 27, .tok 26, .tok 25, .tok 24, .tok 23, .tok 22, .tok 21, .tok 20, Y 2, Y 1, Y 9, Y 0, Y 0, Y 0, Y 0, Y 0, Y 0, Y 0, Y 0, Y 0] 28, .nsl]),
  (395, C 10 [I 1, W 1, W 5, I 1, I 0, .tok 6, I 1, W 1, .nsl, .imm [Y 0, Y 0, Y 0, Y 0, Y 0, Y 0, Y 0, Y 0, Y 0] 9]),
  (440, C 9 [I 3, I 1, I 0, W 0, W 0, I 0, .tok 6, W 1, I 0, I 1, I 1, I 0, W 1, W 5, I 0, .f .f64 0, W 0, I 0, I 2, I 0, I 1, W 1, W 0, I 0, .f .f64 0, W 0, I 0]),
  (447, C 1 [.imm [Y 1, Y 1] 2])]
def hWF7 : AH := AH.edit hWF6 464 [447] [(166, C 5 [O 463 0 3, I 3, I 0, I 0, I 0]),
  (205, C 5 [O 386 0 0, I 3, I 3, I 0, I 0]),
  (386, C 1 [.nsl, .nsl, .nsl]),
  (463, C 1 [.imm [Y 1, Y 1] 2, .imm [Y 1, Y 1] 2, .imm [Y 1, Y 1] 2])]
def hWF8 : AH := AH.edit hWF7 523 [224, 226, 228, 229, 231, 440] [(129, C 1 [O 515 0 4]),
  (209, C 5 [O 388 0 2, I 3, I 1, I 0, I 0]),
  (217, C 3 [.tok 6, I 1, W 1]),
  (220, C 1 [.nsl, O 470 10 0, .nsl]),
  (232, C 5 [I 3, I 2, I 3, .imm [.imm [W 0, W 0, W 0] 3, .imm [W 1, W 0, W 1] 3, .imm [W 0, W 0, W 0] 3] 3, .imm [W 0, W 1, W 0] 3]),
  (242, C 3 [W 2, W 2, .m (some 241)]),
  (248, C 5 [O 522 0 1, I 1, I 0, I 0, I 0]),
  (388, C 1 [.imm [Y 0, Y 1, Y 25, Y 1, Y 1, Y 5, Y 1, Y 0, .tok 27, .tok 26, .tok 25, .tok 24, .tok 23, .tok 22, .tok 21, .tok 20, Y 2, Y 1, Y 9, Y 0, Y 0, Y 0, Y 0, Y 0, Y 0, Y 0, Y 0, Y 0] 28, .imm [Y 0, Y 1, Y 25, Y 1, Y 1, Y 5, Y 1, Y 0, .tok 27, .tok 26, .tok 25, .tok 24, .tok 23, .tok 22, .tok 21, .tok 20, Y 2, Y 1, Y 9, Y 0, Y 0, Y 0, Y 0, Y 0, Y 0, Y 0, Y 0, Y 0] 28, .nsl]),
  (470, C 10 [I 1, W 1, W 5, I 1, I 0, .tok 6, I 1, W 1, .nsl, .imm [Y 0, Y 0, Y 0, Y 0, Y 0, Y 0, Y 0, Y 0, Y 0] 9]),
  (515, C 9 [I 3, I 1, I 0, W 0, W 0, I 0, .tok 6, W 1, I 0, I 1, I 1, I 0, W 1, W 5, I 0, .f .f64 0, W 0, I 0, I 2, I 0, I 1, W 1, W 0, I 0, .f .f64 0, W 0, I 0, I 2, I 2, I 1, W 1, W 0, I 0, .f .f64 0, W 0, I 0]),
  (522, C 1 [.imm [Y 1, Y 1] 2])]
def hWF9 : AH := AH.edit hWF8 558 [359, 360, 522] [(199, C 5 [I 2, I 8, I 2, I 0, I 2]),
  (200, C 6 [I 2, I 3, P 199 0, O 345 0 0, O 344 1 0, W 1]),
  (209, C 5 [O 388 0 0, I 3, I 3, I 0, I 0]),
  (248, C 5 [O 538 0 0, I 3, I 3, I 0, I 0]),
  (345, C 2 [W 0, .nsl]),
  (388, C 1 [.nsl, .nsl, .nsl]),
  (538, C 1 [.nsl, .nsl, .nsl])]
def hWF10 : AH := AH.edit hWF9 592 [] [(166, C 5 [O 463 0 1, I 4, I 3, I 0, I 0]),
  (192, C 5 [I 2, I 8, I 2, I 0, I 3]),
  (193, C 6 [I 2, I 3, P 192 0, O 336 0 0, O 335 1 0, W 1]),
  (205, C 5 [O 386 0 0, I 4, I 4, I 0, I 0]),
  (336, C 2 [W 0, .nsl]),
  (463, C 1 [.imm [Y 1, Y 1] 2, .nsl, .nsl])]
def hWF11 : AH := AH.edit hWF10 600 [] [(166, C 5 [O 463 0 0, I 4, I 4, I 0, I 0]),
  (463, C 1 [.nsl, .nsl, .nsl])]
def hWF12 : AH := AH.edit hWF4 463 [335, 336, 344, 345, 353, 355, 357] [(129, C 1 [O 458 0 4]),
  (176, C 3 [.tok 106, I 1, W 2]),
  (177, C 11 [I 3, .imm [W 7] 1, I 2, I 3, I 2, I 8, I 64, I 1, I 1, O 176 0 1, W 2]),
  (180, C 17 [I 3, O 178 0 1, I 2, I 3, I 2, I 8, I 64, I 1, I 1, P 129 0, O 204 0 3, .ifc 105 (P 191 0), P 177 0, W 2, O 179 0 3, N 0, .nsl]),
  (191, C 5 [I 3, I 1, I 3, .imm [.imm [W 0, W 0, W 0] 3, .imm [W 2, W 0, W 2] 3, .imm [W 0, W 0, W 0] 3] 3, O 190 0 3]),
  (193, C 6 [I 2, I 3, P 192 0, O 441 0 2, O 440 1 0, W 2]),
  (200, C 6 [I 2, I 3, P 199 0, O 450 0 2, O 449 1 0, W 2]),
  (205, C 5 [O 460 0 2, I 2, I 0, I 0, I 0]),
  (209, C 5 [O 462 0 2, I 2, I 0, I 0, I 0]),
  (440, C 1 [.imm [Y 1, Y 2, Y 5, Y 1, Y 0, .tok 127, .tok 126, .tok 125, .tok 124, .tok 123, .tok 122, .tok 121, .tok 120, Y 2, Y 2, Y 9, Y 0, Y 0, Y 0, Y 1, Y 0, Y 1, Y 0, Y 0, Y 0] 25]),
  (441, C 2 [W 1, .imm [Y 1, Y 1, Y 5, Y 1, Y 0, .tok 27, .tok 26, .tok 25, .tok 24, .tok 23, .tok 22, .tok 21, .tok 20, Y 2, Y 1, Y 9, Y 0, Y 0, Y 0, Y 0, Y 0, Y 0, Y 0, Y 0, Y 0] 25, W 2, .imm [Y 1, Y 2, Y 5, Y 1, Y 0, .tok 127, .tok 126, .tok 125, .tok 124, .tok 123, .tok 122, .tok 121, .tok 120, Y 2, Y 2, Y 9, Y 0, Y 0, Y 0, Y 1, Y 0, Y 1, Y 0, Y 0, Y 0] 25]),
  (449, C 1 [.imm [Y 1, Y 2, Y 5, Y 1, Y 0, .tok 127, .tok 126, .tok 125, .tok 124, .tok 123, .tok 122, .tok 121, .tok 120, Y 2, Y 2, Y 9, Y 0, Y 0, Y 0, Y 1, Y 0, Y 1, Y 0, Y 0, Y 0] 25]),
  (450, C 2 [W 1, .imm [Y 1, Y 1, Y 5, Y 1, Y 0, .tok 27, .tok 26, .tok 25, .tok 24, .tok 23, .tok 22, .tok 21, .tok 20, Y 2, Y 1, Y 9, Y 0, Y 0, Y 0, Y 0, Y 0, Y 0, Y 0, Y 0, Y 0] 25, W 2, .imm [Y 1, Y 2, Y 5, Y 1, Y 0, .tok 127, .tok 126, .tok 125, .tok 124, .tok 123, .tok 122, .tok 121, .tok 120, Y 2, Y 2, Y 9, Y 0, Y 0, Y 0, Y 1, Y 0, Y 1, Y 0, Y 0, Y 0] 25]),
  (458, C 9 [I 3, I 1, I 0, W 0, W 0, I 0, .tok 6, W 1, I 0, I 1, I 1, I 0, W 1, W 5, I 0, .f .f64 0, W 0, I 0, I 3, I 1, I 0, W 0, W 0, I 0, .tok 106, W 2, I 0, I 1, I 1, I 0, W 2, W 5, I 0, .f .f64 0, W 0, I 0]),
  (460, C 1 [.imm [Y 0, Y 1, Y 25, Y 1, Y 1, Y 5, Y 1, Y 0, .tok 27, .tok 26, .tok 25, .tok 24, .tok 23, .tok 22, .tok 21, .tok 20, Y 2, Y 1, Y 9, Y 0, Y 0, Y 0, Y 0, Y 0, Y 0, Y 0, Y 0, Y 0] 28, .imm [Y 0, Y 2, Y 25, Y 1, Y 2, Y 5, Y 1, Y 0, .tok 127, .tok 126, .tok 125, .tok 124, .tok 123, .tok 122, .tok 121, .tok 120, Y 2, Y 2, Y 9, Y 0, Y 0, Y 0, Y 1, Y 0, Y 1, Y 0, Y 0, Y 0] 28]),
  (462, C 1 [.imm [Y 0, Y 1, Y 25, Y 1, Y 1, Y 5, Y 1, Y 0, .tok 27, .tok 26, .tok 25, .tok 24, .tok 23, .tok 22, .tok 21, .tok 20, Y 2, Y 1, Y 9, Y 0, Y 0, Y 0, Y 0, Y 0, Y 0, Y 0, Y 0, Y 0] 28, .imm [Y 0, Y 2, Y 25, Y 1, Y 2, Y 5, Y 1, Y 0, .tok 127, .tok 126, .tok 125, .tok 124, .tok 123, .tok 122, .tok 121, .tok 120, Y 2, Y 2, Y 9, Y 0, Y 0, Y 0, Y 1, Y 0, Y 1, Y 0, Y 0, Y 0] 28])]
def hWF13 : AH := AH.edit hWF12 464 [358] [(463, C 3 [.f .f64 0, I 0, W 0])]
def hWF14 : AH := AH.edit hWF13 518 [460, 462] [(192, C 5 [I 2, I 8, I 8, I 6, I 2]),
  (199, C 5 [I 2, I 8, I 8, I 6, I 2]),
  (205, C 5 [O 513 0 6, I 6, I 0, I 0, I 0]),
  (209, C 5 [O 517 0 6, I 6, I 0, I 0, I 0]),
  (464, C 8 [I 8, I 0, I 0, I 0, I 0, W 0, .f .f64 0, .nsl]),
  (465, C 3 [.f .f64 0, I 0, W 0]),
  (513, C 1 [.imm [Y 0, Y 1, Y 25, Y 1, Y 1, Y 5, Y 1, Y 0, .tok 27, .tok 26, .tok 25, .tok 24, .tok 23, .tok 22, .tok 21, .tok 20, Y 2, Y 1, Y 9, Y 0, Y 0, Y 0, Y 0, Y 0, Y 0, Y 0, Y 0, Y 0] 28, .imm [Y 0, Y 2, Y 25, Y 1, Y 2, Y 5, Y 1, Y 0, .tok 127, .tok 126, .tok 125, .tok 124, .tok 123, .tok 122, .tok 121, .tok 120, Y 2, Y 2, Y 9, Y 0, Y 0, Y 0, Y 1, Y 0, Y 1, Y 0, Y 0, Y 0] 28, .imm [Y 0, Y 1, Y 25, Y 1, Y 1, Y 5, Y 1, Y 0, .tok 27, .tok 26, .tok 25, .tok 24, .tok 23, .tok 22, .tok 21, .tok 20, Y 2, Y 1, Y 9, Y 0, Y 0, Y 0, Y 0, Y 0, Y 0, Y 0, Y 0, Y 0] 28, .imm [Y 0, Y 2, Y 25, Y 1, Y 2, Y 5, Y 1, Y 0, .tok 127, .tok 126, .tok 125, .tok 124, .tok 123, .tok 122, .tok 121, .tok 120, Y 2, Y 2, Y 9, Y 0, Y 0, Y 0, Y 1, Y 0, Y 1, Y 0, Y 0, Y 0] 28, .imm [Y 0, Y 1, Y 25, Y 1, Y 1, Y 5, Y 1, Y 0, .tok 27, .tok 26, .tok 25, .tok 24, .tok 23, .tok 22, .tok 21, .tok 20, Y 2, Y 1, Y 9, Y 0, Y 0, Y 0, Y 0, Y 0, Y 0, Y 0, Y 0, Y 0] 28, .imm [Y 0, Y 2, Y 25, Y 1, Y 2, Y 5, Y 1, Y 0, .tok 127, .tok 126, .tok 125, .tok 124, .tok 123, .tok 122, .tok 121, .tok 120, Y 2, Y 2, Y 9, Y 0, Y 0, Y 0, Y 1, Y 0, Y 1, Y 0, Y 0, Y 0] 28]),
  (517, C 1 [.imm [Y 0, Y 1, Y 25, Y 1, Y 1, Y 5, Y 1, Y 0, .tok 27, .tok 26, .tok 25, .tok 24, .tok 23, .tok 22, .tok 21, .tok 20, Y 2, Y 1, Y 9, Y 0, Y 0, Y 0, Y 0, Y 0, Y 0, Y 0, Y 0, Y 0] 28, .imm [Y 0, Y 2, Y 25, Y 1, Y 2, Y 5, Y 1, Y 0, .tok 127, .tok 126, .tok 125, .tok 124, .tok 123, .tok 122, .tok 121, .tok 120, Y 2, Y 2, Y 9, Y 0, Y 0, Y 0, Y 1, Y 0, Y 1, Y 0, Y 0, Y 0] 28, .imm [Y 0, Y 1, Y 25, Y 1, Y 1, Y 5, Y 1, Y 0, .tok 27, .tok 26, .tok 25, .tok 24, .tok 23, .tok 22, .tok 21, .tok 20, Y 2, Y 1, Y 9, Y 0, Y 0, Y 0, Y 0, Y 0, Y 0, Y 0, Y 0, Y 0] 28, .imm [Y 0, Y 2, Y 25, Y 1, Y 2, Y 5, Y 1, Y 0, .tok 127, .tok 126, .tok 125, .tok 124, .tok 123, .tok 122, .tok 121, .tok 120, Y 2, Y 2, Y 9, Y 0, Y 0, Y 0, Y 1, Y 0, Y 1, Y 0, Y 0, Y 0] 28, .imm [Y 0, Y 1, Y 25, Y 1, Y 1, Y 5, Y 1, Y 0, .tok 27, .tok 26, .tok 25, .tok 24, .tok 23, .tok 22, .tok 21, .tok 20, Y 2, Y 1, Y 9, Y 0, Y 0, Y 0, Y 0, Y 0, Y 0, Y 0, Y 0, Y 0] 28, .imm [Y 0, Y 2, Y 25, Y 1, Y 2, Y 5, Y 1, Y 0, .tok 127, .tok 126, .tok 125, .tok 124, .tok 123, .tok 122, .tok 121, .tok 120, Y 2, Y 2, Y 9, Y 0, Y 0, Y 0, Y 1, Y 0, Y 1, Y 0, Y 0, Y 0] 28])]
def hWF15 : AH := AH.edit hWF14 577 [142, 144, 146, 147, 149, 458] [(129, C 1 [O 569 0 5]),
  (135, C 3 [.tok 6, I 1, W 1]),
  (138, C 1 [.nsl, O 524 10 0, .nsl]),
  (150, C 5 [I 3, I 0, I 3, .imm [.imm [W 0, W 0, W 0] 3, .imm [W 1, W 0, W 1] 3, .imm [W 0, W 0, W 0] 3] 3, .imm [W 0, W 1, W 0] 3]),
  (155, C 3 [W 2, W 2, .m (some 154)]),
  (166, C 5 [O 576 0 1, I 1, I 0, I 0, I 0]),
  (205, C 5 [O 513 0 5, I 6, I 1, I 0, I 0]),
  (513, C 1 [.imm [Y 0, Y 2, Y 25, Y 1, Y 2, Y 5, Y 1, Y 0, .tok 127, .tok 126, .tok 125, .tok 124, .tok 123, .tok 122, .tok 121, .tok 120, Y 2, Y 2, Y 9, Y 0, Y 0, Y 0, Y 1, Y 0, Y 1, Y 0, Y 0, Y 0] 28, .imm [Y 0, Y 1, Y 25, Y 1, Y 1, Y 5, Y 1, Y 0, .tok 27, .tok 26, .tok 25, .tok 24, .tok 23, .tok 22, .tok 21, .tok 20, Y 2, Y 1, Y 9, Y 0, Y 0, Y 0, Y 0, Y 0, Y 0, Y 0, Y 0, Y 0] 28, .imm [Y 0, Y 2, Y 25, Y 1, Y 2, Y 5, Y 1, Y 0, .tok 127, .tok 126, .tok 125, .tok 124, .tok 123, .tok 122, .tok 121, .tok 120, Y 2, Y 2, Y 9, Y 0, Y 0, Y 0, Y 1, Y 0, Y 1, Y 0, Y 0, Y 0] 28, .imm [Y 0, Y 1, Y 25, Y 1, Y 1, Y 5, Y 1, Y 0, .tok 27, .tok 26, .tok 25, .tok 24, .tok 23, .tok 22, .tok 21, .tok 20, Y 2, Y 1, Y 9, Y 0, Y 0, Y 0, Y 0, Y 0, Y 0, Y 0, Y 0, Y 0] 28, .imm [Y 0, Y 2, Y 25, Y 1, Y 2, Y 5, Y 1, Y 0, .tok 127, .tok 126, .tok 125, .tok 124, .tok 123, .tok 122, .tok 121, .tok 120, Y 2, Y 2, Y 9, Y 0, Y 0, Y 0, Y 1, Y 0, Y 1, Y 0, Y 0, Y 0] 28, .nsl]),
  (524, C 10 [I 1, W 1, W 5, I 1, I 0, .tok 6, I 1, W 1, .nsl, .imm [Y 0, Y 0, Y 0, Y 0, Y 0, Y 0, Y 0, Y 0, Y 0] 9]),
  (569, C 9 [I 3, I 1, I 0, W 0, W 0, I 0, .tok 6, W 1, I 0, I 1, I 1, I 0, W 1, W 5, I 0, .f .f64 0, W 0, I 0, I 3, I 1, I 0, W 0, W 0, I 0, .tok 106, W 2, I 0, I 1, I 1, I 0, W 2, W 5, I 0, .f .f64 0, W 0, I 0, I 2, I 0, I 1, W 1, W 0, I 0, .f .f64 0, W 0, I 0]),
  (576, C 1 [.imm [Y 1, Y 1] 2])]
def hWF16 : AH := AH.edit hWF15 636 [524, 569, 576] [(129, C 1 [O 628 0 6]),
  (135, C 3 [.tok 106, I 1, W 2]),
  (138, C 1 [.nsl, O 583 10 0, .nsl]),
  (150, C 5 [I 3, I 0, I 3, .imm [.imm [W 0, W 0, W 0] 3, .imm [W 2, W 0, W 2] 3, .imm [W 0, W 0, W 0] 3] 3, .imm [W 0, W 2, W 0] 3]),
  (155, C 3 [W 2, W 3, .m (some 154)]),
  (166, C 5 [O 635 0 2, I 2, I 0, I 0, I 0]),
  (205, C 5 [O 513 0 4, I 6, I 2, I 0, I 0]),
  (513, C 1 [.imm [Y 0, Y 1, Y 25, Y 1, Y 1, Y 5, Y 1, Y 0, .tok 27, .tok 26, .tok 25, .tok 24, .tok 23, .tok 22, .tok 21, .tok 20, Y 2, Y 1, Y 9, Y 0, Y 0, Y 0, Y 0, Y 0, Y 0, Y 0, Y 0, Y 0] 28, .imm [Y 0, Y 2, Y 25, Y 1, Y 2, Y 5, Y 1, Y 0, .tok 127, .tok 126, .tok 125, .tok 124, .tok 123, .tok 122, .tok 121, .tok 120, Y 2, Y 2, Y 9, Y 0, Y 0, Y 0, Y 1, Y 0, Y 1, Y 0, Y 0, Y 0] 28, .imm [Y 0, Y 1, Y 25, Y 1, Y 1, Y 5, Y 1, Y 0, .tok 27, .tok 26, .tok 25, .tok 24, .tok 23, .tok 22, .tok 21, .tok 20, Y 2, Y 1, Y 9, Y 0, Y 0, Y 0, Y 0, Y 0, Y 0, Y 0, Y 0, Y 0] 28, .imm [Y 0, Y 2, Y 25, Y 1, Y 2, Y 5, Y 1, Y 0, .tok 127, .tok 126, .tok 125, .tok 124, .tok 123, .tok 122, .tok 121, .tok 120, Y 2, Y 2, Y 9, Y 0, Y 0, Y 0, Y 1, Y 0, Y 1, Y 0, Y 0, Y 0] 28, .nsl, .nsl]),
  (583, C 10 [I 1, W 2, W 5, I 1, I 0, .tok 106, I 1, W 2, .nsl, .imm [Y 0, Y 0, Y 0, Y 1, Y 0, Y 1, Y 0, Y 0, Y 0] 9]),
  (628, C 9 [I 3, I 1, I 0, W 0, W 0, I 0, .tok 6, W 1, I 0, I 1, I 1, I 0, W 1, W 5, I 0, .f .f64 0, W 0, I 0, I 3, I 1, I 0, W 0, W 0, I 0, .tok 106, W 2, I 0, I 1, I 1, I 0, W 2, W 5, I 0, .f .f64 0, W 0, I 0, I 2, I 0, I 1, W 1, W 0, I 0, .f .f64 0, W 0, I 0, I 2, I 0, I 1, W 2, W 0, I 0, .f .f64 0, W 0, I 0]),
  (635, C 1 [.imm [Y 1, Y 1] 2, .imm [Y 1, Y 2] 2])]
def hWF17 : AH := AH.edit hWF16 668 [635] [(166, C 5 [O 667 0 6, I 6, I 0, I 0, I 0]),
  (205, C 5 [O 513 0 0, I 6, I 6, I 0, I 0]),
  (513, C 1 [.nsl, .nsl, .nsl, .nsl, .nsl, .nsl]),
  (667, C 1 [.imm [Y 1, Y 1] 2, .imm [Y 1, Y 2] 2, .imm [Y 1, Y 2] 2, .imm [Y 1, Y 2] 2, .imm [Y 1, Y 2] 2, .imm [Y 1, Y 2] 2])]
def hWF18 : AH := AH.edit hWF17 727 [224, 226, 228, 229, 231, 628] [(129, C 1 [O 719 0 7]),
  (209, C 5 [O 517 0 5, I 6, I 1, I 0, I 0]),
  (217, C 3 [.tok 6, I 1, W 1]),
  (220, C 1 [.nsl, O 674 10 0, .nsl]),
  (232, C 5 [I 3, I 2, I 3, .imm [.imm [W 0, W 0, W 0] 3, .imm [W 1, W 0, W 1] 3, .imm [W 0, W 0, W 0] 3] 3, .imm [W 0, W 1, W 0] 3]),
  (242, C 3 [W 2, W 2, .m (some 241)]),
  (248, C 5 [O 726 0 1, I 1, I 0, I 0, I 0]),
  (517, C 1 [.imm [Y 0, Y 2, Y 25, Y 1, Y 2, Y 5, Y 1, Y 0, .tok 127, .tok 126, .tok 125, .tok 124, .tok 123, .tok 122, .tok 121, .tok 120, Y 2, Y 2, Y 9, Y 0, Y 0, Y 0, Y 1, Y 0, Y 1, Y 0, Y 0, Y 0] 28, .imm [Y 0, Y 1, Y 25, Y 1, Y 1, Y 5, Y 1, Y 0, .tok 27, .tok 26, .tok 25, .tok 24, .tok 23, .tok 22, .tok 21, .tok 20, Y 2, Y 1, Y 9, Y 0, Y 0, Y 0, Y 0, Y 0, Y 0, Y 0, Y 0, Y 0] 28, .imm [Y 0, Y 2, Y 25, Y 1, Y 2, Y 5, Y 1, Y 0, .tok 127, .tok 126, .tok 125, .tok 124, .tok 123, .tok 122, .tok 121, .tok 120, Y 2, Y 2, Y 9, Y 0, Y 0, Y 0, Y 1, Y 0, Y 1, Y 0, Y 0, Y 0] 28, .imm [Y 0, Y 1, Y 25, Y 1, Y 1, Y 5, Y 1, Y 0, .tok 27, .tok 26, .tok 25, .tok 24, .tok 23, .tok 22, .tok 21, .tok 20, Y 2, Y 1, Y 9, Y 0, Y 0, Y 0, Y 0, Y 0, Y 0, Y 0, Y 0, Y 0] 28, .imm [Y 0, Y 2, Y 25, Y 1, Y 2, Y 5, Y 1, Y 0, .tok 127, .tok 126, .tok 125, .tok 124, .tok 123, .tok 122, .tok 121, .tok 120, Y 2, Y 2, Y 9, Y 0, Y 0, Y 0, Y 1, Y 0, Y 1, Y 0, Y 0, Y 0] 28, .nsl]),
  (674, C 10 [I 1, W 1, W 5, I 1, I 0, .tok 6, I 1, W 1, .nsl, .imm [Y 0, Y 0, Y 0, Y 0, Y 0, Y 0, Y 0, Y 0, Y 0] 9]),
  (719, C 9 [I 3, I 1, I 0, W 0, W 0, I 0, .tok 6, W 1, I 0, I 1, I 1, I 0, W 1, W 5, I 0, .f .f64 0, W 0, I 0, I 3, I 1, I 0, W 0, W 0, I 0, .tok 106, W 2, I 0, I 1, I 1, I 0, W 2, W 5, I 0, .f .f64 0, W 0, I 0, I 2, I 0, I 1, W 1, W 0, I 0, .f .f64 0, W 0, I 0, I 2, I 0, I 1, W 2, W 0, I 0, .f .f64 0, W 0, I 0, I 2, I 2, I 1, W 1, W 0, I 0, .f .f64 0, W 0, I 0]),
  (726, C 1 [.imm [Y 1, Y 1] 2])]
def hWF19 : AH := AH.edit hWF18 786 [674, 719, 726] [(129, C 1 [O 778 0 8]),
  (209, C 5 [O 517 0 4, I 6, I 2, I 0, I 0]),
  (217, C 3 [.tok 106, I 1, W 2]),
  (220, C 1 [.nsl, O 733 10 0, .nsl]),
  (232, C 5 [I 3, I 2, I 3, .imm [.imm [W 0, W 0, W 0] 3, .imm [W 2, W 0, W 2] 3, .imm [W 0, W 0, W 0] 3] 3, .imm [W 0, W 2, W 0] 3]),
  (242, C 3 [W 2, W 3, .m (some 241)]),
  (248, C 5 [O 785 0 2, I 2, I 0, I 0, I 0]),
  (517, C 1 [.imm [Y 0, Y 1, Y 25, Y 1, Y 1, Y 5, Y 1, Y 0, .tok 27, .tok 26, .tok 25, .tok 24, .tok 23, .tok 22, .tok 21, .tok 20, Y 2, Y 1, Y 9, Y 0, Y 0, Y 0, Y 0, Y 0, Y 0, Y 0, Y 0, Y 0] 28, .imm [Y 0, Y 2, Y 25, Y 1, Y 2, Y 5, Y 1, Y 0, .tok 127, .tok 126, .tok 125, .tok 124, .tok 123, .tok 122, .tok 121, .tok 120, Y 2, Y 2, Y 9, Y 0, Y 0, Y 0, Y 1, Y 0, Y 1, Y 0, Y 0, Y 0] 28, .imm [Y 0, Y 1, Y 25, Y 1, Y 1, Y 5, Y 1, Y 0, .tok 27, .tok 26, .tok 25, .tok 24, .tok 23, .tok 22, .tok 21, .tok 20, Y 2, Y 1, Y 9, Y 0, Y 0, Y 0, Y 0, Y 0, Y 0, Y 0, Y 0, Y 0] 28, .imm [Y 0, Y 2, Y 25, Y 1, Y 2, Y 5, Y 1, Y 0, .tok 127, .tok 126, .tok 125, .tok 124, .tok 123, .tok 122, .tok 121, .tok 120, Y 2, Y 2, Y 9, Y 0, Y 0, Y 0, Y 1, Y 0, Y 1, Y 0, Y 0, Y 0] 28, .nsl, .nsl]),
  (733, C 10 [I 1, W 2, W 5, I 1, I 0, .tok 106, I 1, W 2, .nsl, .imm [Y 0, Y 0, Y 0, Y 1, Y 0, Y 1, Y 0, Y 0, Y 0] 9]),
  (778, C 9 [I 3, I 1, I 0, W 0, W 0, I 0, .tok 6, W 1, I 0, I 1, I 1, I 0, W 1, W 5, I 0, .f .f64 0, W 0, I 0, I 3, I 1, I 0, W 0, W 0, I 0, .tok 106, W 2, I 0, I 1, I 1, I 0, W 2, W 5, I 0, .f .f64 0, W 0, I 0, I 2, I 0, I 1, W 1, W 0, I 0, .f .f64 0, W 0, I 0, I 2, I 0, I 1, W 2, W 0, I 0, .f .f64 0, W 0, I 0, I 2, I 2, I 1, W 1, W 0, I 0, .f .f64 0, W 0, I 0, I 2, I 2, I 1, W 2, W 0, I 0, .f .f64 0, W 0, I 0]),
  (785, C 1 [.imm [Y 1, Y 1] 2, .imm [Y 1, Y 2] 2])]
def hWF20 : AH := AH.edit hWF19 858 [464, 465, 785] [(199, C 5 [I 2, I 8, I 2, I 0, I 2]),
  (200, C 6 [I 2, I 3, P 199 0, O 450 0 0, O 449 1 0, W 2]),
  (209, C 5 [O 517 0 0, I 6, I 6, I 0, I 0]),
  (248, C 5 [O 817 0 0, I 6, I 6, I 0, I 0]),
  (450, C 2 [W 0, .nsl, W 0, .nsl]),
  (517, C 1 [.nsl, .nsl, .nsl, .nsl, .nsl, .nsl]),
  (817, C 1 [.nsl, .nsl, .nsl, .nsl, .nsl, .nsl])]
def hWF21 : AH := AH.edit hWF20 925 [] [(166, C 5 [O 667 0 2, I 8, I 6, I 0, I 0]),
  (192, C 5 [I 2, I 8, I 2, I 0, I 3]),
  (193, C 6 [I 2, I 3, P 192 0, O 441 0 0, O 440 1 0, W 2]),
  (205, C 5 [O 513 0 0, I 8, I 8, I 0, I 0]),
  (441, C 2 [W 0, .nsl, W 0, .nsl]),
  (667, C 1 [.imm [Y 1, Y 2] 2, .imm [Y 1, Y 2] 2, .nsl, .nsl, .nsl, .nsl])]
def hWF22 : AH := AH.edit hWF21 939 [] [(166, C 5 [O 667 0 0, I 8, I 8, I 0, I 0]),
  (667, C 1 [.nsl, .nsl, .nsl, .nsl, .nsl, .nsl])]
def hWF23 : AH := AH.edit hWF13 552 [440, 449, 458] [(129, C 1 [O 551 0 6]),
  (176, C 3 [.tok 206, I 1, W 3]),
  (177, C 11 [I 3, .imm [W 7] 1, I 2, I 3, I 2, I 8, I 64, I 1, I 1, O 176 0 1, W 3]),
  (180, C 17 [I 3, O 178 0 1, I 2, I 3, I 2, I 8, I 64, I 1, I 1, P 129 0, O 204 0 3, .ifc 105 (P 191 0), P 177 0, W 3, O 179 0 3, N 0, .nsl]),
  (191, C 5 [I 3, I 1, I 3, .imm [.imm [W 0, W 0, W 0] 3, .imm [W 3, W 0, W 3] 3, .imm [W 0, W 0, W 0] 3] 3, O 190 0 3]),
  (193, C 6 [I 2, I 3, P 192 0, O 441 0 2, O 545 0 1, W 2]),
  (200, C 6 [I 2, I 3, P 199 0, O 450 0 2, O 548 0 1, W 2]),
  (545, C 1 [.imm [Y 1, Y 3, Y 5, Y 1, Y 0, .tok 227, .tok 226, .tok 225, .tok 224, .tok 223, .tok 222, .tok 221, .tok 220, Y 2, Y 3, Y 9, Y 0, Y 0, Y 0, Y 2, Y 0, Y 2, Y 0, Y 0, Y 0] 25]),
  (548, C 1 [.imm [Y 1, Y 3, Y 5, Y 1, Y 0, .tok 227, .tok 226, .tok 225, .tok 224, .tok 223, .tok 222, .tok 221, .tok 220, Y 2, Y 3, Y 9, Y 0, Y 0, Y 0, Y 2, Y 0, Y 2, Y 0, Y 0, Y 0] 25]),
  (551, C 9 [I 3, I 1, I 0, W 0, W 0, I 0, .tok 6, W 1, I 0, I 1, I 1, I 0, W 1, W 5, I 0, .f .f64 0, W 0, I 0, I 3, I 1, I 0, W 0, W 0, I 0, .tok 106, W 2, I 0, I 1, I 1, I 0, W 2, W 5, I 0, .f .f64 0, W 0, I 0, I 3, I 1, I 0, W 0, W 0, I 0, .tok 206, W 3, I 0, I 1, I 1, I 0, W 3, W 5, I 0, .f .f64 0, W 0, I 0])]
def hWF24 : AH := AH.edit hWF23 553 [463] [(552, C 3 [.f .f64 0, I 0, W 0])]
def hWF25 : AH := AH.edit hWF24 607 [460, 462] [(192, C 5 [I 2, I 8, I 8, I 6, I 2]),
  (199, C 5 [I 2, I 8, I 8, I 6, I 2]),
  (205, C 5 [O 602 0 6, I 6, I 0, I 0, I 0]),
  (209, C 5 [O 606 0 6, I 6, I 0, I 0, I 0]),
  (553, C 8 [I 8, I 0, I 0, I 0, I 0, W 0, .f .f64 0, .nsl]),
  (554, C 3 [.f .f64 0, I 0, W 0]),
  (602, C 1 [.imm [Y 0, Y 1, Y 25, Y 1, Y 1, Y 5, Y 1, Y 0, .tok 27, .tok 26, .tok 25, .tok 24, .tok 23, .tok 22, .tok 21, .tok 20, Y 2, Y 1, Y 9, Y 0, Y 0, Y 0, Y 0, Y 0, Y 0, Y 0, Y 0, Y 0] 28, .imm [Y 0, Y 2, Y 25, Y 1, Y 2, Y 5, Y 1, Y 0, .tok 127, .tok 126, .tok 125, .tok 124, .tok 123, .tok 122, .tok 121, .tok 120, Y 2, Y 2, Y 9, Y 0, Y 0, Y 0, Y 1, Y 0, Y 1, Y 0, Y 0, Y 0] 28, .imm [Y 0, Y 1, Y 25, Y 1, Y 1, Y 5, Y 1, Y 0, .tok 27, .tok 26, .tok 25, .tok 24, .tok 23, .tok 22, .tok 21, .tok 20, Y 2, Y 1, Y 9, Y 0, Y 0, Y 0, Y 0, Y 0, Y 0, Y 0, Y 0, Y 0] 28, .imm [Y 0, Y 2, Y 25, Y 1, Y 2, Y 5, Y 1, Y 0, .tok 127, .tok 126, .tok 125, .tok 124, .tok 123, .tok 122, .tok 121, .tok 120, Y 2, Y 2, Y 9, Y 0, Y 0, Y 0, Y 1, Y 0, Y 1, Y 0, Y 0, Y 0] 28, .imm [Y 0, Y 1, Y 25, Y 1, Y 1, Y 5, Y 1, Y 0, .tok 27, .tok 26, .tok 25, .tok 24, .tok 23, .tok 22, .tok 21, .tok 20, Y 2, Y 1, Y 9, Y 0, Y 0, Y 0, Y 0, Y 0, Y 0, Y 0, Y 0, Y 0] 28, .imm [Y 0, Y 2, Y 25, Y 1, Y 2, Y 5, Y 1, Y 0, .tok 127, .tok 126, .tok 125, .tok 124, .tok 123, .tok 122, .tok 121, .tok 120, Y 2, Y 2, Y 9, Y 0, Y 0, Y 0, Y 1, Y 0, Y 1, Y 0, Y 0, Y 0] 28]),
  (606, C 1 [.imm [Y 0, Y 1, Y 25, Y 1, Y 1, Y 5, Y 1, Y 0, .tok 27, .tok 26, .tok 25, .tok 24, .tok 23, .tok 22, .tok 21, .tok 20, Y 2, Y 1, Y 9, Y 0, Y 0, Y 0, Y 0, Y 0, Y 0, Y 0, Y 0, Y 0] 28, .imm [Y 0, Y 2, Y 25, Y 1, Y 2, Y 5, Y 1, Y 0, .tok 127, .tok 126, .tok 125, .tok 124, .tok 123, .tok 122, .tok 121, .tok 120, Y 2, Y 2, Y 9, Y 0, Y 0, Y 0, Y 1, Y 0, Y 1, Y 0, Y 0, Y 0] 28, .imm [Y 0, Y 1, Y 25, Y 1, Y 1, Y 5, Y 1, Y 0, .tok 27, .tok 26, .tok 25, .tok 24, .tok 23, .tok 22, .tok 21, .tok 20, Y 2, Y 1, Y 9, Y 0, Y 0, Y 0, Y 0, Y 0, Y 0, Y 0, Y 0, Y 0] 28, .imm [Y 0, Y 2, Y 25, Y 1, Y 2, Y 5, Y 1, Y 0, .tok 127, .tok 126, .tok 125, .tok 124, .tok 123, .tok 122, .tok 121, .tok 120, Y 2, Y 2, Y 9, Y 0, Y 0, Y 0, Y 1, Y 0, Y 1, Y 0, Y 0, Y 0] 28, .imm [Y 0, Y 1, Y 25, Y 1, Y 1, Y 5, Y 1, Y 0, .tok 27, .tok 26, .tok 25, .tok 24, .tok 23, .tok 22, .tok 21, .tok 20, Y 2, Y 1, Y 9, Y 0, Y 0, Y 0, Y 0, Y 0, Y 0, Y 0, Y 0, Y 0] 28, .imm [Y 0, Y 2, Y 25, Y 1, Y 2, Y 5, Y 1, Y 0, .tok 127, .tok 126, .tok 125, .tok 124, .tok 123, .tok 122, .tok 121, .tok 120, Y 2, Y 2, Y 9, Y 0, Y 0, Y 0, Y 1, Y 0, Y 1, Y 0, Y 0, Y 0] 28])]
def hWF26 : AH := AH.edit hWF25 666 [142, 144, 146, 147, 149, 551] [(129, C 1 [O 658 0 7]),
  (135, C 3 [.tok 6, I 1, W 1]),
  (138, C 1 [.nsl, O 613 10 0, .nsl]),
  (150, C 5 [I 3, I 0, I 3, .imm [.imm [W 0, W 0, W 0] 3, .imm [W 1, W 0, W 1] 3, .imm [W 0, W 0, W 0] 3] 3, .imm [W 0, W 1, W 0] 3]),
  (155, C 3 [W 2, W 2, .m (some 154)]),
  (166, C 5 [O 665 0 1, I 1, I 0, I 0, I 0]),
  (205, C 5 [O 602 0 5, I 6, I 1, I 0, I 0]),
  (602, C 1 [.imm [Y 0, Y 2, Y 25, Y 1, Y 2, Y 5, Y 1, Y 0, .tok 127, .tok 126, .tok 125, .tok 124, .tok 123, .tok 122, .tok 121, .tok 120, Y 2, Y 2, Y 9, Y 0, Y 0, Y 0, Y 1, Y 0, Y 1, Y 0, Y 0, Y 0] 28, .imm [Y 0, Y 1, Y 25, Y 1, Y 1, Y 5, Y 1, Y 0, .tok 27, .tok 26, .tok 25, .tok 24, .tok 23, .tok 22, .tok 21, .tok 20, Y 2, Y 1, Y 9, Y 0, Y 0, Y 0, Y 0, Y 0, Y 0, Y 0, Y 0, Y 0] 28, .imm [Y 0, Y 2, Y 25, Y 1, Y 2, Y 5, Y 1, Y 0, .tok 127, .tok 126, .tok 125, .tok 124, .tok 123, .tok 122, .tok 121, .tok 120, Y 2, Y 2, Y 9, Y 0, Y 0, Y 0, Y 1, Y 0, Y 1, Y 0, Y 0, Y 0] 28, .imm [Y 0, Y 1, Y 25, Y 1, Y 1, Y 5, Y 1, Y 0, .tok 27, .tok 26, .tok 25, .tok 24, .tok 23, .tok 22, .tok 21, .tok 20, Y 2, Y 1, Y 9, Y 0, Y 0, Y 0, Y 0, Y 0, Y 0, Y 0, Y 0, Y 0] 28, .imm [Y 0, Y 2, Y 25, Y 1, Y 2, Y 5, Y 1, Y 0, .tok 127, .tok 126, .tok 125, .tok 124, .tok 123, .tok 122, .tok 121, .tok 120, Y 2, Y 2, Y 9, Y 0, Y 0, Y 0, Y 1, Y 0, Y 1, Y 0, Y 0, Y 0] 28, .nsl]),
  (613, C 10 [I 1, W 1, W 5, I 1, I 0, .tok 6, I 1, W 1, .nsl, .imm [Y 0, Y 0, Y 0, Y 0, Y 0, Y 0, Y 0, Y 0, Y 0] 9]),
  (658, C 9 [I 3, I 1, I 0, W 0, W 0, I 0, .tok 6, W 1, I 0, I 1, I 1, I 0, W 1, W 5, I 0, .f .f64 0, W 0, I 0, I 3, I 1, I 0, W 0, W 0, I 0, .tok 106, W 2, I 0, I 1, I 1, I 0, W 2, W 5, I 0, .f .f64 0, W 0, I 0, I 3, I 1, I 0, W 0, W 0, I 0, .tok 206, W 3, I 0, I 1, I 1, I 0, W 3, W 5, I 0, .f .f64 0, W 0, I 0, I 2, I 0, I 1, W 1, W 0, I 0, .f .f64 0, W 0, I 0]),
  (665, C 1 [.imm [Y 1, Y 1] 2])]
def hWF27 : AH := AH.edit hWF26 725 [613, 658, 665] [(129, C 1 [O 717 0 8]),
  (135, C 3 [.tok 106, I 1, W 2]),
  (138, C 1 [.nsl, O 672 10 0, .nsl]),
  (150, C 5 [I 3, I 0, I 3, .imm [.imm [W 0, W 0, W 0] 3, .imm [W 2, W 0, W 2] 3, .imm [W 0, W 0, W 0] 3] 3, .imm [W 0, W 2, W 0] 3]),
  (155, C 3 [W 2, W 3, .m (some 154)]),
  (166, C 5 [O 724 0 2, I 2, I 0, I 0, I 0]),
  (205, C 5 [O 602 0 4, I 6, I 2, I 0, I 0]),
  (602, C 1 [.imm [Y 0, Y 1, Y 25, Y 1, Y 1, Y 5, Y 1, Y 0, .tok 27, .tok 26, .tok 25, .tok 24, .tok 23, .tok 22, .tok 21, .tok 20, Y 2, Y 1, Y 9, Y 0, Y 0, Y 0, Y 0, Y 0, Y 0, Y 0, Y 0, Y 0] 28, .imm [Y 0, Y 2, Y 25, Y 1, Y 2, Y 5, Y 1, Y 0, .tok 127, .tok 126, .tok 125, .tok 124, .tok 123, .tok 122, .tok 121, .tok 120, Y 2, Y 2, Y 9, Y 0, Y 0, Y 0, Y 1, Y 0, Y 1, Y 0, Y 0, Y 0] 28, .imm [Y 0, Y 1, Y 25, Y 1, Y 1, Y 5, Y 1, Y 0, .tok 27, .tok 26, .tok 25, .tok 24, .tok 23, .tok 22, .tok 21, .tok 20, Y 2, Y 1, Y 9, Y 0, Y 0, Y 0, Y 0, Y 0, Y 0, Y 0, Y 0, Y 0] 28, .imm [Y 0, Y 2, Y 25, Y 1, Y 2, Y 5, Y 1, Y 0, .tok 127, .tok 126, .tok 125, .tok 124, .tok 123, .tok 122, .tok 121, .tok 120, Y 2, Y 2, Y 9, Y 0, Y 0, Y 0, Y 1, Y 0, Y 1, Y 0, Y 0, Y 0] 28, .nsl, .nsl]),
  (672, C 10 [I 1, W 2, W 5, I 1, I 0, .tok 106, I 1, W 2, .nsl, .imm [Y 0, Y 0, Y 0, Y 1, Y 0, Y 1, Y 0, Y 0, Y 0] 9]),
  (717, C 9 [I 3, I 1, I 0, W 0, W 0, I 0, .tok 6, W 1, I 0, I 1, I 1, I 0, W 1, W 5, I 0, .f .f64 0, W 0, I 0, I 3, I 1, I 0, W 0, W 0, I 0, .tok 106, W 2, I 0, I 1, I 1, I 0, W 2, W 5, I 0, .f .f64 0, W 0, I 0, I 3, I 1, I 0, W 0, W 0, I 0, .tok 206, W 3, I 0, I 1, I 1, I 0, W 3, W 5, I 0, .f .f64 0, W 0, I 0, I 2, I 0, I 1, W 1, W 0, I 0, .f .f64 0, W 0, I 0, I 2, I 0, I 1, W 2, W 0, I 0, .f .f64 0, W 0, I 0]),
  (724, C 1 [.imm [Y 1, Y 1] 2, .imm [Y 1, Y 2] 2])]
def hWF28 : AH := AH.edit hWF27 757 [724] [(166, C 5 [O 756 0 6, I 6, I 0, I 0, I 0]),
  (205, C 5 [O 602 0 0, I 6, I 6, I 0, I 0]),
  (602, C 1 [.nsl, .nsl, .nsl, .nsl, .nsl, .nsl]),
  (756, C 1 [.imm [Y 1, Y 1] 2, .imm [Y 1, Y 2] 2, .imm [Y 1, Y 2] 2, .imm [Y 1, Y 2] 2, .imm [Y 1, Y 2] 2, .imm [Y 1, Y 2] 2])]
def hWF29 : AH := AH.edit hWF28 816 [224, 226, 228, 229, 231, 717] [(129, C 1 [O 808 0 9]),
  (209, C 5 [O 606 0 5, I 6, I 1, I 0, I 0]),
  (217, C 3 [.tok 6, I 1, W 1]),
  (220, C 1 [.nsl, O 763 10 0, .nsl]),
  (232, C 5 [I 3, I 2, I 3, .imm [.imm [W 0, W 0, W 0] 3, .imm [W 1, W 0, W 1] 3, .imm [W 0, W 0, W 0] 3] 3, .imm [W 0, W 1, W 0] 3]),
  (242, C 3 [W 2, W 2, .m (some 241)]),
  (248, C 5 [O 815 0 1, I 1, I 0, I 0, I 0]),
  (606, C 1 [.imm [Y 0, Y 2, Y 25, Y 1, Y 2, Y 5, Y 1, Y 0, .tok 127, .tok 126, .tok 125, .tok 124, .tok 123, .tok 122, .tok 121, .tok 120, Y 2, Y 2, Y 9, Y 0, Y 0, Y 0, Y 1, Y 0, Y 1, Y 0, Y 0, Y 0] 28, .imm [Y 0, Y 1, Y 25, Y 1, Y 1, Y 5, Y 1, Y 0, .tok 27, .tok 26, .tok 25, .tok 24, .tok 23, .tok 22, .tok 21, .tok 20, Y 2, Y 1, Y 9, Y 0, Y 0, Y 0, Y 0, Y 0, Y 0, Y 0, Y 0, Y 0] 28, .imm [Y 0, Y 2, Y 25, Y 1, Y 2, Y 5, Y 1, Y 0, .tok 127, .tok 126, .tok 125, .tok 124, .tok 123, .tok 122, .tok 121, .tok 120, Y 2, Y 2, Y 9, Y 0, Y 0, Y 0, Y 1, Y 0, Y 1, Y 0, Y 0, Y 0] 28, .imm [Y 0, Y 1, Y 25, Y 1, Y 1, Y 5, Y 1, Y 0, .tok 27, .tok 26, .tok 25, .tok 24, .tok 23, .tok 22, .tok 21, .tok 20, Y 2, Y 1, Y 9, Y 0, Y 0, Y 0, Y 0, Y 0, Y 0, Y 0, Y 0, Y 0] 28, .imm [Y 0, Y 2, Y 25, Y 1, Y 2, Y 5, Y 1, Y 0, .tok 127, .tok 126, .tok 125, .tok 124, .tok 123, .tok 122, .tok 121, .tok 120, Y 2, Y 2, Y 9, Y 0, Y 0, Y 0, Y 1, Y 0, Y 1, Y 0, Y 0, Y 0] 28, .nsl]),
  (763, C 10 [I 1, W 1, W 5, I 1, I 0, .tok 6, I 1, W 1, .nsl, .imm [Y 0, Y 0, Y 0, Y 0, Y 0, Y 0, Y 0, Y 0, Y 0] 9]),
  (808, C 9 [I 3, I 1, I 0, W 0, W 0, I 0, .tok 6, W 1, I 0, I 1, I 1, I 0, W 1, W 5, I 0, .f .f64 0, W 0, I 0, I 3, I 1, I 0, W 0, W 0, I 0, .tok 106, W 2, I 0, I 1, I 1, I 0, W 2, W 5, I 0, .f .f64 0, W 0, I 0, I 3, I 1, I 0, W 0, W 0, I 0, .tok 206, W 3, I 0, I 1, I 1, I 0, W 3, W 5, I 0, .f .f64 0, W 0, I 0, I 2, I 0, I 1, W 1, W 0, I 0, .f .f64 0, W 0, I 0, I 2, I 0, I 1, W 2, W 0, I 0, .f .f64 0, W 0, I 0, I 2, I 2, I 1, W 1, W 0, I 0, .f .f64 0, W 0, I 0]),
  (815, C 1 [.imm [Y 1, Y 1] 2])]
def hWF30 : AH := AH.edit hWF29 875 [763, 808, 815] [(129, C 1 [O 867 0 10]),
  (209, C 5 [O 606 0 4, I 6, I 2, I 0, I 0]),
  (217, C 3 [.tok 106, I 1, W 2]),
  (220, C 1 [.nsl, O 822 10 0, .nsl]),
  (232, C 5 [I 3, I 2, I 3, .imm [.imm [W 0, W 0, W 0] 3, .imm [W 2, W 0, W 2] 3, .imm [W 0, W 0, W 0] 3] 3, .imm [W 0, W 2, W 0] 3]),
  (242, C 3 [W 2, W 3, .m (some 241)]),
  (248, C 5 [O 874 0 2, I 2, I 0, I 0, I 0]),
  (606, C 1 [.imm [Y 0, Y 1, Y 25, Y 1, Y 1, Y 5, Y 1, Y 0, .tok 27, .tok 26, .tok 25, .tok 24, .tok 23, .tok 22, .tok 21, .tok 20, Y 2, Y 1, Y 9, Y 0, Y 0, Y 0, Y 0, Y 0, Y 0, Y 0, Y 0, Y 0] 28, .imm [Y 0, Y 2, Y 25, Y 1, Y 2, Y 5, Y 1, Y 0, .tok 127, .tok 126, .tok 125, .tok 124, .tok 123, .tok 122, .tok 121, .tok 120, Y 2, Y 2, Y 9, Y 0, Y 0, Y 0, Y 1, Y 0, Y 1, Y 0, Y 0, Y 0] 28, .imm [Y 0, Y 1, Y 25, Y 1, Y 1, Y 5, Y 1, Y 0, .tok 27, .tok 26, .tok 25, .tok 24, .tok 23, .tok 22, .tok 21, .tok 20, Y 2, Y 1, Y 9, Y 0, Y 0, Y 0, Y 0, Y 0, Y 0, Y 0, Y 0, Y 0] 28, .imm [Y 0, Y 2, Y 25, Y 1, Y 2, Y 5, Y 1, Y 0, .tok 127, .tok 126, .tok 125, .tok 124, .tok 123, .tok 122, .tok 121, .tok 120, Y 2, Y 2, Y 9, Y 0, Y 0, Y 0, Y 1, Y 0, Y 1, Y 0, Y 0, Y 0] 28, .nsl, .nsl]),
  (822, C 10 [I 1, W 2, W 5, I 1, I 0, .tok 106, I 1, W 2, .nsl, .imm [Y 0, Y 0, Y 0, Y 1, Y 0, Y 1, Y 0, Y 0, Y 0] 9]),
  (867, C 9 [I 3, I 1, I 0, W 0, W 0, I 0, .tok 6, W 1, I 0, I 1, I 1, I 0, W 1, W 5, I 0, .f .f64 0, W 0, I 0, I 3, I 1, I 0, W 0, W 0, I 0, .tok 106, W 2, I 0, I 1, I 1, I 0, W 2, W 5, I 0, .f .f64 0, W 0, I 0, I 3, I 1, I 0, W 0, W 0, I 0, .tok 206, W 3, I 0, I 1, I 1, I 0, W 3, W 5, I 0, .f .f64 0, W 0, I 0, I 2, I 0, I 1, W 1, W 0, I 0, .f .f64 0, W 0, I 0, I 2, I 0, I 1, W 2, W 0, I 0, .f .f64 0, W 0, I 0, I 2, I 2, I 1, W 1, W 0, I 0, .f .f64 0, W 0, I 0, I 2, I 2, I 1, W 2, W 0, I 0, .f .f64 0, W 0, I 0]),
  (874, C 1 [.imm [Y 1, Y 1] 2, .imm [Y 1, Y 2] 2])]
def hWF31 : AH := AH.edit hWF30 955 [553, 554, 874] [(199, C 5 [I 2, I 8, I 2, I 2, I 2]),
  (200, C 6 [I 2, I 3, P 199 0, O 450 0 1, O 548 1 0, W 3]),
  (209, C 5 [O 606 0 1, I 7, I 6, I 0, I 0]),
  (248, C 5 [O 906 0 0, I 6, I 6, I 0, I 0]),
  (450, C 2 [W 3, .imm [Y 1, Y 3, Y 5, Y 1, Y 0, .tok 227, .tok 226, .tok 225, .tok 224, .tok 223, .tok 222, .tok 221, .tok 220, Y 2, Y 3, Y 9, Y 0, Y 0, Y 0, Y 2, Y 0, Y 2, Y 0, Y 0, Y 0] 25, W 0, .nsl]),
  (606, C 1 [.imm [Y 0, Y 3, Y 25, Y 1, Y 3, Y 5, Y 1, Y 0, .tok 227, .tok 226, .tok 225, .tok 224, .tok 223, .tok 222, .tok 221, .tok 220, Y 2, Y 3, Y 9, Y 0, Y 0, Y 0, Y 2, Y 0, Y 2, Y 0, Y 0, Y 0] 28, .nsl, .nsl, .nsl, .nsl, .nsl]),
  (906, C 1 [.nsl, .nsl, .nsl, .nsl, .nsl, .nsl])]
def hWF32 : AH := AH.edit hWF31 1042 [] [(166, C 5 [O 756 0 2, I 8, I 6, I 0, I 0]),
  (192, C 5 [I 2, I 8, I 2, I 2, I 3]),
  (193, C 6 [I 2, I 3, P 192 0, O 441 0 1, O 545 1 0, W 3]),
  (199, C 5 [I 2, I 8, I 8, I 6, I 4]),
  (205, C 5 [O 602 0 1, I 9, I 8, I 0, I 0]),
  (209, C 5 [O 606 0 3, I 9, I 6, I 0, I 0]),
  (441, C 2 [W 3, .imm [Y 1, Y 3, Y 5, Y 1, Y 0, .tok 227, .tok 226, .tok 225, .tok 224, .tok 223, .tok 222, .tok 221, .tok 220, Y 2, Y 3, Y 9, Y 0, Y 0, Y 0, Y 2, Y 0, Y 2, Y 0, Y 0, Y 0] 25, W 0, .nsl]),
  (602, C 1 [.imm [Y 0, Y 3, Y 25, Y 1, Y 3, Y 5, Y 1, Y 0, .tok 227, .tok 226, .tok 225, .tok 224, .tok 223, .tok 222, .tok 221, .tok 220, Y 2, Y 3, Y 9, Y 0, Y 0, Y 0, Y 2, Y 0, Y 2, Y 0, Y 0, Y 0] 28, .nsl, .nsl, .nsl, .nsl, .nsl]),
  (606, C 1 [.imm [Y 0, Y 3, Y 25, Y 1, Y 3, Y 5, Y 1, Y 0, .tok 227, .tok 226, .tok 225, .tok 224, .tok 223, .tok 222, .tok 221, .tok 220, Y 2, Y 3, Y 9, Y 0, Y 0, Y 0, Y 2, Y 0, Y 2, Y 0, Y 0, Y 0] 28, .imm [Y 0, Y 3, Y 25, Y 1, Y 3, Y 5, Y 1, Y 0, .tok 227, .tok 226, .tok 225, .tok 224, .tok 223, .tok 222, .tok 221, .tok 220, Y 2, Y 3, Y 9, Y 0, Y 0, Y 0, Y 2, Y 0, Y 2, Y 0, Y 0, Y 0] 28, .imm [Y 0, Y 3, Y 25, Y 1, Y 3, Y 5, Y 1, Y 0, .tok 227, .tok 226, .tok 225, .tok 224, .tok 223, .tok 222, .tok 221, .tok 220, Y 2, Y 3, Y 9, Y 0, Y 0, Y 0, Y 2, Y 0, Y 2, Y 0, Y 0, Y 0] 28, .nsl, .nsl, .nsl]),
  (756, C 1 [.imm [Y 1, Y 2] 2, .imm [Y 1, Y 2] 2, .nsl, .nsl, .nsl, .nsl]),
  (955, C 8 [I 8, I 0, I 0, I 0, I 0, W 0, .f .f64 0, .nsl]),
  (956, C 3 [.f .f64 0, I 0, W 0])]
def hWF33 : AH := AH.edit hWF32 1100 [672, 867] [(129, C 1 [O 1093 0 11]),
  (135, C 3 [.tok 206, I 1, W 3]),
  (138, C 1 [.nsl, O 1048 10 0, .nsl]),
  (150, C 5 [I 3, I 0, I 3, .imm [.imm [W 0, W 0, W 0] 3, .imm [W 3, W 0, W 3] 3, .imm [W 0, W 0, W 0] 3] 3, .imm [W 0, W 3, W 0] 3]),
  (155, C 3 [W 2, W 4, .m (some 154)]),
  (166, C 5 [O 756 0 3, I 9, I 6, I 0, I 0]),
  (205, C 5 [O 602 0 0, I 9, I 9, I 0, I 0]),
  (602, C 1 [.nsl, .nsl, .nsl, .nsl, .nsl, .nsl]),
  (756, C 1 [.imm [Y 1, Y 2] 2, .imm [Y 1, Y 2] 2, .imm [Y 1, Y 3] 2, .nsl, .nsl, .nsl]),
  (1048, C 10 [I 1, W 3, W 5, I 1, I 0, .tok 206, I 1, W 3, .nsl, .imm [Y 0, Y 0, Y 0, Y 2, Y 0, Y 2, Y 0, Y 0, Y 0] 9]),
  (1093, C 9 [I 3, I 1, I 0, W 0, W 0, I 0, .tok 6, W 1, I 0, I 1, I 1, I 0, W 1, W 5, I 0, .f .f64 0, W 0, I 0, I 3, I 1, I 0, W 0, W 0, I 0, .tok 106, W 2, I 0, I 1, I 1, I 0, W 2, W 5, I 0, .f .f64 0, W 0, I 0, I 3, I 1, I 0, W 0, W 0, I 0, .tok 206, W 3, I 0, I 1, I 1, I 0, W 3, W 5, I 0, .f .f64 0, W 0, I 0, I 2, I 0, I 1, W 1, W 0, I 0, .f .f64 0, W 0, I 0, I 2, I 0, I 1, W 2, W 0, I 0, .f .f64 0, W 0, I 0, I 2, I 2, I 1, W 1, W 0, I 0, .f .f64 0, W 0, I 0, I 2, I 2, I 1, W 2, W 0, I 0, .f .f64 0, W 0, I 0, I 2, I 0, I 1, W 3, W 0, I 0, .f .f64 0, W 0, I 0])]
def hWF34 : AH := AH.edit hWF33 1158 [822, 1093] [(129, C 1 [O 1151 0 12]),
  (209, C 5 [O 606 0 2, I 9, I 7, I 0, I 0]),
  (217, C 3 [.tok 206, I 1, W 3]),
  (220, C 1 [.nsl, O 1106 10 0, .nsl]),
  (232, C 5 [I 3, I 2, I 3, .imm [.imm [W 0, W 0, W 0] 3, .imm [W 3, W 0, W 3] 3, .imm [W 0, W 0, W 0] 3] 3, .imm [W 0, W 3, W 0] 3]),
  (242, C 3 [W 2, W 4, .m (some 241)]),
  (248, C 5 [O 906 0 1, I 7, I 6, I 0, I 0]),
  (606, C 1 [.imm [Y 0, Y 3, Y 25, Y 1, Y 3, Y 5, Y 1, Y 0, .tok 227, .tok 226, .tok 225, .tok 224, .tok 223, .tok 222, .tok 221, .tok 220, Y 2, Y 3, Y 9, Y 0, Y 0, Y 0, Y 2, Y 0, Y 2, Y 0, Y 0, Y 0] 28, .imm [Y 0, Y 3, Y 25, Y 1, Y 3, Y 5, Y 1, Y 0, .tok 227, .tok 226, .tok 225, .tok 224, .tok 223, .tok 222, .tok 221, .tok 220, Y 2, Y 3, Y 9, Y 0, Y 0, Y 0, Y 2, Y 0, Y 2, Y 0, Y 0, Y 0] 28, .nsl, .nsl, .nsl, .nsl]),
  (906, C 1 [.imm [Y 1, Y 3] 2, .nsl, .nsl, .nsl, .nsl, .nsl]),
  (1106, C 10 [I 1, W 3, W 5, I 1, I 0, .tok 206, I 1, W 3, .nsl, .imm [Y 0, Y 0, Y 0, Y 2, Y 0, Y 2, Y 0, Y 0, Y 0] 9]),
  (1151, C 9 [I 3, I 1, I 0, W 0, W 0, I 0, .tok 6, W 1, I 0, I 1, I 1, I 0, W 1, W 5, I 0, .f .f64 0, W 0, I 0, I 3, I 1, I 0, W 0, W 0, I 0, .tok 106, W 2, I 0, I 1, I 1, I 0, W 2, W 5, I 0, .f .f64 0, W 0, I 0, I 3, I 1, I 0, W 0, W 0, I 0, .tok 206, W 3, I 0, I 1, I 1, I 0, W 3, W 5, I 0, .f .f64 0, W 0, I 0, I 2, I 0, I 1, W 1, W 0, I 0, .f .f64 0, W 0, I 0, I 2, I 0, I 1, W 2, W 0, I 0, .f .f64 0, W 0, I 0, I 2, I 2, I 1, W 1, W 0, I 0, .f .f64 0, W 0, I 0, I 2, I 2, I 1, W 2, W 0, I 0, .f .f64 0, W 0, I 0, I 2, I 0, I 1, W 3, W 0, I 0, .f .f64 0, W 0, I 0, I 2, I 2, I 1, W 3, W 0, I 0, .f .f64 0, W 0, I 0])]
def hWF35 : AH := AH.edit hWF34 1191 [955, 956] [(199, C 5 [I 2, I 8, I 2, I 0, I 4]),
  (200, C 6 [I 2, I 3, P 199 0, O 450 0 0, O 548 1 0, W 3]),
  (209, C 5 [O 606 0 0, I 9, I 9, I 0, I 0]),
  (248, C 5 [O 906 0 0, I 9, I 9, I 0, I 0]),
  (450, C 2 [W 0, .nsl, W 0, .nsl]),
  (606, C 1 [.nsl, .nsl, .nsl, .nsl, .nsl, .nsl]),
  (906, C 1 [.nsl, .nsl, .nsl, .nsl, .nsl, .nsl])]
def hWF36 : AH := AH.edit hWF35 1238 [] [(166, C 5 [O 756 0 2, I 11, I 9, I 0, I 0]),
  (192, C 5 [I 2, I 8, I 2, I 0, I 5]),
  (193, C 6 [I 2, I 3, P 192 0, O 441 0 0, O 545 1 0, W 3]),
  (205, C 5 [O 602 0 0, I 11, I 11, I 0, I 0]),
  (441, C 2 [W 0, .nsl, W 0, .nsl]),
  (756, C 1 [.imm [Y 1, Y 3] 2, .imm [Y 1, Y 3] 2, .nsl, .nsl, .nsl, .nsl])]
def hWF37 : AH := AH.edit hWF36 1252 [] [(166, C 5 [O 756 0 0, I 11, I 11, I 0, I 0]),
  (756, C 1 [.nsl, .nsl, .nsl, .nsl, .nsl, .nsl])]
def hWF38 : AH := AH.edit hWF24 641 [545, 548, 551] [(129, C 1 [O 640 0 8]),
  (176, C 3 [.tok 306, I 1, W 4]),
  (177, C 11 [I 3, .imm [W 7] 1, I 2, I 3, I 2, I 8, I 64, I 1, I 1, O 176 0 1, W 4]),
  (180, C 17 [I 3, O 178 0 1, I 2, I 3, I 2, I 8, I 64, I 1, I 1, P 129 0, O 204 0 3, .ifc 105 (P 191 0), P 177 0, W 4, O 179 0 3, N 0, .nsl]),
  (191, C 5 [I 3, I 1, I 3, .imm [.imm [W 0, W 0, W 0] 3, .imm [W 4, W 0, W 4] 3, .imm [W 0, W 0, W 0] 3] 3, O 190 0 3]),
  (193, C 6 [I 2, I 3, P 192 0, O 441 0 2, O 634 0 2, W 2]),
  (200, C 6 [I 2, I 3, P 199 0, O 450 0 2, O 637 0 2, W 2]),
  (634, C 1 [.imm [Y 1, Y 3, Y 5, Y 1, Y 0, .tok 227, .tok 226, .tok 225, .tok 224, .tok 223, .tok 222, .tok 221, .tok 220, Y 2, Y 3, Y 9, Y 0, Y 0, Y 0, Y 2, Y 0, Y 2, Y 0, Y 0, Y 0] 25, .imm [Y 1, Y 4, Y 5, Y 1, Y 0, .tok 327, .tok 326, .tok 325, .tok 324, .tok 323, .tok 322, .tok 321, .tok 320, Y 2, Y 4, Y 9, Y 0, Y 0, Y 0, Y 3, Y 0, Y 3, Y 0, Y 0, Y 0] 25]),
  (637, C 1 [.imm [Y 1, Y 3, Y 5, Y 1, Y 0, .tok 227, .tok 226, .tok 225, .tok 224, .tok 223, .tok 222, .tok 221, .tok 220, Y 2, Y 3, Y 9, Y 0, Y 0, Y 0, Y 2, Y 0, Y 2, Y 0, Y 0, Y 0] 25, .imm [Y 1, Y 4, Y 5, Y 1, Y 0, .tok 327, .tok 326, .tok 325, .tok 324, .tok 323, .tok 322, .tok 321, .tok 320, Y 2, Y 4, Y 9, Y 0, Y 0, Y 0, Y 3, Y 0, Y 3, Y 0, Y 0, Y 0] 25]),
  (640, C 9 [I 3, I 1, I 0, W 0, W 0, I 0, .tok 6, W 1, I 0, I 1, I 1, I 0, W 1, W 5, I 0, .f .f64 0, W 0, I 0, I 3, I 1, I 0, W 0, W 0, I 0, .tok 106, W 2, I 0, I 1, I 1, I 0, W 2, W 5, I 0, .f .f64 0, W 0, I 0, I 3, I 1, I 0, W 0, W 0, I 0, .tok 206, W 3, I 0, I 1, I 1, I 0, W 3, W 5, I 0, .f .f64 0, W 0, I 0, I 3, I 1, I 0, W 0, W 0, I 0, .tok 306, W 4, I 0, I 1, I 1, I 0, W 4, W 5, I 0, .f .f64 0, W 0, I 0])]
def hWF39 : AH := AH.edit hWF38 642 [552] [(641, C 3 [.f .f64 0, I 0, W 0])]
def hWF40 : AH := AH.edit hWF39 696 [460, 462] [(192, C 5 [I 2, I 8, I 8, I 6, I 2]),
  (199, C 5 [I 2, I 8, I 8, I 6, I 2]),
  (205, C 5 [O 691 0 6, I 6, I 0, I 0, I 0]),
  (209, C 5 [O 695 0 6, I 6, I 0, I 0, I 0]),
  (642, C 8 [I 8, I 0, I 0, I 0, I 0, W 0, .f .f64 0, .nsl]),
  (643, C 3 [.f .f64 0, I 0, W 0]),
  (691, C 1 [.imm [Y 0, Y 1, Y 25, Y 1, Y 1, Y 5, Y 1, Y 0, .tok 27, .tok 26, .tok 25, .tok 24, .tok 23, .tok 22, .tok 21, .tok 20, Y 2, Y 1, Y 9, Y 0, Y 0, Y 0, Y 0, Y 0, Y 0, Y 0, Y 0, Y 0] 28, .imm [Y 0, Y 2, Y 25, Y 1, Y 2, Y 5, Y 1, Y 0, .tok 127, .tok 126, .tok 125, .tok 124, .tok 123, .tok 122, .tok 121, .tok 120, Y 2, Y 2, Y 9, Y 0, Y 0, Y 0, Y 1, Y 0, Y 1, Y 0, Y 0, Y 0] 28, .imm [Y 0, Y 1, Y 25, Y 1, Y 1, Y 5, Y 1, Y 0, .tok 27, .tok 26, .tok 25, .tok 24, .tok 23, .tok 22, .tok 21, .tok 20, Y 2, Y 1, Y 9, Y 0, Y 0, Y 0, Y 0, Y 0, Y 0, Y 0, Y 0, Y 0] 28, .imm [Y 0, Y 2, Y 25, Y 1, Y 2, Y 5, Y 1, Y 0, .tok 127, .tok 126, .tok 125, .tok 124, .tok 123, .tok 122, .tok 121, .tok 120, Y 2, Y 2, Y 9, Y 0, Y 0, Y 0, Y 1, Y 0, Y 1, Y 0, Y 0, Y 0] 28, .imm [Y 0, Y 1, Y 25, Y 1, Y 1, Y 5, Y 1, Y 0, .tok 27, .tok 26, .tok 25, .tok 24, .tok 23, .tok 22, .tok 21, .tok 20, Y 2, Y 1, Y 9, Y 0, Y 0, Y 0, Y 0, Y 0, Y 0, Y 0, Y 0, Y 0] 28, .imm [Y 0, Y 2, Y 25, Y 1, Y 2, Y 5, Y 1, Y 0, .tok 127, .tok 126, .tok 125, .tok 124, .tok 123, .tok 122, .tok 121, .tok 120, Y 2, Y 2, Y 9, Y 0, Y 0, Y 0, Y 1, Y 0, Y 1, Y 0, Y 0, Y 0] 28]),
  (695, C 1 [.imm [Y 0, Y 1, Y 25, Y 1, Y 1, Y 5, Y 1, Y 0, .tok 27, .tok 26, .tok 25, .tok 24, .tok 23, .tok 22, .tok 21, .tok 20, Y 2, Y 1, Y 9, Y 0, Y 0, Y 0, Y 0, Y 0, Y 0, Y 0, Y 0, Y 0] 28, .imm [Y 0, Y 2, Y 25, Y 1, Y 2, Y 5, Y 1, Y 0, .tok 127, .tok 126, .tok 125, .tok 124, .tok 123, .tok 122, .tok 121, .tok 120, Y 2, Y 2, Y 9, Y 0, Y 0, Y 0, Y 1, Y 0, Y 1, Y 0, Y 0, Y 0] 28, .imm [Y 0, Y 1, Y 25, Y 1, Y 1, Y 5, Y 1, Y 0, .tok 27, .tok 26, .tok 25, .tok 24, .tok 23, .tok 22, .tok 21, .tok 20, Y 2, Y 1, Y 9, Y 0, Y 0, Y 0, Y 0, Y 0, Y 0, Y 0, Y 0, Y 0] 28, .imm [Y 0, Y 2, Y 25, Y 1, Y 2, Y 5, Y 1, Y 0, .tok 127, .tok 126, .tok 125, .tok 124, .tok 123, .tok 122, .tok 121, .tok 120, Y 2, Y 2, Y 9, Y 0, Y 0, Y 0, Y 1, Y 0, Y 1, Y 0, Y 0, Y 0] 28, .imm [Y 0, Y 1, Y 25, Y 1, Y 1, Y 5, Y 1, Y 0, .tok 27, .tok 26, .tok 25, .tok 24, .tok 23, .tok 22, .tok 21, .tok 20, Y 2, Y 1, Y 9, Y 0, Y 0, Y 0, Y 0, Y 0, Y 0, Y 0, Y 0, Y 0] 28, .imm [Y 0, Y 2, Y 25, Y 1, Y 2, Y 5, Y 1, Y 0, .tok 127, .tok 126, .tok 125, .tok 124, .tok 123, .tok 122, .tok 121, .tok 120, Y 2, Y 2, Y 9, Y 0, Y 0, Y 0, Y 1, Y 0, Y 1, Y 0, Y 0, Y 0] 28])]
def hWF41 : AH := AH.edit hWF40 755 [142, 144, 146, 147, 149, 640] [(129, C 1 [O 747 0 9]),
  (135, C 3 [.tok 6, I 1, W 1]),
  (138, C 1 [.nsl, O 702 10 0, .nsl]),
  (150, C 5 [I 3, I 0, I 3, .imm [.imm [W 0, W 0, W 0] 3, .imm [W 1, W 0, W 1] 3, .imm [W 0, W 0, W 0] 3] 3, .imm [W 0, W 1, W 0] 3]),
  (155, C 3 [W 2, W 2, .m (some 154)]),
  (166, C 5 [O 754 0 1, I 1, I 0, I 0, I 0]),
  (205, C 5 [O 691 0 5, I 6, I 1, I 0, I 0]),
  (691, C 1 [.imm [Y 0, Y 2, Y 25, Y 1, Y 2, Y 5, Y 1, Y 0, .tok 127, .tok 126, .tok 125, .tok 124, .tok 123, .tok 122, .tok 121, .tok 120, Y 2, Y 2, Y 9, Y 0, Y 0, Y 0, Y 1, Y 0, Y 1, Y 0, Y 0, Y 0] 28, .imm [Y 0, Y 1, Y 25, Y 1, Y 1, Y 5, Y 1, Y 0, .tok 27, .tok 26, .tok 25, .tok 24, .tok 23, .tok 22, .tok 21, .tok 20, Y 2, Y 1, Y 9, Y 0, Y 0, Y 0, Y 0, Y 0, Y 0, Y 0, Y 0, Y 0] 28, .imm [Y 0, Y 2, Y 25, Y 1, Y 2, Y 5, Y 1, Y 0, .tok 127, .tok 126, .tok 125, .tok 124, .tok 123, .tok 122, .tok 121, .tok 120, Y 2, Y 2, Y 9, Y 0, Y 0, Y 0, Y 1, Y 0, Y 1, Y 0, Y 0, Y 0] 28, .imm [Y 0, Y 1, Y 25, Y 1, Y 1, Y 5, Y 1, Y 0, .tok 27, .tok 26, .tok 25, .tok 24, .tok 23, .tok 22, .tok 21, .tok 20, Y 2, Y 1, Y 9, Y 0, Y 0, Y 0, Y 0, Y 0, Y 0, Y 0, Y 0, Y 0] 28, .imm [Y 0, Y 2, Y 25, Y 1, Y 2, Y 5, Y 1, Y 0, .tok 127, .tok 126, .tok 125, .tok 124, .tok 123, .tok 122, .tok 121, .tok 120, Y 2, Y 2, Y 9, Y 0, Y 0, Y 0, Y 1, Y 0, Y 1, Y 0, Y 0, Y 0] 28, .nsl]),
  (702, C 10 [I 1, W 1, W 5, I 1, I 0, .tok 6, I 1, W 1, .nsl, .imm [Y 0, Y 0, Y 0, Y 0, Y 0, Y 0, Y 0, Y 0, Y 0] 9]),
  (747, C 9 [I 3, I 1, I 0, W 0, W 0, I 0, .tok 6, W 1, I 0, I 1, I 1, I 0, W 1, W 5, I 0, .f .f64 0, W 0, I 0, I 3, I 1, I 0, W 0, W 0, I 0, .tok 106, W 2, I 0, I 1, I 1, I 0, W 2, W 5, I 0, .f .f64 0, W 0, I 0, I 3, I 1, I 0, W 0, W 0, I 0, .tok 206, W 3, I 0, I 1, I 1, I 0, W 3, W 5, I 0, .f .f64 0, W 0, I 0, I 3, I 1, I 0, W 0, W 0, I 0, .tok 306, W 4, I 0, I 1, I 1, I 0, W 4, W 5, I 0, .f .f64 0, W 0, I 0, I 2, I 0, I 1, W 1, W 0, I 0, .f .f64 0, W 0, I 0]),
  (754, C 1 [.imm [Y 1, Y 1] 2])]
def hWF42 : AH := AH.edit hWF41 814 [702, 747, 754] [(129, C 1 [O 806 0 10]),
  (135, C 3 [.tok 106, I 1, W 2]),
  (138, C 1 [.nsl, O 761 10 0, .nsl]),
  (150, C 5 [I 3, I 0, I 3, .imm [.imm [W 0, W 0, W 0] 3, .imm [W 2, W 0, W 2] 3, .imm [W 0, W 0, W 0] 3] 3, .imm [W 0, W 2, W 0] 3]),
  (155, C 3 [W 2, W 3, .m (some 154)]),
  (166, C 5 [O 813 0 2, I 2, I 0, I 0, I 0]),
  (205, C 5 [O 691 0 4, I 6, I 2, I 0, I 0]),
  (691, C 1 [.imm [Y 0, Y 1, Y 25, Y 1, Y 1, Y 5, Y 1, Y 0, .tok 27, .tok 26, .tok 25, .tok 24, .tok 23, .tok 22, .tok 21, .tok 20, Y 2, Y 1, Y 9, Y 0, Y 0, Y 0, Y 0, Y 0, Y 0, Y 0, Y 0, Y 0] 28, .imm [Y 0, Y 2, Y 25, Y 1, Y 2, Y 5, Y 1, Y 0, .tok 127, .tok 126, .tok 125, .tok 124, .tok 123, .tok 122, .tok 121, .tok 120, Y 2, Y 2, Y 9, Y 0, Y 0, Y 0, Y 1, Y 0, Y 1, Y 0, Y 0, Y 0] 28, .imm [Y 0, Y 1, Y 25, Y 1, Y 1, Y 5, Y 1, Y 0, .tok 27, .tok 26, .tok 25, .tok 24, .tok 23, .tok 22, .tok 21, .tok 20, Y 2, Y 1, Y 9, Y 0, Y 0, Y 0, Y 0, Y 0, Y 0, Y 0, Y 0, Y 0] 28, .imm [Y 0, Y 2, Y 25, Y 1, Y 2, Y 5, Y 1, Y 0, .tok 127, .tok 126, .tok 125, .tok 124, .tok 123, .tok 122, .tok 121, .tok 120, Y 2, Y 2, Y 9, Y 0, Y 0, Y 0, Y 1, Y 0, Y 1, Y 0, Y 0, Y 0] 28, .nsl, .nsl]),
  (761, C 10 [I 1, W 2, W 5, I 1, I 0, .tok 106, I 1, W 2, .nsl, .imm [Y 0, Y 0, Y 0, Y 1, Y 0, Y 1, Y 0, Y 0, Y 0] 9]),
  (806, C 9 [I 3, I 1, I 0, W 0, W 0, I 0, .tok 6, W 1, I 0, I 1, I 1, I 0, W 1, W 5, I 0, .f .f64 0, W 0, I 0, I 3, I 1, I 0, W 0, W 0, I 0, .tok 106, W 2, I 0, I 1, I 1, I 0, W 2, W 5, I 0, .f .f64 0, W 0, I 0, I 3, I 1, I 0, W 0, W 0, I 0, .tok 206, W 3, I 0, I 1, I 1, I 0, W 3, W 5, I 0, .f .f64 0, W 0, I 0, I 3, I 1, I 0, W 0, W 0, I 0, .tok 306, W 4, I 0, I 1, I 1, I 0, W 4, W 5, I 0, .f .f64 0, W 0, I 0, I 2, I 0, I 1, W 1, W 0, I 0, .f .f64 0, W 0, I 0, I 2, I 0, I 1, W 2, W 0, I 0, .f .f64 0, W 0, I 0]),
  (813, C 1 [.imm [Y 1, Y 1] 2, .imm [Y 1, Y 2] 2])]
def hWF43 : AH := AH.edit hWF42 846 [813] [(166, C 5 [O 845 0 6, I 6, I 0, I 0, I 0]),
  (205, C 5 [O 691 0 0, I 6, I 6, I 0, I 0]),
  (691, C 1 [.nsl, .nsl, .nsl, .nsl, .nsl, .nsl]),
  (845, C 1 [.imm [Y 1, Y 1] 2, .imm [Y 1, Y 2] 2, .imm [Y 1, Y 2] 2, .imm [Y 1, Y 2] 2, .imm [Y 1, Y 2] 2, .imm [Y 1, Y 2] 2])]
def hWF44 : AH := AH.edit hWF43 905 [224, 226, 228, 229, 231, 806] [(129, C 1 [O 897 0 11]),
  (209, C 5 [O 695 0 5, I 6, I 1, I 0, I 0]),
  (217, C 3 [.tok 6, I 1, W 1]),
  (220, C 1 [.nsl, O 852 10 0, .nsl]),
  (232, C 5 [I 3, I 2, I 3, .imm [.imm [W 0, W 0, W 0] 3, .imm [W 1, W 0, W 1] 3, .imm [W 0, W 0, W 0] 3] 3, .imm [W 0, W 1, W 0] 3]),
  (242, C 3 [W 2, W 2, .m (some 241)]),
  (248, C 5 [O 904 0 1, I 1, I 0, I 0, I 0]),
  (695, C 1 [.imm [Y 0, Y 2, Y 25, Y 1, Y 2, Y 5, Y 1, Y 0, .tok 127, .tok 126, .tok 125, .tok 124, .tok 123, .tok 122, .tok 121, .tok 120, Y 2, Y 2, Y 9, Y 0, Y 0, Y 0, Y 1, Y 0, Y 1, Y 0, Y 0, Y 0] 28, .imm [Y 0, Y 1, Y 25, Y 1, Y 1, Y 5, Y 1, Y 0, .tok 27, .tok 26, .tok 25, .tok 24, .tok 23, .tok 22, .tok 21, .tok 20, Y 2, Y 1, Y 9, Y 0, Y 0, Y 0, Y 0, Y 0, Y 0, Y 0, Y 0, Y 0] 28, .imm [Y 0, Y 2, Y 25, Y 1, Y 2, Y 5, Y 1, Y 0, .tok 127, .tok 126, .tok 125, .tok 124, .tok 123, .tok 122, .tok 121, .tok 120, Y 2, Y 2, Y 9, Y 0, Y 0, Y 0, Y 1, Y 0, Y 1, Y 0, Y 0, Y 0] 28, .imm [Y 0, Y 1, Y 25, Y 1, Y 1, Y 5, Y 1, Y 0, .tok 27, .tok 26, .tok 25, .tok 24, .tok 23, .tok 22, .tok 21, .tok 20, Y 2, Y 1, Y 9, Y 0, Y 0, Y 0, Y 0, Y 0, Y 0, Y 0, Y 0, Y 0] 28, .imm [Y 0, Y 2, Y 25, Y 1, Y 2, Y 5, Y 1, Y 0, .tok 127, .tok 126, .tok 125, .tok 124, .tok 123, .tok 122, .tok 121, .tok 120, Y 2, Y 2, Y 9, Y 0, Y 0, Y 0, Y 1, Y 0, Y 1, Y 0, Y 0, Y 0] 28, .nsl]),
  (852, C 10 [I 1, W 1, W 5, I 1, I 0, .tok 6, I 1, W 1, .nsl, .imm [Y 0, Y 0, Y 0, Y 0, Y 0, Y 0, Y 0, Y 0, Y 0] 9]),
  (897, C 9 [I 3, I 1, I 0, W 0, W 0, I 0, .tok 6, W 1, I 0, I 1, I 1, I 0, W 1, W 5, I 0, .f .f64 0, W 0, I 0, I 3, I 1, I 0, W 0, W 0, I 0, .tok 106, W 2, I 0, I 1, I 1, I 0, W 2, W 5, I 0, .f .f64 0, W 0, I 0, I 3, I 1, I 0, W 0, W 0, I 0, .tok 206, W 3, I 0, I 1, I 1, I 0, W 3, W 5, I 0, .f .f64 0, W 0, I 0, I 3, I 1, I 0, W 0, W 0, I 0, .tok 306, W 4, I 0, I 1, I 1, I 0, W 4, W 5, I 0, .f .f64 0, W 0, I 0, I 2, I 0, I 1, W 1, W 0, I 0, .f .f64 0, W 0, I 0, I 2, I 0, I 1, W 2, W 0, I 0, .f .f64 0, W 0, I 0, I 2, I 2, I 1, W 1, W 0, I 0, .f .f64 0, W 0, I 0]),
  (904, C 1 [.imm [Y 1, Y 1] 2])]
def hWF45 : AH := AH.edit hWF44 964 [852, 897, 904] [(129, C 1 [O 956 0 12]),
  (209, C 5 [O 695 0 4, I 6, I 2, I 0, I 0]),
  (217, C 3 [.tok 106, I 1, W 2]),
  (220, C 1 [.nsl, O 911 10 0, .nsl]),
  (232, C 5 [I 3, I 2, I 3, .imm [.imm [W 0, W 0, W 0] 3, .imm [W 2, W 0, W 2] 3, .imm [W 0, W 0, W 0] 3] 3, .imm [W 0, W 2, W 0] 3]),
  (242, C 3 [W 2, W 3, .m (some 241)]),
  (248, C 5 [O 963 0 2, I 2, I 0, I 0, I 0]),
  (695, C 1 [.imm [Y 0, Y 1, Y 25, Y 1, Y 1, Y 5, Y 1, Y 0, .tok 27, .tok 26, .tok 25, .tok 24, .tok 23, .tok 22, .tok 21, .tok 20, Y 2, Y 1, Y 9, Y 0, Y 0, Y 0, Y 0, Y 0, Y 0, Y 0, Y 0, Y 0] 28, .imm [Y 0, Y 2, Y 25, Y 1, Y 2, Y 5, Y 1, Y 0, .tok 127, .tok 126, .tok 125, .tok 124, .tok 123, .tok 122, .tok 121, .tok 120, Y 2, Y 2, Y 9, Y 0, Y 0, Y 0, Y 1, Y 0, Y 1, Y 0, Y 0, Y 0] 28, .imm [Y 0, Y 1, Y 25, Y 1, Y 1, Y 5, Y 1, Y 0, .tok 27, .tok 26, .tok 25, .tok 24, .tok 23, .tok 22, .tok 21, .tok 20, Y 2, Y 1, Y 9, Y 0, Y 0, Y 0, Y 0, Y 0, Y 0, Y 0, Y 0, Y 0] 28, .imm [Y 0, Y 2, Y 25, Y 1, Y 2, Y 5, Y 1, Y 0, .tok 127, .tok 126, .tok 125, .tok 124, .tok 123, .tok 122, .tok 121, .tok 120, Y 2, Y 2, Y 9, Y 0, Y 0, Y 0, Y 1, Y 0, Y 1, Y 0, Y 0, Y 0] 28, .nsl, .nsl]),
  (911, C 10 [I 1, W 2, W 5, I 1, I 0, .tok 106, I 1, W 2, .nsl, .imm [Y 0, Y 0, Y 0, Y 1, Y 0, Y 1, Y 0, Y 0, Y 0] 9]),
  (956, C 9 [I 3, I 1, I 0, W 0, W 0, I 0, .tok 6, W 1, I 0, I 1, I 1, I 0, W 1, W 5, I 0, .f .f64 0, W 0, I 0, I 3, I 1, I 0, W 0, W 0, I 0, .tok 106, W 2, I 0, I 1, I 1, I 0, W 2, W 5, I 0, .f .f64 0, W 0, I 0, I 3, I 1, I 0, W 0, W 0, I 0, .tok 206, W 3, I 0, I 1, I 1, I 0, W 3, W 5, I 0, .f .f64 0, W 0, I 0, I 3, I 1, I 0, W 0, W 0, I 0, .tok 306, W 4, I 0, I 1, I 1, I 0, W 4, W 5, I 0, .f .f64 0, W 0, I 0, I 2, I 0, I 1, W 1, W 0, I 0, .f .f64 0, W 0, I 0, I 2, I 0, I 1, W 2, W 0, I 0, .f .f64 0, W 0, I 0, I 2, I 2, I 1, W 1, W 0, I 0, .f .f64 0, W 0, I 0, I 2, I 2, I 1, W 2, W 0, I 0, .f .f64 0, W 0, I 0]),
  (963, C 1 [.imm [Y 1, Y 1] 2, .imm [Y 1, Y 2] 2])]
def hWF46 : AH := AH.edit hWF45 1050 [642, 643, 963] [(199, C 5 [I 2, I 8, I 2, I 2, I 2]),
  (200, C 6 [I 2, I 3, P 199 0, O 450 0 2, O 637 2 0, W 4]),
  (209, C 5 [O 695 0 2, I 8, I 6, I 0, I 0]),
  (248, C 5 [O 995 0 0, I 6, I 6, I 0, I 0]),
  (450, C 2 [W 3, .imm [Y 1, Y 3, Y 5, Y 1, Y 0, .tok 227, .tok 226, .tok 225, .tok 224, .tok 223, .tok 222, .tok 221, .tok 220, Y 2, Y 3, Y 9, Y 0, Y 0, Y 0, Y 2, Y 0, Y 2, Y 0, Y 0, Y 0] 25, W 4, .imm [Y 1, Y 4, Y 5, Y 1, Y 0, .tok 327, .tok 326, .tok 325, .tok 324, .tok 323, .tok 322, .tok 321, .tok 320, Y 2, Y 4, Y 9, Y 0, Y 0, Y 0, Y 3, Y 0, Y 3, Y 0, Y 0, Y 0] 25]),
  (695, C 1 [.imm [Y 0, Y 3, Y 25, Y 1, Y 3, Y 5, Y 1, Y 0, .tok 227, .tok 226, .tok 225, .tok 224, .tok 223, .tok 222, .tok 221, .tok 220, Y 2, Y 3, Y 9, Y 0, Y 0, Y 0, Y 2, Y 0, Y 2, Y 0, Y 0, Y 0] 28, .imm [Y 0, Y 4, Y 25, Y 1, Y 4, Y 5, Y 1, Y 0, .tok 327, .tok 326, .tok 325, .tok 324, .tok 323, .tok 322, .tok 321, .tok 320, Y 2, Y 4, Y 9, Y 0, Y 0, Y 0, Y 3, Y 0, Y 3, Y 0, Y 0, Y 0] 28, .nsl, .nsl, .nsl, .nsl]),
  (995, C 1 [.nsl, .nsl, .nsl, .nsl, .nsl, .nsl])]
def hWF47 : AH := AH.edit hWF46 1153 [] [(166, C 5 [O 845 0 2, I 8, I 6, I 0, I 0]),
  (192, C 5 [I 2, I 8, I 2, I 2, I 3]),
  (193, C 6 [I 2, I 3, P 192 0, O 441 0 2, O 634 2 0, W 4]),
  (199, C 5 [I 2, I 8, I 8, I 6, I 4]),
  (205, C 5 [O 691 0 2, I 10, I 8, I 0, I 0]),
  (209, C 5 [O 695 0 6, I 12, I 6, I 0, I 0]),
  (441, C 2 [W 3, .imm [Y 1, Y 3, Y 5, Y 1, Y 0, .tok 227, .tok 226, .tok 225, .tok 224, .tok 223, .tok 222, .tok 221, .tok 220, Y 2, Y 3, Y 9, Y 0, Y 0, Y 0, Y 2, Y 0, Y 2, Y 0, Y 0, Y 0] 25, W 4, .imm [Y 1, Y 4, Y 5, Y 1, Y 0, .tok 327, .tok 326, .tok 325, .tok 324, .tok 323, .tok 322, .tok 321, .tok 320, Y 2, Y 4, Y 9, Y 0, Y 0, Y 0, Y 3, Y 0, Y 3, Y 0, Y 0, Y 0] 25]),
  (691, C 1 [.imm [Y 0, Y 3, Y 25, Y 1, Y 3, Y 5, Y 1, Y 0, .tok 227, .tok 226, .tok 225, .tok 224, .tok 223, .tok 222, .tok 221, .tok 220, Y 2, Y 3, Y 9, Y 0, Y 0, Y 0, Y 2, Y 0, Y 2, Y 0, Y 0, Y 0] 28, .imm [Y 0, Y 4, Y 25, Y 1, Y 4, Y 5, Y 1, Y 0, .tok 327, .tok 326, .tok 325, .tok 324, .tok 323, .tok 322, .tok 321, .tok 320, Y 2, Y 4, Y 9, Y 0, Y 0, Y 0, Y 3, Y 0, Y 3, Y 0, Y 0, Y 0] 28, .nsl, .nsl, .nsl, .nsl]),
  (695, C 1 [.imm [Y 0, Y 3, Y 25, Y 1, Y 3, Y 5, Y 1, Y 0, .tok 227, .tok 226, .tok 225, .tok 224, .tok 223, .tok 222, .tok 221, .tok 220, Y 2, Y 3, Y 9, Y 0, Y 0, Y 0, Y 2, Y 0, Y 2, Y 0, Y 0, Y 0] 28, .imm [Y 0, Y 4, Y 25, Y 1, Y 4, Y 5, Y 1, Y 0, .tok 327, .tok 326, .tok 325, .tok 324, .tok 323, .tok 322, .tok 321, .tok 320, Y 2, Y 4, Y 9, Y 0, Y 0, Y 0, Y 3, Y 0, Y 3, Y 0, Y 0, Y 0] 28, .imm [Y 0, Y 3, Y 25, Y 1, Y 3, Y 5, Y 1, Y 0, .tok 227, .tok 226, .tok 225, .tok 224, .tok 223, .tok 222, .tok 221, .tok 220, Y 2, Y 3, Y 9, Y 0, Y 0, Y 0, Y 2, Y 0, Y 2, Y 0, Y 0, Y 0] 28, .imm [Y 0, Y 4, Y 25, Y 1, Y 4, Y 5, Y 1, Y 0, .tok 327, .tok 326, .tok 325, .tok 324, .tok 323, .tok 322, .tok 321, .tok 320, Y 2, Y 4, Y 9, Y 0, Y 0, Y 0, Y 3, Y 0, Y 3, Y 0, Y 0, Y 0] 28, .imm [Y 0, Y 3, Y 25, Y 1, Y 3, Y 5, Y 1, Y 0, .tok 227, .tok 226, .tok 225, .tok 224, .tok 223, .tok 222, .tok 221, .tok 220, Y 2, Y 3, Y 9, Y 0, Y 0, Y 0, Y 2, Y 0, Y 2, Y 0, Y 0, Y 0] 28, .imm [Y 0, Y 4, Y 25, Y 1, Y 4, Y 5, Y 1, Y 0, .tok 327, .tok 326, .tok 325, .tok 324, .tok 323, .tok 322, .tok 321, .tok 320, Y 2, Y 4, Y 9, Y 0, Y 0, Y 0, Y 3, Y 0, Y 3, Y 0, Y 0, Y 0] 28]),
  (845, C 1 [.imm [Y 1, Y 2] 2, .imm [Y 1, Y 2] 2, .nsl, .nsl, .nsl, .nsl]),
  (1050, C 8 [I 8, I 0, I 0, I 0, I 0, W 0, .f .f64 0, .nsl]),
  (1051, C 3 [.f .f64 0, I 0, W 0])]
def hWF48 : AH := AH.edit hWF47 1211 [761, 956] [(129, C 1 [O 1204 0 13]),
  (135, C 3 [.tok 206, I 1, W 3]),
  (138, C 1 [.nsl, O 1159 10 0, .nsl]),
  (150, C 5 [I 3, I 0, I 3, .imm [.imm [W 0, W 0, W 0] 3, .imm [W 3, W 0, W 3] 3, .imm [W 0, W 0, W 0] 3] 3, .imm [W 0, W 3, W 0] 3]),
  (155, C 3 [W 2, W 4, .m (some 154)]),
  (166, C 5 [O 845 0 3, I 9, I 6, I 0, I 0]),
  (205, C 5 [O 691 0 1, I 10, I 9, I 0, I 0]),
  (691, C 1 [.imm [Y 0, Y 4, Y 25, Y 1, Y 4, Y 5, Y 1, Y 0, .tok 327, .tok 326, .tok 325, .tok 324, .tok 323, .tok 322, .tok 321, .tok 320, Y 2, Y 4, Y 9, Y 0, Y 0, Y 0, Y 3, Y 0, Y 3, Y 0, Y 0, Y 0] 28, .nsl, .nsl, .nsl, .nsl, .nsl]),
  (845, C 1 [.imm [Y 1, Y 2] 2, .imm [Y 1, Y 2] 2, .imm [Y 1, Y 3] 2, .nsl, .nsl, .nsl]),
  (1159, C 10 [I 1, W 3, W 5, I 1, I 0, .tok 206, I 1, W 3, .nsl, .imm [Y 0, Y 0, Y 0, Y 2, Y 0, Y 2, Y 0, Y 0, Y 0] 9]),
  (1204, C 9 [I 3, I 1, I 0, W 0, W 0, I 0, .tok 6, W 1, I 0, I 1, I 1, I 0, W 1, W 5, I 0, .f .f64 0, W 0, I 0, I 3, I 1, I 0, W 0, W 0, I 0, .tok 106, W 2, I 0, I 1, I 1, I 0, W 2, W 5, I 0, .f .f64 0, W 0, I 0, I 3, I 1, I 0, W 0, W 0, I 0, .tok 206, W 3, I 0, I 1, I 1, I 0, W 3, W 5, I 0, .f .f64 0, W 0, I 0, I 3, I 1, I 0, W 0, W 0, I 0, .tok 306, W 4, I 0, I 1, I 1, I 0, W 4, W 5, I 0, .f .f64 0, W 0, I 0, I 2, I 0, I 1, W 1, W 0, I 0, .f .f64 0, W 0, I 0, I 2, I 0, I 1, W 2, W 0, I 0, .f .f64 0, W 0, I 0, I 2, I 2, I 1, W 1, W 0, I 0, .f .f64 0, W 0, I 0, I 2, I 2, I 1, W 2, W 0, I 0, .f .f64 0, W 0, I 0, I 2, I 0, I 1, W 3, W 0, I 0, .f .f64 0, W 0, I 0])]
def hWF49 : AH := AH.edit hWF48 1269 [1159, 1204] [(129, C 1 [O 1262 0 14]),
  (135, C 3 [.tok 306, I 1, W 4]),
  (138, C 1 [.nsl, O 1217 10 0, .nsl]),
  (150, C 5 [I 3, I 0, I 3, .imm [.imm [W 0, W 0, W 0] 3, .imm [W 4, W 0, W 4] 3, .imm [W 0, W 0, W 0] 3] 3, .imm [W 0, W 4, W 0] 3]),
  (155, C 3 [W 2, W 5, .m (some 154)]),
  (166, C 5 [O 845 0 4, I 10, I 6, I 0, I 0]),
  (205, C 5 [O 691 0 0, I 10, I 10, I 0, I 0]),
  (691, C 1 [.nsl, .nsl, .nsl, .nsl, .nsl, .nsl]),
  (845, C 1 [.imm [Y 1, Y 2] 2, .imm [Y 1, Y 2] 2, .imm [Y 1, Y 3] 2, .imm [Y 1, Y 4] 2, .nsl, .nsl]),
  (1217, C 10 [I 1, W 4, W 5, I 1, I 0, .tok 306, I 1, W 4, .nsl, .imm [Y 0, Y 0, Y 0, Y 3, Y 0, Y 3, Y 0, Y 0, Y 0] 9]),
  (1262, C 9 [I 3, I 1, I 0, W 0, W 0, I 0, .tok 6, W 1, I 0, I 1, I 1, I 0, W 1, W 5, I 0, .f .f64 0, W 0, I 0, I 3, I 1, I 0, W 0, W 0, I 0, .tok 106, W 2, I 0, I 1, I 1, I 0, W 2, W 5, I 0, .f .f64 0, W 0, I 0, I 3, I 1, I 0, W 0, W 0, I 0, .tok 206, W 3, I 0, I 1, I 1, I 0, W 3, W 5, I 0, .f .f64 0, W 0, I 0, I 3, I 1, I 0, W 0, W 0, I 0, .tok 306, W 4, I 0, I 1, I 1, I 0, W 4, W 5, I 0, .f .f64 0, W 0, I 0, I 2, I 0, I 1, W 1, W 0, I 0, .f .f64 0, W 0, I 0, I 2, I 0, I 1, W 2, W 0, I 0, .f .f64 0, W 0, I 0, I 2, I 2, I 1, W 1, W 0, I 0, .f .f64 0, W 0, I 0, I 2, I 2, I 1, W 2, W 0, I 0, .f .f64 0, W 0, I 0, I 2, I 0, I 1, W 3, W 0, I 0, .f .f64 0, W 0, I 0, I 2, I 0, I 1, W 4, W 0, I 0, .f .f64 0, W 0, I 0])]
def hWF50 : AH := AH.edit hWF49 1327 [911, 1262] [(129, C 1 [O 1320 0 15]),
  (209, C 5 [O 695 0 5, I 12, I 7, I 0, I 0]),
  (217, C 3 [.tok 206, I 1, W 3]),
  (220, C 1 [.nsl, O 1275 10 0, .nsl]),
  (232, C 5 [I 3, I 2, I 3, .imm [.imm [W 0, W 0, W 0] 3, .imm [W 3, W 0, W 3] 3, .imm [W 0, W 0, W 0] 3] 3, .imm [W 0, W 3, W 0] 3]),
  (242, C 3 [W 2, W 4, .m (some 241)]),
  (248, C 5 [O 995 0 1, I 7, I 6, I 0, I 0]),
  (695, C 1 [.imm [Y 0, Y 4, Y 25, Y 1, Y 4, Y 5, Y 1, Y 0, .tok 327, .tok 326, .tok 325, .tok 324, .tok 323, .tok 322, .tok 321, .tok 320, Y 2, Y 4, Y 9, Y 0, Y 0, Y 0, Y 3, Y 0, Y 3, Y 0, Y 0, Y 0] 28, .imm [Y 0, Y 3, Y 25, Y 1, Y 3, Y 5, Y 1, Y 0, .tok 227, .tok 226, .tok 225, .tok 224, .tok 223, .tok 222, .tok 221, .tok 220, Y 2, Y 3, Y 9, Y 0, Y 0, Y 0, Y 2, Y 0, Y 2, Y 0, Y 0, Y 0] 28, .imm [Y 0, Y 4, Y 25, Y 1, Y 4, Y 5, Y 1, Y 0, .tok 327, .tok 326, .tok 325, .tok 324, .tok 323, .tok 322, .tok 321, .tok 320, Y 2, Y 4, Y 9, Y 0, Y 0, Y 0, Y 3, Y 0, Y 3, Y 0, Y 0, Y 0] 28, .imm [Y 0, Y 3, Y 25, Y 1, Y 3, Y 5, Y 1, Y 0, .tok 227, .tok 226, .tok 225, .tok 224, .tok 223, .tok 222, .tok 221, .tok 220, Y 2, Y 3, Y 9, Y 0, Y 0, Y 0, Y 2, Y 0, Y 2, Y 0, Y 0, Y 0] 28, .imm [Y 0, Y 4, Y 25, Y 1, Y 4, Y 5, Y 1, Y 0, .tok 327, .tok 326, .tok 325, .tok 324, .tok 323, .tok 322, .tok 321, .tok 320, Y 2, Y 4, Y 9, Y 0, Y 0, Y 0, Y 3, Y 0, Y 3, Y 0, Y 0, Y 0] 28, .nsl]),
  (995, C 1 [.imm [Y 1, Y 3] 2, .nsl, .nsl, .nsl, .nsl, .nsl]),
  (1275, C 10 [I 1, W 3, W 5, I 1, I 0, .tok 206, I 1, W 3, .nsl, .imm [Y 0, Y 0, Y 0, Y 2, Y 0, Y 2, Y 0, Y 0, Y 0] 9]),
  (1320, C 9 [I 3, I 1, I 0, W 0, W 0, I 0, .tok 6, W 1, I 0, I 1, I 1, I 0, W 1, W 5, I 0, .f .f64 0, W 0, I 0, I 3, I 1, I 0, W 0, W 0, I 0, .tok 106, W 2, I 0, I 1, I 1, I 0, W 2, W 5, I 0, .f .f64 0, W 0, I 0, I 3, I 1, I 0, W 0, W 0, I 0, .tok 206, W 3, I 0, I 1, I 1, I 0, W 3, W 5, I 0, .f .f64 0, W 0, I 0, I 3, I 1, I 0, W 0, W 0, I 0, .tok 306, W 4, I 0, I 1, I 1, I 0, W 4, W 5, I 0, .f .f64 0, W 0, I 0, I 2, I 0, I 1, W 1, W 0, I 0, .f .f64 0, W 0, I 0, I 2, I 0, I 1, W 2, W 0, I 0, .f .f64 0, W 0, I 0, I 2, I 2, I 1, W 1, W 0, I 0, .f .f64 0, W 0, I 0, I 2, I 2, I 1, W 2, W 0, I 0, .f .f64 0, W 0, I 0, I 2, I 0, I 1, W 3, W 0, I 0, .f .f64 0, W 0, I 0, I 2, I 0, I 1, W 4, W 0, I 0, .f .f64 0, W 0, I 0, I 2, I 2, I 1, W 3, W 0, I 0, .f .f64 0, W 0, I 0])]
def hWF51 : AH := AH.edit hWF50 1385 [1275, 1320] [(129, C 1 [O 1378 0 16]),
  (209, C 5 [O 695 0 4, I 12, I 8, I 0, I 0]),
  (217, C 3 [.tok 306, I 1, W 4]),
  (220, C 1 [.nsl, O 1333 10 0, .nsl]),
  (232, C 5 [I 3, I 2, I 3, .imm [.imm [W 0, W 0, W 0] 3, .imm [W 4, W 0, W 4] 3, .imm [W 0, W 0, W 0] 3] 3, .imm [W 0, W 4, W 0] 3]),
  (242, C 3 [W 2, W 5, .m (some 241)]),
  (248, C 5 [O 995 0 2, I 8, I 6, I 0, I 0]),
  (695, C 1 [.imm [Y 0, Y 3, Y 25, Y 1, Y 3, Y 5, Y 1, Y 0, .tok 227, .tok 226, .tok 225, .tok 224, .tok 223, .tok 222, .tok 221, .tok 220, Y 2, Y 3, Y 9, Y 0, Y 0, Y 0, Y 2, Y 0, Y 2, Y 0, Y 0, Y 0] 28, .imm [Y 0, Y 4, Y 25, Y 1, Y 4, Y 5, Y 1, Y 0, .tok 327, .tok 326, .tok 325, .tok 324, .tok 323, .tok 322, .tok 321, .tok 320, Y 2, Y 4, Y 9, Y 0, Y 0, Y 0, Y 3, Y 0, Y 3, Y 0, Y 0, Y 0] 28, .imm [Y 0, Y 3, Y 25, Y 1, Y 3, Y 5, Y 1, Y 0, .tok 227, .tok 226, .tok 225, .tok 224, .tok 223, .tok 222, .tok 221, .tok 220, Y 2, Y 3, Y 9, Y 0, Y 0, Y 0, Y 2, Y 0, Y 2, Y 0, Y 0, Y 0] 28, .imm [Y 0, Y 4, Y 25, Y 1, Y 4, Y 5, Y 1, Y 0, .tok 327, .tok 326, .tok 325, .tok 324, .tok 323, .tok 322, .tok 321, .tok 320, Y 2, Y 4, Y 9, Y 0, Y 0, Y 0, Y 3, Y 0, Y 3, Y 0, Y 0, Y 0] 28, .nsl, .nsl]),
  (995, C 1 [.imm [Y 1, Y 3] 2, .imm [Y 1, Y 4] 2, .nsl, .nsl, .nsl, .nsl]),
  (1333, C 10 [I 1, W 4, W 5, I 1, I 0, .tok 306, I 1, W 4, .nsl, .imm [Y 0, Y 0, Y 0, Y 3, Y 0, Y 3, Y 0, Y 0, Y 0] 9]),
  (1378, C 9 [I 3, I 1, I 0, W 0, W 0, I 0, .tok 6, W 1, I 0, I 1, I 1, I 0, W 1, W 5, I 0, .f .f64 0, W 0, I 0, I 3, I 1, I 0, W 0, W 0, I 0, .tok 106, W 2, I 0, I 1, I 1, I 0, W 2, W 5, I 0, .f .f64 0, W 0, I 0, I 3, I 1, I 0, W 0, W 0, I 0, .tok 206, W 3, I 0, I 1, I 1, I 0, W 3, W 5, I 0, .f .f64 0, W 0, I 0, I 3, I 1, I 0, W 0, W 0, I 0, .tok 306, W 4, I 0, I 1, I 1, I 0, W 4, W 5, I 0, .f .f64 0, W 0, I 0, I 2, I 0, I 1, W 1, W 0, I 0, .f .f64 0, W 0, I 0, I 2, I 0, I 1, W 2, W 0, I 0, .f .f64 0, W 0, I 0, I 2, I 2, I 1, W 1, W 0, I 0, .f .f64 0, W 0, I 0, I 2, I 2, I 1, W 2, W 0, I 0, .f .f64 0, W 0, I 0, I 2, I 0, I 1, W 3, W 0, I 0, .f .f64 0, W 0, I 0, I 2, I 0, I 1, W 4, W 0, I 0, .f .f64 0, W 0, I 0, I 2, I 2, I 1, W 3, W 0, I 0, .f .f64 0, W 0, I 0, I 2, I 2, I 1, W 4, W 0, I 0, .f .f64 0, W 0, I 0])]
def hWF52 : AH := AH.edit hWF51 1453 [1050, 1051] [(199, C 5 [I 2, I 8, I 2, I 0, I 4]),
  (200, C 6 [I 2, I 3, P 199 0, O 450 0 0, O 637 2 0, W 4]),
  (209, C 5 [O 695 0 0, I 12, I 12, I 0, I 0]),
  (248, C 5 [O 995 0 0, I 12, I 12, I 0, I 0]),
  (450, C 2 [W 0, .nsl, W 0, .nsl]),
  (695, C 1 [.nsl, .nsl, .nsl, .nsl, .nsl, .nsl]),
  (995, C 1 [.nsl, .nsl, .nsl, .nsl, .nsl, .nsl])]
def hWF53 : AH := AH.edit hWF52 1533 [] [(166, C 5 [O 845 0 4, I 14, I 10, I 0, I 0]),
  (192, C 5 [I 2, I 8, I 2, I 0, I 5]),
  (193, C 6 [I 2, I 3, P 192 0, O 441 0 0, O 634 2 0, W 4]),
  (205, C 5 [O 691 0 0, I 14, I 14, I 0, I 0]),
  (441, C 2 [W 0, .nsl, W 0, .nsl]),
  (845, C 1 [.imm [Y 1, Y 4] 2, .imm [Y 1, Y 4] 2, .imm [Y 1, Y 4] 2, .imm [Y 1, Y 4] 2, .nsl, .nsl])]
def hWF54 : AH := AH.edit hWF53 1559 [] [(166, C 5 [O 845 0 0, I 14, I 14, I 0, I 0]),
  (845, C 1 [.nsl, .nsl, .nsl, .nsl, .nsl, .nsl])]
def hWF55 : AH := AH.edit hWF38 654 [552, 640] [(129, C 1 [O 652 0 9]),
  (652, C 9 [I 3, I 1, I 0, W 0, W 0, I 0, .tok 6, W 1, I 0, I 1, I 1, I 0, W 1, W 5, I 0, .f .f64 0, W 0, I 0, I 3, I 1, I 0, W 0, W 0, I 0, .tok 106, W 2, I 0, I 1, I 1, I 0, W 2, W 5, I 0, .f .f64 0, W 0, I 0, I 3, I 1, I 0, W 0, W 0, I 0, .tok 206, W 3, I 0, I 1, I 1, I 0, W 3, W 5, I 0, .f .f64 0, W 0, I 0, I 3, I 1, I 0, W 0, W 0, I 0, .tok 306, W 4, I 0, I 1, I 1, I 0, W 4, W 5, I 0, .f .f64 0, W 0, I 0, I 6, I 1, I 0, W 0, W 0, I 0, .f .f64 0, W 0, I 7]),
  (653, C 3 [.f .f64 0, I 0, W 0])]
def hWF56 : AH := AH.edit hWF55 708 [460, 462] [(192, C 5 [I 2, I 8, I 8, I 6, I 2]),
  (199, C 5 [I 2, I 8, I 8, I 6, I 2]),
  (205, C 5 [O 703 0 6, I 6, I 0, I 0, I 0]),
  (209, C 5 [O 707 0 6, I 6, I 0, I 0, I 0]),
  (654, C 8 [I 8, I 0, I 0, I 0, I 0, W 0, .f .f64 0, .nsl]),
  (655, C 3 [.f .f64 0, I 0, W 0]),
  (703, C 1 [.imm [Y 0, Y 1, Y 25, Y 1, Y 1, Y 5, Y 1, Y 0, .tok 27, .tok 26, .tok 25, .tok 24, .tok 23, .tok 22, .tok 21, .tok 20, Y 2, Y 1, Y 9, Y 0, Y 0, Y 0, Y 0, Y 0, Y 0, Y 0, Y 0, Y 0] 28, .imm [Y 0, Y 2, Y 25, Y 1, Y 2, Y 5, Y 1, Y 0, .tok 127, .tok 126, .tok 125, .tok 124, .tok 123, .tok 122, .tok 121, .tok 120, Y 2, Y 2, Y 9, Y 0, Y 0, Y 0, Y 1, Y 0, Y 1, Y 0, Y 0, Y 0] 28, .imm [Y 0, Y 1, Y 25, Y 1, Y 1, Y 5, Y 1, Y 0, .tok 27, .tok 26, .tok 25, .tok 24, .tok 23, .tok 22, .tok 21, .tok 20, Y 2, Y 1, Y 9, Y 0, Y 0, Y 0, Y 0, Y 0, Y 0, Y 0, Y 0, Y 0] 28, .imm [Y 0, Y 2, Y 25, Y 1, Y 2, Y 5, Y 1, Y 0, .tok 127, .tok 126, .tok 125, .tok 124, .tok 123, .tok 122, .tok 121, .tok 120, Y 2, Y 2, Y 9, Y 0, Y 0, Y 0, Y 1, Y 0, Y 1, Y 0, Y 0, Y 0] 28, .imm [Y 0, Y 1, Y 25, Y 1, Y 1, Y 5, Y 1, Y 0, .tok 27, .tok 26, .tok 25, .tok 24, .tok 23, .tok 22, .tok 21, .tok 20, Y 2, Y 1, Y 9, Y 0, Y 0, Y 0, Y 0, Y 0, Y 0, Y 0, Y 0, Y 0] 28, .imm [Y 0, Y 2, Y 25, Y 1, Y 2, Y 5, Y 1, Y 0, .tok 127, .tok 126, .tok 125, .tok 124, .tok 123, .tok 122, .tok 121, .tok 120, Y 2, Y 2, Y 9, Y 0, Y 0, Y 0, Y 1, Y 0, Y 1, Y 0, Y 0, Y 0] 28]),
  (707, C 1 [.imm [Y 0, Y 1, Y 25, Y 1, Y 1, Y 5, Y 1, Y 0, .tok 27, .tok 26, .tok 25, .tok 24, .tok 23, .tok 22, .tok 21, .tok 20, Y 2, Y 1, Y 9, Y 0, Y 0, Y 0, Y 0, Y 0, Y 0, Y 0, Y 0, Y 0] 28, .imm [Y 0, Y 2, Y 25, Y 1, Y 2, Y 5, Y 1, Y 0, .tok 127, .tok 126, .tok 125, .tok 124, .tok 123, .tok 122, .tok 121, .tok 120, Y 2, Y 2, Y 9, Y 0, Y 0, Y 0, Y 1, Y 0, Y 1, Y 0, Y 0, Y 0] 28, .imm [Y 0, Y 1, Y 25, Y 1, Y 1, Y 5, Y 1, Y 0, .tok 27, .tok 26, .tok 25, .tok 24, .tok 23, .tok 22, .tok 21, .tok 20, Y 2, Y 1, Y 9, Y 0, Y 0, Y 0, Y 0, Y 0, Y 0, Y 0, Y 0, Y 0] 28, .imm [Y 0, Y 2, Y 25, Y 1, Y 2, Y 5, Y 1, Y 0, .tok 127, .tok 126, .tok 125, .tok 124, .tok 123, .tok 122, .tok 121, .tok 120, Y 2, Y 2, Y 9, Y 0, Y 0, Y 0, Y 1, Y 0, Y 1, Y 0, Y 0, Y 0] 28, .imm [Y 0, Y 1, Y 25, Y 1, Y 1, Y 5, Y 1, Y 0, .tok 27, .tok 26, .tok 25, .tok 24, .tok 23, .tok 22, .tok 21, .tok 20, Y 2, Y 1, Y 9, Y 0, Y 0, Y 0, Y 0, Y 0, Y 0, Y 0, Y 0, Y 0] 28, .imm [Y 0, Y 2, Y 25, Y 1, Y 2, Y 5, Y 1, Y 0, .tok 127, .tok 126, .tok 125, .tok 124, .tok 123, .tok 122, .tok 121, .tok 120, Y 2, Y 2, Y 9, Y 0, Y 0, Y 0, Y 1, Y 0, Y 1, Y 0, Y 0, Y 0] 28])]
def hWF57 : AH := AH.edit hWF56 767 [142, 144, 146, 147, 149, 652] [(129, C 1 [O 759 0 10]),
  (135, C 3 [.tok 6, I 1, W 1]),
  (138, C 1 [.nsl, O 714 10 0, .nsl]),
  (150, C 5 [I 3, I 0, I 3, .imm [.imm [W 0, W 0, W 0] 3, .imm [W 1, W 0, W 1] 3, .imm [W 0, W 0, W 0] 3] 3, .imm [W 0, W 1, W 0] 3]),
  (155, C 3 [W 2, W 2, .m (some 154)]),
  (166, C 5 [O 766 0 1, I 1, I 0, I 0, I 0]),
  (205, C 5 [O 703 0 5, I 6, I 1, I 0, I 0]),
  (703, C 1 [.imm [Y 0, Y 2, Y 25, Y 1, Y 2, Y 5, Y 1, Y 0, .tok 127, .tok 126, .tok 125, .tok 124, .tok 123, .tok 122, .tok 121, .tok 120, Y 2, Y 2, Y 9, Y 0, Y 0, Y 0, Y 1, Y 0, Y 1, Y 0, Y 0, Y 0] 28, .imm [Y 0, Y 1, Y 25, Y 1, Y 1, Y 5, Y 1, Y 0, .tok 27, .tok 26, .tok 25, .tok 24, .tok 23, .tok 22, .tok 21, .tok 20, Y 2, Y 1, Y 9, Y 0, Y 0, Y 0, Y 0, Y 0, Y 0, Y 0, Y 0, Y 0] 28, .imm [Y 0, Y 2, Y 25, Y 1, Y 2, Y 5, Y 1, Y 0, .tok 127, .tok 126, .tok 125, .tok 124, .tok 123, .tok 122, .tok 121, .tok 120, Y 2, Y 2, Y 9, Y 0, Y 0, Y 0, Y 1, Y 0, Y 1, Y 0, Y 0, Y 0] 28, .imm [Y 0, Y 1, Y 25, Y 1, Y 1, Y 5, Y 1, Y 0, .tok 27, .tok 26, .tok 25, .tok 24, .tok 23, .tok 22, .tok 21, .tok 20, Y 2, Y 1, Y 9, Y 0, Y 0, Y 0, Y 0, Y 0, Y 0, Y 0, Y 0, Y 0] 28, .imm [Y 0, Y 2, Y 25, Y 1, Y 2, Y 5, Y 1, Y 0, .tok 127, .tok 126, .tok 125, .tok 124, .tok 123, .tok 122, .tok 121, .tok 120, Y 2, Y 2, Y 9, Y 0, Y 0, Y 0, Y 1, Y 0, Y 1, Y 0, Y 0, Y 0] 28, .nsl]),
  (714, C 10 [I 1, W 1, W 5, I 1, I 0, .tok 6, I 1, W 1, .nsl, .imm [Y 0, Y 0, Y 0, Y 0, Y 0, Y 0, Y 0, Y 0, Y 0] 9]),
  (759, C 9 [I 3, I 1, I 0, W 0, W 0, I 0, .tok 6, W 1, I 0, I 1, I 1, I 0, W 1, W 5, I 0, .f .f64 0, W 0, I 0, I 3, I 1, I 0, W 0, W 0, I 0, .tok 106, W 2, I 0, I 1, I 1, I 0, W 2, W 5, I 0, .f .f64 0, W 0, I 0, I 3, I 1, I 0, W 0, W 0, I 0, .tok 206, W 3, I 0, I 1, I 1, I 0, W 3, W 5, I 0, .f .f64 0, W 0, I 0, I 3, I 1, I 0, W 0, W 0, I 0, .tok 306, W 4, I 0, I 1, I 1, I 0, W 4, W 5, I 0, .f .f64 0, W 0, I 0, I 6, I 1, I 0, W 0, W 0, I 0, .f .f64 0, W 0, I 7, I 2, I 0, I 1, W 1, W 0, I 0, .f .f64 0, W 0, I 0]),
  (766, C 1 [.imm [Y 1, Y 1] 2])]
def hWF58 : AH := AH.edit hWF57 826 [714, 759, 766] [(129, C 1 [O 818 0 11]),
  (135, C 3 [.tok 106, I 1, W 2]),
  (138, C 1 [.nsl, O 773 10 0, .nsl]),
  (150, C 5 [I 3, I 0, I 3, .imm [.imm [W 0, W 0, W 0] 3, .imm [W 2, W 0, W 2] 3, .imm [W 0, W 0, W 0] 3] 3, .imm [W 0, W 2, W 0] 3]),
  (155, C 3 [W 2, W 3, .m (some 154)]),
  (166, C 5 [O 825 0 2, I 2, I 0, I 0, I 0]),
  (205, C 5 [O 703 0 4, I 6, I 2, I 0, I 0]),
  (703, C 1 [.imm [Y 0, Y 1, Y 25, Y 1, Y 1, Y 5, Y 1, Y 0, .tok 27, .tok 26, .tok 25, .tok 24, .tok 23, .tok 22, .tok 21, .tok 20, Y 2, Y 1, Y 9, Y 0, Y 0, Y 0, Y 0, Y 0, Y 0, Y 0, Y 0, Y 0] 28, .imm [Y 0, Y 2, Y 25, Y 1, Y 2, Y 5, Y 1, Y 0, .tok 127, .tok 126, .tok 125, .tok 124, .tok 123, .tok 122, .tok 121, .tok 120, Y 2, Y 2, Y 9, Y 0, Y 0, Y 0, Y 1, Y 0, Y 1, Y 0, Y 0, Y 0] 28, .imm [Y 0, Y 1, Y 25, Y 1, Y 1, Y 5, Y 1, Y 0, .tok 27, .tok 26, .tok 25, .tok 24, .tok 23, .tok 22, .tok 21, .tok 20, Y 2, Y 1, Y 9, Y 0, Y 0, Y 0, Y 0, Y 0, Y 0, Y 0, Y 0, Y 0] 28, .imm [Y 0, Y 2, Y 25, Y 1, Y 2, Y 5, Y 1, Y 0, .tok 127, .tok 126, .tok 125, .tok 124, .tok 123, .tok 122, .tok 121, .tok 120, Y 2, Y 2, Y 9, Y 0, Y 0, Y 0, Y 1, Y 0, Y 1, Y 0, Y 0, Y 0] 28, .nsl, .nsl]),
  (773, C 10 [I 1, W 2, W 5, I 1, I 0, .tok 106, I 1, W 2, .nsl, .imm [Y 0, Y 0, Y 0, Y 1, Y 0, Y 1, Y 0, Y 0, Y 0] 9]),
  (818, C 9 [I 3, I 1, I 0, W 0, W 0, I 0, .tok 6, W 1, I 0, I 1, I 1, I 0, W 1, W 5, I 0, .f .f64 0, W 0, I 0, I 3, I 1, I 0, W 0, W 0, I 0, .tok 106, W 2, I 0, I 1, I 1, I 0, W 2, W 5, I 0, .f .f64 0, W 0, I 0, I 3, I 1, I 0, W 0, W 0, I 0, .tok 206, W 3, I 0, I 1, I 1, I 0, W 3, W 5, I 0, .f .f64 0, W 0, I 0, I 3, I 1, I 0, W 0, W 0, I 0, .tok 306, W 4, I 0, I 1, I 1, I 0, W 4, W 5, I 0, .f .f64 0, W 0, I 0, I 6, I 1, I 0, W 0, W 0, I 0, .f .f64 0, W 0, I 7, I 2, I 0, I 1, W 1, W 0, I 0, .f .f64 0, W 0, I 0, I 2, I 0, I 1, W 2, W 0, I 0, .f .f64 0, W 0, I 0]),
  (825, C 1 [.imm [Y 1, Y 1] 2, .imm [Y 1, Y 2] 2])]
def hWF59 : AH := AH.edit hWF58 858 [825] [(166, C 5 [O 857 0 6, I 6, I 0, I 0, I 0]),
  (205, C 5 [O 703 0 0, I 6, I 6, I 0, I 0]),
  (703, C 1 [.nsl, .nsl, .nsl, .nsl, .nsl, .nsl]),
  (857, C 1 [.imm [Y 1, Y 1] 2, .imm [Y 1, Y 2] 2, .imm [Y 1, Y 2] 2, .imm [Y 1, Y 2] 2, .imm [Y 1, Y 2] 2, .imm [Y 1, Y 2] 2])]
def hWF60 : AH := AH.edit hWF59 917 [224, 226, 228, 229, 231, 818] [(129, C 1 [O 909 0 12]),
  (209, C 5 [O 707 0 5, I 6, I 1, I 0, I 0]),
  (217, C 3 [.tok 6, I 1, W 1]),
  (220, C 1 [.nsl, O 864 10 0, .nsl]),
  (232, C 5 [I 3, I 2, I 3, .imm [.imm [W 0, W 0, W 0] 3, .imm [W 1, W 0, W 1] 3, .imm [W 0, W 0, W 0] 3] 3, .imm [W 0, W 1, W 0] 3]),
  (242, C 3 [W 2, W 2, .m (some 241)]),
  (248, C 5 [O 916 0 1, I 1, I 0, I 0, I 0]),
  (707, C 1 [.imm [Y 0, Y 2, Y 25, Y 1, Y 2, Y 5, Y 1, Y 0, .tok 127, .tok 126, .tok 125, .tok 124, .tok 123, .tok 122, .tok 121, .tok 120, Y 2, Y 2, Y 9, Y 0, Y 0, Y 0, Y 1, Y 0, Y 1, Y 0, Y 0, Y 0] 28, .imm [Y 0, Y 1, Y 25, Y 1, Y 1, Y 5, Y 1, Y 0, .tok 27, .tok 26, .tok 25, .tok 24, .tok 23, .tok 22, .tok 21, .tok 20, Y 2, Y 1, Y 9, Y 0, Y 0, Y 0, Y 0, Y 0, Y 0, Y 0, Y 0, Y 0] 28, .imm [Y 0, Y 2, Y 25, Y 1, Y 2, Y 5, Y 1, Y 0, .tok 127, .tok 126, .tok 125, .tok 124, .tok 123, .tok 122, .tok 121, .tok 120, Y 2, Y 2, Y 9, Y 0, Y 0, Y 0, Y 1, Y 0, Y 1, Y 0, Y 0, Y 0] 28, .imm [Y 0, Y 1, Y 25, Y 1, Y 1, Y 5, Y 1, Y 0, .tok 27, .tok 26, .tok 25, .tok 24, .tok 23, .tok 22, .tok 21, .tok 20, Y 2, Y 1, Y 9, Y 0, Y 0, Y 0, Y 0, Y 0, Y 0, Y 0, Y 0, Y 0] 28, .imm [Y 0, Y 2, Y 25, Y 1, Y 2, Y 5, Y 1, Y 0, .tok 127, .tok 126, .tok 125, .tok 124, .tok 123, .tok 122, .tok 121, .tok 120, Y 2, Y 2, Y 9, Y 0, Y 0, Y 0, Y 1, Y 0, Y 1, Y 0, Y 0, Y 0] 28, .nsl]),
  (864, C 10 [I 1, W 1, W 5, I 1, I 0, .tok 6, I 1, W 1, .nsl, .imm [Y 0, Y 0, Y 0, Y 0, Y 0, Y 0, Y 0, Y 0, Y 0] 9]),
  (909, C 9 [I 3, I 1, I 0, W 0, W 0, I 0, .tok 6, W 1, I 0, I 1, I 1, I 0, W 1, W 5, I 0, .f .f64 0, W 0, I 0, I 3, I 1, I 0, W 0, W 0, I 0, .tok 106, W 2, I 0, I 1, I 1, I 0, W 2, W 5, I 0, .f .f64 0, W 0, I 0, I 3, I 1, I 0, W 0, W 0, I 0, .tok 206, W 3, I 0, I 1, I 1, I 0, W 3, W 5, I 0, .f .f64 0, W 0, I 0, I 3, I 1, I 0, W 0, W 0, I 0, .tok 306, W 4, I 0, I 1, I 1, I 0, W 4, W 5, I 0, .f .f64 0, W 0, I 0, I 6, I 1, I 0, W 0, W 0, I 0, .f .f64 0, W 0, I 7, I 2, I 0, I 1, W 1, W 0, I 0, .f .f64 0, W 0, I 0, I 2, I 0, I 1, W 2, W 0, I 0, .f .f64 0, W 0, I 0, I 2, I 2, I 1, W 1, W 0, I 0, .f .f64 0, W 0, I 0]),
  (916, C 1 [.imm [Y 1, Y 1] 2])]
def hWF61 : AH := AH.edit hWF60 976 [864, 909, 916] [(129, C 1 [O 968 0 13]),
  (209, C 5 [O 707 0 4, I 6, I 2, I 0, I 0]),
  (217, C 3 [.tok 106, I 1, W 2]),
  (220, C 1 [.nsl, O 923 10 0, .nsl]),
  (232, C 5 [I 3, I 2, I 3, .imm [.imm [W 0, W 0, W 0] 3, .imm [W 2, W 0, W 2] 3, .imm [W 0, W 0, W 0] 3] 3, .imm [W 0, W 2, W 0] 3]),
  (242, C 3 [W 2, W 3, .m (some 241)]),
  (248, C 5 [O 975 0 2, I 2, I 0, I 0, I 0]),
  (707, C 1 [.imm [Y 0, Y 1, Y 25, Y 1, Y 1, Y 5, Y 1, Y 0, .tok 27, .tok 26, .tok 25, .tok 24, .tok 23, .tok 22, .tok 21, .tok 20, Y 2, Y 1, Y 9, Y 0, Y 0, Y 0, Y 0, Y 0, Y 0, Y 0, Y 0, Y 0] 28, .imm [Y 0, Y 2, Y 25, Y 1, Y 2, Y 5, Y 1, Y 0, .tok 127, .tok 126, .tok 125, .tok 124, .tok 123, .tok 122, .tok 121, .tok 120, Y 2, Y 2, Y 9, Y 0, Y 0, Y 0, Y 1, Y 0, Y 1, Y 0, Y 0, Y 0] 28, .imm [Y 0, Y 1, Y 25, Y 1, Y 1, Y 5, Y 1, Y 0, .tok 27, .tok 26, .tok 25, .tok 24, .tok 23, .tok 22, .tok 21, .tok 20, Y 2, Y 1, Y 9, Y 0, Y 0, Y 0, Y 0, Y 0, Y 0, Y 0, Y 0, Y 0] 28, .imm [Y 0, Y 2, Y 25, Y 1, Y 2, Y 5, Y 1, Y 0, .tok 127, .tok 126, .tok 125, .tok 124, .tok 123, .tok 122, .tok 121, .tok 120, Y 2, Y 2, Y 9, Y 0, Y 0, Y 0, Y 1, Y 0, Y 1, Y 0, Y 0, Y 0] 28, .nsl, .nsl]),
  (923, C 10 [I 1, W 2, W 5, I 1, I 0, .tok 106, I 1, W 2, .nsl, .imm [Y 0, Y 0, Y 0, Y 1, Y 0, Y 1, Y 0, Y 0, Y 0] 9]),
  (968, C 9 [I 3, I 1, I 0, W 0, W 0, I 0, .tok 6, W 1, I 0, I 1, I 1, I 0, W 1, W 5, I 0, .f .f64 0, W 0, I 0, I 3, I 1, I 0, W 0, W 0, I 0, .tok 106, W 2, I 0, I 1, I 1, I 0, W 2, W 5, I 0, .f .f64 0, W 0, I 0, I 3, I 1, I 0, W 0, W 0, I 0, .tok 206, W 3, I 0, I 1, I 1, I 0, W 3, W 5, I 0, .f .f64 0, W 0, I 0, I 3, I 1, I 0, W 0, W 0, I 0, .tok 306, W 4, I 0, I 1, I 1, I 0, W 4, W 5, I 0, .f .f64 0, W 0, I 0, I 6, I 1, I 0, W 0, W 0, I 0, .f .f64 0, W 0, I 7, I 2, I 0, I 1, W 1, W 0, I 0, .f .f64 0, W 0, I 0, I 2, I 0, I 1, W 2, W 0, I 0, .f .f64 0, W 0, I 0, I 2, I 2, I 1, W 1, W 0, I 0, .f .f64 0, W 0, I 0, I 2, I 2, I 1, W 2, W 0, I 0, .f .f64 0, W 0, I 0]),
  (975, C 1 [.imm [Y 1, Y 1] 2, .imm [Y 1, Y 2] 2])]
def hWF62 : AH := AH.edit hWF61 1062 [654, 655, 975] [(199, C 5 [I 2, I 8, I 2, I 2, I 2]),
  (200, C 6 [I 2, I 3, P 199 0, O 450 0 2, O 637 2 0, W 4]),
  (209, C 5 [O 707 0 2, I 8, I 6, I 0, I 0]),
  (248, C 5 [O 1007 0 0, I 6, I 6, I 0, I 0]),
  (450, C 2 [W 3, .imm [Y 1, Y 3, Y 5, Y 1, Y 0, .tok 227, .tok 226, .tok 225, .tok 224, .tok 223, .tok 222, .tok 221, .tok 220, Y 2, Y 3, Y 9, Y 0, Y 0, Y 0, Y 2, Y 0, Y 2, Y 0, Y 0, Y 0] 25, W 4, .imm [Y 1, Y 4, Y 5, Y 1, Y 0, .tok 327, .tok 326, .tok 325, .tok 324, .tok 323, .tok 322, .tok 321, .tok 320, Y 2, Y 4, Y 9, Y 0, Y 0, Y 0, Y 3, Y 0, Y 3, Y 0, Y 0, Y 0] 25]),
  (707, C 1 [.imm [Y 0, Y 3, Y 25, Y 1, Y 3, Y 5, Y 1, Y 0, .tok 227, .tok 226, .tok 225, .tok 224, .tok 223, .tok 222, .tok 221, .tok 220, Y 2, Y 3, Y 9, Y 0, Y 0, Y 0, Y 2, Y 0, Y 2, Y 0, Y 0, Y 0] 28, .imm [Y 0, Y 4, Y 25, Y 1, Y 4, Y 5, Y 1, Y 0, .tok 327, .tok 326, .tok 325, .tok 324, .tok 323, .tok 322, .tok 321, .tok 320, Y 2, Y 4, Y 9, Y 0, Y 0, Y 0, Y 3, Y 0, Y 3, Y 0, Y 0, Y 0] 28, .nsl, .nsl, .nsl, .nsl]),
  (1007, C 1 [.nsl, .nsl, .nsl, .nsl, .nsl, .nsl])]
def hWF63 : AH := AH.edit hWF62 1165 [] [(166, C 5 [O 857 0 2, I 8, I 6, I 0, I 0]),
  (192, C 5 [I 2, I 8, I 2, I 2, I 3]),
  (193, C 6 [I 2, I 3, P 192 0, O 441 0 2, O 634 2 0, W 4]),
  (199, C 5 [I 2, I 8, I 8, I 6, I 4]),
  (205, C 5 [O 703 0 2, I 10, I 8, I 0, I 0]),
  (209, C 5 [O 707 0 6, I 12, I 6, I 0, I 0]),
  (441, C 2 [W 3, .imm [Y 1, Y 3, Y 5, Y 1, Y 0, .tok 227, .tok 226, .tok 225, .tok 224, .tok 223, .tok 222, .tok 221, .tok 220, Y 2, Y 3, Y 9, Y 0, Y 0, Y 0, Y 2, Y 0, Y 2, Y 0, Y 0, Y 0] 25, W 4, .imm [Y 1, Y 4, Y 5, Y 1, Y 0, .tok 327, .tok 326, .tok 325, .tok 324, .tok 323, .tok 322, .tok 321, .tok 320, Y 2, Y 4, Y 9, Y 0, Y 0, Y 0, Y 3, Y 0, Y 3, Y 0, Y 0, Y 0] 25]),
  (703, C 1 [.imm [Y 0, Y 3, Y 25, Y 1, Y 3, Y 5, Y 1, Y 0, .tok 227, .tok 226, .tok 225, .tok 224, .tok 223, .tok 222, .tok 221, .tok 220, Y 2, Y 3, Y 9, Y 0, Y 0, Y 0, Y 2, Y 0, Y 2, Y 0, Y 0, Y 0] 28, .imm [Y 0, Y 4, Y 25, Y 1, Y 4, Y 5, Y 1, Y 0, .tok 327, .tok 326, .tok 325, .tok 324, .tok 323, .tok 322, .tok 321, .tok 320, Y 2, Y 4, Y 9, Y 0, Y 0, Y 0, Y 3, Y 0, Y 3, Y 0, Y 0, Y 0] 28, .nsl, .nsl, .nsl, .nsl]),
  (707, C 1 [.imm [Y 0, Y 3, Y 25, Y 1, Y 3, Y 5, Y 1, Y 0, .tok 227, .tok 226, .tok 225, .tok 224, .tok 223, .tok 222, .tok 221, .tok 220, Y 2, Y 3, Y 9, Y 0, Y 0, Y 0, Y 2, Y 0, Y 2, Y 0, Y 0, Y 0] 28, .imm [Y 0, Y 4, Y 25, Y 1, Y 4, Y 5, Y 1, Y 0, .tok 327, .tok 326, .tok 325, .tok 324, .tok 323, .tok 322, .tok 321, .tok 320, Y 2, Y 4, Y 9, Y 0, Y 0, Y 0, Y 3, Y 0, Y 3, Y 0, Y 0, Y 0] 28, .imm [Y 0, Y 3, Y 25, Y 1, Y 3, Y 5, Y 1, Y 0, .tok 227, .tok 226, .tok 225, .tok 224, .tok 223, .tok 222, .tok 221, .tok 220, Y 2, Y 3, Y 9, Y 0, Y 0, Y 0, Y 2, Y 0, Y 2, Y 0, Y 0, Y 0] 28, .imm [Y 0, Y 4, Y 25, Y 1, Y 4, Y 5, Y 1, Y 0, .tok 327, .tok 326, .tok 325, .tok 324, .tok 323, .tok 322, .tok 321, .tok 320, Y 2, Y 4, Y 9, Y 0, Y 0, Y 0, Y 3, Y 0, Y 3, Y 0, Y 0, Y 0] 28, .imm [Y 0, Y 3, Y 25, Y 1, Y 3, Y 5, Y 1, Y 0, .tok 227, .tok 226, .tok 225, .tok 224, .tok 223, .tok 222, .tok 221, .tok 220, Y 2, Y 3, Y 9, Y 0, Y 0, Y 0, Y 2, Y 0, Y 2, Y 0, Y 0, Y 0] 28, .imm [Y 0, Y 4, Y 25, Y 1, Y 4, Y 5, Y 1, Y 0, .tok 327, .tok 326, .tok 325, .tok 324, .tok 323, .tok 322, .tok 321, .tok 320, Y 2, Y 4, Y 9, Y 0, Y 0, Y 0, Y 3, Y 0, Y 3, Y 0, Y 0, Y 0] 28]),
  (857, C 1 [.imm [Y 1, Y 2] 2, .imm [Y 1, Y 2] 2, .nsl, .nsl, .nsl, .nsl]),
  (1062, C 8 [I 8, I 0, I 0, I 0, I 0, W 0, .f .f64 0, .nsl]),
  (1063, C 3 [.f .f64 0, I 0, W 0])]
def hWF64 : AH := AH.edit hWF63 1223 [773, 968] [(129, C 1 [O 1216 0 14]),
  (135, C 3 [.tok 206, I 1, W 3]),
  (138, C 1 [.nsl, O 1171 10 0, .nsl]),
  (150, C 5 [I 3, I 0, I 3, .imm [.imm [W 0, W 0, W 0] 3, .imm [W 3, W 0, W 3] 3, .imm [W 0, W 0, W 0] 3] 3, .imm [W 0, W 3, W 0] 3]),
  (155, C 3 [W 2, W 4, .m (some 154)]),
  (166, C 5 [O 857 0 3, I 9, I 6, I 0, I 0]),
  (205, C 5 [O 703 0 1, I 10, I 9, I 0, I 0]),
  (703, C 1 [.imm [Y 0, Y 4, Y 25, Y 1, Y 4, Y 5, Y 1, Y 0, .tok 327, .tok 326, .tok 325, .tok 324, .tok 323, .tok 322, .tok 321, .tok 320, Y 2, Y 4, Y 9, Y 0, Y 0, Y 0, Y 3, Y 0, Y 3, Y 0, Y 0, Y 0] 28, .nsl, .nsl, .nsl, .nsl, .nsl]),
  (857, C 1 [.imm [Y 1, Y 2] 2, .imm [Y 1, Y 2] 2, .imm [Y 1, Y 3] 2, .nsl, .nsl, .nsl]),
  (1171, C 10 [I 1, W 3, W 5, I 1, I 0, .tok 206, I 1, W 3, .nsl, .imm [Y 0, Y 0, Y 0, Y 2, Y 0, Y 2, Y 0, Y 0, Y 0] 9]),
  (1216, C 9 [I 3, I 1, I 0, W 0, W 0, I 0, .tok 6, W 1, I 0, I 1, I 1, I 0, W 1, W 5, I 0, .f .f64 0, W 0, I 0, I 3, I 1, I 0, W 0, W 0, I 0, .tok 106, W 2, I 0, I 1, I 1, I 0, W 2, W 5, I 0, .f .f64 0, W 0, I 0, I 3, I 1, I 0, W 0, W 0, I 0, .tok 206, W 3, I 0, I 1, I 1, I 0, W 3, W 5, I 0, .f .f64 0, W 0, I 0, I 3, I 1, I 0, W 0, W 0, I 0, .tok 306, W 4, I 0, I 1, I 1, I 0, W 4, W 5, I 0, .f .f64 0, W 0, I 0, I 6, I 1, I 0, W 0, W 0, I 0, .f .f64 0, W 0, I 7, I 2, I 0, I 1, W 1, W 0, I 0, .f .f64 0, W 0, I 0, I 2, I 0, I 1, W 2, W 0, I 0, .f .f64 0, W 0, I 0, I 2, I 2, I 1, W 1, W 0, I 0, .f .f64 0, W 0, I 0, I 2, I 2, I 1, W 2, W 0, I 0, .f .f64 0, W 0, I 0, I 2, I 0, I 1, W 3, W 0, I 0, .f .f64 0, W 0, I 0])]
def hWF65 : AH := AH.edit hWF64 1281 [1171, 1216] [(129, C 1 [O 1274 0 15]),
  (135, C 3 [.tok 306, I 1, W 4]),
  (138, C 1 [.nsl, O 1229 10 0, .nsl]),
  (150, C 5 [I 3, I 0, I 3, .imm [.imm [W 0, W 0, W 0] 3, .imm [W 4, W 0, W 4] 3, .imm [W 0, W 0, W 0] 3] 3, .imm [W 0, W 4, W 0] 3]),
  (155, C 3 [W 2, W 5, .m (some 154)]),
  (166, C 5 [O 857 0 4, I 10, I 6, I 0, I 0]),
  (205, C 5 [O 703 0 0, I 10, I 10, I 0, I 0]),
  (703, C 1 [.nsl, .nsl, .nsl, .nsl, .nsl, .nsl]),
  (857, C 1 [.imm [Y 1, Y 2] 2, .imm [Y 1, Y 2] 2, .imm [Y 1, Y 3] 2, .imm [Y 1, Y 4] 2, .nsl, .nsl]),
  (1229, C 10 [I 1, W 4, W 5, I 1, I 0, .tok 306, I 1, W 4, .nsl, .imm [Y 0, Y 0, Y 0, Y 3, Y 0, Y 3, Y 0, Y 0, Y 0] 9]),
  (1274, C 9 [I 3, I 1, I 0, W 0, W 0, I 0, .tok 6, W 1, I 0, I 1, I 1, I 0, W 1, W 5, I 0, .f .f64 0, W 0, I 0, I 3, I 1, I 0, W 0, W 0, I 0, .tok 106, W 2, I 0, I 1, I 1, I 0, W 2, W 5, I 0, .f .f64 0, W 0, I 0, I 3, I 1, I 0, W 0, W 0, I 0, .tok 206, W 3, I 0, I 1, I 1, I 0, W 3, W 5, I 0, .f .f64 0, W 0, I 0, I 3, I 1, I 0, W 0, W 0, I 0, .tok 306, W 4, I 0, I 1, I 1, I 0, W 4, W 5, I 0, .f .f64 0, W 0, I 0, I 6, I 1, I 0, W 0, W 0, I 0, .f .f64 0, W 0, I 7, I 2, I 0, I 1, W 1, W 0, I 0, .f .f64 0, W 0, I 0, I 2, I 0, I 1, W 2, W 0, I 0, .f .f64 0, W 0, I 0, I 2, I 2, I 1, W 1, W 0, I 0, .f .f64 0, W 0, I 0, I 2, I 2, I 1, W 2, W 0, I 0, .f .f64 0, W 0, I 0, I 2, I 0, I 1, W 3, W 0, I 0, .f .f64 0, W 0, I 0, I 2, I 0, I 1, W 4, W 0, I 0, .f .f64 0, W 0, I 0])]
def hWF66 : AH := AH.edit hWF65 1339 [923, 1274] [(129, C 1 [O 1332 0 16]),
  (209, C 5 [O 707 0 5, I 12, I 7, I 0, I 0]),
  (217, C 3 [.tok 206, I 1, W 3]),
  (220, C 1 [.nsl, O 1287 10 0, .nsl]),
  (232, C 5 [I 3, I 2, I 3, .imm [.imm [W 0, W 0, W 0] 3, .imm [W 3, W 0, W 3] 3, .imm [W 0, W 0, W 0] 3] 3, .imm [W 0, W 3, W 0] 3]),
  (242, C 3 [W 2, W 4, .m (some 241)]),
  (248, C 5 [O 1007 0 1, I 7, I 6, I 0, I 0]),
  (707, C 1 [.imm [Y 0, Y 4, Y 25, Y 1, Y 4, Y 5, Y 1, Y 0, .tok 327, .tok 326, .tok 325, .tok 324, .tok 323, .tok 322, .tok 321, .tok 320, Y 2, Y 4, Y 9, Y 0, Y 0, Y 0, Y 3, Y 0, Y 3, Y 0, Y 0, Y 0] 28, .imm [Y 0, Y 3, Y 25, Y 1, Y 3, Y 5, Y 1, Y 0, .tok 227, .tok 226, .tok 225, .tok 224, .tok 223, .tok 222, .tok 221, .tok 220, Y 2, Y 3, Y 9, Y 0, Y 0, Y 0, Y 2, Y 0, Y 2, Y 0, Y 0, Y 0] 28, .imm [Y 0, Y 4, Y 25, Y 1, Y 4, Y 5, Y 1, Y 0, .tok 327, .tok 326, .tok 325, .tok 324, .tok 323, .tok 322, .tok 321, .tok 320, Y 2, Y 4, Y 9, Y 0, Y 0, Y 0, Y 3, Y 0, Y 3, Y 0, Y 0, Y 0] 28, .imm [Y 0, Y 3, Y 25, Y 1, Y 3, Y 5, Y 1, Y 0, .tok 227, .tok 226, .tok 225, .tok 224, .tok 223, .tok 222, .tok 221, .tok 220, Y 2, Y 3, Y 9, Y 0, Y 0, Y 0, Y 2, Y 0, Y 2, Y 0, Y 0, Y 0] 28, .imm [Y 0, Y 4, Y 25, Y 1, Y 4, Y 5, Y 1, Y 0, .tok 327, .tok 326, .tok 325, .tok 324, .tok 323, .tok 322, .tok 321, .tok 320, Y 2, Y 4, Y 9, Y 0, Y 0, Y 0, Y 3, Y 0, Y 3, Y 0, Y 0, Y 0] 28, .nsl]),
  (1007, C 1 [.imm [Y 1, Y 3] 2, .nsl, .nsl, .nsl, .nsl, .nsl]),
  (1287, C 10 [I 1, W 3, W 5, I 1, I 0, .tok 206, I 1, W 3, .nsl, .imm [Y 0, Y 0, Y 0, Y 2, Y 0, Y 2, Y 0, Y 0, Y 0] 9]),
  (1332, C 9 [I 3, I 1, I 0, W 0, W 0, I 0, .tok 6, W 1, I 0, I 1, I 1, I 0, W 1, W 5, I 0, .f .f64 0, W 0, I 0, I 3, I 1, I 0, W 0, W 0, I 0, .tok 106, W 2, I 0, I 1, I 1, I 0, W 2, W 5, I 0, .f .f64 0, W 0, I 0, I 3, I 1, I 0, W 0, W 0, I 0, .tok 206, W 3, I 0, I 1, I 1, I 0, W 3, W 5, I 0, .f .f64 0, W 0, I 0, I 3, I 1, I 0, W 0, W 0, I 0, .tok 306, W 4, I 0, I 1, I 1, I 0, W 4, W 5, I 0, .f .f64 0, W 0, I 0, I 6, I 1, I 0, W 0, W 0, I 0, .f .f64 0, W 0, I 7, I 2, I 0, I 1, W 1, W 0, I 0, .f .f64 0, W 0, I 0, I 2, I 0, I 1, W 2, W 0, I 0, .f .f64 0, W 0, I 0, I 2, I 2, I 1, W 1, W 0, I 0, .f .f64 0, W 0, I 0, I 2, I 2, I 1, W 2, W 0, I 0, .f .f64 0, W 0, I 0, I 2, I 0, I 1, W 3, W 0, I 0, .f .f64 0, W 0, I 0, I 2, I 0, I 1, W 4, W 0, I 0, .f .f64 0, W 0, I 0, I 2, I 2, I 1, W 3, W 0, I 0, .f .f64 0, W 0, I 0])]
def hWF67 : AH := AH.edit hWF66 1397 [1287, 1332] [(129, C 1 [O 1390 0 17]),
  (209, C 5 [O 707 0 4, I 12, I 8, I 0, I 0]),
  (217, C 3 [.tok 306, I 1, W 4]),
  (220, C 1 [.nsl, O 1345 10 0, .nsl]),
  (232, C 5 [I 3, I 2, I 3, .imm [.imm [W 0, W 0, W 0] 3, .imm [W 4, W 0, W 4] 3, .imm [W 0, W 0, W 0] 3] 3, .imm [W 0, W 4, W 0] 3]),
  (242, C 3 [W 2, W 5, .m (some 241)]),
  (248, C 5 [O 1007 0 2, I 8, I 6, I 0, I 0]),
  (707, C 1 [.imm [Y 0, Y 3, Y 25, Y 1, Y 3, Y 5, Y 1, Y 0, .tok 227, .tok 226, .tok 225, .tok 224, .tok 223, .tok 222, .tok 221, .tok 220, Y 2, Y 3, Y 9, Y 0, Y 0, Y 0, Y 2, Y 0, Y 2, Y 0, Y 0, Y 0] 28, .imm [Y 0, Y 4, Y 25, Y 1, Y 4, Y 5, Y 1, Y 0, .tok 327, .tok 326, .tok 325, .tok 324, .tok 323, .tok 322, .tok 321, .tok 320, Y 2, Y 4, Y 9, Y 0, Y 0, Y 0, Y 3, Y 0, Y 3, Y 0, Y 0, Y 0] 28, .imm [Y 0, Y 3, Y 25, Y 1, Y 3, Y 5, Y 1, Y 0, .tok 227, .tok 226, .tok 225, .tok 224, .tok 223, .tok 222, .tok 221, .tok 220, Y 2, Y 3, Y 9, Y 0, Y 0, Y 0, Y 2, Y 0, Y 2, Y 0, Y 0, Y 0] 28, .imm [Y 0, Y 4, Y 25, Y 1, Y 4, Y 5, Y 1, Y 0, .tok 327, .tok 326, .tok 325, .tok 324, .tok 323, .tok 322, .tok 321, .tok 320, Y 2, Y 4, Y 9, Y 0, Y 0, Y 0, Y 3, Y 0, Y 3, Y 0, Y 0, Y 0] 28, .nsl, .nsl]),
  (1007, C 1 [.imm [Y 1, Y 3] 2, .imm [Y 1, Y 4] 2, .nsl, .nsl, .nsl, .nsl]),
  (1345, C 10 [I 1, W 4, W 5, I 1, I 0, .tok 306, I 1, W 4, .nsl, .imm [Y 0, Y 0, Y 0, Y 3, Y 0, Y 3, Y 0, Y 0, Y 0] 9]),
  (1390, C 9 [I 3, I 1, I 0, W 0, W 0, I 0, .tok 6, W 1, I 0, I 1, I 1, I 0, W 1, W 5, I 0, .f .f64 0, W 0, I 0, I 3, I 1, I 0, W 0, W 0, I 0, .tok 106, W 2, I 0, I 1, I 1, I 0, W 2, W 5, I 0, .f .f64 0, W 0, I 0, I 3, I 1, I 0, W 0, W 0, I 0, .tok 206, W 3, I 0, I 1, I 1, I 0, W 3, W 5, I 0, .f .f64 0, W 0, I 0, I 3, I 1, I 0, W 0, W 0, I 0, .tok 306, W 4, I 0, I 1, I 1, I 0, W 4, W 5, I 0, .f .f64 0, W 0, I 0, I 6, I 1, I 0, W 0, W 0, I 0, .f .f64 0, W 0, I 7, I 2, I 0, I 1, W 1, W 0, I 0, .f .f64 0, W 0, I 0, I 2, I 0, I 1, W 2, W 0, I 0, .f .f64 0, W 0, I 0, I 2, I 2, I 1, W 1, W 0, I 0, .f .f64 0, W 0, I 0, I 2, I 2, I 1, W 2, W 0, I 0, .f .f64 0, W 0, I 0, I 2, I 0, I 1, W 3, W 0, I 0, .f .f64 0, W 0, I 0, I 2, I 0, I 1, W 4, W 0, I 0, .f .f64 0, W 0, I 0, I 2, I 2, I 1, W 3, W 0, I 0, .f .f64 0, W 0, I 0, I 2, I 2, I 1, W 4, W 0, I 0, .f .f64 0, W 0, I 0])]
def hWF68 : AH := AH.edit hWF67 1465 [1062, 1063] [(199, C 5 [I 2, I 8, I 2, I 0, I 4]),
  (200, C 6 [I 2, I 3, P 199 0, O 450 0 0, O 637 2 0, W 4]),
  (209, C 5 [O 707 0 0, I 12, I 12, I 0, I 0]),
  (248, C 5 [O 1007 0 0, I 12, I 12, I 0, I 0]),
  (450, C 2 [W 0, .nsl, W 0, .nsl]),
  (707, C 1 [.nsl, .nsl, .nsl, .nsl, .nsl, .nsl]),
  (1007, C 1 [.nsl, .nsl, .nsl, .nsl, .nsl, .nsl])]
def hWF69 : AH := AH.edit hWF68 1545 [] [(166, C 5 [O 857 0 4, I 14, I 10, I 0, I 0]),
  (192, C 5 [I 2, I 8, I 2, I 0, I 5]),
  (193, C 6 [I 2, I 3, P 192 0, O 441 0 0, O 634 2 0, W 4]),
  (205, C 5 [O 703 0 0, I 14, I 14, I 0, I 0]),
  (441, C 2 [W 0, .nsl, W 0, .nsl]),
  (857, C 1 [.imm [Y 1, Y 4] 2, .imm [Y 1, Y 4] 2, .imm [Y 1, Y 4] 2, .imm [Y 1, Y 4] 2, .nsl, .nsl])]
def hWF70 : AH := AH.edit hWF69 1571 [] [(166, C 5 [O 857 0 0, I 14, I 14, I 0, I 0]),
  (857, C 1 [.nsl, .nsl, .nsl, .nsl, .nsl, .nsl])]
def hWF71 : AH := AH.edit hWF62 1074 [653, 968] [(129, C 1 [O 1072 0 14]),
  (1072, C 9 [I 3, I 1, I 0, W 0, W 0, I 0, .tok 6, W 1, I 0, I 1, I 1, I 0, W 1, W 5, I 0, .f .f64 0, W 0, I 0, I 3, I 1, I 0, W 0, W 0, I 0, .tok 106, W 2, I 0, I 1, I 1, I 0, W 2, W 5, I 0, .f .f64 0, W 0, I 0, I 3, I 1, I 0, W 0, W 0, I 0, .tok 206, W 3, I 0, I 1, I 1, I 0, W 3, W 5, I 0, .f .f64 0, W 0, I 0, I 3, I 1, I 0, W 0, W 0, I 0, .tok 306, W 4, I 0, I 1, I 1, I 0, W 4, W 5, I 0, .f .f64 0, W 0, I 0, I 6, I 1, I 0, W 0, W 0, I 0, .f .f64 0, W 0, I 7, I 2, I 0, I 1, W 1, W 0, I 0, .f .f64 0, W 0, I 0, I 2, I 0, I 1, W 2, W 0, I 0, .f .f64 0, W 0, I 0, I 2, I 2, I 1, W 1, W 0, I 0, .f .f64 0, W 0, I 0, I 2, I 2, I 1, W 2, W 0, I 0, .f .f64 0, W 0, I 0, I 6, I 1, I 0, W 0, W 0, I 0, .f .f64 0, W 0, I 7]),
  (1073, C 3 [.f .f64 0, I 0, W 0])]
def hWF72 : AH := AH.edit hWF71 1177 [] [(166, C 5 [O 857 0 2, I 8, I 6, I 0, I 0]),
  (192, C 5 [I 2, I 8, I 2, I 2, I 3]),
  (193, C 6 [I 2, I 3, P 192 0, O 441 0 2, O 634 2 0, W 4]),
  (199, C 5 [I 2, I 8, I 8, I 6, I 4]),
  (205, C 5 [O 703 0 2, I 10, I 8, I 0, I 0]),
  (209, C 5 [O 707 0 6, I 12, I 6, I 0, I 0]),
  (441, C 2 [W 3, .imm [Y 1, Y 3, Y 5, Y 1, Y 0, .tok 227, .tok 226, .tok 225, .tok 224, .tok 223, .tok 222, .tok 221, .tok 220, Y 2, Y 3, Y 9, Y 0, Y 0, Y 0, Y 2, Y 0, Y 2, Y 0, Y 0, Y 0] 25, W 4, .imm [Y 1, Y 4, Y 5, Y 1, Y 0, .tok 327, .tok 326, .tok 325, .tok 324, .tok 323, .tok 322, .tok 321, .tok 320, Y 2, Y 4, Y 9, Y 0, Y 0, Y 0, Y 3, Y 0, Y 3, Y 0, Y 0, Y 0] 25]),
  (703, C 1 [.imm [Y 0, Y 3, Y 25, Y 1, Y 3, Y 5, Y 1, Y 0, .tok 227, .tok 226, .tok 225, .tok 224, .tok 223, .tok 222, .tok 221, .tok 220, Y 2, Y 3, Y 9, Y 0, Y 0, Y 0, Y 2, Y 0, Y 2, Y 0, Y 0, Y 0] 28, .imm [Y 0, Y 4, Y 25, Y 1, Y 4, Y 5, Y 1, Y 0, .tok 327, .tok 326, .tok 325, .tok 324, .tok 323, .tok 322, .tok 321, .tok 320, Y 2, Y 4, Y 9, Y 0, Y 0, Y 0, Y 3, Y 0, Y 3, Y 0, Y 0, Y 0] 28, .nsl, .nsl, .nsl, .nsl]),
  (707, C 1 [.imm [Y 0, Y 3, Y 25, Y 1, Y 3, Y 5, Y 1, Y 0, .tok 227, .tok 226, .tok 225, .tok 224, .tok 223, .tok 222, .tok 221, .tok 220, Y 2, Y 3, Y 9, Y 0, Y 0, Y 0, Y 2, Y 0, Y 2, Y 0, Y 0, Y 0] 28, .imm [Y 0, Y 4, Y 25, Y 1, Y 4, Y 5, Y 1, Y 0, .tok 327, .tok 326, .tok 325, .tok 324, .tok 323, .tok 322, .tok 321, .tok 320, Y 2, Y 4, Y 9, Y 0, Y 0, Y 0, Y 3, Y 0, Y 3, Y 0, Y 0, Y 0] 28, .imm [Y 0, Y 3, Y 25, Y 1, Y 3, Y 5, Y 1, Y 0, .tok 227, .tok 226, .tok 225, .tok 224, .tok 223, .tok 222, .tok 221, .tok 220, Y 2, Y 3, Y 9, Y 0, Y 0, Y 0, Y 2, Y 0, Y 2, Y 0, Y 0, Y 0] 28, .imm [Y 0, Y 4, Y 25, Y 1, Y 4, Y 5, Y 1, Y 0, .tok 327, .tok 326, .tok 325, .tok 324, .tok 323, .tok 322, .tok 321, .tok 320, Y 2, Y 4, Y 9, Y 0, Y 0, Y 0, Y 3, Y 0, Y 3, Y 0, Y 0, Y 0] 28, .imm [Y 0, Y 3, Y 25, Y 1, Y 3, Y 5, Y 1, Y 0, .tok 227, .tok 226, .tok 225, .tok 224, .tok 223, .tok 222, .tok 221, .tok 220, Y 2, Y 3, Y 9, Y 0, Y 0, Y 0, Y 2, Y 0, Y 2, Y 0, Y 0, Y 0] 28, .imm [Y 0, Y 4, Y 25, Y 1, Y 4, Y 5, Y 1, Y 0, .tok 327, .tok 326, .tok 325, .tok 324, .tok 323, .tok 322, .tok 321, .tok 320, Y 2, Y 4, Y 9, Y 0, Y 0, Y 0, Y 3, Y 0, Y 3, Y 0, Y 0, Y 0] 28]),
  (857, C 1 [.imm [Y 1, Y 2] 2, .imm [Y 1, Y 2] 2, .nsl, .nsl, .nsl, .nsl]),
  (1074, C 8 [I 8, I 0, I 0, I 0, I 0, W 0, .f .f64 0, .nsl]),
  (1075, C 3 [.f .f64 0, I 0, W 0])]
def hWF73 : AH := AH.edit hWF72 1235 [773, 1072] [(129, C 1 [O 1228 0 15]),
  (135, C 3 [.tok 206, I 1, W 3]),
  (138, C 1 [.nsl, O 1183 10 0, .nsl]),
  (150, C 5 [I 3, I 0, I 3, .imm [.imm [W 0, W 0, W 0] 3, .imm [W 3, W 0, W 3] 3, .imm [W 0, W 0, W 0] 3] 3, .imm [W 0, W 3, W 0] 3]),
  (155, C 3 [W 2, W 4, .m (some 154)]),
  (166, C 5 [O 857 0 3, I 9, I 6, I 0, I 0]),
  (205, C 5 [O 703 0 1, I 10, I 9, I 0, I 0]),
  (703, C 1 [.imm [Y 0, Y 4, Y 25, Y 1, Y 4, Y 5, Y 1, Y 0, .tok 327, .tok 326, .tok 325, .tok 324, .tok 323, .tok 322, .tok 321, .tok 320, Y 2, Y 4, Y 9, Y 0, Y 0, Y 0, Y 3, Y 0, Y 3, Y 0, Y 0, Y 0] 28, .nsl, .nsl, .nsl, .nsl, .nsl]),
  (857, C 1 [.imm [Y 1, Y 2] 2, .imm [Y 1, Y 2] 2, .imm [Y 1, Y 3] 2, .nsl, .nsl, .nsl]),
  (1183, C 10 [I 1, W 3, W 5, I 1, I 0, .tok 206, I 1, W 3, .nsl, .imm [Y 0, Y 0, Y 0, Y 2, Y 0, Y 2, Y 0, Y 0, Y 0] 9]),
  (1228, C 9 [I 3, I 1, I 0, W 0, W 0, I 0, .tok 6, W 1, I 0, I 1, I 1, I 0, W 1, W 5, I 0, .f .f64 0, W 0, I 0, I 3, I 1, I 0, W 0, W 0, I 0, .tok 106, W 2, I 0, I 1, I 1, I 0, W 2, W 5, I 0, .f .f64 0, W 0, I 0, I 3, I 1, I 0, W 0, W 0, I 0, .tok 206, W 3, I 0, I 1, I 1, I 0, W 3, W 5, I 0, .f .f64 0, W 0, I 0, I 3, I 1, I 0, W 0, W 0, I 0, .tok 306, W 4, I 0, I 1, I 1, I 0, W 4, W 5, I 0, .f .f64 0, W 0, I 0, I 6, I 1, I 0, W 0, W 0, I 0, .f .f64 0, W 0, I 7, I 2, I 0, I 1, W 1, W 0, I 0, .f .f64 0, W 0, I 0, I 2, I 0, I 1, W 2, W 0, I 0, .f .f64 0, W 0, I 0, I 2, I 2, I 1, W 1, W 0, I 0, .f .f64 0, W 0, I 0, I 2, I 2, I 1, W 2, W 0, I 0, .f .f64 0, W 0, I 0, I 6, I 1, I 0, W 0, W 0, I 0, .f .f64 0, W 0, I 7, I 2, I 0, I 1, W 3, W 0, I 0, .f .f64 0, W 0, I 0])]
def hWF74 : AH := AH.edit hWF73 1293 [1183, 1228] [(129, C 1 [O 1286 0 16]),
  (135, C 3 [.tok 306, I 1, W 4]),
  (138, C 1 [.nsl, O 1241 10 0, .nsl]),
  (150, C 5 [I 3, I 0, I 3, .imm [.imm [W 0, W 0, W 0] 3, .imm [W 4, W 0, W 4] 3, .imm [W 0, W 0, W 0] 3] 3, .imm [W 0, W 4, W 0] 3]),
  (155, C 3 [W 2, W 5, .m (some 154)]),
  (166, C 5 [O 857 0 4, I 10, I 6, I 0, I 0]),
  (205, C 5 [O 703 0 0, I 10, I 10, I 0, I 0]),
  (703, C 1 [.nsl, .nsl, .nsl, .nsl, .nsl, .nsl]),
  (857, C 1 [.imm [Y 1, Y 2] 2, .imm [Y 1, Y 2] 2, .imm [Y 1, Y 3] 2, .imm [Y 1, Y 4] 2, .nsl, .nsl]),
  (1241, C 10 [I 1, W 4, W 5, I 1, I 0, .tok 306, I 1, W 4, .nsl, .imm [Y 0, Y 0, Y 0, Y 3, Y 0, Y 3, Y 0, Y 0, Y 0] 9]),
  (1286, C 9 [I 3, I 1, I 0, W 0, W 0, I 0, .tok 6, W 1, I 0, I 1, I 1, I 0, W 1, W 5, I 0, .f .f64 0, W 0, I 0, I 3, I 1, I 0, W 0, W 0, I 0, .tok 106, W 2, I 0, I 1, I 1, I 0, W 2, W 5, I 0, .f .f64 0, W 0, I 0, I 3, I 1, I 0, W 0, W 0, I 0, .tok 206, W 3, I 0, I 1, I 1, I 0, W 3, W 5, I 0, .f .f64 0, W 0, I 0, I 3, I 1, I 0, W 0, W 0, I 0, .tok 306, W 4, I 0, I 1, I 1, I 0, W 4, W 5, I 0, .f .f64 0, W 0, I 0, I 6, I 1, I 0, W 0, W 0, I 0, .f .f64 0, W 0, I 7, I 2, I 0, I 1, W 1, W 0, I 0, .f .f64 0, W 0, I 0, I 2, I 0, I 1, W 2, W 0, I 0, .f .f64 0, W 0, I 0, I 2, I 2, I 1, W 1, W 0, I 0, .f .f64 0, W 0, I 0, I 2, I 2, I 1, W 2, W 0, I 0, .f .f64 0, W 0, I 0, I 6, I 1, I 0, W 0, W 0, I 0, .f .f64 0, W 0, I 7, I 2, I 0, I 1, W 3, W 0, I 0, .f .f64 0, W 0, I 0, I 2, I 0, I 1, W 4, W 0, I 0, .f .f64 0, W 0, I 0])]
def hWF75 : AH := AH.edit hWF74 1351 [923, 1286] [(129, C 1 [O 1344 0 17]),
  (209, C 5 [O 707 0 5, I 12, I 7, I 0, I 0]),
  (217, C 3 [.tok 206, I 1, W 3]),
  (220, C 1 [.nsl, O 1299 10 0, .nsl]),
  (232, C 5 [I 3, I 2, I 3, .imm [.imm [W 0, W 0, W 0] 3, .imm [W 3, W 0, W 3] 3, .imm [W 0, W 0, W 0] 3] 3, .imm [W 0, W 3, W 0] 3]),
  (242, C 3 [W 2, W 4, .m (some 241)]),
  (248, C 5 [O 1007 0 1, I 7, I 6, I 0, I 0]),
  (707, C 1 [.imm [Y 0, Y 4, Y 25, Y 1, Y 4, Y 5, Y 1, Y 0, .tok 327, .tok 326, .tok 325, .tok 324, .tok 323, .tok 322, .tok 321, .tok 320, Y 2, Y 4, Y 9, Y 0, Y 0, Y 0, Y 3, Y 0, Y 3, Y 0, Y 0, Y 0] 28, .imm [Y 0, Y 3, Y 25, Y 1, Y 3, Y 5, Y 1, Y 0, .tok 227, .tok 226, .tok 225, .tok 224, .tok 223, .tok 222, .tok 221, .tok 220, Y 2, Y 3, Y 9, Y 0, Y 0, Y 0, Y 2, Y 0, Y 2, Y 0, Y 0, Y 0] 28, .imm [Y 0, Y 4, Y 25, Y 1, Y 4, Y 5, Y 1, Y 0, .tok 327, .tok 326, .tok 325, .tok 324, .tok 323, .tok 322, .tok 321, .tok 320, Y 2, Y 4, Y 9, Y 0, Y 0, Y 0, Y 3, Y 0, Y 3, Y 0, Y 0, Y 0] 28, .imm [Y 0, Y 3, Y 25, Y 1, Y 3, Y 5, Y 1, Y 0, .tok 227, .tok 226, .tok 225, .tok 224, .tok 223, .tok 222, .tok 221, .tok 220, Y 2, Y 3, Y 9, Y 0, Y 0, Y 0, Y 2, Y 0, Y 2, Y 0, Y 0, Y 0] 28, .imm [Y 0, Y 4, Y 25, Y 1, Y 4, Y 5, Y 1, Y 0, .tok 327, .tok 326, .tok 325, .tok 324, .tok 323, .tok 322, .tok 321, .tok 320, Y 2, Y 4, Y 9, Y 0, Y 0, Y 0, Y 3, Y 0, Y 3, Y 0, Y 0, Y 0] 28, .nsl]),
  (1007, C 1 [.imm [Y 1, Y 3] 2, .nsl, .nsl, .nsl, .nsl, .nsl]),
  (1299, C 10 [I 1, W 3, W 5, I 1, I 0, .tok 206, I 1, W 3, .nsl, .imm [Y 0, Y 0, Y 0, Y 2, Y 0, Y 2, Y 0, Y 0, Y 0] 9]),
  (1344, C 9 [I 3, I 1, I 0, W 0, W 0, I 0, .tok 6, W 1, I 0, I 1, I 1, I 0, W 1, W 5, I 0, .f .f64 0, W 0, I 0, I 3, I 1, I 0, W 0, W 0, I 0, .tok 106, W 2, I 0, I 1, I 1, I 0, W 2, W 5, I 0, .f .f64 0, W 0, I 0, I 3, I 1, I 0, W 0, W 0, I 0, .tok 206, W 3, I 0, I 1, I 1, I 0, W 3, W 5, I 0, .f .f64 0, W 0, I 0, I 3, I 1, I 0, W 0, W 0, I 0, .tok 306, W 4, I 0, I 1, I 1, I 0, W 4, W 5, I 0, .f .f64 0, W 0, I 0, I 6, I 1, I 0, W 0, W 0, I 0, .f .f64 0, W 0, I 7, I 2, I 0, I 1, W 1, W 0, I 0, .f .f64 0, W 0, I 0, I 2, I 0, I 1, W 2, W 0, I 0, .f .f64 0, W 0, I 0, I 2, I 2, I 1, W 1, W 0, I 0, .f .f64 0, W 0, I 0, I 2, I 2, I 1, W 2, W 0, I 0, .f .f64 0, W 0, I 0, I 6, I 1, I 0, W 0, W 0, I 0, .f .f64 0, W 0, I 7, I 2, I 0, I 1, W 3, W 0, I 0, .f .f64 0, W 0, I 0, I 2, I 0, I 1, W 4, W 0, I 0, .f .f64 0, W 0, I 0, I 2, I 2, I 1, W 3, W 0, I 0, .f .f64 0, W 0, I 0])]
def hWF76 : AH := AH.edit hWF75 1409 [1299, 1344] [(129, C 1 [O 1402 0 18]),
  (209, C 5 [O 707 0 4, I 12, I 8, I 0, I 0]),
  (217, C 3 [.tok 306, I 1, W 4]),
  (220, C 1 [.nsl, O 1357 10 0, .nsl]),
  (232, C 5 [I 3, I 2, I 3, .imm [.imm [W 0, W 0, W 0] 3, .imm [W 4, W 0, W 4] 3, .imm [W 0, W 0, W 0] 3] 3, .imm [W 0, W 4, W 0] 3]),
  (242, C 3 [W 2, W 5, .m (some 241)]),
  (248, C 5 [O 1007 0 2, I 8, I 6, I 0, I 0]),
  (707, C 1 [.imm [Y 0, Y 3, Y 25, Y 1, Y 3, Y 5, Y 1, Y 0, .tok 227, .tok 226, .tok 225, .tok 224, .tok 223, .tok 222, .tok 221, .tok 220, Y 2, Y 3, Y 9, Y 0, Y 0, Y 0, Y 2, Y 0, Y 2, Y 0, Y 0, Y 0] 28, .imm [Y 0, Y 4, Y 25, Y 1, Y 4, Y 5, Y 1, Y 0, .tok 327, .tok 326, .tok 325, .tok 324, .tok 323, .tok 322, .tok 321, .tok 320, Y 2, Y 4, Y 9, Y 0, Y 0, Y 0, Y 3, Y 0, Y 3, Y 0, Y 0, Y 0] 28, .imm [Y 0, Y 3, Y 25, Y 1, Y 3, Y 5, Y 1, Y 0, .tok 227, .tok 226, .tok 225, .tok 224, .tok 223, .tok 222, .tok 221, .tok 220, Y 2, Y 3, Y 9, Y 0, Y 0, Y 0, Y 2, Y 0, Y 2, Y 0, Y 0, Y 0] 28, .imm [Y 0, Y 4, Y 25, Y 1, Y 4, Y 5, Y 1, Y 0, .tok 327, .tok 326, .tok 325, .tok 324, .tok 323, .tok 322, .tok 321, .tok 320, Y 2, Y 4, Y 9, Y 0, Y 0, Y 0, Y 3, Y 0, Y 3, Y 0, Y 0, Y 0] 28, .nsl, .nsl]),
  (1007, C 1 [.imm [Y 1, Y 3] 2, .imm [Y 1, Y 4] 2, .nsl, .nsl, .nsl, .nsl]),
  (1357, C 10 [I 1, W 4, W 5, I 1, I 0, .tok 306, I 1, W 4, .nsl, .imm [Y 0, Y 0, Y 0, Y 3, Y 0, Y 3, Y 0, Y 0, Y 0] 9]),
  (1402, C 9 [I 3, I 1, I 0, W 0, W 0, I 0, .tok 6, W 1, I 0, I 1, I 1, I 0, W 1, W 5, I 0, .f .f64 0, W 0, I 0, I 3, I 1, I 0, W 0, W 0, I 0, .tok 106, W 2, I 0, I 1, I 1, I 0, W 2, W 5, I 0, .f .f64 0, W 0, I 0, I 3, I 1, I 0, W 0, W 0, I 0, .tok 206, W 3, I 0, I 1, I 1, I 0, W 3, W 5, I 0, .f .f64 0, W 0, I 0, I 3, I 1, I 0, W 0, W 0, I 0, .tok 306, W 4, I 0, I 1, I 1, I 0, W 4, W 5, I 0, .f .f64 0, W 0, I 0, I 6, I 1, I 0, W 0, W 0, I 0, .f .f64 0, W 0, I 7, I 2, I 0, I 1, W 1, W 0, I 0, .f .f64 0, W 0, I 0, I 2, I 0, I 1, W 2, W 0, I 0, .f .f64 0, W 0, I 0, I 2, I 2, I 1, W 1, W 0, I 0, .f .f64 0, W 0, I 0, I 2, I 2, I 1, W 2, W 0, I 0, .f .f64 0, W 0, I 0, I 6, I 1, I 0, W 0, W 0, I 0, .f .f64 0, W 0, I 7, I 2, I 0, I 1, W 3, W 0, I 0, .f .f64 0, W 0, I 0, I 2, I 0, I 1, W 4, W 0, I 0, .f .f64 0, W 0, I 0, I 2, I 2, I 1, W 3, W 0, I 0, .f .f64 0, W 0, I 0, I 2, I 2, I 1, W 4, W 0, I 0, .f .f64 0, W 0, I 0])]
def hWF77 : AH := AH.edit hWF76 1477 [1074, 1075] [(199, C 5 [I 2, I 8, I 2, I 0, I 4]),
  (200, C 6 [I 2, I 3, P 199 0, O 450 0 0, O 637 2 0, W 4]),
  (209, C 5 [O 707 0 0, I 12, I 12, I 0, I 0]),
  (248, C 5 [O 1007 0 0, I 12, I 12, I 0, I 0]),
  (450, C 2 [W 0, .nsl, W 0, .nsl]),
  (707, C 1 [.nsl, .nsl, .nsl, .nsl, .nsl, .nsl]),
  (1007, C 1 [.nsl, .nsl, .nsl, .nsl, .nsl, .nsl])]
def hWF78 : AH := AH.edit hWF77 1557 [] [(166, C 5 [O 857 0 4, I 14, I 10, I 0, I 0]),
  (192, C 5 [I 2, I 8, I 2, I 0, I 5]),
  (193, C 6 [I 2, I 3, P 192 0, O 441 0 0, O 634 2 0, W 4]),
  (205, C 5 [O 703 0 0, I 14, I 14, I 0, I 0]),
  (441, C 2 [W 0, .nsl, W 0, .nsl]),
  (857, C 1 [.imm [Y 1, Y 4] 2, .imm [Y 1, Y 4] 2, .imm [Y 1, Y 4] 2, .imm [Y 1, Y 4] 2, .nsl, .nsl])]
def hWF79 : AH := AH.edit hWF78 1583 [] [(166, C 5 [O 857 0 0, I 14, I 14, I 0, I 0]),
  (857, C 1 [.nsl, .nsl, .nsl, .nsl, .nsl, .nsl])]
def hWF80 : AH := AH.edit hWF77 1571 [634, 637, 1402] [(129, C 1 [O 1569 0 20]),
  (176, C 3 [.tok 606, I 1, W 5]),
  (177, C 11 [I 3, .imm [W 7] 1, I 2, I 3, I 2, I 8, I 64, I 1, I 1, O 176 0 1, W 5]),
  (180, C 17 [I 3, O 178 0 1, I 2, I 3, I 2, I 8, I 64, I 1, I 1, P 129 0, O 204 0 3, .ifc 105 (P 191 0), P 177 0, W 5, O 179 0 3, N 0, .nsl]),
  (191, C 5 [I 3, I 1, I 3, .imm [.imm [W 0, W 0, W 0] 3, .imm [W 5, W 0, W 5] 3, .imm [W 0, W 0, W 0] 3] 3, O 190 0 3]),
  (193, C 6 [I 2, I 3, P 192 0, O 441 0 2, O 1558 0 1, W 4]),
  (199, C 5 [I 2, I 8, I 2, I 2, I 4]),
  (200, C 6 [I 2, I 3, P 199 0, O 450 0 1, O 1561 1 0, W 5]),
  (209, C 5 [O 707 0 1, I 13, I 12, I 0, I 0]),
  (450, C 2 [W 5, .imm [Y 1, Y 5, Y 5, Y 1, Y 0, .tok 627, .tok 626, .tok 625, .tok 624, .tok 623, .tok 622, .tok 621, .tok 620, Y 2, Y 5, Y 9, Y 0, Y 0, Y 0, Y 4, Y 0, Y 4, Y 0, Y 0, Y 0] 25, W 0, .nsl]),
  (707, C 1 [.imm [Y 0, Y 5, Y 25, Y 1, Y 5, Y 5, Y 1, Y 0, .tok 627, .tok 626, .tok 625, .tok 624, .tok 623, .tok 622, .tok 621, .tok 620, Y 2, Y 5, Y 9, Y 0, Y 0, Y 0, Y 4, Y 0, Y 4, Y 0, Y 0, Y 0] 28, .nsl, .nsl, .nsl, .nsl, .nsl]),
  (1558, C 1 [.imm [Y 1, Y 5, Y 5, Y 1, Y 0, .tok 627, .tok 626, .tok 625, .tok 624, .tok 623, .tok 622, .tok 621, .tok 620, Y 2, Y 5, Y 9, Y 0, Y 0, Y 0, Y 4, Y 0, Y 4, Y 0, Y 0, Y 0] 25]),
  (1561, C 1 [.imm [Y 1, Y 5, Y 5, Y 1, Y 0, .tok 627, .tok 626, .tok 625, .tok 624, .tok 623, .tok 622, .tok 621, .tok 620, Y 2, Y 5, Y 9, Y 0, Y 0, Y 0, Y 4, Y 0, Y 4, Y 0, Y 0, Y 0] 25]),
  (1569, C 9 [I 3, I 1, I 0, W 0, W 0, I 0, .tok 6, W 1, I 0, I 1, I 1, I 0, W 1, W 5, I 0, .f .f64 0, W 0, I 0, I 3, I 1, I 0, W 0, W 0, I 0, .tok 106, W 2, I 0, I 1, I 1, I 0, W 2, W 5, I 0, .f .f64 0, W 0, I 0, I 3, I 1, I 0, W 0, W 0, I 0, .tok 206, W 3, I 0, I 1, I 1, I 0, W 3, W 5, I 0, .f .f64 0, W 0, I 0, I 3, I 1, I 0, W 0, W 0, I 0, .tok 306, W 4, I 0, I 1, I 1, I 0, W 4, W 5, I 0, .f .f64 0, W 0, I 0, I 6, I 1, I 0, W 0, W 0, I 0, .f .f64 0, W 0, I 7, I 2, I 0, I 1, W 1, W 0, I 0, .f .f64 0, W 0, I 0, I 2, I 0, I 1, W 2, W 0, I 0, .f .f64 0, W 0, I 0, I 2, I 2, I 1, W 1, W 0, I 0, .f .f64 0, W 0, I 0, I 2, I 2, I 1, W 2, W 0, I 0, .f .f64 0, W 0, I 0, I 6, I 1, I 0, W 0, W 0, I 0, .f .f64 0, W 0, I 7, I 2, I 0, I 1, W 3, W 0, I 0, .f .f64 0, W 0, I 0, I 2, I 0, I 1, W 4, W 0, I 0, .f .f64 0, W 0, I 0, I 2, I 2, I 1, W 3, W 0, I 0, .f .f64 0, W 0, I 0, I 2, I 2, I 1, W 4, W 0, I 0, .f .f64 0, W 0, I 0, I 3, I 1, I 0, W 0, W 0, I 0, .tok 606, W 5, I 0, I 1, I 1, I 0, W 5, W 5, I 0, .f .f64 0, W 0, I 0])]
def hWF81 : AH := AH.edit hWF80 1572 [1073] [(1571, C 3 [.f .f64 0, I 0, W 0])]
def hWF82 : AH := AH.edit hWF81 1672 [] [(166, C 5 [O 857 0 4, I 14, I 10, I 0, I 0]),
  (192, C 5 [I 2, I 8, I 2, I 2, I 5]),
  (193, C 6 [I 2, I 3, P 192 0, O 441 0 1, O 1558 1 0, W 5]),
  (199, C 5 [I 2, I 8, I 8, I 6, I 6]),
  (205, C 5 [O 703 0 1, I 15, I 14, I 0, I 0]),
  (209, C 5 [O 707 0 3, I 15, I 12, I 0, I 0]),
  (441, C 2 [W 5, .imm [Y 1, Y 5, Y 5, Y 1, Y 0, .tok 627, .tok 626, .tok 625, .tok 624, .tok 623, .tok 622, .tok 621, .tok 620, Y 2, Y 5, Y 9, Y 0, Y 0, Y 0, Y 4, Y 0, Y 4, Y 0, Y 0, Y 0] 25, W 0, .nsl]),
  (703, C 1 [.imm [Y 0, Y 5, Y 25, Y 1, Y 5, Y 5, Y 1, Y 0, .tok 627, .tok 626, .tok 625, .tok 624, .tok 623, .tok 622, .tok 621, .tok 620, Y 2, Y 5, Y 9, Y 0, Y 0, Y 0, Y 4, Y 0, Y 4, Y 0, Y 0, Y 0] 28, .nsl, .nsl, .nsl, .nsl, .nsl]),
  (707, C 1 [.imm [Y 0, Y 5, Y 25, Y 1, Y 5, Y 5, Y 1, Y 0, .tok 627, .tok 626, .tok 625, .tok 624, .tok 623, .tok 622, .tok 621, .tok 620, Y 2, Y 5, Y 9, Y 0, Y 0, Y 0, Y 4, Y 0, Y 4, Y 0, Y 0, Y 0] 28, .imm [Y 0, Y 5, Y 25, Y 1, Y 5, Y 5, Y 1, Y 0, .tok 627, .tok 626, .tok 625, .tok 624, .tok 623, .tok 622, .tok 621, .tok 620, Y 2, Y 5, Y 9, Y 0, Y 0, Y 0, Y 4, Y 0, Y 4, Y 0, Y 0, Y 0] 28, .imm [Y 0, Y 5, Y 25, Y 1, Y 5, Y 5, Y 1, Y 0, .tok 627, .tok 626, .tok 625, .tok 624, .tok 623, .tok 622, .tok 621, .tok 620, Y 2, Y 5, Y 9, Y 0, Y 0, Y 0, Y 4, Y 0, Y 4, Y 0, Y 0, Y 0] 28, .nsl, .nsl, .nsl]),
  (857, C 1 [.imm [Y 1, Y 4] 2, .imm [Y 1, Y 4] 2, .imm [Y 1, Y 4] 2, .imm [Y 1, Y 4] 2, .nsl, .nsl]),
  (1572, C 8 [I 8, I 0, I 0, I 0, I 0, W 0, .f .f64 0, .nsl]),
  (1573, C 3 [.f .f64 0, I 0, W 0])]
def hWF83 : AH := AH.edit hWF82 1730 [1241, 1569] [(129, C 1 [O 1723 0 21]),
  (135, C 3 [.tok 606, I 1, W 5]),
  (138, C 1 [.nsl, O 1678 10 0, .nsl]),
  (150, C 5 [I 3, I 0, I 3, .imm [.imm [W 0, W 0, W 0] 3, .imm [W 5, W 0, W 5] 3, .imm [W 0, W 0, W 0] 3] 3, .imm [W 0, W 5, W 0] 3]),
  (155, C 3 [W 2, W 6, .m (some 154)]),
  (166, C 5 [O 857 0 5, I 15, I 10, I 0, I 0]),
  (205, C 5 [O 703 0 0, I 15, I 15, I 0, I 0]),
  (703, C 1 [.nsl, .nsl, .nsl, .nsl, .nsl, .nsl]),
  (857, C 1 [.imm [Y 1, Y 4] 2, .imm [Y 1, Y 4] 2, .imm [Y 1, Y 4] 2, .imm [Y 1, Y 4] 2, .imm [Y 1, Y 5] 2, .nsl]),
  (1678, C 10 [I 1, W 5, W 5, I 1, I 0, .tok 606, I 1, W 5, .nsl, .imm [Y 0, Y 0, Y 0, Y 4, Y 0, Y 4, Y 0, Y 0, Y 0] 9]),
  (1723, C 9 [I 3, I 1, I 0, W 0, W 0, I 0, .tok 6, W 1, I 0, I 1, I 1, I 0, W 1, W 5, I 0, .f .f64 0, W 0, I 0, I 3, I 1, I 0, W 0, W 0, I 0, .tok 106, W 2, I 0, I 1, I 1, I 0, W 2, W 5, I 0, .f .f64 0, W 0, I 0, I 3, I 1, I 0, W 0, W 0, I 0, .tok 206, W 3, I 0, I 1, I 1, I 0, W 3, W 5, I 0, .f .f64 0, W 0, I 0, I 3, I 1, I 0, W 0, W 0, I 0, .tok 306, W 4, I 0, I 1, I 1, I 0, W 4, W 5, I 0, .f .f64 0, W 0, I 0, I 6, I 1, I 0, W 0, W 0, I 0, .f .f64 0, W 0, I 7, I 2, I 0, I 1, W 1, W 0, I 0, .f .f64 0, W 0, I 0, I 2, I 0, I 1, W 2, W 0, I 0, .f .f64 0, W 0, I 0, I 2, I 2, I 1, W 1, W 0, I 0, .f .f64 0, W 0, I 0, I 2, I 2, I 1, W 2, W 0, I 0, .f .f64 0, W 0, I 0, I 6, I 1, I 0, W 0, W 0, I 0, .f .f64 0, W 0, I 7, I 2, I 0, I 1, W 3, W 0, I 0, .f .f64 0, W 0, I 0, I 2, I 0, I 1, W 4, W 0, I 0, .f .f64 0, W 0, I 0, I 2, I 2, I 1, W 3, W 0, I 0, .f .f64 0, W 0, I 0, I 2, I 2, I 1, W 4, W 0, I 0, .f .f64 0, W 0, I 0, I 3, I 1, I 0, W 0, W 0, I 0, .tok 606, W 5, I 0, I 1, I 1, I 0, W 5, W 5, I 0, .f .f64 0, W 0, I 0, I 2, I 0, I 1, W 5, W 0, I 0, .f .f64 0, W 0, I 0])]
def hWF84 : AH := AH.edit hWF83 1788 [1357, 1723] [(129, C 1 [O 1781 0 22]),
  (209, C 5 [O 707 0 2, I 15, I 13, I 0, I 0]),
  (217, C 3 [.tok 606, I 1, W 5]),
  (220, C 1 [.nsl, O 1736 10 0, .nsl]),
  (232, C 5 [I 3, I 2, I 3, .imm [.imm [W 0, W 0, W 0] 3, .imm [W 5, W 0, W 5] 3, .imm [W 0, W 0, W 0] 3] 3, .imm [W 0, W 5, W 0] 3]),
  (242, C 3 [W 2, W 6, .m (some 241)]),
  (248, C 5 [O 1007 0 1, I 13, I 12, I 0, I 0]),
  (707, C 1 [.imm [Y 0, Y 5, Y 25, Y 1, Y 5, Y 5, Y 1, Y 0, .tok 627, .tok 626, .tok 625, .tok 624, .tok 623, .tok 622, .tok 621, .tok 620, Y 2, Y 5, Y 9, Y 0, Y 0, Y 0, Y 4, Y 0, Y 4, Y 0, Y 0, Y 0] 28, .imm [Y 0, Y 5, Y 25, Y 1, Y 5, Y 5, Y 1, Y 0, .tok 627, .tok 626, .tok 625, .tok 624, .tok 623, .tok 622, .tok 621, .tok 620, Y 2, Y 5, Y 9, Y 0, Y 0, Y 0, Y 4, Y 0, Y 4, Y 0, Y 0, Y 0] 28, .nsl, .nsl, .nsl, .nsl]),
  (1007, C 1 [.imm [Y 1, Y 5] 2, .nsl, .nsl, .nsl, .nsl, .nsl]),
  (1736, C 10 [I 1, W 5, W 5, I 1, I 0, .tok 606, I 1, W 5, .nsl, .imm [Y 0, Y 0, Y 0, Y 4, Y 0, Y 4, Y 0, Y 0, Y 0] 9]),
  (1781, C 9 [I 3, I 1, I 0, W 0, W 0, I 0, .tok 6, W 1, I 0, I 1, I 1, I 0, W 1, W 5, I 0, .f .f64 0, W 0, I 0, I 3, I 1, I 0, W 0, W 0, I 0, .tok 106, W 2, I 0, I 1, I 1, I 0, W 2, W 5, I 0, .f .f64 0, W 0, I 0, I 3, I 1, I 0, W 0, W 0, I 0, .tok 206, W 3, I 0, I 1, I 1, I 0, W 3, W 5, I 0, .f .f64 0, W 0, I 0, I 3, I 1, I 0, W 0, W 0, I 0, .tok 306, W 4, I 0, I 1, I 1, I 0, W 4, W 5, I 0, .f .f64 0, W 0, I 0, I 6, I 1, I 0, W 0, W 0, I 0, .f .f64 0, W 0, I 7, I 2, I 0, I 1, W 1, W 0, I 0, .f .f64 0, W 0, I 0, I 2, I 0, I 1, W 2, W 0, I 0, .f .f64 0, W 0, I 0, I 2, I 2, I 1, W 1, W 0, I 0, .f .f64 0, W 0, I 0, I 2, I 2, I 1, W 2, W 0, I 0, .f .f64 0, W 0, I 0, I 6, I 1, I 0, W 0, W 0, I 0, .f .f64 0, W 0, I 7, I 2, I 0, I 1, W 3, W 0, I 0, .f .f64 0, W 0, I 0, I 2, I 0, I 1, W 4, W 0, I 0, .f .f64 0, W 0, I 0, I 2, I 2, I 1, W 3, W 0, I 0, .f .f64 0, W 0, I 0, I 2, I 2, I 1, W 4, W 0, I 0, .f .f64 0, W 0, I 0, I 3, I 1, I 0, W 0, W 0, I 0, .tok 606, W 5, I 0, I 1, I 1, I 0, W 5, W 5, I 0, .f .f64 0, W 0, I 0, I 2, I 0, I 1, W 5, W 0, I 0, .f .f64 0, W 0, I 0, I 2, I 2, I 1, W 5, W 0, I 0, .f .f64 0, W 0, I 0])]
def hWF85 : AH := AH.edit hWF84 1821 [1572, 1573] [(199, C 5 [I 2, I 8, I 2, I 0, I 6]),
  (200, C 6 [I 2, I 3, P 199 0, O 450 0 0, O 1561 1 0, W 5]),
  (209, C 5 [O 707 0 0, I 15, I 15, I 0, I 0]),
  (248, C 5 [O 1007 0 0, I 15, I 15, I 0, I 0]),
  (450, C 2 [W 0, .nsl, W 0, .nsl]),
  (707, C 1 [.nsl, .nsl, .nsl, .nsl, .nsl, .nsl]),
  (1007, C 1 [.nsl, .nsl, .nsl, .nsl, .nsl, .nsl])]
def hWF86 : AH := AH.edit hWF85 1880 [] [(166, C 5 [O 857 0 2, I 17, I 15, I 0, I 0]),
  (192, C 5 [I 2, I 8, I 2, I 0, I 7]),
  (193, C 6 [I 2, I 3, P 192 0, O 441 0 0, O 1558 1 0, W 5]),
  (205, C 5 [O 703 0 0, I 17, I 17, I 0, I 0]),
  (441, C 2 [W 0, .nsl, W 0, .nsl]),
  (857, C 1 [.imm [Y 1, Y 5] 2, .imm [Y 1, Y 5] 2, .nsl, .nsl, .nsl, .nsl])]
def hWF87 : AH := AH.edit hWF86 1894 [] [(166, C 5 [O 857 0 0, I 17, I 17, I 0, I 0]),
  (857, C 1 [.nsl, .nsl, .nsl, .nsl, .nsl, .nsl])]
def hWF88 : AH := AH.edit hWF81 1666 [1558, 1561, 1569] [(129, C 1 [O 1664 0 22]),
  (176, C 3 [.tok 706, I 1, W 6]),
  (177, C 11 [I 3, .imm [W 7] 1, I 2, I 3, I 2, I 8, I 64, I 1, I 1, O 176 0 1, W 6]),
  (180, C 17 [I 3, O 178 0 1, I 2, I 3, I 2, I 8, I 64, I 1, I 1, P 129 0, O 204 0 3, .ifc 105 (P 191 0), P 177 0, W 6, O 179 0 3, N 0, .nsl]),
  (191, C 5 [I 3, I 1, I 3, .imm [.imm [W 0, W 0, W 0] 3, .imm [W 6, W 0, W 6] 3, .imm [W 0, W 0, W 0] 3] 3, O 190 0 3]),
  (193, C 6 [I 2, I 3, P 192 0, O 441 0 2, O 1653 0 2, W 4]),
  (200, C 6 [I 2, I 3, P 199 0, O 450 0 2, O 1656 1 0, W 6]),
  (209, C 5 [O 707 0 2, I 14, I 12, I 0, I 0]),
  (450, C 2 [W 5, .imm [Y 1, Y 5, Y 5, Y 1, Y 0, .tok 627, .tok 626, .tok 625, .tok 624, .tok 623, .tok 622, .tok 621, .tok 620, Y 2, Y 5, Y 9, Y 0, Y 0, Y 0, Y 4, Y 0, Y 4, Y 0, Y 0, Y 0] 25, W 6, .imm [Y 1, Y 6, Y 5, Y 1, Y 0, .tok 727, .tok 726, .tok 725, .tok 724, .tok 723, .tok 722, .tok 721, .tok 720, Y 2, Y 6, Y 9, Y 0, Y 0, Y 0, Y 5, Y 0, Y 5, Y 0, Y 0, Y 0] 25]),
  (707, C 1 [.imm [Y 0, Y 5, Y 25, Y 1, Y 5, Y 5, Y 1, Y 0, .tok 627, .tok 626, .tok 625, .tok 624, .tok 623, .tok 622, .tok 621, .tok 620, Y 2, Y 5, Y 9, Y 0, Y 0, Y 0, Y 4, Y 0, Y 4, Y 0, Y 0, Y 0] 28, .imm [Y 0, Y 6, Y 25, Y 1, Y 6, Y 5, Y 1, Y 0, .tok 727, .tok 726, .tok 725, .tok 724, .tok 723, .tok 722, .tok 721, .tok 720, Y 2, Y 6, Y 9, Y 0, Y 0, Y 0, Y 5, Y 0, Y 5, Y 0, Y 0, Y 0] 28, .nsl, .nsl, .nsl, .nsl]),
  (1653, C 1 [.imm [Y 1, Y 5, Y 5, Y 1, Y 0, .tok 627, .tok 626, .tok 625, .tok 624, .tok 623, .tok 622, .tok 621, .tok 620, Y 2, Y 5, Y 9, Y 0, Y 0, Y 0, Y 4, Y 0, Y 4, Y 0, Y 0, Y 0] 25, .imm [Y 1, Y 6, Y 5, Y 1, Y 0, .tok 727, .tok 726, .tok 725, .tok 724, .tok 723, .tok 722, .tok 721, .tok 720, Y 2, Y 6, Y 9, Y 0, Y 0, Y 0, Y 5, Y 0, Y 5, Y 0, Y 0, Y 0] 25]),
  (1656, C 1 [.imm [Y 1, Y 6, Y 5, Y 1, Y 0, .tok 727, .tok 726, .tok 725, .tok 724, .tok 723, .tok 722, .tok 721, .tok 720, Y 2, Y 6, Y 9, Y 0, Y 0, Y 0, Y 5, Y 0, Y 5, Y 0, Y 0, Y 0] 25]),
  (1664, C 9 [I 3, I 1, I 0, W 0, W 0, I 0, .tok 6, W 1, I 0, I 1, I 1, I 0, W 1, W 5, I 0, .f .f64 0, W 0, I 0, I 3, I 1, I 0, W 0, W 0, I 0, .tok 106, W 2, I 0, I 1, I 1, I 0, W 2, W 5, I 0, .f .f64 0, W 0, I 0, I 3, I 1, I 0, W 0, W 0, I 0, .tok 206, W 3, I 0, I 1, I 1, I 0, W 3, W 5, I 0, .f .f64 0, W 0, I 0, I 3, I 1, I 0, W 0, W 0, I 0, .tok 306, W 4, I 0, I 1, I 1, I 0, W 4, W 5, I 0, .f .f64 0, W 0, I 0, I 6, I 1, I 0, W 0, W 0, I 0, .f .f64 0, W 0, I 7, I 2, I 0, I 1, W 1, W 0, I 0, .f .f64 0, W 0, I 0, I 2, I 0, I 1, W 2, W 0, I 0, .f .f64 0, W 0, I 0, I 2, I 2, I 1, W 1, W 0, I 0, .f .f64 0, W 0, I 0, I 2, I 2, I 1, W 2, W 0, I 0, .f .f64 0, W 0, I 0, I 6, I 1, I 0, W 0, W 0, I 0, .f .f64 0, W 0, I 7, I 2, I 0, I 1, W 3, W 0, I 0, .f .f64 0, W 0, I 0, I 2, I 0, I 1, W 4, W 0, I 0, .f .f64 0, W 0, I 0, I 2, I 2, I 1, W 3, W 0, I 0, .f .f64 0, W 0, I 0, I 2, I 2, I 1, W 4, W 0, I 0, .f .f64 0, W 0, I 0, I 3, I 1, I 0, W 0, W 0, I 0, .tok 606, W 5, I 0, I 1, I 1, I 0, W 5, W 5, I 0, .f .f64 0, W 0, I 0, I 3, I 1, I 0, W 0, W 0, I 0, .tok 706, W 6, I 0, I 1, I 1, I 0, W 6, W 5, I 0, .f .f64 0, W 0, I 0])]
def hWF89 : AH := AH.edit hWF88 1667 [1571] [(1666, C 3 [.f .f64 0, I 0, W 0])]
def hWF90 : AH := AH.edit hWF89 1783 [] [(166, C 5 [O 857 0 4, I 14, I 10, I 0, I 0]),
  (192, C 5 [I 2, I 8, I 2, I 2, I 5]),
  (193, C 6 [I 2, I 3, P 192 0, O 441 0 2, O 1653 2 0, W 6]),
  (199, C 5 [I 2, I 8, I 8, I 6, I 6]),
  (205, C 5 [O 703 0 2, I 16, I 14, I 0, I 0]),
  (209, C 5 [O 707 0 6, I 18, I 12, I 0, I 0]),
  (441, C 2 [W 5, .imm [Y 1, Y 5, Y 5, Y 1, Y 0, .tok 627, .tok 626, .tok 625, .tok 624, .tok 623, .tok 622, .tok 621, .tok 620, Y 2, Y 5, Y 9, Y 0, Y 0, Y 0, Y 4, Y 0, Y 4, Y 0, Y 0, Y 0] 25, W 6, .imm [Y 1, Y 6, Y 5, Y 1, Y 0, .tok 727, .tok 726, .tok 725, .tok 724, .tok 723, .tok 722, .tok 721, .tok 720, Y 2, Y 6, Y 9, Y 0, Y 0, Y 0, Y 5, Y 0, Y 5, Y 0, Y 0, Y 0] 25]),
  (703, C 1 [.imm [Y 0, Y 5, Y 25, Y 1, Y 5, Y 5, Y 1, Y 0, .tok 627, .tok 626, .tok 625, .tok 624, .tok 623, .tok 622, .tok 621, .tok 620, Y 2, Y 5, Y 9, Y 0, Y 0, Y 0, Y 4, Y 0, Y 4, Y 0, Y 0, Y 0] 28, .imm [Y 0, Y 6, Y 25, Y 1, Y 6, Y 5, Y 1, Y 0, .tok 727, .tok 726, .tok 725, .tok 724, .tok 723, .tok 722, .tok 721, .tok 720, Y 2, Y 6, Y 9, Y 0, Y 0, Y 0, Y 5, Y 0, Y 5, Y 0, Y 0, Y 0] 28, .nsl, .nsl, .nsl, .nsl]),
  (707, C 1 [.imm [Y 0, Y 5, Y 25, Y 1, Y 5, Y 5, Y 1, Y 0, .tok 627, .tok 626, .tok 625, .tok 624, .tok 623, .tok 622, .tok 621, .tok 620, Y 2, Y 5, Y 9, Y 0, Y 0, Y 0, Y 4, Y 0, Y 4, Y 0, Y 0, Y 0] 28, .imm [Y 0, Y 6, Y 25, Y 1, Y 6, Y 5, Y 1, Y 0, .tok 727, .tok 726, .tok 725, .tok 724, .tok 723, .tok 722, .tok 721, .tok 720, Y 2, Y 6, Y 9, Y 0, Y 0, Y 0, Y 5, Y 0, Y 5, Y 0, Y 0, Y 0] 28, .imm [Y 0, Y 5, Y 25, Y 1, Y 5, Y 5, Y 1, Y 0, .tok 627, .tok 626, .tok 625, .tok 624, .tok 623, .tok 622, .tok 621, .tok 620, Y 2, Y 5, Y 9, Y 0, Y 0, Y 0, Y 4, Y 0, Y 4, Y 0, Y 0, Y 0] 28, .imm [Y 0, Y 6, Y 25, Y 1, Y 6, Y 5, Y 1, Y 0, .tok 727, .tok 726, .tok 725, .tok 724, .tok 723, .tok 722, .tok 721, .tok 720, Y 2, Y 6, Y 9, Y 0, Y 0, Y 0, Y 5, Y 0, Y 5, Y 0, Y 0, Y 0] 28, .imm [Y 0, Y 5, Y 25, Y 1, Y 5, Y 5, Y 1, Y 0, .tok 627, .tok 626, .tok 625, .tok 624, .tok 623, .tok 622, .tok 621, .tok 620, Y 2, Y 5, Y 9, Y 0, Y 0, Y 0, Y 4, Y 0, Y 4, Y 0, Y 0, Y 0] 28, .imm [Y 0, Y 6, Y 25, Y 1, Y 6, Y 5, Y 1, Y 0, .tok 727, .tok 726, .tok 725, .tok 724, .tok 723, .tok 722, .tok 721, .tok 720, Y 2, Y 6, Y 9, Y 0, Y 0, Y 0, Y 5, Y 0, Y 5, Y 0, Y 0, Y 0] 28]),
  (857, C 1 [.imm [Y 1, Y 4] 2, .imm [Y 1, Y 4] 2, .imm [Y 1, Y 4] 2, .imm [Y 1, Y 4] 2, .nsl, .nsl]),
  (1667, C 8 [I 8, I 0, I 0, I 0, I 0, W 0, .f .f64 0, .nsl]),
  (1668, C 3 [.f .f64 0, I 0, W 0])]
def hWF91 : AH := AH.edit hWF90 1841 [1241, 1664] [(129, C 1 [O 1834 0 23]),
  (135, C 3 [.tok 606, I 1, W 5]),
  (138, C 1 [.nsl, O 1789 10 0, .nsl]),
  (150, C 5 [I 3, I 0, I 3, .imm [.imm [W 0, W 0, W 0] 3, .imm [W 5, W 0, W 5] 3, .imm [W 0, W 0, W 0] 3] 3, .imm [W 0, W 5, W 0] 3]),
  (155, C 3 [W 2, W 6, .m (some 154)]),
  (166, C 5 [O 857 0 5, I 15, I 10, I 0, I 0]),
  (205, C 5 [O 703 0 1, I 16, I 15, I 0, I 0]),
  (703, C 1 [.imm [Y 0, Y 6, Y 25, Y 1, Y 6, Y 5, Y 1, Y 0, .tok 727, .tok 726, .tok 725, .tok 724, .tok 723, .tok 722, .tok 721, .tok 720, Y 2, Y 6, Y 9, Y 0, Y 0, Y 0, Y 5, Y 0, Y 5, Y 0, Y 0, Y 0] 28, .nsl, .nsl, .nsl, .nsl, .nsl]),
  (857, C 1 [.imm [Y 1, Y 4] 2, .imm [Y 1, Y 4] 2, .imm [Y 1, Y 4] 2, .imm [Y 1, Y 4] 2, .imm [Y 1, Y 5] 2, .nsl]),
  (1789, C 10 [I 1, W 5, W 5, I 1, I 0, .tok 606, I 1, W 5, .nsl, .imm [Y 0, Y 0, Y 0, Y 4, Y 0, Y 4, Y 0, Y 0, Y 0] 9]),
  (1834, C 9 [I 3, I 1, I 0, W 0, W 0, I 0, .tok 6, W 1, I 0, I 1, I 1, I 0, W 1, W 5, I 0, .f .f64 0, W 0, I 0, I 3, I 1, I 0, W 0, W 0, I 0, .tok 106, W 2, I 0, I 1, I 1, I 0, W 2, W 5, I 0, .f .f64 0, W 0, I 0, I 3, I 1, I 0, W 0, W 0, I 0, .tok 206, W 3, I 0, I 1, I 1, I 0, W 3, W 5, I 0, .f .f64 0, W 0, I 0, I 3, I 1, I 0, W 0, W 0, I 0, .tok 306, W 4, I 0, I 1, I 1, I 0, W 4, W 5, I 0, .f .f64 0, W 0, I 0, I 6, I 1, I 0, W 0, W 0, I 0, .f .f64 0, W 0, I 7, I 2, I 0, I 1, W 1, W 0, I 0, .f .f64 0, W 0, I 0, I 2, I 0, I 1, W 2, W 0, I 0, .f .f64 0, W 0, I 0, I 2, I 2, I 1, W 1, W 0, I 0, .f .f64 0, W 0, I 0, I 2, I 2, I 1, W 2, W 0, I 0, .f .f64 0, W 0, I 0, I 6, I 1, I 0, W 0, W 0, I 0, .f .f64 0, W 0, I 7, I 2, I 0, I 1, W 3, W 0, I 0, .f .f64 0, W 0, I 0, I 2, I 0, I 1, W 4, W 0, I 0, .f .f64 0, W 0, I 0, I 2, I 2, I 1, W 3, W 0, I 0, .f .f64 0, W 0, I 0, I 2, I 2, I 1, W 4, W 0, I 0, .f .f64 0, W 0, I 0, I 3, I 1, I 0, W 0, W 0, I 0, .tok 606, W 5, I 0, I 1, I 1, I 0, W 5, W 5, I 0, .f .f64 0, W 0, I 0, I 3, I 1, I 0, W 0, W 0, I 0, .tok 706, W 6, I 0, I 1, I 1, I 0, W 6, W 5, I 0, .f .f64 0, W 0, I 0, I 2, I 0, I 1, W 5, W 0, I 0, .f .f64 0, W 0, I 0])]
def hWF92 : AH := AH.edit hWF91 1899 [1789, 1834] [(129, C 1 [O 1892 0 24]),
  (135, C 3 [.tok 706, I 1, W 6]),
  (138, C 1 [.nsl, O 1847 10 0, .nsl]),
  (150, C 5 [I 3, I 0, I 3, .imm [.imm [W 0, W 0, W 0] 3, .imm [W 6, W 0, W 6] 3, .imm [W 0, W 0, W 0] 3] 3, .imm [W 0, W 6, W 0] 3]),
  (155, C 3 [W 2, W 7, .m (some 154)]),
  (166, C 5 [O 857 0 6, I 16, I 10, I 0, I 0]),
  (205, C 5 [O 703 0 0, I 16, I 16, I 0, I 0]),
  (703, C 1 [.nsl, .nsl, .nsl, .nsl, .nsl, .nsl]),
  (857, C 1 [.imm [Y 1, Y 4] 2, .imm [Y 1, Y 4] 2, .imm [Y 1, Y 4] 2, .imm [Y 1, Y 4] 2, .imm [Y 1, Y 5] 2, .imm [Y 1, Y 6] 2]),
  (1847, C 10 [I 1, W 6, W 5, I 1, I 0, .tok 706, I 1, W 6, .nsl, .imm [Y 0, Y 0, Y 0, Y 5, Y 0, Y 5, Y 0, Y 0, Y 0] 9]),
  (1892, C 9 [I 3, I 1, I 0, W 0, W 0, I 0, .tok 6, W 1, I 0, I 1, I 1, I 0, W 1, W 5, I 0, .f .f64 0, W 0, I 0, I 3, I 1, I 0, W 0, W 0, I 0, .tok 106, W 2, I 0, I 1, I 1, I 0, W 2, W 5, I 0, .f .f64 0, W 0, I 0, I 3, I 1, I 0, W 0, W 0, I 0, .tok 206, W 3, I 0, I 1, I 1, I 0, W 3, W 5, I 0, .f .f64 0, W 0, I 0, I 3, I 1, I 0, W 0, W 0, I 0, .tok 306, W 4, I 0, I 1, I 1, I 0, W 4, W 5, I 0, .f .f64 0, W 0, I 0, I 6, I 1, I 0, W 0, W 0, I 0, .f .f64 0, W 0, I 7, I 2, I 0, I 1, W 1, W 0, I 0, .f .f64 0, W 0, I 0, I 2, I 0, I 1, W 2, W 0, I 0, .f .f64 0, W 0, I 0, I 2, I 2, I 1, W 1, W 0, I 0, .f .f64 0, W 0, I 0, I 2, I 2, I 1, W 2, W 0, I 0, .f .f64 0, W 0, I 0, I 6, I 1, I 0, W 0, W 0, I 0, .f .f64 0, W 0, I 7, I 2, I 0, I 1, W 3, W 0, I 0, .f .f64 0, W 0, I 0, I 2, I 0, I 1, W 4, W 0, I 0, .f .f64 0, W 0, I 0, I 2, I 2, I 1, W 3, W 0, I 0, .f .f64 0, W 0, I 0, I 2, I 2, I 1, W 4, W 0, I 0, .f .f64 0, W 0, I 0, I 3, I 1, I 0, W 0, W 0, I 0, .tok 606, W 5, I 0, I 1, I 1, I 0, W 5, W 5, I 0, .f .f64 0, W 0, I 0, I 3, I 1, I 0, W 0, W 0, I 0, .tok 706, W 6, I 0, I 1, I 1, I 0, W 6, W 5, I 0, .f .f64 0, W 0, I 0, I 2, I 0, I 1, W 5, W 0, I 0, .f .f64 0, W 0, I 0, I 2, I 0, I 1, W 6, W 0, I 0, .f .f64 0, W 0, I 0])]
def hWF93 : AH := AH.edit hWF92 1957 [1357, 1892] [(129, C 1 [O 1950 0 25]),
  (209, C 5 [O 707 0 5, I 18, I 13, I 0, I 0]),
  (217, C 3 [.tok 606, I 1, W 5]),
  (220, C 1 [.nsl, O 1905 10 0, .nsl]),
  (232, C 5 [I 3, I 2, I 3, .imm [.imm [W 0, W 0, W 0] 3, .imm [W 5, W 0, W 5] 3, .imm [W 0, W 0, W 0] 3] 3, .imm [W 0, W 5, W 0] 3]),
  (242, C 3 [W 2, W 6, .m (some 241)]),
  (248, C 5 [O 1007 0 1, I 13, I 12, I 0, I 0]),
  (707, C 1 [.imm [Y 0, Y 6, Y 25, Y 1, Y 6, Y 5, Y 1, Y 0, .tok 727, .tok 726, .tok 725, .tok 724, .tok 723, .tok 722, .tok 721, .tok 720, Y 2, Y 6, Y 9, Y 0, Y 0, Y 0, Y 5, Y 0, Y 5, Y 0, Y 0, Y 0] 28, .imm [Y 0, Y 5, Y 25, Y 1, Y 5, Y 5, Y 1, Y 0, .tok 627, .tok 626, .tok 625, .tok 624, .tok 623, .tok 622, .tok 621, .tok 620, Y 2, Y 5, Y 9, Y 0, Y 0, Y 0, Y 4, Y 0, Y 4, Y 0, Y 0, Y 0] 28, .imm [Y 0, Y 6, Y 25, Y 1, Y 6, Y 5, Y 1, Y 0, .tok 727, .tok 726, .tok 725, .tok 724, .tok 723, .tok 722, .tok 721, .tok 720, Y 2, Y 6, Y 9, Y 0, Y 0, Y 0, Y 5, Y 0, Y 5, Y 0, Y 0, Y 0] 28, .imm [Y 0, Y 5, Y 25, Y 1, Y 5, Y 5, Y 1, Y 0, .tok 627, .tok 626, .tok 625, .tok 624, .tok 623, .tok 622, .tok 621, .tok 620, Y 2, Y 5, Y 9, Y 0, Y 0, Y 0, Y 4, Y 0, Y 4, Y 0, Y 0, Y 0] 28, .imm [Y 0, Y 6, Y 25, Y 1, Y 6, Y 5, Y 1, Y 0, .tok 727, .tok 726, .tok 725, .tok 724, .tok 723, .tok 722, .tok 721, .tok 720, Y 2, Y 6, Y 9, Y 0, Y 0, Y 0, Y 5, Y 0, Y 5, Y 0, Y 0, Y 0] 28, .nsl]),
  (1007, C 1 [.imm [Y 1, Y 5] 2, .nsl, .nsl, .nsl, .nsl, .nsl]),
  (1905, C 10 [I 1, W 5, W 5, I 1, I 0, .tok 606, I 1, W 5, .nsl, .imm [Y 0, Y 0, Y 0, Y 4, Y 0, Y 4, Y 0, Y 0, Y 0] 9]),
  (1950, C 9 [I 3, I 1, I 0, W 0, W 0, I 0, .tok 6, W 1, I 0, I 1, I 1, I 0, W 1, W 5, I 0, .f .f64 0, W 0, I 0, I 3, I 1, I 0, W 0, W 0, I 0, .tok 106, W 2, I 0, I 1, I 1, I 0, W 2, W 5, I 0, .f .f64 0, W 0, I 0, I 3, I 1, I 0, W 0, W 0, I 0, .tok 206, W 3, I 0, I 1, I 1, I 0, W 3, W 5, I 0, .f .f64 0, W 0, I 0, I 3, I 1, I 0, W 0, W 0, I 0, .tok 306, W 4, I 0, I 1, I 1, I 0, W 4, W 5, I 0, .f .f64 0, W 0, I 0, I 6, I 1, I 0, W 0, W 0, I 0, .f .f64 0, W 0, I 7, I 2, I 0, I 1, W 1, W 0, I 0, .f .f64 0, W 0, I 0, I 2, I 0, I 1, W 2, W 0, I 0, .f .f64 0, W 0, I 0, I 2, I 2, I 1, W 1, W 0, I 0, .f .f64 0, W 0, I 0, I 2, I 2, I 1, W 2, W 0, I 0, .f .f64 0, W 0, I 0, I 6, I 1, I 0, W 0, W 0, I 0, .f .f64 0, W 0, I 7, I 2, I 0, I 1, W 3, W 0, I 0, .f .f64 0, W 0, I 0, I 2, I 0, I 1, W 4, W 0, I 0, .f .f64 0, W 0, I 0, I 2, I 2, I 1, W 3, W 0, I 0, .f .f64 0, W 0, I 0, I 2, I 2, I 1, W 4, W 0, I 0, .f .f64 0, W 0, I 0, I 3, I 1, I 0, W 0, W 0, I 0, .tok 606, W 5, I 0, I 1, I 1, I 0, W 5, W 5, I 0, .f .f64 0, W 0, I 0, I 3, I 1, I 0, W 0, W 0, I 0, .tok 706, W 6, I 0, I 1, I 1, I 0, W 6, W 5, I 0, .f .f64 0, W 0, I 0, I 2, I 0, I 1, W 5, W 0, I 0, .f .f64 0, W 0, I 0, I 2, I 0, I 1, W 6, W 0, I 0, .f .f64 0, W 0, I 0, I 2, I 2, I 1, W 5, W 0, I 0, .f .f64 0, W 0, I 0])]
def hWF94 : AH := AH.edit hWF93 2015 [1905, 1950] [(129, C 1 [O 2008 0 26]),
  (209, C 5 [O 707 0 4, I 18, I 14, I 0, I 0]),
  (217, C 3 [.tok 706, I 1, W 6]),
  (220, C 1 [.nsl, O 1963 10 0, .nsl]),
  (232, C 5 [I 3, I 2, I 3, .imm [.imm [W 0, W 0, W 0] 3, .imm [W 6, W 0, W 6] 3, .imm [W 0, W 0, W 0] 3] 3, .imm [W 0, W 6, W 0] 3]),
  (242, C 3 [W 2, W 7, .m (some 241)]),
  (248, C 5 [O 1007 0 2, I 14, I 12, I 0, I 0]),
  (707, C 1 [.imm [Y 0, Y 5, Y 25, Y 1, Y 5, Y 5, Y 1, Y 0, .tok 627, .tok 626, .tok 625, .tok 624, .tok 623, .tok 622, .tok 621, .tok 620, Y 2, Y 5, Y 9, Y 0, Y 0, Y 0, Y 4, Y 0, Y 4, Y 0, Y 0, Y 0] 28, .imm [Y 0, Y 6, Y 25, Y 1, Y 6, Y 5, Y 1, Y 0, .tok 727, .tok 726, .tok 725, .tok 724, .tok 723, .tok 722, .tok 721, .tok 720, Y 2, Y 6, Y 9, Y 0, Y 0, Y 0, Y 5, Y 0, Y 5, Y 0, Y 0, Y 0] 28, .imm [Y 0, Y 5, Y 25, Y 1, Y 5, Y 5, Y 1, Y 0, .tok 627, .tok 626, .tok 625, .tok 624, .tok 623, .tok 622, .tok 621, .tok 620, Y 2, Y 5, Y 9, Y 0, Y 0, Y 0, Y 4, Y 0, Y 4, Y 0, Y 0, Y 0] 28, .imm [Y 0, Y 6, Y 25, Y 1, Y 6, Y 5, Y 1, Y 0, .tok 727, .tok 726, .tok 725, .tok 724, .tok 723, .tok 722, .tok 721, .tok 720, Y 2, Y 6, Y 9, Y 0, Y 0, Y 0, Y 5, Y 0, Y 5, Y 0, Y 0, Y 0] 28, .nsl, .nsl]),
  (1007, C 1 [.imm [Y 1, Y 5] 2, .imm [Y 1, Y 6] 2, .nsl, .nsl, .nsl, .nsl]),
  (1963, C 10 [I 1, W 6, W 5, I 1, I 0, .tok 706, I 1, W 6, .nsl, .imm [Y 0, Y 0, Y 0, Y 5, Y 0, Y 5, Y 0, Y 0, Y 0] 9]),
  (2008, C 9 [I 3, I 1, I 0, W 0, W 0, I 0, .tok 6, W 1, I 0, I 1, I 1, I 0, W 1, W 5, I 0, .f .f64 0, W 0, I 0, I 3, I 1, I 0, W 0, W 0, I 0, .tok 106, W 2, I 0, I 1, I 1, I 0, W 2, W 5, I 0, .f .f64 0, W 0, I 0, I 3, I 1, I 0, W 0, W 0, I 0, .tok 206, W 3, I 0, I 1, I 1, I 0, W 3, W 5, I 0, .f .f64 0, W 0, I 0, I 3, I 1, I 0, W 0, W 0, I 0, .tok 306, W 4, I 0, I 1, I 1, I 0, W 4, W 5, I 0, .f .f64 0, W 0, I 0, I 6, I 1, I 0, W 0, W 0, I 0, .f .f64 0, W 0, I 7, I 2, I 0, I 1, W 1, W 0, I 0, .f .f64 0, W 0, I 0, I 2, I 0, I 1, W 2, W 0, I 0, .f .f64 0, W 0, I 0, I 2, I 2, I 1, W 1, W 0, I 0, .f .f64 0, W 0, I 0, I 2, I 2, I 1, W 2, W 0, I 0, .f .f64 0, W 0, I 0, I 6, I 1, I 0, W 0, W 0, I 0, .f .f64 0, W 0, I 7, I 2, I 0, I 1, W 3, W 0, I 0, .f .f64 0, W 0, I 0, I 2, I 0, I 1, W 4, W 0, I 0, .f .f64 0, W 0, I 0, I 2, I 2, I 1, W 3, W 0, I 0, .f .f64 0, W 0, I 0, I 2, I 2, I 1, W 4, W 0, I 0, .f .f64 0, W 0, I 0, I 3, I 1, I 0, W 0, W 0, I 0, .tok 606, W 5, I 0, I 1, I 1, I 0, W 5, W 5, I 0, .f .f64 0, W 0, I 0, I 3, I 1, I 0, W 0, W 0, I 0, .tok 706, W 6, I 0, I 1, I 1, I 0, W 6, W 5, I 0, .f .f64 0, W 0, I 0, I 2, I 0, I 1, W 5, W 0, I 0, .f .f64 0, W 0, I 0, I 2, I 0, I 1, W 6, W 0, I 0, .f .f64 0, W 0, I 0, I 2, I 2, I 1, W 5, W 0, I 0, .f .f64 0, W 0, I 0, I 2, I 2, I 1, W 6, W 0, I 0, .f .f64 0, W 0, I 0])]
def hWF95 : AH := AH.edit hWF94 2083 [1667, 1668] [(199, C 5 [I 2, I 8, I 2, I 0, I 6]),
  (200, C 6 [I 2, I 3, P 199 0, O 450 0 0, O 1656 1 0, W 6]),
  (209, C 5 [O 707 0 0, I 18, I 18, I 0, I 0]),
  (248, C 5 [O 1007 0 0, I 18, I 18, I 0, I 0]),
  (450, C 2 [W 0, .nsl, W 0, .nsl]),
  (707, C 1 [.nsl, .nsl, .nsl, .nsl, .nsl, .nsl]),
  (1007, C 1 [.nsl, .nsl, .nsl, .nsl, .nsl, .nsl])]
def hWF96 : AH := AH.edit hWF95 2175 [] [(166, C 5 [O 857 0 4, I 20, I 16, I 0, I 0]),
  (192, C 5 [I 2, I 8, I 2, I 0, I 7]),
  (193, C 6 [I 2, I 3, P 192 0, O 441 0 0, O 1653 2 0, W 6]),
  (205, C 5 [O 703 0 0, I 20, I 20, I 0, I 0]),
  (441, C 2 [W 0, .nsl, W 0, .nsl]),
  (857, C 1 [.imm [Y 1, Y 6] 2, .imm [Y 1, Y 6] 2, .imm [Y 1, Y 6] 2, .imm [Y 1, Y 6] 2, .nsl, .nsl])]
def hWF97 : AH := AH.edit hWF96 2201 [] [(166, C 5 [O 857 0 0, I 20, I 20, I 0, I 0]),
  (857, C 1 [.nsl, .nsl, .nsl, .nsl, .nsl, .nsl])]
def eWF0 : Entry := ⟨4, [], hWF0, .b true, hWF1⟩
def eWF1 : Entry := ⟨7, [P 130 0, .agg [I 1, I 1, I 0, I 0, I 0, W 0, .tok 0, .nsl]], hWF2, .tup [.agg [.f .f64 0, I 0, W 0], I 0], hWF3⟩
def eWF2 : Entry := ⟨7, [P 130 0, .agg [I 8, I 0, I 0, I 0, I 0, W 0, .f .f64 0, .nsl]], hWF4, .tup [.agg [.f .f64 0, I 0, W 0], I 0], hWF9⟩
def eWF3 : Entry := ⟨32, [P 130 0, I 1, I 0, I 0], hWF5, .b true, hWF6⟩
def eWF4 : Entry := ⟨32, [P 130 0, I 1, I 2, I 0], hWF7, .b true, hWF8⟩
def eWF5 : Entry := ⟨7, [P 130 0, .agg [I 8, I 0, I 0, I 0, I 0, W 0, .f .f64 0, .nsl]], hWF9, .tup [.agg [.f .f64 0, I 0, W 0], I 0], hWF10⟩
def eWF6 : Entry := ⟨7, [P 130 0, .agg [I 8, I 0, I 0, I 0, I 0, W 0, .f .f64 0, .nsl]], hWF10, .tup [.agg [.f .f64 0, I 0, W 0], I 0], hWF11⟩
def eWF7 : Entry := ⟨7, [P 130 0, .agg [I 8, I 0, I 0, I 0, I 0, W 0, .f .f64 0, .nsl]], hWF11, .tup [.agg [.f .f64 0, I 0, W 0], I 0], hWF11⟩
def eWF8 : Entry := ⟨7, [P 130 0, .agg [I 1, I 1, I 0, I 0, I 0, W 0, .tok 100, .nsl]], hWF4, .tup [.agg [.f .f64 0, I 0, W 0], I 0], hWF12⟩
def eWF9 : Entry := ⟨7, [P 130 0, .agg [I 8, I 0, I 0, I 0, I 0, W 0, .f .f64 0, .nsl]], hWF13, .tup [.agg [.f .f64 0, I 0, W 0], I 0], hWF20⟩
def eWF10 : Entry := ⟨32, [P 130 0, I 1, I 0, I 0], hWF14, .b true, hWF15⟩
def eWF11 : Entry := ⟨32, [P 130 0, I 1, I 0, I 0], hWF15, .b true, hWF16⟩
def eWF12 : Entry := ⟨32, [P 130 0, I 1, I 2, I 0], hWF17, .b true, hWF18⟩
def eWF13 : Entry := ⟨32, [P 130 0, I 1, I 2, I 0], hWF18, .b true, hWF19⟩
def eWF14 : Entry := ⟨7, [P 130 0, .agg [I 8, I 0, I 0, I 0, I 0, W 0, .f .f64 0, .nsl]], hWF20, .tup [.agg [.f .f64 0, I 0, W 0], I 0], hWF21⟩
def eWF15 : Entry := ⟨7, [P 130 0, .agg [I 8, I 0, I 0, I 0, I 0, W 0, .f .f64 0, .nsl]], hWF21, .tup [.agg [.f .f64 0, I 0, W 0], I 0], hWF22⟩
def eWF16 : Entry := ⟨7, [P 130 0, .agg [I 8, I 0, I 0, I 0, I 0, W 0, .f .f64 0, .nsl]], hWF22, .tup [.agg [.f .f64 0, I 0, W 0], I 0], hWF22⟩
def eWF17 : Entry := ⟨7, [P 130 0, .agg [I 1, I 1, I 0, I 0, I 0, W 0, .tok 200, .nsl]], hWF13, .tup [.agg [.f .f64 0, I 0, W 0], I 0], hWF23⟩
def eWF18 : Entry := ⟨7, [P 130 0, .agg [I 8, I 0, I 0, I 0, I 0, W 0, .f .f64 0, .nsl]], hWF24, .tup [.agg [.f .f64 0, I 0, W 0], I 0], hWF31⟩
def eWF19 : Entry := ⟨32, [P 130 0, I 1, I 0, I 0], hWF25, .b true, hWF26⟩
def eWF20 : Entry := ⟨32, [P 130 0, I 1, I 0, I 0], hWF26, .b true, hWF27⟩
def eWF21 : Entry := ⟨32, [P 130 0, I 1, I 2, I 0], hWF28, .b true, hWF29⟩
def eWF22 : Entry := ⟨32, [P 130 0, I 1, I 2, I 0], hWF29, .b true, hWF30⟩
def eWF23 : Entry := ⟨7, [P 130 0, .agg [I 8, I 0, I 0, I 0, I 0, W 0, .f .f64 0, .nsl]], hWF31, .tup [.agg [.f .f64 0, I 0, W 0], I 0], hWF35⟩
def eWF24 : Entry := ⟨32, [P 130 0, I 1, I 0, I 0], hWF32, .b true, hWF33⟩
def eWF25 : Entry := ⟨32, [P 130 0, I 1, I 2, I 0], hWF33, .b true, hWF34⟩
def eWF26 : Entry := ⟨7, [P 130 0, .agg [I 8, I 0, I 0, I 0, I 0, W 0, .f .f64 0, .nsl]], hWF35, .tup [.agg [.f .f64 0, I 0, W 0], I 0], hWF36⟩
def eWF27 : Entry := ⟨7, [P 130 0, .agg [I 8, I 0, I 0, I 0, I 0, W 0, .f .f64 0, .nsl]], hWF36, .tup [.agg [.f .f64 0, I 0, W 0], I 0], hWF37⟩
def eWF28 : Entry := ⟨7, [P 130 0, .agg [I 8, I 0, I 0, I 0, I 0, W 0, .f .f64 0, .nsl]], hWF37, .tup [.agg [.f .f64 0, I 0, W 0], I 0], hWF37⟩
def eWF29 : Entry := ⟨7, [P 130 0, .agg [I 1, I 1, I 0, I 0, I 0, W 0, .tok 300, .nsl]], hWF24, .tup [.agg [.f .f64 0, I 0, W 0], I 0], hWF38⟩
def eWF30 : Entry := ⟨7, [P 130 0, .agg [I 8, I 0, I 0, I 0, I 0, W 0, .f .f64 0, .nsl]], hWF39, .tup [.agg [.f .f64 0, I 0, W 0], I 0], hWF46⟩
def eWF31 : Entry := ⟨32, [P 130 0, I 1, I 0, I 0], hWF40, .b true, hWF41⟩
def eWF32 : Entry := ⟨32, [P 130 0, I 1, I 0, I 0], hWF41, .b true, hWF42⟩
def eWF33 : Entry := ⟨32, [P 130 0, I 1, I 2, I 0], hWF43, .b true, hWF44⟩
def eWF34 : Entry := ⟨32, [P 130 0, I 1, I 2, I 0], hWF44, .b true, hWF45⟩
def eWF35 : Entry := ⟨7, [P 130 0, .agg [I 8, I 0, I 0, I 0, I 0, W 0, .f .f64 0, .nsl]], hWF46, .tup [.agg [.f .f64 0, I 0, W 0], I 0], hWF52⟩
def eWF36 : Entry := ⟨32, [P 130 0, I 1, I 0, I 0], hWF47, .b true, hWF48⟩
def eWF37 : Entry := ⟨32, [P 130 0, I 1, I 0, I 0], hWF48, .b true, hWF49⟩
def eWF38 : Entry := ⟨32, [P 130 0, I 1, I 2, I 0], hWF49, .b true, hWF50⟩
def eWF39 : Entry := ⟨32, [P 130 0, I 1, I 2, I 0], hWF50, .b true, hWF51⟩
def eWF40 : Entry := ⟨7, [P 130 0, .agg [I 8, I 0, I 0, I 0, I 0, W 0, .f .f64 0, .nsl]], hWF52, .tup [.agg [.f .f64 0, I 0, W 0], I 0], hWF53⟩
def eWF41 : Entry := ⟨7, [P 130 0, .agg [I 8, I 0, I 0, I 0, I 0, W 0, .f .f64 0, .nsl]], hWF53, .tup [.agg [.f .f64 0, I 0, W 0], I 0], hWF54⟩
def eWF42 : Entry := ⟨7, [P 130 0, .agg [I 8, I 0, I 0, I 0, I 0, W 0, .f .f64 0, .nsl]], hWF54, .tup [.agg [.f .f64 0, I 0, W 0], I 0], hWF54⟩
def eWF43 : Entry := ⟨7, [P 130 0, .agg [I 8, I 0, I 0, I 0, I 0, W 0, .f .f64 0, .nsl]], hWF55, .tup [.agg [.f .f64 0, I 0, W 0], I 0], hWF62⟩
def eWF44 : Entry := ⟨32, [P 130 0, I 1, I 0, I 0], hWF56, .b true, hWF57⟩
def eWF45 : Entry := ⟨32, [P 130 0, I 1, I 0, I 0], hWF57, .b true, hWF58⟩
def eWF46 : Entry := ⟨32, [P 130 0, I 1, I 2, I 0], hWF59, .b true, hWF60⟩
def eWF47 : Entry := ⟨32, [P 130 0, I 1, I 2, I 0], hWF60, .b true, hWF61⟩
def eWF48 : Entry := ⟨7, [P 130 0, .agg [I 8, I 0, I 0, I 0, I 0, W 0, .f .f64 0, .nsl]], hWF62, .tup [.agg [.f .f64 0, I 0, W 0], I 0], hWF68⟩
def eWF49 : Entry := ⟨32, [P 130 0, I 1, I 0, I 0], hWF63, .b true, hWF64⟩
def eWF50 : Entry := ⟨32, [P 130 0, I 1, I 0, I 0], hWF64, .b true, hWF65⟩
def eWF51 : Entry := ⟨32, [P 130 0, I 1, I 2, I 0], hWF65, .b true, hWF66⟩
def eWF52 : Entry := ⟨32, [P 130 0, I 1, I 2, I 0], hWF66, .b true, hWF67⟩
def eWF53 : Entry := ⟨7, [P 130 0, .agg [I 8, I 0, I 0, I 0, I 0, W 0, .f .f64 0, .nsl]], hWF68, .tup [.agg [.f .f64 0, I 0, W 0], I 0], hWF69⟩
def eWF54 : Entry := ⟨7, [P 130 0, .agg [I 8, I 0, I 0, I 0, I 0, W 0, .f .f64 0, .nsl]], hWF69, .tup [.agg [.f .f64 0, I 0, W 0], I 0], hWF70⟩
def eWF55 : Entry := ⟨7, [P 130 0, .agg [I 8, I 0, I 0, I 0, I 0, W 0, .f .f64 0, .nsl]], hWF70, .tup [.agg [.f .f64 0, I 0, W 0], I 0], hWF70⟩
def eWF56 : Entry := ⟨7, [P 130 0, .agg [I 8, I 0, I 0, I 0, I 0, W 0, .f .f64 0, .nsl]], hWF71, .tup [.agg [.f .f64 0, I 0, W 0], I 0], hWF77⟩
def eWF57 : Entry := ⟨32, [P 130 0, I 1, I 0, I 0], hWF72, .b true, hWF73⟩
def eWF58 : Entry := ⟨32, [P 130 0, I 1, I 0, I 0], hWF73, .b true, hWF74⟩
def eWF59 : Entry := ⟨32, [P 130 0, I 1, I 2, I 0], hWF74, .b true, hWF75⟩
def eWF60 : Entry := ⟨32, [P 130 0, I 1, I 2, I 0], hWF75, .b true, hWF76⟩
def eWF61 : Entry := ⟨7, [P 130 0, .agg [I 8, I 0, I 0, I 0, I 0, W 0, .f .f64 0, .nsl]], hWF77, .tup [.agg [.f .f64 0, I 0, W 0], I 0], hWF78⟩
def eWF62 : Entry := ⟨7, [P 130 0, .agg [I 8, I 0, I 0, I 0, I 0, W 0, .f .f64 0, .nsl]], hWF78, .tup [.agg [.f .f64 0, I 0, W 0], I 0], hWF79⟩
def eWF63 : Entry := ⟨7, [P 130 0, .agg [I 8, I 0, I 0, I 0, I 0, W 0, .f .f64 0, .nsl]], hWF79, .tup [.agg [.f .f64 0, I 0, W 0], I 0], hWF79⟩
def eWF64 : Entry := ⟨7, [P 130 0, .agg [I 1, I 1, I 0, I 0, I 0, W 0, .tok 600, .nsl]], hWF77, .tup [.agg [.f .f64 0, I 0, W 0], I 0], hWF80⟩
def eWF65 : Entry := ⟨7, [P 130 0, .agg [I 8, I 0, I 0, I 0, I 0, W 0, .f .f64 0, .nsl]], hWF81, .tup [.agg [.f .f64 0, I 0, W 0], I 0], hWF85⟩
def eWF66 : Entry := ⟨32, [P 130 0, I 1, I 0, I 0], hWF82, .b true, hWF83⟩
def eWF67 : Entry := ⟨32, [P 130 0, I 1, I 2, I 0], hWF83, .b true, hWF84⟩
def eWF68 : Entry := ⟨7, [P 130 0, .agg [I 8, I 0, I 0, I 0, I 0, W 0, .f .f64 0, .nsl]], hWF85, .tup [.agg [.f .f64 0, I 0, W 0], I 0], hWF86⟩
def eWF69 : Entry := ⟨7, [P 130 0, .agg [I 8, I 0, I 0, I 0, I 0, W 0, .f .f64 0, .nsl]], hWF86, .tup [.agg [.f .f64 0, I 0, W 0], I 0], hWF87⟩
def eWF70 : Entry := ⟨7, [P 130 0, .agg [I 8, I 0, I 0, I 0, I 0, W 0, .f .f64 0, .nsl]], hWF87, .tup [.agg [.f .f64 0, I 0, W 0], I 0], hWF87⟩
def eWF71 : Entry := ⟨7, [P 130 0, .agg [I 1, I 1, I 0, I 0, I 0, W 0, .tok 700, .nsl]], hWF81, .tup [.agg [.f .f64 0, I 0, W 0], I 0], hWF88⟩
def eWF72 : Entry := ⟨7, [P 130 0, .agg [I 8, I 0, I 0, I 0, I 0, W 0, .f .f64 0, .nsl]], hWF89, .tup [.agg [.f .f64 0, I 0, W 0], I 0], hWF95⟩
def eWF73 : Entry := ⟨32, [P 130 0, I 1, I 0, I 0], hWF90, .b true, hWF91⟩
def eWF74 : Entry := ⟨32, [P 130 0, I 1, I 0, I 0], hWF91, .b true, hWF92⟩
def eWF75 : Entry := ⟨32, [P 130 0, I 1, I 2, I 0], hWF92, .b true, hWF93⟩
def eWF76 : Entry := ⟨32, [P 130 0, I 1, I 2, I 0], hWF93, .b true, hWF94⟩
def eWF77 : Entry := ⟨7, [P 130 0, .agg [I 8, I 0, I 0, I 0, I 0, W 0, .f .f64 0, .nsl]], hWF95, .tup [.agg [.f .f64 0, I 0, W 0], I 0], hWF96⟩
def eWF78 : Entry := ⟨7, [P 130 0, .agg [I 8, I 0, I 0, I 0, I 0, W 0, .f .f64 0, .nsl]], hWF96, .tup [.agg [.f .f64 0, I 0, W 0], I 0], hWF97⟩
def eWF79 : Entry := ⟨7, [P 130 0, .agg [I 8, I 0, I 0, I 0, I 0, W 0, .f .f64 0, .nsl]], hWF97, .tup [.agg [.f .f64 0, I 0, W 0], I 0], hWF97⟩
def subWF : List Entry := [eWF3, eWF4, eWF10, eWF11, eWF12, eWF13, eWF19, eWF20, eWF21, eWF22, eWF24, eWF25, eWF31, eWF32, eWF33, eWF34, eWF36, eWF37, eWF38, eWF39, eWF44, eWF45, eWF46, eWF47, eWF49, eWF50, eWF51, eWF52, eWF57, eWF58, eWF59, eWF60, eWF66, eWF67, eWF73, eWF74, eWF75, eWF76]
def EWF : Env := withE (EG 3) [32] subWF
def mainWF1 : List Entry := [eWF0, eWF1, eWF2, eWF5, eWF6, eWF7]
def mainWF2 : List Entry := [eWF0, eWF1, eWF8, eWF9, eWF14, eWF15, eWF16]
def mainWF3 : List Entry := [eWF0, eWF1, eWF8, eWF17, eWF18, eWF23, eWF26, eWF27, eWF28]
def mainWF4 : List Entry := [eWF0, eWF1, eWF8, eWF17, eWF29, eWF30, eWF35, eWF40, eWF41, eWF42]
def mainWF5 : List Entry := [eWF0, eWF1, eWF8, eWF17, eWF29, eWF43, eWF48, eWF53, eWF54, eWF55]
def mainWF6 : List Entry := [eWF0, eWF1, eWF8, eWF17, eWF29, eWF43, eWF56, eWF61, eWF62, eWF63]
def mainWF7 : List Entry := [eWF0, eWF1, eWF8, eWF17, eWF29, eWF43, eWF56, eWF64, eWF65, eWF68, eWF69, eWF70]
def mainWF8 : List Entry := [eWF0, eWF1, eWF8, eWF17, eWF29, eWF43, eWF56, eWF64, eWF71, eWF72, eWF77, eWF78, eWF79]
end
end Go.Proofs.YtjddbeecnnbebaaGreatDoor
