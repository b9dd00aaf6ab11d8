/-
  The abstract machine says that shoallaw26.SchoolMeter answers true: engine true, nil, none to twenty numbers.
-/
import Derived.Test.YtejljkdkhokmoaaGreatDoorMTS
namespace Go.Proofs.YtejljkdkhokmoaaGreatDoor
open Go.Av
set_option maxRecDepth 1000000
theorem topNilT : trueF (runF (withE (EG 4) [8, 4, 5] mainMT) 4000 (.call 3 [.b true, .nsl] emptyH)) = true := by kernel_rfl
theorem topMT0 : trueF (runF (withE (EG 4) [8, 4, 5] mainMT) 4000 (.call 3 [.b true, .imm [] 0] emptyH)) = true := by kernel_rfl
theorem topMT1 : trueF (runF (withE (EG 4) [8, 4, 5] mainMT) 4000 (.call 3 [.b true, .imm [.tok 0] 1] emptyH)) = true := by kernel_rfl
theorem topMT2 : trueF (runF (withE (EG 4) [8, 4, 5] mainMT) 4000 (.call 3 [.b true, .imm [.tok 0, .tok 100] 2] emptyH)) = true := by kernel_rfl
theorem topMT3 : trueF (runF (withE (EG 4) [8, 4, 5] mainMT) 4000 (.call 3 [.b true, .imm [.tok 0, .tok 100, .tok 200] 3] emptyH)) = true := by kernel_rfl
theorem topMT4 : trueF (runF (withE (EG 4) [8, 4, 5] mainMT) 4000 (.call 3 [.b true, .imm [.tok 0, .tok 100, .tok 200, .tok 300] 4] emptyH)) = true := by kernel_rfl
theorem topMT5 : trueF (runF (withE (EG 4) [8, 4, 5] mainMT) 4000 (.call 3 [.b true, .imm [.tok 0, .tok 100, .tok 200, .tok 300, .tok 400] 5] emptyH)) = true := by kernel_rfl
theorem topMT6 : trueF (runF (withE (EG 4) [8, 4, 5] mainMT) 4000 (.call 3 [.b true, .imm [.tok 0, .tok 100, .tok 200, .tok 300, .tok 400, .tok 500] 6] emptyH)) = true := by kernel_rfl
theorem topMT7 : trueF (runF (withE (EG 4) [8, 4, 5] mainMT) 4000 (.call 3 [.b true, .imm [.tok 0, .tok 100, .tok 200, .tok 300, .tok 400, .tok 500, .tok 600] 7] emptyH)) = true := by kernel_rfl
theorem topMT8 : trueF (runF (withE (EG 4) [8, 4, 5] mainMT) 4000 (.call 3 [.b true, .imm [.tok 0, .tok 100, .tok 200, .tok 300, .tok 400, .tok 500, .tok 600, .tok 700] 8] emptyH)) = true := by kernel_rfl
theorem topMT9 : trueF (runF (withE (EG 4) [8, 4, 5] mainMT) 4000 (.call 3 [.b true, .imm [.tok 0, .tok 100, .tok 200, .tok 300, .tok 400, .tok 500, .tok 600, .tok 700, .tok 800] 9] emptyH)) = true := by kernel_rfl
theorem topMT10 : trueF (runF (withE (EG 4) [8, 4, 5] mainMT) 4000 (.call 3 [.b true, .imm [.tok 0, .tok 100, .tok 200, .tok 300, .tok 400, .tok 500, .tok 600, .tok 700, .tok 800, .tok 900] 10] emptyH)) = true := by kernel_rfl
theorem topMT11 : trueF (runF (withE (EG 4) [8, 4, 5] mainMT) 4000 (.call 3 [.b true, .imm [.tok 0, .tok 100, .tok 200, .tok 300, .tok 400, .tok 500, .tok 600, .tok 700, .tok 800, .tok 900, .tok 1000] 11] emptyH)) = true := by kernel_rfl
theorem topMT12 : trueF (runF (withE (EG 4) [8, 4, 5] mainMT) 4000 (.call 3 [.b true, .imm [.tok 0, .tok 100, .tok 200, .tok 300, .tok 400, .tok 500, .tok 600, .tok 700, .tok 800, .tok 900, .tok 1000, .tok 1100] 12] emptyH)) = true := by kernel_rfl
theorem topMT13 : trueF (runF (withE (EG 4) [8, 4, 5] mainMT) 4000 (.call 3 [.b true, .imm [.tok 0, .tok 100, .tok 200, .tok 300, .tok 400, .tok 500, .tok 600, .tok 700, .tok 800, .tok 900, .tok 1000, .tok 1100, .tok 1200] 13] emptyH)) = true := by kernel_rfl
theorem topMT14 : trueF (runF (withE (EG 4) [8, 4, 5] mainMT) 4000 (.call 3 [.b true, .imm [.tok 0, .tok 100, .tok 200, .tok 300, .tok 400, .tok 500, .tok 600, .tok 700, .tok 800, .tok 900, .tok 1000, .tok 1100, .tok 1200, .tok 1300] 14] emptyH)) = true := by kernel_rfl
theorem topMT15 : trueF (runF (withE (EG 4) [8, 4, 5] mainMT) 4000 (.call 3 [.b true, .imm [.tok 0, .tok 100, .tok 200, .tok 300, .tok 400, .tok 500, .tok 600, .tok 700, .tok 800, .tok 900, .tok 1000, .tok 1100, .tok 1200, .tok 1300, .tok 1400] 15] emptyH)) = true := by kernel_rfl
theorem topMT16 : trueF (runF (withE (EG 4) [8, 4, 5] mainMT) 4000 (.call 3 [.b true, .imm [.tok 0, .tok 100, .tok 200, .tok 300, .tok 400, .tok 500, .tok 600, .tok 700, .tok 800, .tok 900, .tok 1000, .tok 1100, .tok 1200, .tok 1300, .tok 1400, .tok 1500] 16] emptyH)) = true := by kernel_rfl
theorem topMT17 : trueF (runF (withE (EG 4) [8, 4, 5] mainMT) 4000 (.call 3 [.b true, .imm [.tok 0, .tok 100, .tok 200, .tok 300, .tok 400, .tok 500, .tok 600, .tok 700, .tok 800, .tok 900, .tok 1000, .tok 1100, .tok 1200, .tok 1300, .tok 1400, .tok 1500, .tok 1600] 17] emptyH)) = true := by kernel_rfl
theorem topMT18 : trueF (runF (withE (EG 4) [8, 4, 5] mainMT) 4000 (.call 3 [.b true, .imm [.tok 0, .tok 100, .tok 200, .tok 300, .tok 400, .tok 500, .tok 600, .tok 700, .tok 800, .tok 900, .tok 1000, .tok 1100, .tok 1200, .tok 1300, .tok 1400, .tok 1500, .tok 1600, .tok 1700] 18] emptyH)) = true := by kernel_rfl
theorem topMT19 : trueF (runF (withE (EG 4) [8, 4, 5] mainMT) 4000 (.call 3 [.b true, .imm [.tok 0, .tok 100, .tok 200, .tok 300, .tok 400, .tok 500, .tok 600, .tok 700, .tok 800, .tok 900, .tok 1000, .tok 1100, .tok 1200, .tok 1300, .tok 1400, .tok 1500, .tok 1600, .tok 1700, .tok 1800] 19] emptyH)) = true := by kernel_rfl
theorem topMT20 : trueF (runF (withE (EG 4) [8, 4, 5] mainMT) 4000 (.call 3 [.b true, .imm [.tok 0, .tok 100, .tok 200, .tok 300, .tok 400, .tok 500, .tok 600, .tok 700, .tok 800, .tok 900, .tok 1000, .tok 1100, .tok 1200, .tok 1300, .tok 1400, .tok 1500, .tok 1600, .tok 1700, .tok 1800, .tok 1900] 20] emptyH)) = true := by kernel_rfl
end Go.Proofs.YtejljkdkhokmoaaGreatDoor
