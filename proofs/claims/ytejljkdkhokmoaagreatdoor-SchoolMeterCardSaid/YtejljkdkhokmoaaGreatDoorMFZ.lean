/-
  The abstract machine says that shoallaw26.SchoolMeter answers true: engine false, nil, none to twenty numbers.
-/
import Derived.Test.YtejljkdkhokmoaaGreatDoorMFS
namespace Go.Proofs.YtejljkdkhokmoaaGreatDoor
open Go.Av
set_option maxRecDepth 1000000
theorem topNilF : trueF (runF (withE (EG 4) [8, 4, 5] mainMF) 4000 (.call 3 [.b false, .nsl] emptyH)) = true := by kernel_rfl
theorem topMF0 : trueF (runF (withE (EG 4) [8, 4, 5] mainMF) 4000 (.call 3 [.b false, .imm [] 0] emptyH)) = true := by kernel_rfl
theorem topMF1 : trueF (runF (withE (EG 4) [8, 4, 5] mainMF) 4000 (.call 3 [.b false, .imm [.tok 0] 1] emptyH)) = true := by kernel_rfl
theorem topMF2 : trueF (runF (withE (EG 4) [8, 4, 5] mainMF) 4000 (.call 3 [.b false, .imm [.tok 0, .tok 100] 2] emptyH)) = true := by kernel_rfl
theorem topMF3 : trueF (runF (withE (EG 4) [8, 4, 5] mainMF) 4000 (.call 3 [.b false, .imm [.tok 0, .tok 100, .tok 200] 3] emptyH)) = true := by kernel_rfl
theorem topMF4 : trueF (runF (withE (EG 4) [8, 4, 5] mainMF) 4000 (.call 3 [.b false, .imm [.tok 0, .tok 100, .tok 200, .tok 300] 4] emptyH)) = true := by kernel_rfl
theorem topMF5 : trueF (runF (withE (EG 4) [8, 4, 5] mainMF) 4000 (.call 3 [.b false, .imm [.tok 0, .tok 100, .tok 200, .tok 300, .tok 400] 5] emptyH)) = true := by kernel_rfl
theorem topMF6 : trueF (runF (withE (EG 4) [8, 4, 5] mainMF) 4000 (.call 3 [.b false, .imm [.tok 0, .tok 100, .tok 200, .tok 300, .tok 400, .tok 500] 6] emptyH)) = true := by kernel_rfl
theorem topMF7 : trueF (runF (withE (EG 4) [8, 4, 5] mainMF) 4000 (.call 3 [.b false, .imm [.tok 0, .tok 100, .tok 200, .tok 300, .tok 400, .tok 500, .tok 600] 7] emptyH)) = true := by kernel_rfl
theorem topMF8 : trueF (runF (withE (EG 4) [8, 4, 5] mainMF) 4000 (.call 3 [.b false, .imm [.tok 0, .tok 100, .tok 200, .tok 300, .tok 400, .tok 500, .tok 600, .tok 700] 8] emptyH)) = true := by kernel_rfl
theorem topMF9 : trueF (runF (withE (EG 4) [8, 4, 5] mainMF) 4000 (.call 3 [.b false, .imm [.tok 0, .tok 100, .tok 200, .tok 300, .tok 400, .tok 500, .tok 600, .tok 700, .tok 800] 9] emptyH)) = true := by kernel_rfl
theorem topMF10 : trueF (runF (withE (EG 4) [8, 4, 5] mainMF) 4000 (.call 3 [.b false, .imm [.tok 0, .tok 100, .tok 200, .tok 300, .tok 400, .tok 500, .tok 600, .tok 700, .tok 800, .tok 900] 10] emptyH)) = true := by kernel_rfl
theorem topMF11 : trueF (runF (withE (EG 4) [8, 4, 5] mainMF) 4000 (.call 3 [.b false, .imm [.tok 0, .tok 100, .tok 200, .tok 300, .tok 400, .tok 500, .tok 600, .tok 700, .tok 800, .tok 900, .tok 1000] 11] emptyH)) = true := by kernel_rfl
theorem topMF12 : trueF (runF (withE (EG 4) [8, 4, 5] mainMF) 4000 (.call 3 [.b false, .imm [.tok 0, .tok 100, .tok 200, .tok 300, .tok 400, .tok 500, .tok 600, .tok 700, .tok 800, .tok 900, .tok 1000, .tok 1100] 12] emptyH)) = true := by kernel_rfl
theorem topMF13 : trueF (runF (withE (EG 4) [8, 4, 5] mainMF) 4000 (.call 3 [.b false, .imm [.tok 0, .tok 100, .tok 200, .tok 300, .tok 400, .tok 500, .tok 600, .tok 700, .tok 800, .tok 900, .tok 1000, .tok 1100, .tok 1200] 13] emptyH)) = true := by kernel_rfl
theorem topMF14 : trueF (runF (withE (EG 4) [8, 4, 5] mainMF) 4000 (.call 3 [.b false, .imm [.tok 0, .tok 100, .tok 200, .tok 300, .tok 400, .tok 500, .tok 600, .tok 700, .tok 800, .tok 900, .tok 1000, .tok 1100, .tok 1200, .tok 1300] 14] emptyH)) = true := by kernel_rfl
theorem topMF15 : trueF (runF (withE (EG 4) [8, 4, 5] mainMF) 4000 (.call 3 [.b false, .imm [.tok 0, .tok 100, .tok 200, .tok 300, .tok 400, .tok 500, .tok 600, .tok 700, .tok 800, .tok 900, .tok 1000, .tok 1100, .tok 1200, .tok 1300, .tok 1400] 15] emptyH)) = true := by kernel_rfl
theorem topMF16 : trueF (runF (withE (EG 4) [8, 4, 5] mainMF) 4000 (.call 3 [.b false, .imm [.tok 0, .tok 100, .tok 200, .tok 300, .tok 400, .tok 500, .tok 600, .tok 700, .tok 800, .tok 900, .tok 1000, .tok 1100, .tok 1200, .tok 1300, .tok 1400, .tok 1500] 16] emptyH)) = true := by kernel_rfl
theorem topMF17 : trueF (runF (withE (EG 4) [8, 4, 5] mainMF) 4000 (.call 3 [.b false, .imm [.tok 0, .tok 100, .tok 200, .tok 300, .tok 400, .tok 500, .tok 600, .tok 700, .tok 800, .tok 900, .tok 1000, .tok 1100, .tok 1200, .tok 1300, .tok 1400, .tok 1500, .tok 1600] 17] emptyH)) = true := by kernel_rfl
theorem topMF18 : trueF (runF (withE (EG 4) [8, 4, 5] mainMF) 4000 (.call 3 [.b false, .imm [.tok 0, .tok 100, .tok 200, .tok 300, .tok 400, .tok 500, .tok 600, .tok 700, .tok 800, .tok 900, .tok 1000, .tok 1100, .tok 1200, .tok 1300, .tok 1400, .tok 1500, .tok 1600, .tok 1700] 18] emptyH)) = true := by kernel_rfl
theorem topMF19 : trueF (runF (withE (EG 4) [8, 4, 5] mainMF) 4000 (.call 3 [.b false, .imm [.tok 0, .tok 100, .tok 200, .tok 300, .tok 400, .tok 500, .tok 600, .tok 700, .tok 800, .tok 900, .tok 1000, .tok 1100, .tok 1200, .tok 1300, .tok 1400, .tok 1500, .tok 1600, .tok 1700, .tok 1800] 19] emptyH)) = true := by kernel_rfl
theorem topMF20 : trueF (runF (withE (EG 4) [8, 4, 5] mainMF) 4000 (.call 3 [.b false, .imm [.tok 0, .tok 100, .tok 200, .tok 300, .tok 400, .tok 500, .tok 600, .tok 700, .tok 800, .tok 900, .tok 1000, .tok 1100, .tok 1200, .tok 1300, .tok 1400, .tok 1500, .tok 1600, .tok 1700, .tok 1800, .tok 1900] 20] emptyH)) = true := by kernel_rfl
end Go.Proofs.YtejljkdkhokmoaaGreatDoor
