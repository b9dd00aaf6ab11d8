/-
  The abstract machine says that shoallaw26.SchoolWrites answers true: engine false, one to eight numbers, the last that was written a number or none.
-/
import Derived.Test.YtjddbeecnnbebaaGreatDoorWFS
namespace Go.Proofs.YtjddbeecnnbebaaGreatDoor
open Go.Av
set_option maxRecDepth 1000000
theorem topWF1f : trueF (runF (withE (EG 10) [7, 4] mainWF1) 4000 (.call 3 [.b false, .imm [.tok 0] 1] emptyH)) = true := by kernel_rfl
theorem topWF1n : trueF (runF (withE (EG 11) [7, 4] mainWF1) 4000 (.call 3 [.b false, .imm [.tok 0] 1] emptyH)) = true := by kernel_rfl
theorem topWF2f : trueF (runF (withE (EG 12) [7, 4] mainWF2) 4000 (.call 3 [.b false, .imm [.tok 0, .tok 100] 2] emptyH)) = true := by kernel_rfl
theorem topWF2n : trueF (runF (withE (EG 13) [7, 4] mainWF2) 4000 (.call 3 [.b false, .imm [.tok 0, .tok 100] 2] emptyH)) = true := by kernel_rfl
theorem topWF3f : trueF (runF (withE (EG 14) [7, 4] mainWF3) 4000 (.call 3 [.b false, .imm [.tok 0, .tok 100, .tok 200] 3] emptyH)) = true := by kernel_rfl
theorem topWF3n : trueF (runF (withE (EG 15) [7, 4] mainWF3) 4000 (.call 3 [.b false, .imm [.tok 0, .tok 100, .tok 200] 3] emptyH)) = true := by kernel_rfl
theorem topWF4f : trueF (runF (withE (EG 16) [7, 4] mainWF4) 4000 (.call 3 [.b false, .imm [.tok 0, .tok 100, .tok 200, .tok 300] 4] emptyH)) = true := by kernel_rfl
theorem topWF4n : trueF (runF (withE (EG 17) [7, 4] mainWF4) 4000 (.call 3 [.b false, .imm [.tok 0, .tok 100, .tok 200, .tok 300] 4] emptyH)) = true := by kernel_rfl
theorem topWF5f : trueF (runF (withE (EG 16) [7, 4] mainWF5) 4000 (.call 3 [.b false, .imm [.tok 0, .tok 100, .tok 200, .tok 300, .tok 400] 5] emptyH)) = true := by kernel_rfl
theorem topWF5n : trueF (runF (withE (EG 17) [7, 4] mainWF5) 4000 (.call 3 [.b false, .imm [.tok 0, .tok 100, .tok 200, .tok 300, .tok 400] 5] emptyH)) = true := by kernel_rfl
theorem topWF6f : trueF (runF (withE (EG 16) [7, 4] mainWF6) 4000 (.call 3 [.b false, .imm [.tok 0, .tok 100, .tok 200, .tok 300, .tok 400, .tok 500] 6] emptyH)) = true := by kernel_rfl
theorem topWF6n : trueF (runF (withE (EG 17) [7, 4] mainWF6) 4000 (.call 3 [.b false, .imm [.tok 0, .tok 100, .tok 200, .tok 300, .tok 400, .tok 500] 6] emptyH)) = true := by kernel_rfl
theorem topWF7f : trueF (runF (withE (EG 22) [7, 4] mainWF7) 4000 (.call 3 [.b false, .imm [.tok 0, .tok 100, .tok 200, .tok 300, .tok 400, .tok 500, .tok 600] 7] emptyH)) = true := by kernel_rfl
theorem topWF7n : trueF (runF (withE (EG 23) [7, 4] mainWF7) 4000 (.call 3 [.b false, .imm [.tok 0, .tok 100, .tok 200, .tok 300, .tok 400, .tok 500, .tok 600] 7] emptyH)) = true := by kernel_rfl
theorem topWF8f : trueF (runF (withE (EG 24) [7, 4] mainWF8) 4000 (.call 3 [.b false, .imm [.tok 0, .tok 100, .tok 200, .tok 300, .tok 400, .tok 500, .tok 600, .tok 700] 8] emptyH)) = true := by kernel_rfl
theorem topWF8n : trueF (runF (withE (EG 25) [7, 4] mainWF8) 4000 (.call 3 [.b false, .imm [.tok 0, .tok 100, .tok 200, .tok 300, .tok 400, .tok 500, .tok 600, .tok 700] 8] emptyH)) = true := by kernel_rfl
end Go.Proofs.YtjddbeecnnbebaaGreatDoor
