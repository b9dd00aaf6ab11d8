/-
  The abstract machine says that shoallaw26.SchoolWrites answers true: engine true, one to eight numbers, the last that was written a number or none.
-/
import Derived.Test.YtjddbeecnnbebaaGreatDoorWTS
namespace Go.Proofs.YtjddbeecnnbebaaGreatDoor
open Go.Av
set_option maxRecDepth 1000000
theorem topWT1f : trueF (runF (withE (EG 10) [7, 4] mainWT1) 4000 (.call 3 [.b true, .imm [.tok 0] 1] emptyH)) = true := by kernel_rfl
theorem topWT1n : trueF (runF (withE (EG 11) [7, 4] mainWT1) 4000 (.call 3 [.b true, .imm [.tok 0] 1] emptyH)) = true := by kernel_rfl
theorem topWT2f : trueF (runF (withE (EG 12) [7, 4] mainWT2) 4000 (.call 3 [.b true, .imm [.tok 0, .tok 100] 2] emptyH)) = true := by kernel_rfl
theorem topWT2n : trueF (runF (withE (EG 13) [7, 4] mainWT2) 4000 (.call 3 [.b true, .imm [.tok 0, .tok 100] 2] emptyH)) = true := by kernel_rfl
theorem topWT3f : trueF (runF (withE (EG 14) [7, 4] mainWT3) 4000 (.call 3 [.b true, .imm [.tok 0, .tok 100, .tok 200] 3] emptyH)) = true := by kernel_rfl
theorem topWT3n : trueF (runF (withE (EG 15) [7, 4] mainWT3) 4000 (.call 3 [.b true, .imm [.tok 0, .tok 100, .tok 200] 3] emptyH)) = true := by kernel_rfl
theorem topWT4f : trueF (runF (withE (EG 16) [7, 4] mainWT4) 4000 (.call 3 [.b true, .imm [.tok 0, .tok 100, .tok 200, .tok 300] 4] emptyH)) = true := by kernel_rfl
theorem topWT4n : trueF (runF (withE (EG 17) [7, 4] mainWT4) 4000 (.call 3 [.b true, .imm [.tok 0, .tok 100, .tok 200, .tok 300] 4] emptyH)) = true := by kernel_rfl
theorem topWT5f : trueF (runF (withE (EG 16) [7, 4] mainWT5) 4000 (.call 3 [.b true, .imm [.tok 0, .tok 100, .tok 200, .tok 300, .tok 400] 5] emptyH)) = true := by kernel_rfl
theorem topWT5n : trueF (runF (withE (EG 17) [7, 4] mainWT5) 4000 (.call 3 [.b true, .imm [.tok 0, .tok 100, .tok 200, .tok 300, .tok 400] 5] emptyH)) = true := by kernel_rfl
theorem topWT6f : trueF (runF (withE (EG 16) [7, 4] mainWT6) 4000 (.call 3 [.b true, .imm [.tok 0, .tok 100, .tok 200, .tok 300, .tok 400, .tok 500] 6] emptyH)) = true := by kernel_rfl
theorem topWT6n : trueF (runF (withE (EG 17) [7, 4] mainWT6) 4000 (.call 3 [.b true, .imm [.tok 0, .tok 100, .tok 200, .tok 300, .tok 400, .tok 500] 6] emptyH)) = true := by kernel_rfl
theorem topWT7f : trueF (runF (withE (EG 22) [7, 4] mainWT7) 4000 (.call 3 [.b true, .imm [.tok 0, .tok 100, .tok 200, .tok 300, .tok 400, .tok 500, .tok 600] 7] emptyH)) = true := by kernel_rfl
theorem topWT7n : trueF (runF (withE (EG 23) [7, 4] mainWT7) 4000 (.call 3 [.b true, .imm [.tok 0, .tok 100, .tok 200, .tok 300, .tok 400, .tok 500, .tok 600] 7] emptyH)) = true := by kernel_rfl
theorem topWT8f : trueF (runF (withE (EG 24) [7, 4] mainWT8) 4000 (.call 3 [.b true, .imm [.tok 0, .tok 100, .tok 200, .tok 300, .tok 400, .tok 500, .tok 600, .tok 700] 8] emptyH)) = true := by kernel_rfl
theorem topWT8n : trueF (runF (withE (EG 25) [7, 4] mainWT8) 4000 (.call 3 [.b true, .imm [.tok 0, .tok 100, .tok 200, .tok 300, .tok 400, .tok 500, .tok 600, .tok 700] 8] emptyH)) = true := by kernel_rfl
end Go.Proofs.YtjddbeecnnbebaaGreatDoor
