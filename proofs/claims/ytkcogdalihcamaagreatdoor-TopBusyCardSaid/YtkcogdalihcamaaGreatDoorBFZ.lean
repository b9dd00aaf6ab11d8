/-
  The abstract machine says that shoaltop.TopBusy answers true: engine false, each class of the variable.
-/
import Derived.Test.YtkcogdalihcamaaGreatDoorBFS
namespace Go.Proofs.YtkcogdalihcamaaGreatDoor
open Go.Av
set_option maxRecDepth 1000000
theorem topBF0 : trueF (runF (withE (EG 0) [9, 6] mainBF) 4000 (.call 5 [.b false, .tok 0, .tok 99] emptyH)) = true := by kernel_rfl
theorem topBF1 : trueF (runF (withE (EG 1) [9, 6] mainBF) 4000 (.call 5 [.b false, .tok 0, .tok 99] emptyH)) = true := by kernel_rfl
theorem topBF2 : trueF (runF (withE (EG 2) [9, 6] mainBF) 4000 (.call 5 [.b false, .tok 0, .tok 99] emptyH)) = true := by kernel_rfl
end Go.Proofs.YtkcogdalihcamaaGreatDoor
