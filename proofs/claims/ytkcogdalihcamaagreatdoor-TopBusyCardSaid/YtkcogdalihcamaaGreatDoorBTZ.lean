/-
  The abstract machine says that shoaltop.TopBusy answers true: engine true, each class of the variable.
-/
import Derived.Test.YtkcogdalihcamaaGreatDoorBTS
namespace Go.Proofs.YtkcogdalihcamaaGreatDoor
open Go.Av
set_option maxRecDepth 1000000
theorem topBT0 : trueF (runF (withE (EG 0) [9, 6] mainBT) 4000 (.call 5 [.b true, .tok 0, .tok 99] emptyH)) = true := by kernel_rfl
theorem topBT1 : trueF (runF (withE (EG 1) [9, 6] mainBT) 4000 (.call 5 [.b true, .tok 0, .tok 99] emptyH)) = true := by kernel_rfl
theorem topBT2 : trueF (runF (withE (EG 2) [9, 6] mainBT) 4000 (.call 5 [.b true, .tok 0, .tok 99] emptyH)) = true := by kernel_rfl
end Go.Proofs.YtkcogdalihcamaaGreatDoor
