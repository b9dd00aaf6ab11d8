/-
  The abstract machine says that shoaltop.TopFloats answers true: engine true, Low.
-/
import Derived.Test.YtkcogdalihcamaaGreatDoorEnv
namespace Go.Proofs.YtkcogdalihcamaaGreatDoor
open Go.Av
set_option maxRecDepth 1000000
theorem floatsLowTrue : trueF (runF EP 2000 (.call 3 [.b true, .f .f64 18442240474082181120] emptyH)) = true := by kernel_rfl
end Go.Proofs.YtkcogdalihcamaaGreatDoor
