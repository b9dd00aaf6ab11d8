/-
  The abstract machine says that shoaltop.TopFloats answers true: engine false, Nan.
-/
import Derived.Test.YtkcogdalihcamaaGreatDoorEnv
namespace Go.Proofs.YtkcogdalihcamaaGreatDoor
open Go.Av
set_option maxRecDepth 1000000
theorem floatsNanFalse : trueF (runF EP 2000 (.call 3 [.b false, .f .f64 9221120237041090560] emptyH)) = true := by kernel_rfl
end Go.Proofs.YtkcogdalihcamaaGreatDoor
