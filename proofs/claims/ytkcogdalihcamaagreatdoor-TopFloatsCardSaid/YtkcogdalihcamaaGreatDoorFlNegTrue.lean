/-
  The abstract machine says that shoaltop.TopFloats answers true: engine true, Neg.
-/
import Derived.Test.YtkcogdalihcamaaGreatDoorEnv
namespace Go.Proofs.YtkcogdalihcamaaGreatDoor
open Go.Av
set_option maxRecDepth 1000000
theorem floatsNegTrue : trueF (runF EN 2000 (.call 3 [.b true, .tok 0] emptyH)) = true := by kernel_rfl
end Go.Proofs.YtkcogdalihcamaaGreatDoor
