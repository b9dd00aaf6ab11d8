/-
  The abstract machine says that shoaltop.TopFloats answers true: engine false, Pos.
-/
import Derived.Test.YtkcogdalihcamaaGreatDoorEnv
namespace Go.Proofs.YtkcogdalihcamaaGreatDoor
open Go.Av
set_option maxRecDepth 1000000
theorem floatsPosFalse : trueF (runF EP 2000 (.call 3 [.b false, .tok 0] emptyH)) = true := by kernel_rfl
end Go.Proofs.YtkcogdalihcamaaGreatDoor
