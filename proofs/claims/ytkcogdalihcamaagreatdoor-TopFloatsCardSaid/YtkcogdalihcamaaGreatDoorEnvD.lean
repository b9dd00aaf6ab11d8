/-
  Each statement that draws its order, checked.
-/
import Derived.Test.YtkcogdalihcamaaGreatDoorEnv
namespace Go.Proofs.YtkcogdalihcamaaGreatDoor
open Go.Av
set_option maxRecDepth 1000000
theorem good_draws (neg : Nat → Bool) : ((tab.win.map (·.1)).all fun f => drawCheck (envT Tryz.prog tab neg) f) = true := by kernel_rfl
end Go.Proofs.YtkcogdalihcamaaGreatDoor
