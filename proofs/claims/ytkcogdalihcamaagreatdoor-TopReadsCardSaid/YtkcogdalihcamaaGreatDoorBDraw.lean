/-
  Each statement that draws its order, checked.
-/
import Derived.Test.YtkcogdalihcamaaGreatDoorBEnv
namespace Go.Proofs.YtkcogdalihcamaaGreatDoor
open Go.Av
set_option maxRecDepth 1000000
theorem draws_G (c : Nat) : ((tabG.win.map (·.1)).all fun f => drawCheck (EG c) f) = true := by kernel_rfl
end Go.Proofs.YtkcogdalihcamaaGreatDoor
