/-
  Calls of this run, each checked by itself.
-/
import Derived.Test.YtkcogdalihcamaaGreatDoorBFS
namespace Go.Proofs.YtkcogdalihcamaaGreatDoor
open Go.Av
set_option maxRecDepth 1000000
theorem okBF3 : eBF3.ok (EG 3) = true := by kernel_rfl
theorem okBF4 : eBF4.ok (EG 3) = true := by kernel_rfl
theorem okBF5 : eBF5.ok (EG 3) = true := by kernel_rfl
end Go.Proofs.YtkcogdalihcamaaGreatDoor
