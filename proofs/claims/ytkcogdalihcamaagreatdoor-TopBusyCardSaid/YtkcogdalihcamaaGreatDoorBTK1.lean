/-
  Calls of this run, each checked by itself.
-/
import Derived.Test.YtkcogdalihcamaaGreatDoorBTS
namespace Go.Proofs.YtkcogdalihcamaaGreatDoor
open Go.Av
set_option maxRecDepth 1000000
theorem okBT3 : eBT3.ok (EG 3) = true := by kernel_rfl
theorem okBT4 : eBT4.ok (EG 3) = true := by kernel_rfl
theorem okBT5 : eBT5.ok (EG 3) = true := by kernel_rfl
end Go.Proofs.YtkcogdalihcamaaGreatDoor
