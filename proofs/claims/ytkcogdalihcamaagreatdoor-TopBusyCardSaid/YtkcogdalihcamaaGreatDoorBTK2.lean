/-
  Calls of this run, each checked by itself.
-/
import Derived.Test.YtkcogdalihcamaaGreatDoorBTS
namespace Go.Proofs.YtkcogdalihcamaaGreatDoor
open Go.Av
set_option maxRecDepth 1000000
theorem okBT8 : eBT8.ok EBT = true := by kernel_rfl
theorem okBT7 : eBT7.ok (EG 3) = true := by kernel_rfl
theorem okBT9 : eBT9.ok EBT = true := by kernel_rfl
end Go.Proofs.YtkcogdalihcamaaGreatDoor
