/-
  Calls of this run, each checked by itself.
-/
import Derived.Test.YtkcogdalihcamaaGreatDoorBTS
namespace Go.Proofs.YtkcogdalihcamaaGreatDoor
open Go.Av
set_option maxRecDepth 1000000
theorem okBT0 : eBT0.ok EBT = true := by kernel_rfl
theorem okBT1 : eBT1.ok EBT = true := by kernel_rfl
theorem okBT2 : eBT2.ok EBT = true := by kernel_rfl
theorem okBT6 : eBT6.ok EBT = true := by kernel_rfl
end Go.Proofs.YtkcogdalihcamaaGreatDoor
