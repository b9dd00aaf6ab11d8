/-
  Calls of this run, each checked by itself.
-/
import Derived.Test.YtkcogdalihcamaaGreatDoorBTS
namespace Go.Proofs.YtkcogdalihcamaaGreatDoor
open Go.Av
set_option maxRecDepth 1000000
theorem okBT10 : eBT10.ok EBT = true := by kernel_rfl
theorem okBT11 : eBT11.ok EBT = true := by kernel_rfl
theorem okBT12 : eBT12.ok EBT = true := by kernel_rfl
theorem okBT13 : eBT13.ok EBT = true := by kernel_rfl
theorem okBT14 : eBT14.ok EBT = true := by kernel_rfl
theorem okBT15 : eBT15.ok EBT = true := by kernel_rfl
theorem okBT16 : eBT16.ok EBT = true := by kernel_rfl
theorem okBT17 : eBT17.ok EBT = true := by kernel_rfl
theorem okBT18 : eBT18.ok EBT = true := by kernel_rfl
end Go.Proofs.YtkcogdalihcamaaGreatDoor
