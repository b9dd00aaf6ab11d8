/-
  Calls of this run, each checked by itself.
-/
import Derived.Test.YtkcogdalihcamaaGreatDoorBFS
namespace Go.Proofs.YtkcogdalihcamaaGreatDoor
open Go.Av
set_option maxRecDepth 1000000
theorem okBF10 : eBF10.ok EBF = true := by kernel_rfl
theorem okBF11 : eBF11.ok EBF = true := by kernel_rfl
theorem okBF12 : eBF12.ok EBF = true := by kernel_rfl
theorem okBF13 : eBF13.ok EBF = true := by kernel_rfl
theorem okBF14 : eBF14.ok EBF = true := by kernel_rfl
theorem okBF15 : eBF15.ok EBF = true := by kernel_rfl
theorem okBF16 : eBF16.ok EBF = true := by kernel_rfl
theorem okBF17 : eBF17.ok EBF = true := by kernel_rfl
theorem okBF18 : eBF18.ok EBF = true := by kernel_rfl
end Go.Proofs.YtkcogdalihcamaaGreatDoor
