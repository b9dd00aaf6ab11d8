/-
  Calls of this run, each checked by itself.
-/
import Derived.Test.YtkcogdalihcamaaGreatDoorBFS
namespace Go.Proofs.YtkcogdalihcamaaGreatDoor
open Go.Av
set_option maxRecDepth 1000000
theorem okBF0 : eBF0.ok EBF = true := by kernel_rfl
theorem okBF1 : eBF1.ok EBF = true := by kernel_rfl
theorem okBF2 : eBF2.ok EBF = true := by kernel_rfl
theorem okBF6 : eBF6.ok EBF = true := by kernel_rfl
end Go.Proofs.YtkcogdalihcamaaGreatDoor
