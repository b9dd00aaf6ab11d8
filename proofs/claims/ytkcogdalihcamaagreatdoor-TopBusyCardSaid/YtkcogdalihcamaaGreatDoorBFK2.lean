/-
  Calls of this run, each checked by itself.
-/
import Derived.Test.YtkcogdalihcamaaGreatDoorBFS
namespace Go.Proofs.YtkcogdalihcamaaGreatDoor
open Go.Av
set_option maxRecDepth 1000000
theorem okBF8 : eBF8.ok EBF = true := by kernel_rfl
theorem okBF7 : eBF7.ok (EG 3) = true := by kernel_rfl
theorem okBF9 : eBF9.ok EBF = true := by kernel_rfl
end Go.Proofs.YtkcogdalihcamaaGreatDoor
