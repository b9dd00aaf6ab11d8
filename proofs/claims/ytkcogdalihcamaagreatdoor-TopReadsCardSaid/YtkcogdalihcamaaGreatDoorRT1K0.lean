/-
  Calls of this run, each checked by itself.
-/
import Derived.Test.YtkcogdalihcamaaGreatDoorRT1S
namespace Go.Proofs.YtkcogdalihcamaaGreatDoor
open Go.Av
set_option maxRecDepth 1000000
theorem okRT10 : eRT10.ok ERT1 = true := by kernel_rfl
theorem okRT11 : eRT11.ok ERT1 = true := by kernel_rfl
theorem okRT12 : eRT12.ok ERT1 = true := by kernel_rfl
theorem okRT15 : eRT15.ok ERT1 = true := by kernel_rfl
theorem okRT13 : eRT13.ok (EG 3) = true := by kernel_rfl
theorem okRT14 : eRT14.ok (EG 3) = true := by kernel_rfl
theorem okRT17 : eRT17.ok ERT1 = true := by kernel_rfl
end Go.Proofs.YtkcogdalihcamaaGreatDoor
