/-
  Calls of this run, each checked by itself.
-/
import Derived.Test.YtkcogdalihcamaaGreatDoorRT2S
namespace Go.Proofs.YtkcogdalihcamaaGreatDoor
open Go.Av
set_option maxRecDepth 1000000
theorem okRT20 : eRT20.ok ERT2 = true := by kernel_rfl
theorem okRT21 : eRT21.ok ERT2 = true := by kernel_rfl
theorem okRT22 : eRT22.ok ERT2 = true := by kernel_rfl
theorem okRT23 : eRT23.ok ERT2 = true := by kernel_rfl
theorem okRT26 : eRT26.ok ERT2 = true := by kernel_rfl
theorem okRT24 : eRT24.ok (EG 3) = true := by kernel_rfl
theorem okRT25 : eRT25.ok (EG 3) = true := by kernel_rfl
theorem okRT28 : eRT28.ok ERT2 = true := by kernel_rfl
end Go.Proofs.YtkcogdalihcamaaGreatDoor
