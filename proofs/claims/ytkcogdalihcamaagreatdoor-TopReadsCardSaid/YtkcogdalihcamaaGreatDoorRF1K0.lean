/-
  Calls of this run, each checked by itself.
-/
import Derived.Test.YtkcogdalihcamaaGreatDoorRF1S
namespace Go.Proofs.YtkcogdalihcamaaGreatDoor
open Go.Av
set_option maxRecDepth 1000000
theorem okRF10 : eRF10.ok ERF1 = true := by kernel_rfl
theorem okRF11 : eRF11.ok ERF1 = true := by kernel_rfl
theorem okRF12 : eRF12.ok ERF1 = true := by kernel_rfl
theorem okRF15 : eRF15.ok ERF1 = true := by kernel_rfl
theorem okRF13 : eRF13.ok (EG 3) = true := by kernel_rfl
theorem okRF14 : eRF14.ok (EG 3) = true := by kernel_rfl
theorem okRF17 : eRF17.ok ERF1 = true := by kernel_rfl
end Go.Proofs.YtkcogdalihcamaaGreatDoor
