/-
  Calls of this run, each checked by itself.
-/
import Derived.Test.YtkcogdalihcamaaGreatDoorRF2S
namespace Go.Proofs.YtkcogdalihcamaaGreatDoor
open Go.Av
set_option maxRecDepth 1000000
theorem okRF20 : eRF20.ok ERF2 = true := by kernel_rfl
theorem okRF21 : eRF21.ok ERF2 = true := by kernel_rfl
theorem okRF22 : eRF22.ok ERF2 = true := by kernel_rfl
theorem okRF23 : eRF23.ok ERF2 = true := by kernel_rfl
theorem okRF26 : eRF26.ok ERF2 = true := by kernel_rfl
theorem okRF24 : eRF24.ok (EG 3) = true := by kernel_rfl
theorem okRF25 : eRF25.ok (EG 3) = true := by kernel_rfl
theorem okRF28 : eRF28.ok ERF2 = true := by kernel_rfl
end Go.Proofs.YtkcogdalihcamaaGreatDoor
