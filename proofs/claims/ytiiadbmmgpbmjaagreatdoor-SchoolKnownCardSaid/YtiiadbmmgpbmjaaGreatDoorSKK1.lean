/-
  Calls of this run, each checked by itself.
-/
import Derived.Test.YtiiadbmmgpbmjaaGreatDoorSKS
namespace Go.Proofs.YtiiadbmmgpbmjaaGreatDoor
open Go.Av
set_option maxRecDepth 1000000
theorem okSK5 : eSK5.ok ESK = true := by kernel_rfl
theorem okSK6 : eSK6.ok ESK = true := by kernel_rfl
theorem okSK7 : eSK7.ok ESK = true := by kernel_rfl
theorem okSK8 : eSK8.ok ESK = true := by kernel_rfl
theorem okSK9 : eSK9.ok ESK = true := by kernel_rfl
theorem okSK10 : eSK10.ok ESK = true := by kernel_rfl
theorem okSK11 : eSK11.ok ESK = true := by kernel_rfl
end Go.Proofs.YtiiadbmmgpbmjaaGreatDoor
