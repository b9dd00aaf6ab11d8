/-
  Calls of this run, each checked by itself.
-/
import Derived.Test.YtiiadbmmgpbmjaaGreatDoorSKS
namespace Go.Proofs.YtiiadbmmgpbmjaaGreatDoor
open Go.Av
set_option maxRecDepth 1000000
theorem okSK0 : eSK0.ok ESK = true := by kernel_rfl
theorem okSK1 : eSK1.ok ESK = true := by kernel_rfl
theorem okSK4 : eSK4.ok ESK = true := by kernel_rfl
theorem okSK2 : eSK2.ok (ES) = true := by kernel_rfl
theorem okSK3 : eSK3.ok (ES) = true := by kernel_rfl
end Go.Proofs.YtiiadbmmgpbmjaaGreatDoor
