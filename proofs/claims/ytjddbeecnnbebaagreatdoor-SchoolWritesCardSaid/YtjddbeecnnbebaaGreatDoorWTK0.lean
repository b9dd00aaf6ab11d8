/-
  Calls of these runs, each checked by itself.
-/
import Derived.Test.YtjddbeecnnbebaaGreatDoorWTS
namespace Go.Proofs.YtjddbeecnnbebaaGreatDoor
open Go.Av
set_option maxRecDepth 1000000
theorem okWT0 : eWT0.ok EWT = true := by kernel_rfl
theorem okWT3 : eWT3.ok (EG 3) = true := by kernel_rfl
theorem okWT8 : eWT8.ok EWT = true := by kernel_rfl
theorem okWT12 : eWT12.ok (EG 3) = true := by kernel_rfl
theorem okWT20 : eWT20.ok (EG 3) = true := by kernel_rfl
theorem okWT23 : eWT23.ok EWT = true := by kernel_rfl
theorem okWT34 : eWT34.ok (EG 3) = true := by kernel_rfl
theorem okWT44 : eWT44.ok (EG 3) = true := by kernel_rfl
theorem okWT45 : eWT45.ok (EG 3) = true := by kernel_rfl
theorem okWT52 : eWT52.ok (EG 3) = true := by kernel_rfl
theorem okWT55 : eWT55.same EWT = true := by kernel_rfl
theorem okWT66 : eWT66.ok (EG 3) = true := by kernel_rfl
theorem okWT69 : eWT69.ok EWT = true := by kernel_rfl
theorem okWT72 : eWT72.ok EWT = true := by kernel_rfl
theorem okWT76 : eWT76.ok (EG 3) = true := by kernel_rfl
theorem okWT77 : eWT77.ok EWT = true := by kernel_rfl
end Go.Proofs.YtjddbeecnnbebaaGreatDoor
