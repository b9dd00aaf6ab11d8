/-
  Calls of these runs, each checked by itself.
-/
import Derived.Test.YtjddbeecnnbebaaGreatDoorWTS
namespace Go.Proofs.YtjddbeecnnbebaaGreatDoor
open Go.Av
set_option maxRecDepth 1000000
theorem okWT1 : eWT1.ok EWT = true := by kernel_rfl
theorem okWT2 : eWT2.ok EWT = true := by kernel_rfl
theorem okWT5 : eWT5.ok EWT = true := by kernel_rfl
theorem okWT15 : eWT15.ok EWT = true := by kernel_rfl
theorem okWT18 : eWT18.ok EWT = true := by kernel_rfl
theorem okWT19 : eWT19.ok (EG 3) = true := by kernel_rfl
theorem okWT22 : eWT22.ok (EG 3) = true := by kernel_rfl
theorem okWT26 : eWT26.ok EWT = true := by kernel_rfl
theorem okWT35 : eWT35.ok EWT = true := by kernel_rfl
theorem okWT36 : eWT36.ok (EG 3) = true := by kernel_rfl
theorem okWT46 : eWT46.ok (EG 3) = true := by kernel_rfl
theorem okWT47 : eWT47.ok (EG 3) = true := by kernel_rfl
theorem okWT57 : eWT57.ok (EG 3) = true := by kernel_rfl
theorem okWT64 : eWT64.ok EWT = true := by kernel_rfl
theorem okWT67 : eWT67.ok (EG 3) = true := by kernel_rfl
theorem okWT79 : eWT79.same EWT = true := by kernel_rfl
end Go.Proofs.YtjddbeecnnbebaaGreatDoor
