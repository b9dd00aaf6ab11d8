/-
  Calls of these runs, each checked by itself.
-/
import Derived.Test.YtjddbeecnnbebaaGreatDoorWTS
namespace Go.Proofs.YtjddbeecnnbebaaGreatDoor
open Go.Av
set_option maxRecDepth 1000000
theorem okWT6 : eWT6.ok EWT = true := by kernel_rfl
theorem okWT7 : eWT7.same EWT = true := by kernel_rfl
theorem okWT14 : eWT14.ok EWT = true := by kernel_rfl
theorem okWT21 : eWT21.ok (EG 3) = true := by kernel_rfl
theorem okWT25 : eWT25.ok (EG 3) = true := by kernel_rfl
theorem okWT27 : eWT27.ok EWT = true := by kernel_rfl
theorem okWT38 : eWT38.ok (EG 3) = true := by kernel_rfl
theorem okWT40 : eWT40.ok EWT = true := by kernel_rfl
theorem okWT42 : eWT42.same EWT = true := by kernel_rfl
theorem okWT50 : eWT50.ok (EG 3) = true := by kernel_rfl
theorem okWT54 : eWT54.ok EWT = true := by kernel_rfl
theorem okWT56 : eWT56.ok EWT = true := by kernel_rfl
theorem okWT59 : eWT59.ok (EG 3) = true := by kernel_rfl
theorem okWT65 : eWT65.ok EWT = true := by kernel_rfl
theorem okWT71 : eWT71.ok EWT = true := by kernel_rfl
theorem okWT74 : eWT74.ok (EG 3) = true := by kernel_rfl
end Go.Proofs.YtjddbeecnnbebaaGreatDoor
