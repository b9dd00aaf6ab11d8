/-
  Calls of these runs, each checked by itself.
-/
import Derived.Test.YtjddbeecnnbebaaGreatDoorWFS
namespace Go.Proofs.YtjddbeecnnbebaaGreatDoor
open Go.Av
set_option maxRecDepth 1000000
theorem okWF13 : eWF13.ok (EG 3) = true := by kernel_rfl
theorem okWF14 : eWF14.ok EWF = true := by kernel_rfl
theorem okWF24 : eWF24.ok (EG 3) = true := by kernel_rfl
theorem okWF29 : eWF29.ok EWF = true := by kernel_rfl
theorem okWF34 : eWF34.ok (EG 3) = true := by kernel_rfl
theorem okWF40 : eWF40.ok EWF = true := by kernel_rfl
theorem okWF44 : eWF44.ok (EG 3) = true := by kernel_rfl
theorem okWF50 : eWF50.ok (EG 3) = true := by kernel_rfl
theorem okWF54 : eWF54.ok EWF = true := by kernel_rfl
theorem okWF56 : eWF56.ok EWF = true := by kernel_rfl
theorem okWF59 : eWF59.ok (EG 3) = true := by kernel_rfl
theorem okWF64 : eWF64.ok EWF = true := by kernel_rfl
theorem okWF65 : eWF65.ok EWF = true := by kernel_rfl
theorem okWF69 : eWF69.ok EWF = true := by kernel_rfl
theorem okWF74 : eWF74.ok (EG 3) = true := by kernel_rfl
theorem okWF79 : eWF79.same EWF = true := by kernel_rfl
end Go.Proofs.YtjddbeecnnbebaaGreatDoor
