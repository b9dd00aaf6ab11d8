/-
  Calls of these runs, each checked by itself.
-/
import Derived.Test.YtjddbeecnnbebaaGreatDoorWFS
namespace Go.Proofs.YtjddbeecnnbebaaGreatDoor
open Go.Av
set_option maxRecDepth 1000000
theorem okWF1 : eWF1.ok EWF = true := by kernel_rfl
theorem okWF12 : eWF12.ok (EG 3) = true := by kernel_rfl
theorem okWF15 : eWF15.ok EWF = true := by kernel_rfl
theorem okWF17 : eWF17.ok EWF = true := by kernel_rfl
theorem okWF22 : eWF22.ok (EG 3) = true := by kernel_rfl
theorem okWF30 : eWF30.ok EWF = true := by kernel_rfl
theorem okWF33 : eWF33.ok (EG 3) = true := by kernel_rfl
theorem okWF39 : eWF39.ok (EG 3) = true := by kernel_rfl
theorem okWF41 : eWF41.ok EWF = true := by kernel_rfl
theorem okWF43 : eWF43.ok EWF = true := by kernel_rfl
theorem okWF49 : eWF49.ok (EG 3) = true := by kernel_rfl
theorem okWF53 : eWF53.ok EWF = true := by kernel_rfl
theorem okWF58 : eWF58.ok (EG 3) = true := by kernel_rfl
theorem okWF63 : eWF63.same EWF = true := by kernel_rfl
theorem okWF68 : eWF68.ok EWF = true := by kernel_rfl
theorem okWF73 : eWF73.ok (EG 3) = true := by kernel_rfl
end Go.Proofs.YtjddbeecnnbebaaGreatDoor
