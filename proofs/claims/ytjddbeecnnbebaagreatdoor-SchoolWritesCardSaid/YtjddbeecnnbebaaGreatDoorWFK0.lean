/-
  Calls of these runs, each checked by itself.
-/
import Derived.Test.YtjddbeecnnbebaaGreatDoorWFS
namespace Go.Proofs.YtjddbeecnnbebaaGreatDoor
open Go.Av
set_option maxRecDepth 1000000
theorem okWF0 : eWF0.ok EWF = true := by kernel_rfl
theorem okWF6 : eWF6.ok EWF = true := by kernel_rfl
theorem okWF10 : eWF10.ok (EG 3) = true := by kernel_rfl
theorem okWF20 : eWF20.ok (EG 3) = true := by kernel_rfl
theorem okWF23 : eWF23.ok EWF = true := by kernel_rfl
theorem okWF28 : eWF28.same EWF = true := by kernel_rfl
theorem okWF31 : eWF31.ok (EG 3) = true := by kernel_rfl
theorem okWF37 : eWF37.ok (EG 3) = true := by kernel_rfl
theorem okWF46 : eWF46.ok (EG 3) = true := by kernel_rfl
theorem okWF52 : eWF52.ok (EG 3) = true := by kernel_rfl
theorem okWF66 : eWF66.ok (EG 3) = true := by kernel_rfl
theorem okWF70 : eWF70.same EWF = true := by kernel_rfl
theorem okWF72 : eWF72.ok EWF = true := by kernel_rfl
theorem okWF76 : eWF76.ok (EG 3) = true := by kernel_rfl
theorem okWF77 : eWF77.ok EWF = true := by kernel_rfl
theorem okWF78 : eWF78.ok EWF = true := by kernel_rfl
end Go.Proofs.YtjddbeecnnbebaaGreatDoor
