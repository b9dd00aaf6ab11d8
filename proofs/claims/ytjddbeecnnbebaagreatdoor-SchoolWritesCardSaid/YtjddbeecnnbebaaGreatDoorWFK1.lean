/-
  Calls of these runs, each checked by itself.
-/
import Derived.Test.YtjddbeecnnbebaaGreatDoorWFS
namespace Go.Proofs.YtjddbeecnnbebaaGreatDoor
open Go.Av
set_option maxRecDepth 1000000
theorem okWF2 : eWF2.ok EWF = true := by kernel_rfl
theorem okWF5 : eWF5.ok EWF = true := by kernel_rfl
theorem okWF7 : eWF7.same EWF = true := by kernel_rfl
theorem okWF8 : eWF8.ok EWF = true := by kernel_rfl
theorem okWF11 : eWF11.ok (EG 3) = true := by kernel_rfl
theorem okWF18 : eWF18.ok EWF = true := by kernel_rfl
theorem okWF21 : eWF21.ok (EG 3) = true := by kernel_rfl
theorem okWF26 : eWF26.ok EWF = true := by kernel_rfl
theorem okWF27 : eWF27.ok EWF = true := by kernel_rfl
theorem okWF32 : eWF32.ok (EG 3) = true := by kernel_rfl
theorem okWF35 : eWF35.ok EWF = true := by kernel_rfl
theorem okWF38 : eWF38.ok (EG 3) = true := by kernel_rfl
theorem okWF42 : eWF42.same EWF = true := by kernel_rfl
theorem okWF47 : eWF47.ok (EG 3) = true := by kernel_rfl
theorem okWF57 : eWF57.ok (EG 3) = true := by kernel_rfl
theorem okWF67 : eWF67.ok (EG 3) = true := by kernel_rfl
end Go.Proofs.YtjddbeecnnbebaaGreatDoor
