/-
  Calls of these runs, each checked by itself.
-/
import Derived.Test.YtjddbeecnnbebaaGreatDoorWFS
namespace Go.Proofs.YtjddbeecnnbebaaGreatDoor
open Go.Av
set_option maxRecDepth 1000000
theorem okWF3 : eWF3.ok (EG 3) = true := by kernel_rfl
theorem okWF4 : eWF4.ok (EG 3) = true := by kernel_rfl
theorem okWF9 : eWF9.ok EWF = true := by kernel_rfl
theorem okWF16 : eWF16.same EWF = true := by kernel_rfl
theorem okWF19 : eWF19.ok (EG 3) = true := by kernel_rfl
theorem okWF25 : eWF25.ok (EG 3) = true := by kernel_rfl
theorem okWF36 : eWF36.ok (EG 3) = true := by kernel_rfl
theorem okWF45 : eWF45.ok (EG 3) = true := by kernel_rfl
theorem okWF48 : eWF48.ok EWF = true := by kernel_rfl
theorem okWF51 : eWF51.ok (EG 3) = true := by kernel_rfl
theorem okWF55 : eWF55.same EWF = true := by kernel_rfl
theorem okWF60 : eWF60.ok (EG 3) = true := by kernel_rfl
theorem okWF61 : eWF61.ok EWF = true := by kernel_rfl
theorem okWF62 : eWF62.ok EWF = true := by kernel_rfl
theorem okWF71 : eWF71.ok EWF = true := by kernel_rfl
theorem okWF75 : eWF75.ok (EG 3) = true := by kernel_rfl
end Go.Proofs.YtjddbeecnnbebaaGreatDoor
