/-
  Calls of these runs, each checked by itself.
-/
import Derived.Test.YtjddbeecnnbebaaGreatDoorWTS
namespace Go.Proofs.YtjddbeecnnbebaaGreatDoor
open Go.Av
set_option maxRecDepth 1000000
theorem okWT9 : eWT9.ok EWT = true := by kernel_rfl
theorem okWT10 : eWT10.ok (EG 3) = true := by kernel_rfl
theorem okWT11 : eWT11.ok (EG 3) = true := by kernel_rfl
theorem okWT13 : eWT13.ok (EG 3) = true := by kernel_rfl
theorem okWT28 : eWT28.same EWT = true := by kernel_rfl
theorem okWT29 : eWT29.ok EWT = true := by kernel_rfl
theorem okWT32 : eWT32.ok (EG 3) = true := by kernel_rfl
theorem okWT33 : eWT33.ok (EG 3) = true := by kernel_rfl
theorem okWT39 : eWT39.ok (EG 3) = true := by kernel_rfl
theorem okWT48 : eWT48.ok EWT = true := by kernel_rfl
theorem okWT51 : eWT51.ok (EG 3) = true := by kernel_rfl
theorem okWT60 : eWT60.ok (EG 3) = true := by kernel_rfl
theorem okWT61 : eWT61.ok EWT = true := by kernel_rfl
theorem okWT70 : eWT70.same EWT = true := by kernel_rfl
theorem okWT75 : eWT75.ok (EG 3) = true := by kernel_rfl
theorem okWT78 : eWT78.ok EWT = true := by kernel_rfl
end Go.Proofs.YtjddbeecnnbebaaGreatDoor
