/-
  Calls of these runs, each checked by itself.
-/
import Derived.Test.YtjddbeecnnbebaaGreatDoorWTS
namespace Go.Proofs.YtjddbeecnnbebaaGreatDoor
open Go.Av
set_option maxRecDepth 1000000
theorem okWT4 : eWT4.ok (EG 3) = true := by kernel_rfl
theorem okWT16 : eWT16.same EWT = true := by kernel_rfl
theorem okWT17 : eWT17.ok EWT = true := by kernel_rfl
theorem okWT24 : eWT24.ok (EG 3) = true := by kernel_rfl
theorem okWT30 : eWT30.ok EWT = true := by kernel_rfl
theorem okWT31 : eWT31.ok (EG 3) = true := by kernel_rfl
theorem okWT37 : eWT37.ok (EG 3) = true := by kernel_rfl
theorem okWT41 : eWT41.ok EWT = true := by kernel_rfl
theorem okWT43 : eWT43.ok EWT = true := by kernel_rfl
theorem okWT49 : eWT49.ok (EG 3) = true := by kernel_rfl
theorem okWT53 : eWT53.ok EWT = true := by kernel_rfl
theorem okWT58 : eWT58.ok (EG 3) = true := by kernel_rfl
theorem okWT62 : eWT62.ok EWT = true := by kernel_rfl
theorem okWT63 : eWT63.same EWT = true := by kernel_rfl
theorem okWT68 : eWT68.ok EWT = true := by kernel_rfl
theorem okWT73 : eWT73.ok (EG 3) = true := by kernel_rfl
end Go.Proofs.YtjddbeecnnbebaaGreatDoor
