/-
  A meter's Add, the 14, 13, 12 numbers already there: what the walk says.
-/
import Derived.Test.YtejljkdkhokmoaaGreatDoorMet
namespace Go.Proofs.YtejljkdkhokmoaaGreatDoor
open Go.Av
set_option maxRecDepth 1000000
theorem sA14 (c : Nat) : sayA 14 c = true := by kernel_rfl
theorem sB14 (c : Nat) : sayB 14 c = true := by kernel_rfl
theorem sR14 : sayR 14 38 = true := by kernel_rfl
theorem sQ14 : sayR 14 39 = true := by kernel_rfl
theorem sA13 (c : Nat) : sayA 13 c = true := by kernel_rfl
theorem sB13 (c : Nat) : sayB 13 c = true := by kernel_rfl
theorem sR13 : sayR 13 36 = true := by kernel_rfl
theorem sQ13 : sayR 13 37 = true := by kernel_rfl
theorem sA12 (c : Nat) : sayA 12 c = true := by kernel_rfl
theorem sB12 (c : Nat) : sayB 12 c = true := by kernel_rfl
theorem sR12 : sayR 12 34 = true := by kernel_rfl
theorem sQ12 : sayR 12 35 = true := by kernel_rfl
end Go.Proofs.YtejljkdkhokmoaaGreatDoor
