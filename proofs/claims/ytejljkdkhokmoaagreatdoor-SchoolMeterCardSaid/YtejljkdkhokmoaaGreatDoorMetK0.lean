/-
  A meter's Add, the 19, 1, 2 numbers already there: what the walk says.
-/
import Derived.Test.YtejljkdkhokmoaaGreatDoorMet
namespace Go.Proofs.YtejljkdkhokmoaaGreatDoor
open Go.Av
set_option maxRecDepth 1000000
theorem sA19 (c : Nat) : sayA 19 c = true := by kernel_rfl
theorem sB19 (c : Nat) : sayB 19 c = true := by kernel_rfl
theorem sR19 : sayR 19 48 = true := by kernel_rfl
theorem sQ19 : sayR 19 49 = true := by kernel_rfl
theorem sA1 (c : Nat) : sayA 1 c = true := by kernel_rfl
theorem sB1 (c : Nat) : sayB 1 c = true := by kernel_rfl
theorem sR1 : sayR 1 12 = true := by kernel_rfl
theorem sQ1 : sayR 1 13 = true := by kernel_rfl
theorem sA2 (c : Nat) : sayA 2 c = true := by kernel_rfl
theorem sB2 (c : Nat) : sayB 2 c = true := by kernel_rfl
theorem sR2 : sayR 2 14 = true := by kernel_rfl
theorem sQ2 : sayR 2 15 = true := by kernel_rfl
theorem s0_0 : say0 0 = true := by kernel_rfl
theorem s0_1 : say0 1 = true := by kernel_rfl
end Go.Proofs.YtejljkdkhokmoaaGreatDoor
