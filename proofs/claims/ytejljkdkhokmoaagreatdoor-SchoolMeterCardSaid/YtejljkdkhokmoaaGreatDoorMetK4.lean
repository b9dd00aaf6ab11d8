/-
  A meter's Add, the 15, 11, 9 numbers already there: what the walk says.
-/
import Derived.Test.YtejljkdkhokmoaaGreatDoorMet
namespace Go.Proofs.YtejljkdkhokmoaaGreatDoor
open Go.Av
set_option maxRecDepth 1000000
theorem sA15 (c : Nat) : sayA 15 c = true := by kernel_rfl
theorem sB15 (c : Nat) : sayB 15 c = true := by kernel_rfl
theorem sR15 : sayR 15 40 = true := by kernel_rfl
theorem sQ15 : sayR 15 41 = true := by kernel_rfl
theorem sA11 (c : Nat) : sayA 11 c = true := by kernel_rfl
theorem sB11 (c : Nat) : sayB 11 c = true := by kernel_rfl
theorem sR11 : sayR 11 32 = true := by kernel_rfl
theorem sQ11 : sayR 11 33 = true := by kernel_rfl
theorem sA9 (c : Nat) : sayA 9 c = true := by kernel_rfl
theorem sB9 (c : Nat) : sayB 9 c = true := by kernel_rfl
theorem sR9 : sayR 9 28 = true := by kernel_rfl
theorem sQ9 : sayR 9 29 = true := by kernel_rfl
end Go.Proofs.YtejljkdkhokmoaaGreatDoor
