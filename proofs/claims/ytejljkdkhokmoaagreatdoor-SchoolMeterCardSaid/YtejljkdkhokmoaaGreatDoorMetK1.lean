/-
  A meter's Add, the 18, 5, 3, 4 numbers already there: what the walk says.
-/
import Derived.Test.YtejljkdkhokmoaaGreatDoorMet
namespace Go.Proofs.YtejljkdkhokmoaaGreatDoor
open Go.Av
set_option maxRecDepth 1000000
theorem sA18 (c : Nat) : sayA 18 c = true := by kernel_rfl
theorem sB18 (c : Nat) : sayB 18 c = true := by kernel_rfl
theorem sR18 : sayR 18 46 = true := by kernel_rfl
theorem sQ18 : sayR 18 47 = true := by kernel_rfl
theorem sA5 (c : Nat) : sayA 5 c = true := by kernel_rfl
theorem sB5 (c : Nat) : sayB 5 c = true := by kernel_rfl
theorem sR5 : sayR 5 20 = true := by kernel_rfl
theorem sQ5 : sayR 5 21 = true := by kernel_rfl
theorem sA3 (c : Nat) : sayA 3 c = true := by kernel_rfl
theorem sB3 (c : Nat) : sayB 3 c = true := by kernel_rfl
theorem sR3 : sayR 3 16 = true := by kernel_rfl
theorem sQ3 : sayR 3 17 = true := by kernel_rfl
theorem sA4 (c : Nat) : sayA 4 c = true := by kernel_rfl
theorem sB4 (c : Nat) : sayB 4 c = true := by kernel_rfl
theorem sR4 : sayR 4 18 = true := by kernel_rfl
theorem sQ4 : sayR 4 19 = true := by kernel_rfl
end Go.Proofs.YtejljkdkhokmoaaGreatDoor
