/-
  A meter's Add, the 17, 8, 6 numbers already there: what the walk says.
-/
import Derived.Test.YtejljkdkhokmoaaGreatDoorMet
namespace Go.Proofs.YtejljkdkhokmoaaGreatDoor
open Go.Av
set_option maxRecDepth 1000000
theorem sA17 (c : Nat) : sayA 17 c = true := by kernel_rfl
theorem sB17 (c : Nat) : sayB 17 c = true := by kernel_rfl
theorem sR17 : sayR 17 44 = true := by kernel_rfl
theorem sQ17 : sayR 17 45 = true := by kernel_rfl
theorem sA8 (c : Nat) : sayA 8 c = true := by kernel_rfl
theorem sB8 (c : Nat) : sayB 8 c = true := by kernel_rfl
theorem sR8 : sayR 8 26 = true := by kernel_rfl
theorem sQ8 : sayR 8 27 = true := by kernel_rfl
theorem sA6 (c : Nat) : sayA 6 c = true := by kernel_rfl
theorem sB6 (c : Nat) : sayB 6 c = true := by kernel_rfl
theorem sR6 : sayR 6 22 = true := by kernel_rfl
theorem sQ6 : sayR 6 23 = true := by kernel_rfl
end Go.Proofs.YtejljkdkhokmoaaGreatDoor
