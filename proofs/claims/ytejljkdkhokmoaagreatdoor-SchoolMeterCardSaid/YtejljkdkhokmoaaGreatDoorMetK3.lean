/-
  A meter's Add, the 16, 10, 7 numbers already there: what the walk says.
-/
import Derived.Test.YtejljkdkhokmoaaGreatDoorMet
namespace Go.Proofs.YtejljkdkhokmoaaGreatDoor
open Go.Av
set_option maxRecDepth 1000000
theorem sA16 (c : Nat) : sayA 16 c = true := by kernel_rfl
theorem sB16 (c : Nat) : sayB 16 c = true := by kernel_rfl
theorem sR16 : sayR 16 42 = true := by kernel_rfl
theorem sQ16 : sayR 16 43 = true := by kernel_rfl
theorem sA10 (c : Nat) : sayA 10 c = true := by kernel_rfl
theorem sB10 (c : Nat) : sayB 10 c = true := by kernel_rfl
theorem sR10 : sayR 10 30 = true := by kernel_rfl
theorem sQ10 : sayR 10 31 = true := by kernel_rfl
theorem sA7 (c : Nat) : sayA 7 c = true := by kernel_rfl
theorem sB7 (c : Nat) : sayB 7 c = true := by kernel_rfl
theorem sR7 : sayR 7 24 = true := by kernel_rfl
theorem sQ7 : sayR 7 25 = true := by kernel_rfl
end Go.Proofs.YtejljkdkhokmoaaGreatDoor
