/-
  Calls of this run, each checked by itself.
-/
import Derived.Test.YtejljkdkhokmoaaGreatDoorMTS
namespace Go.Proofs.YtejljkdkhokmoaaGreatDoor
open Go.Av
set_option maxRecDepth 1000000
theorem okMT0 : eMT0.ok (EG 4) = true := by kernel_rfl
theorem okMT1 : eMT1.ok (EG 4) = true := by kernel_rfl
theorem okMT2 : eMT2.ok (EG 4) = true := by kernel_rfl
theorem okMT3 : eMT3.ok (EG 4) = true := by kernel_rfl
theorem okMT4 : eMT4.ok (EG 4) = true := by kernel_rfl
theorem okMT5 : eMT5.ok (EG 4) = true := by kernel_rfl
theorem okMT6 : eMT6.ok (EG 4) = true := by kernel_rfl
theorem okMT7 : eMT7.ok (EG 4) = true := by kernel_rfl
theorem okMT8 : eMT8.ok (EG 4) = true := by kernel_rfl
theorem okMT9 : eMT9.ok (EG 4) = true := by kernel_rfl
theorem okMT10 : eMT10.ok (EG 4) = true := by kernel_rfl
theorem okMT11 : eMT11.ok (EG 4) = true := by kernel_rfl
theorem okMT12 : eMT12.ok (EG 4) = true := by kernel_rfl
theorem okMT13 : eMT13.ok (EG 4) = true := by kernel_rfl
end Go.Proofs.YtejljkdkhokmoaaGreatDoor
