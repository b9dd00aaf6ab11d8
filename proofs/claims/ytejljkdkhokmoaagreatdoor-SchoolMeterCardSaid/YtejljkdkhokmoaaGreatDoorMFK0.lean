/-
  Calls of this run, each checked by itself.
-/
import Derived.Test.YtejljkdkhokmoaaGreatDoorMFS
namespace Go.Proofs.YtejljkdkhokmoaaGreatDoor
open Go.Av
set_option maxRecDepth 1000000
theorem okMF0 : eMF0.ok (EG 4) = true := by kernel_rfl
theorem okMF1 : eMF1.ok (EG 4) = true := by kernel_rfl
theorem okMF2 : eMF2.ok (EG 4) = true := by kernel_rfl
theorem okMF3 : eMF3.ok (EG 4) = true := by kernel_rfl
theorem okMF4 : eMF4.ok (EG 4) = true := by kernel_rfl
theorem okMF5 : eMF5.ok (EG 4) = true := by kernel_rfl
theorem okMF6 : eMF6.ok (EG 4) = true := by kernel_rfl
theorem okMF7 : eMF7.ok (EG 4) = true := by kernel_rfl
theorem okMF8 : eMF8.ok (EG 4) = true := by kernel_rfl
theorem okMF9 : eMF9.ok (EG 4) = true := by kernel_rfl
theorem okMF10 : eMF10.ok (EG 4) = true := by kernel_rfl
theorem okMF11 : eMF11.ok (EG 4) = true := by kernel_rfl
theorem okMF12 : eMF12.ok (EG 4) = true := by kernel_rfl
theorem okMF13 : eMF13.ok (EG 4) = true := by kernel_rfl
end Go.Proofs.YtejljkdkhokmoaaGreatDoor
