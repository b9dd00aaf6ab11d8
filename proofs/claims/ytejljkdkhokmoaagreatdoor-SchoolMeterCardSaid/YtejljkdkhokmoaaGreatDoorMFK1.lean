/-
  Calls of this run, each checked by itself. Calls of this run, each checked by itself.
-/
import Derived.Test.YtejljkdkhokmoaaGreatDoorMFS
namespace Go.Proofs.YtejljkdkhokmoaaGreatDoor
open Go.Av
set_option maxRecDepth 1000000
theorem okMF14 : eMF14.ok (EG 4) = true := by kernel_rfl
theorem okMF15 : eMF15.ok (EG 4) = true := by kernel_rfl
theorem okMF16 : eMF16.ok (EG 4) = true := by kernel_rfl
theorem okMF17 : eMF17.ok (EG 4) = true := by kernel_rfl
theorem okMF18 : eMF18.ok (EG 4) = true := by kernel_rfl
theorem okMF19 : eMF19.ok (EG 4) = true := by kernel_rfl
theorem okMF20 : eMF20.ok (EG 4) = true := by kernel_rfl
theorem okMF21 : eMF21.ok (EG 4) = true := by kernel_rfl
theorem okMF22 : eMF22.ok (EG 4) = true := by kernel_rfl
theorem okMF23 : eMF23.ok (EG 4) = true := by kernel_rfl
theorem okMF24 : eMF24.ok (EG 4) = true := by kernel_rfl
theorem okMF25 : eMF25.ok (EG 4) = true := by kernel_rfl
theorem okMF26 : eMF26.ok (EG 4) = true := by kernel_rfl
theorem okMF27 : eMF27.ok (EG 4) = true := by kernel_rfl
theorem okMF28 : eMF28.ok (EG 4) = true := by kernel_rfl
theorem okMF29 : eMF29.ok (EG 4) = true := by kernel_rfl
theorem okMF30 : eMF30.ok (EG 4) = true := by kernel_rfl
theorem okMF31 : eMF31.ok (EG 4) = true := by kernel_rfl
theorem okMF32 : eMF32.ok (EG 4) = true := by kernel_rfl
theorem okMF33 : eMF33.ok (EG 4) = true := by kernel_rfl
theorem okMF34 : eMF34.ok (EG 4) = true := by kernel_rfl
end Go.Proofs.YtejljkdkhokmoaaGreatDoor

namespace Go.Proofs.YtejljkdkhokmoaaGreatDoor
open Go.Av
set_option maxRecDepth 1000000
theorem okMF35 : eMF35.ok (EG 4) = true := by kernel_rfl
theorem okMF36 : eMF36.ok (EG 4) = true := by kernel_rfl
theorem okMF37 : eMF37.ok (EG 4) = true := by kernel_rfl
theorem okMF38 : eMF38.ok (EG 4) = true := by kernel_rfl
theorem okMF39 : eMF39.ok (EG 4) = true := by kernel_rfl
theorem okMF40 : eMF40.ok (EG 4) = true := by kernel_rfl
theorem okMF41 : eMF41.ok (EG 4) = true := by kernel_rfl
end Go.Proofs.YtejljkdkhokmoaaGreatDoor
