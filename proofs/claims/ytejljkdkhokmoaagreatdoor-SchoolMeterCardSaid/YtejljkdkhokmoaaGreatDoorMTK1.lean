/-
  Calls of this run, each checked by itself. Calls of this run, each checked by itself.
-/
import Derived.Test.YtejljkdkhokmoaaGreatDoorMTS
namespace Go.Proofs.YtejljkdkhokmoaaGreatDoor
open Go.Av
set_option maxRecDepth 1000000
theorem okMT14 : eMT14.ok (EG 4) = true := by kernel_rfl
theorem okMT15 : eMT15.ok (EG 4) = true := by kernel_rfl
theorem okMT16 : eMT16.ok (EG 4) = true := by kernel_rfl
theorem okMT17 : eMT17.ok (EG 4) = true := by kernel_rfl
theorem okMT18 : eMT18.ok (EG 4) = true := by kernel_rfl
theorem okMT19 : eMT19.ok (EG 4) = true := by kernel_rfl
theorem okMT20 : eMT20.ok (EG 4) = true := by kernel_rfl
theorem okMT21 : eMT21.ok (EG 4) = true := by kernel_rfl
theorem okMT22 : eMT22.ok (EG 4) = true := by kernel_rfl
theorem okMT23 : eMT23.ok (EG 4) = true := by kernel_rfl
theorem okMT24 : eMT24.ok (EG 4) = true := by kernel_rfl
theorem okMT25 : eMT25.ok (EG 4) = true := by kernel_rfl
theorem okMT26 : eMT26.ok (EG 4) = true := by kernel_rfl
theorem okMT27 : eMT27.ok (EG 4) = true := by kernel_rfl
theorem okMT28 : eMT28.ok (EG 4) = true := by kernel_rfl
theorem okMT29 : eMT29.ok (EG 4) = true := by kernel_rfl
theorem okMT30 : eMT30.ok (EG 4) = true := by kernel_rfl
theorem okMT31 : eMT31.ok (EG 4) = true := by kernel_rfl
theorem okMT32 : eMT32.ok (EG 4) = true := by kernel_rfl
theorem okMT33 : eMT33.ok (EG 4) = true := by kernel_rfl
theorem okMT34 : eMT34.ok (EG 4) = true := by kernel_rfl
end Go.Proofs.YtejljkdkhokmoaaGreatDoor

namespace Go.Proofs.YtejljkdkhokmoaaGreatDoor
open Go.Av
set_option maxRecDepth 1000000
theorem okMT35 : eMT35.ok (EG 4) = true := by kernel_rfl
theorem okMT36 : eMT36.ok (EG 4) = true := by kernel_rfl
theorem okMT37 : eMT37.ok (EG 4) = true := by kernel_rfl
theorem okMT38 : eMT38.ok (EG 4) = true := by kernel_rfl
theorem okMT39 : eMT39.ok (EG 4) = true := by kernel_rfl
theorem okMT40 : eMT40.ok (EG 4) = true := by kernel_rfl
theorem okMT41 : eMT41.ok (EG 4) = true := by kernel_rfl
end Go.Proofs.YtejljkdkhokmoaaGreatDoor
