/-
  Calls of this run, each checked by itself.
-/
import Derived.Test.YtmiodddnokpdfaaGreatDoorTS
namespace Go.Proofs.YtmiodddnokpdfaaGreatDoor
open Go.Av
set_option maxRecDepth 1000000
theorem okT2 : eT2.ok ET2 = true := by kernel_rfl
theorem okT5 : eT5.ok ET2 = true := by kernel_rfl
theorem okT7 : eT7.ok ET2 = true := by kernel_rfl
theorem okT9 : eT9.ok ET2 = true := by kernel_rfl
end Go.Proofs.YtmiodddnokpdfaaGreatDoor
