/-
  Calls of this run, each checked by itself.
-/
import Derived.Test.YtmiodddnokpdfaaGreatDoorTS
namespace Go.Proofs.YtmiodddnokpdfaaGreatDoor
open Go.Av
set_option maxRecDepth 1000000
theorem okT0 : eT0.ok ET2 = true := by kernel_rfl
theorem okT1 : eT1.ok ET2 = true := by kernel_rfl
theorem okT3 : eT3.ok ET2 = true := by kernel_rfl
theorem okT4 : eT4.ok ET2 = true := by kernel_rfl
theorem okT6 : eT6.ok ET2 = true := by kernel_rfl
theorem okT8 : eT8.ok ET2 = true := by kernel_rfl
end Go.Proofs.YtmiodddnokpdfaaGreatDoor
