/-
  Calls of this run, each checked by itself.
-/
import Derived.Test.YtkcogdalihcamaaGreatDoorRF1S
namespace Go.Proofs.YtkcogdalihcamaaGreatDoor
open Go.Av
set_option maxRecDepth 1000000
theorem okRF16 : eRF16.ok (EG 3) = true := by kernel_rfl
theorem okRF18 : eRF18.ok ERF1 = true := by kernel_rfl
theorem okRF19 : eRF19.ok ERF1 = true := by kernel_rfl
theorem okRF110 : eRF110.ok ERF1 = true := by kernel_rfl
theorem okRF111 : eRF111.ok ERF1 = true := by kernel_rfl
theorem okRF112 : eRF112.ok ERF1 = true := by kernel_rfl
theorem okRF113 : eRF113.ok ERF1 = true := by kernel_rfl
theorem okRF114 : eRF114.ok ERF1 = true := by kernel_rfl
theorem okRF115 : eRF115.ok ERF1 = true := by kernel_rfl
theorem okRF116 : eRF116.ok ERF1 = true := by kernel_rfl
theorem okRF117 : eRF117.ok ERF1 = true := by kernel_rfl
theorem okRF118 : eRF118.ok ERF1 = true := by kernel_rfl
theorem okRF119 : eRF119.ok ERF1 = true := by kernel_rfl
theorem okRF120 : eRF120.ok ERF1 = true := by kernel_rfl
theorem okRF121 : eRF121.ok ERF1 = true := by kernel_rfl
theorem topRF1 : trueF (runF (withE (EG 3) [9, 6] mainRF1) 4000 (.call 4 [.b false, .imm [.tok 0] 1] emptyH)) = true := by kernel_rfl
end Go.Proofs.YtkcogdalihcamaaGreatDoor
