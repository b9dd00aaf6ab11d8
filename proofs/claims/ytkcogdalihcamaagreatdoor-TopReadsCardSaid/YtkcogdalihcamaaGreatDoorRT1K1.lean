/-
  Calls of this run, each checked by itself.
-/
import Derived.Test.YtkcogdalihcamaaGreatDoorRT1S
namespace Go.Proofs.YtkcogdalihcamaaGreatDoor
open Go.Av
set_option maxRecDepth 1000000
theorem okRT16 : eRT16.ok (EG 3) = true := by kernel_rfl
theorem okRT18 : eRT18.ok ERT1 = true := by kernel_rfl
theorem okRT19 : eRT19.ok ERT1 = true := by kernel_rfl
theorem okRT110 : eRT110.ok ERT1 = true := by kernel_rfl
theorem okRT111 : eRT111.ok ERT1 = true := by kernel_rfl
theorem okRT112 : eRT112.ok ERT1 = true := by kernel_rfl
theorem okRT113 : eRT113.ok ERT1 = true := by kernel_rfl
theorem okRT114 : eRT114.ok ERT1 = true := by kernel_rfl
theorem okRT115 : eRT115.ok ERT1 = true := by kernel_rfl
theorem okRT116 : eRT116.ok ERT1 = true := by kernel_rfl
theorem okRT117 : eRT117.ok ERT1 = true := by kernel_rfl
theorem okRT118 : eRT118.ok ERT1 = true := by kernel_rfl
theorem okRT119 : eRT119.ok ERT1 = true := by kernel_rfl
theorem okRT120 : eRT120.ok ERT1 = true := by kernel_rfl
theorem okRT121 : eRT121.ok ERT1 = true := by kernel_rfl
theorem topRT1 : trueF (runF (withE (EG 3) [9, 6] mainRT1) 4000 (.call 4 [.b true, .imm [.tok 0] 1] emptyH)) = true := by kernel_rfl
end Go.Proofs.YtkcogdalihcamaaGreatDoor
