/-
  Calls of this run, each checked by itself.
-/
import Derived.Test.YtkcogdalihcamaaGreatDoorRT2S
namespace Go.Proofs.YtkcogdalihcamaaGreatDoor
open Go.Av
set_option maxRecDepth 1000000
theorem okRT27 : eRT27.ok (EG 3) = true := by kernel_rfl
theorem okRT210 : eRT210.ok ERT2 = true := by kernel_rfl
theorem okRT29 : eRT29.ok (EG 3) = true := by kernel_rfl
theorem okRT211 : eRT211.ok ERT2 = true := by kernel_rfl
theorem okRT212 : eRT212.ok ERT2 = true := by kernel_rfl
theorem okRT213 : eRT213.ok ERT2 = true := by kernel_rfl
theorem okRT214 : eRT214.ok ERT2 = true := by kernel_rfl
theorem okRT215 : eRT215.ok ERT2 = true := by kernel_rfl
theorem okRT216 : eRT216.ok ERT2 = true := by kernel_rfl
theorem okRT217 : eRT217.ok ERT2 = true := by kernel_rfl
theorem okRT218 : eRT218.ok ERT2 = true := by kernel_rfl
theorem okRT219 : eRT219.ok ERT2 = true := by kernel_rfl
theorem okRT220 : eRT220.ok ERT2 = true := by kernel_rfl
theorem okRT221 : eRT221.ok ERT2 = true := by kernel_rfl
theorem okRT222 : eRT222.ok ERT2 = true := by kernel_rfl
theorem okRT223 : eRT223.ok ERT2 = true := by kernel_rfl
theorem topRT2 : trueF (runF (withE (EG 3) [9, 6] mainRT2) 4000 (.call 4 [.b true, .imm [.tok 0, .tok 100] 2] emptyH)) = true := by kernel_rfl
end Go.Proofs.YtkcogdalihcamaaGreatDoor
