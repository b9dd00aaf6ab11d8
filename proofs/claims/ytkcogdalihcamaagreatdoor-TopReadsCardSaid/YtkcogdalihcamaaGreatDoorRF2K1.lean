/-
  Calls of this run, each checked by itself.
-/
import Derived.Test.YtkcogdalihcamaaGreatDoorRF2S
namespace Go.Proofs.YtkcogdalihcamaaGreatDoor
open Go.Av
set_option maxRecDepth 1000000
theorem okRF27 : eRF27.ok (EG 3) = true := by kernel_rfl
theorem okRF210 : eRF210.ok ERF2 = true := by kernel_rfl
theorem okRF29 : eRF29.ok (EG 3) = true := by kernel_rfl
theorem okRF211 : eRF211.ok ERF2 = true := by kernel_rfl
theorem okRF212 : eRF212.ok ERF2 = true := by kernel_rfl
theorem okRF213 : eRF213.ok ERF2 = true := by kernel_rfl
theorem okRF214 : eRF214.ok ERF2 = true := by kernel_rfl
theorem okRF215 : eRF215.ok ERF2 = true := by kernel_rfl
theorem okRF216 : eRF216.ok ERF2 = true := by kernel_rfl
theorem okRF217 : eRF217.ok ERF2 = true := by kernel_rfl
theorem okRF218 : eRF218.ok ERF2 = true := by kernel_rfl
theorem okRF219 : eRF219.ok ERF2 = true := by kernel_rfl
theorem okRF220 : eRF220.ok ERF2 = true := by kernel_rfl
theorem okRF221 : eRF221.ok ERF2 = true := by kernel_rfl
theorem okRF222 : eRF222.ok ERF2 = true := by kernel_rfl
theorem okRF223 : eRF223.ok ERF2 = true := by kernel_rfl
theorem topRF2 : trueF (runF (withE (EG 3) [9, 6] mainRF2) 4000 (.call 4 [.b false, .imm [.tok 0, .tok 100] 2] emptyH)) = true := by kernel_rfl
end Go.Proofs.YtkcogdalihcamaaGreatDoor
