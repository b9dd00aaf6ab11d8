/-
  What twin.Causal and twin.Memory answer, whatever the order of the entries of a map.
-/
import Derived.Test.YtmiodddnokpdfaaGreatDoorBEnv
namespace Go.Proofs.YtmiodddnokpdfaaGreatDoor
open Go.Av
set_option maxRecDepth 1000000
theorem fact0 : retAll' (isB true) (rL (.call 6 q0 emptyH)) = true := by kernel_rfl
theorem fact1 : retAll' (isB true) (rL (.call 7 q1 emptyH)) = true := by kernel_rfl
theorem fact2 : retAll' (isB true) (rL (.call 6 q2 emptyH)) = true := by kernel_rfl
theorem fact3 : retAll' (isB false) (rL (.call 6 q3 emptyH)) = true := by kernel_rfl
theorem fact4 : retAll' (isB false) (rL (.call 6 q4 emptyH)) = true := by kernel_rfl
theorem fact5 : retAll' (isB false) (rL (.call 6 q5 emptyH)) = true := by kernel_rfl
theorem fact6 : retAll' (isB false) (rL (.call 6 q6 emptyH)) = true := by kernel_rfl
theorem fact7 : retAll' (isB true) (rL (.call 6 q7 emptyH)) = true := by kernel_rfl
theorem fact8 : retAll' (isB true) (rL (.call 7 q8 emptyH)) = true := by kernel_rfl
theorem fact9 : retAll' (isB false) (rL (.call 7 q9 emptyH)) = true := by kernel_rfl
theorem fact10 : retAll' (isB false) (rL (.call 7 q10 emptyH)) = true := by kernel_rfl
theorem fact11 : retAll' (isB false) (rL (.call 7 q11 emptyH)) = true := by kernel_rfl
theorem fact12 : retAll' (isB false) (rL (.call 7 q12 emptyH)) = true := by kernel_rfl
theorem fact13 : retAll' (isB true) (rL (.call 7 q13 emptyH)) = true := by kernel_rfl
theorem fact14 : retAll' (isB true) (rL (.call 7 q14 emptyH)) = true := by kernel_rfl
end Go.Proofs.YtmiodddnokpdfaaGreatDoor
