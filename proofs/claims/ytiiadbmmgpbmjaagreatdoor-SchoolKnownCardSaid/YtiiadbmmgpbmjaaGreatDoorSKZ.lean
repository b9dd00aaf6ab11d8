/-
  The abstract machine says that shoallaw26.SchoolKnown answers true.
-/
import Derived.Test.YtiiadbmmgpbmjaaGreatDoorSKS
namespace Go.Proofs.YtiiadbmmgpbmjaaGreatDoor
open Go.Av
set_option maxRecDepth 1000000
theorem topSK : trueF (runF (withE ES [7, 4] mainSK) 4000 (.call 3 [] emptyH)) = true := by kernel_rfl
end Go.Proofs.YtiiadbmmgpbmjaaGreatDoor
