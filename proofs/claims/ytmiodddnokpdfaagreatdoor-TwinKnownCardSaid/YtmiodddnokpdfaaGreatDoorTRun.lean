/-
  The law's run, with several outcomes.
-/
import Derived.Test.YtmiodddnokpdfaaGreatDoorTS
namespace Go.Proofs.YtmiodddnokpdfaaGreatDoor
open Go.Av
set_option maxRecDepth 1000000
theorem law_run : retAll' (isB true) (runM EW mT (fun _ => false) 4000 200 (.call 3 [] emptyH)) = true := by kernel_rfl
end Go.Proofs.YtmiodddnokpdfaaGreatDoor
