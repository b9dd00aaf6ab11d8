/-
  The abstract machine says that shoaltop.TopNames answers true.
-/
import Derived.Test.YtgmpbieokababaaGreatDoorEnv
namespace Go.Proofs.YtgmpbieokababaaGreatDoor
open Go.Av
set_option maxRecDepth 1000000
theorem ev : saysTrue (run (env Tryz.prog tab) 2000 (.call 3 [] emptyH)) = true := by kernel_rfl
end Go.Proofs.YtgmpbieokababaaGreatDoor
