/-
  Each statement that draws its order, checked.
-/
import Derived.Test.YtgmpbieokababaaGreatDoorEnv
namespace Go.Proofs.YtgmpbieokababaaGreatDoor
open Go.Av
set_option maxRecDepth 1000000
theorem good_draws : ((tab.win.map (·.1)).all fun f => drawCheck (env Tryz.prog tab) f) = true := by kernel_rfl
end Go.Proofs.YtgmpbieokababaaGreatDoor
