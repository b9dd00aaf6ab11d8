/-
  The bare surroundings of the lane's laws.
-/
import Derived.Test.YtgiphcfpopgchaaChecked
import Derived.Test.YtgiphcfpopgchaaAv21
import Derived.KernelRfl
namespace Go.Proofs.Ytgiphcfpopgchaa
open Go.Av
set_option maxRecDepth 1000000

def win : List (FuncId × List (Nat × List (Nat × Nat × Nat))) := [(6, [(14, [(6, (0, 1))]), (20, [(6, (0, 1))]), (22, [(6, (0, 1))]), (12, [(6, (0, 1))]), (24, [(8, (0, 1)), (18, (2, 3)), (19, (2, 3))])]), (12, [(6, [])]), (17, [(4, [])]), (18, [(1, [])]), (22, [(3, [(5, (0, 1)), (10, (0, 2)), (13, (0, 2))])]), (28, [(4, [])]), (30, [(1, [])]), (37, [(4, [(5, (0, 1)), (7, (0, 1)), (12, (0, 2)), (15, (0, 2))])]), (42, [(5, [])]), (43, [(5, [])])]
noncomputable def E : Env := env0 Try.prog win
theorem good : EnvGood E := env0_good (by kernel_rfl) (by kernel_rfl)

theorem sz22 : szA Try.prog 22 = some 1 := by kernel_rfl
theorem sz3 : szA Try.prog 3 = some 1 := by kernel_rfl
theorem sz2 : szA Try.prog 2 = some 1 := by kernel_rfl
theorem agg22 : isAggA Try.prog 22 = some false := by kernel_rfl
theorem agg3 : isAggA Try.prog 3 = some false := by kernel_rfl
theorem agg2 : isAggA Try.prog 2 = some false := by kernel_rfl
end Go.Proofs.Ytgiphcfpopgchaa
