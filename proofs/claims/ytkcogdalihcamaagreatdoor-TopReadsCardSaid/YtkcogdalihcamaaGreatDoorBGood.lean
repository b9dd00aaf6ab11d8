/-
  The pieces of the runs put together: the surroundings are in order.
-/
import Derived.Test.YtkcogdalihcamaaGreatDoorBDraw
import Derived.Test.YtkcogdalihcamaaGreatDoorBKey
import Derived.Test.YtkcogdalihcamaaGreatDoorBLit
namespace Go.Proofs.YtkcogdalihcamaaGreatDoor
open Go.Av
set_option maxRecDepth 100000
theorem EG_good (c : Nat) (fl : Nat → Fl) (hg : ∀ i, (fl i).Gen Tryz.prog 145 139 91) (hc : ∀ i, InCls c (fl i).V) : @EnvGood (toks fl) (EG c) :=
  envG_good fl hg hc (EI := EI) rfl (fun _ => rfl) (fun args h v h' e => @insH_ok (toks fl) args h v h' e) good_mixed good_bits good_fromBits rfl (by decide) (by decide) (by decide) (draws_G c)
theorem Fl.Gen.withV {a : Fl} {P : Program} {k o p : FuncId} (g : a.Gen P k o p) (V : Int) : ({ a with V := V } : Fl).Gen P k o p := ⟨g.klt, g.k0, g.k6, g.p0, g.p6, g.of_⟩
end Go.Proofs.YtkcogdalihcamaaGreatDoor
