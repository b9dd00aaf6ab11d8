/-
  A meter's Add in a small heap: the functions by number; what the walk says.
-/
import Derived.Test.YtejljkdkhokmoaaGreatDoorChecked
import Derived.Test.YtejljkdkhokmoaaGreatDoorAvQ
import Derived.KernelRfl
namespace Go.Proofs.YtejljkdkhokmoaaGreatDoor
open Go.Av
set_option maxRecDepth 1000000
set_option linter.unusedSimpArgs false

def kitM : MKit := ⟨39, 36, 37, 40, 70, 67, 102, [(21, [(6, []), (11, [])]), (41, [(11, []), (15, [])]), (133, [(3, [])])]⟩
theorem ovM_is : ExtIs Tryz.prog 70 (Extern.SlicesOverlaps.overlaps #[70, 70] #[4]) := ⟨Tryz.f70, Tryz.func70, by kernel_rfl, by kernel_rfl, by kernel_rfl, by kernel_rfl⟩
theorem good_mixed : Tryz.prog.follows .mixedOrders = true := by kernel_rfl
theorem bitsM_is : ExtIs Tryz.prog 67 Extern.MathFloatBits.float64bits := ⟨Tryz.f67, Tryz.func67, by kernel_rfl, by kernel_rfl, by kernel_rfl, by kernel_rfl⟩
theorem fromBitsM_is : ExtIs Tryz.prog 102 Extern.MathFloatBits.float64frombits := ⟨Tryz.f102, Tryz.func102, by kernel_rfl, by kernel_rfl, by kernel_rfl, by kernel_rfl⟩
theorem sz35 : szA Tryz.prog 35 = some 1 := by kernel_rfl
def kitM0 : MKit := { kitM with win := [] }
theorem draws_t (c : Nat) : ((kitM.win.map (·.1)).all fun f => drawCheck (envM Tryz.prog kitM c true) f) = true := by kernel_rfl

noncomputable def mR0 : RecM := mRun Tryz.prog kitM0 0 false 200
noncomputable def mR (c : Nat) : RecM := mRun Tryz.prog kitM c true 200
theorem min_M : retAll ufP (mR0 (.call 36 [.imm [.uf .f64, .uf .f64] 2] emptyH)) = true := by kernel_rfl
theorem max_M : retAll ufP (mR0 (.call 37 [.imm [.uf .f64, .uf .f64] 2] emptyH)) = true := by kernel_rfl
theorem key_M : retAll uiP (mR0 (.call 39 [.uf .f64] emptyH)) = true := by kernel_rfl

/-- Names for the same. -/
def pM (c i : Nat) (a b : AV) : Bool := match a, b with
  | .tok x, .tok y => Nat.beq x (100 * (i + 1) + 99) && Nat.beq y (if c % 2 = 0 then 100 * i + 96 else 100 * i + 99)
  | .uf .f64, .tok y => tfG y
  | _, _ => false

def lf : Code → Code | .seq a _ => a | c => c
def rg : Code → Code | .seq _ b => b | c => c
noncomputable def addR : Nat → Code | 0 => Tryz.f21.body.getD .skip | n + 1 => rg (addR n)
noncomputable def addPre : List Code := [lf (addR 0), lf (addR 1), lf (addR 2)]
theorem add_body : Tryz.f21.body = some (chain addPre (addR 3)) := by kernel_rfl
theorem add_tmps : Tryz.f21.ntmps - 2 = 96 := by kernel_rfl

def no2 (_ _ : AV) : Bool := false
def pp : AV := .p (some (0, 0))
/-- What the walk says of the first piece, where the capacity is the length, and where it is greater; of the rest, where the i-th number is a number (c = 10 + 2 i) or none (11 + 2 i). -/
noncomputable def preS (i c : Nat) (g : AH) : Bool := preAll (preM no2 3 (i + 1) (100 * i + 99) pp (.tok (100 * i + 6)) 96) (stepLM (envM Tryz.prog kitM c true) (run (envM Tryz.prog kitM c true) 60) (mR c) 21 addPre ⟨pp :: .tok (100 * i + 6) :: List.replicate 96 undefA, g⟩)
noncomputable def sayA (i c : Nat) : Bool := preS i c (gA i (100 * i + 99))
noncomputable def sayB (i c : Nat) : Bool := preS i c (gB i (100 * i + 99))
noncomputable def sayR (i c : Nat) : Bool := restM (envM Tryz.prog kitM c true) Tryz.f21 (pM c i) (gOut 3 (i + 1) (100 * (i + 1) + 99)) (stepCodeM (envM Tryz.prog kitM c true) (run (envM Tryz.prog kitM c true) 60) (mR c) 21 (addR 3) ⟨anyS pp (.tok (100 * i + 6)) 96, gOut 3 (i + 1) (100 * i + 99)⟩)
noncomputable def say0 (c : Nat) : Bool := retAll (finM (pM (10 + c) 0) 2 1 199) (mR (10 + c) (.call 21 [pp, .tok 6] (g0 99)))
end Go.Proofs.YtejljkdkhokmoaaGreatDoor
