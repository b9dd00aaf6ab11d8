/-
  The key of a number, the number of a key, the number with one NaN: what they answer.
-/
import Derived.Test.YtejljkdkhokmoaaGreatDoorBEnv
namespace Go.Proofs.YtejljkdkhokmoaaGreatDoor
open Go.Av
set_option maxRecDepth 1000000
theorem key_t : retIs (isTok 2) (run (envT Tryz.prog tabG.bare fun _ => true) 60 (.call 39 [.tok 0] emptyH)) = true := by kernel_rfl
theorem key_f : retIs (isTok 2) (run (envT Tryz.prog tabG.bare fun _ => false) 60 (.call 39 [.tok 0] emptyH)) = true := by kernel_rfl
theorem plain_t : retIs (isTok 0) (run (envT Tryz.prog tabG.bare fun _ => true) 60 (.call 120 [.tok 0] emptyH)) = true := by kernel_rfl
theorem plain_f : retIs (isTok 0) (run (envT Tryz.prog tabG.bare fun _ => false) 60 (.call 120 [.tok 0] emptyH)) = true := by kernel_rfl
theorem of_t : retIs (isPair (isTok 0)) (run (envT Tryz.prog tabG.bare fun _ => true) 60 (.call 175 [.tok 2] emptyH)) = true := by kernel_rfl
theorem of_f : retIs (isPair (isTok 0)) (run (envT Tryz.prog tabG.bare fun _ => false) 60 (.call 175 [.tok 2] emptyH)) = true := by kernel_rfl
def infN : Nat := 9218868437227405312
def minfN : Nat := 18442240474082181120
theorem key_i : retIs (isKey 18442240474082181120) (run (envN Tryz.prog tabG) 60 (.call 39 [.f .f64 infN] emptyH)) = true := by kernel_rfl
theorem plain_i : retIs (isFl infN) (run (envN Tryz.prog tabG) 60 (.call 120 [.f .f64 infN] emptyH)) = true := by kernel_rfl
theorem of_i : retIs (isPair (isFl infN)) (run (envN Tryz.prog tabG) 60 (.call 175 [.i .u64 ((18442240474082181120 : Nat) : Int)] emptyH)) = true := by kernel_rfl
theorem key_m : retIs (isKey 4503599627370495) (run (envN Tryz.prog tabG) 60 (.call 39 [.f .f64 minfN] emptyH)) = true := by kernel_rfl
theorem plain_m : retIs (isFl minfN) (run (envN Tryz.prog tabG) 60 (.call 120 [.f .f64 minfN] emptyH)) = true := by kernel_rfl
theorem of_m : retIs (isPair (isFl minfN)) (run (envN Tryz.prog tabG) 60 (.call 175 [.i .u64 ((4503599627370495 : Nat) : Int)] emptyH)) = true := by kernel_rfl
theorem key_n : retIs (isKey noneN) (run (envN Tryz.prog tabG) 60 (.call 39 [.f .f64 qN] emptyH)) = true := by kernel_rfl
theorem plain_n : retIs (isTok 6) (run (envN Tryz.prog tabG) 60 (.call 120 [.f .f64 qN] emptyH)) = true := by kernel_rfl
theorem of_n : retIs (isPair (isTok 6)) (run (envN Tryz.prog tabG) 60 (.call 175 [.i .u64 (noneN : Int)] emptyH)) = true := by kernel_rfl

/-- Each number has its names. -/
theorem gen_all {X : Nat} (h : X < 2 ^ 64) : ∃ a : Fl, a.X = X ∧ a.V = 0 ∧ a.Gen Tryz.prog 39 175 120 := by
  by_cases hf : X % 2 ^ 63 < 2047 * 2 ^ 52
  · exact gen_fin good_mixed good_bits good_fromBits (fun neg => by cases neg; exact key_f; exact key_t) (fun neg => by cases neg; exact plain_f; exact plain_t) (fun neg => by cases neg; exact of_f; exact of_t) h hf
  · by_cases h1 : X = infN
    · subst h1; exact gen_inf good_mixed good_bits good_fromBits (by decide) (by decide) key_i plain_i of_i
    · by_cases h2 : X = minfN
      · subst h2; exact gen_inf good_mixed good_bits good_fromBits (by decide) (by decide) key_m plain_m of_m
      · refine gen_nan good_mixed good_bits good_fromBits ?_ key_n plain_n of_n
        show (Ieee.double.read X).isNaN = true
        unfold Ieee.Format.read
        have e1 : Ieee.double.signWeight = 2 ^ 63 := by decide
        have e2 : Ieee.double.infRung = 2047 * 2 ^ 52 := by decide
        have e3 : Ieee.double.binade = 2 ^ 52 := by decide
        simp only [e1, e2, e3]
        unfold infN at h1
        unfold minfN at h2
        have h4 : ¬ X % 2 ^ 63 = 2047 * 2 ^ 52 := by omega
        rw [if_neg (by omega), if_neg hf, if_neg h4]; rfl
theorem draws_G (c : Nat) : ((tabG.win.map (·.1)).all fun f => drawCheck (EG c) f) = true := by kernel_rfl
end Go.Proofs.YtejljkdkhokmoaaGreatDoor
