/-
  A meter's Add in any heap, whatever the numbers: the small heaps' walks put together; the surroundings of the law, in order.
-/
import Derived.Test.YtejljkdkhokmoaaGreatDoorMetK0
import Derived.Test.YtejljkdkhokmoaaGreatDoorMetK1
import Derived.Test.YtejljkdkhokmoaaGreatDoorMetK2
import Derived.Test.YtejljkdkhokmoaaGreatDoorMetK3
import Derived.Test.YtejljkdkhokmoaaGreatDoorMetK4
import Derived.Test.YtejljkdkhokmoaaGreatDoorMetK5
import Derived.Test.YtejljkdkhokmoaaGreatDoorBGood
namespace Go.Proofs.YtejljkdkhokmoaaGreatDoor
open Go.Av
set_option maxRecDepth 1000000
set_option linter.unusedSimpArgs false

theorem all_A : ∀ i, 0 < i → i < 20 → ∀ c, sayA i c = true := by
  intro i h1 h2
  have h : i = 1 ∨ i = 2 ∨ i = 3 ∨ i = 4 ∨ i = 5 ∨ i = 6 ∨ i = 7 ∨ i = 8 ∨ i = 9 ∨ i = 10 ∨ i = 11 ∨ i = 12 ∨ i = 13 ∨ i = 14 ∨ i = 15 ∨ i = 16 ∨ i = 17 ∨ i = 18 ∨ i = 19 := by omega
  rcases h with rfl | rfl | rfl | rfl | rfl | rfl | rfl | rfl | rfl | rfl | rfl | rfl | rfl | rfl | rfl | rfl | rfl | rfl | rfl
  · exact sA1
  · exact sA2
  · exact sA3
  · exact sA4
  · exact sA5
  · exact sA6
  · exact sA7
  · exact sA8
  · exact sA9
  · exact sA10
  · exact sA11
  · exact sA12
  · exact sA13
  · exact sA14
  · exact sA15
  · exact sA16
  · exact sA17
  · exact sA18
  · exact sA19
theorem all_B : ∀ i, 0 < i → i < 20 → ∀ c, sayB i c = true := by
  intro i h1 h2
  have h : i = 1 ∨ i = 2 ∨ i = 3 ∨ i = 4 ∨ i = 5 ∨ i = 6 ∨ i = 7 ∨ i = 8 ∨ i = 9 ∨ i = 10 ∨ i = 11 ∨ i = 12 ∨ i = 13 ∨ i = 14 ∨ i = 15 ∨ i = 16 ∨ i = 17 ∨ i = 18 ∨ i = 19 := by omega
  rcases h with rfl | rfl | rfl | rfl | rfl | rfl | rfl | rfl | rfl | rfl | rfl | rfl | rfl | rfl | rfl | rfl | rfl | rfl | rfl
  · exact sB1
  · exact sB2
  · exact sB3
  · exact sB4
  · exact sB5
  · exact sB6
  · exact sB7
  · exact sB8
  · exact sB9
  · exact sB10
  · exact sB11
  · exact sB12
  · exact sB13
  · exact sB14
  · exact sB15
  · exact sB16
  · exact sB17
  · exact sB18
  · exact sB19
theorem all_R : ∀ i, 0 < i → i < 20 → sayR i (10 + 2 * i) = true := by
  intro i h1 h2
  have h : i = 1 ∨ i = 2 ∨ i = 3 ∨ i = 4 ∨ i = 5 ∨ i = 6 ∨ i = 7 ∨ i = 8 ∨ i = 9 ∨ i = 10 ∨ i = 11 ∨ i = 12 ∨ i = 13 ∨ i = 14 ∨ i = 15 ∨ i = 16 ∨ i = 17 ∨ i = 18 ∨ i = 19 := by omega
  rcases h with rfl | rfl | rfl | rfl | rfl | rfl | rfl | rfl | rfl | rfl | rfl | rfl | rfl | rfl | rfl | rfl | rfl | rfl | rfl
  · exact sR1
  · exact sR2
  · exact sR3
  · exact sR4
  · exact sR5
  · exact sR6
  · exact sR7
  · exact sR8
  · exact sR9
  · exact sR10
  · exact sR11
  · exact sR12
  · exact sR13
  · exact sR14
  · exact sR15
  · exact sR16
  · exact sR17
  · exact sR18
  · exact sR19
theorem all_Q : ∀ i, 0 < i → i < 20 → sayR i (11 + 2 * i) = true := by
  intro i h1 h2
  have h : i = 1 ∨ i = 2 ∨ i = 3 ∨ i = 4 ∨ i = 5 ∨ i = 6 ∨ i = 7 ∨ i = 8 ∨ i = 9 ∨ i = 10 ∨ i = 11 ∨ i = 12 ∨ i = 13 ∨ i = 14 ∨ i = 15 ∨ i = 16 ∨ i = 17 ∨ i = 18 ∨ i = 19 := by omega
  rcases h with rfl | rfl | rfl | rfl | rfl | rfl | rfl | rfl | rfl | rfl | rfl | rfl | rfl | rfl | rfl | rfl | rfl | rfl | rfl
  · exact sQ1
  · exact sQ2
  · exact sQ3
  · exact sQ4
  · exact sQ5
  · exact sQ6
  · exact sQ7
  · exact sQ8
  · exact sQ9
  · exact sQ10
  · exact sQ11
  · exact sQ12
  · exact sQ13
  · exact sQ14
  · exact sQ15
  · exact sQ16
  · exact sQ17
  · exact sQ18
  · exact sQ19

section
variable (fl : Nat → Fl)

theorem no2_less [Toks] : Less no2 := fun _ _ h => by cases h

theorem base_good (hq : ∀ i, QCls (fl i)) : @EnvGood (toks fl) (envM Tryz.prog kitM0 0 false) := by
  letI := toks fl
  exact envM_good fl hq (fun h => absurd h (by decide)) (tS := 70) (tR := 4) (e := 35) (es0 := 1) Tryz.underlying70 (fun w => run_szA sz35) ovM_is good_mixed bitsM_is fromBitsM_is (by kernel_rfl) (fun h => by cases h)

theorem meterEnv_good (hq : ∀ i, QCls (fl i)) {c : Nat} (hn : NanCls fl c) : @EnvGood (toks fl) (envM Tryz.prog kitM c true) := by
  letI := toks fl
  exact envM_good fl hq hn (tS := 70) (tR := 4) (e := 35) (es0 := 1) Tryz.underlying70 (fun w => run_szA sz35) ovM_is good_mixed bitsM_is fromBitsM_is (draws_t c)
    (fun _ f g hg args bs h v ha hp e hv => phM_ok fl (K := kitM) (K0 := kitM0) (base_good fl hq) (n := 200) key_M min_M max_M f g hg args bs h v ha hp e hv)

theorem pM_less (hct : Counts fl) {c i : Nat} (hcls : isNan (fl i).X = (c % 2 == 1)) : @Less (toks fl) (pM c i) := by
  letI := toks fl
  intro a b h
  unfold pM at h
  split at h
  · rename_i x y
    rw [Bool.and_eq_true] at h
    have h1 : x = 100 * (i + 1) + 99 := Nat.eq_of_beq_eq_true h.1
    have h2 : y = if c % 2 = 0 then 100 * i + 96 else 100 * i + 99 := Nat.eq_of_beq_eq_true h.2
    refine ⟨rfl, fun I Z v hv => ?_⟩
    have e1 : Toks.val x = .int .i64 (fl (i + 1)).V := by
      subst h1
      show flVal (fl ((100 * (i + 1) + 99) / 100)) ((100 * (i + 1) + 99) % 100) = _
      rw [show (100 * (i + 1) + 99) / 100 = i + 1 by omega, show (100 * (i + 1) + 99) % 100 = 99 by omega]; rfl
    have e2 : Toks.val y = .int .i64 (fl (i + 1)).V := by
      rw [hct.2 i, hcls]
      by_cases hc : c % 2 = 0
      · rw [if_pos hc] at h2
        subst h2
        show flVal (fl ((100 * i + 96) / 100)) ((100 * i + 96) % 100) = _
        rw [show (100 * i + 96) / 100 = i by omega, show (100 * i + 96) % 100 = 96 by omega, hc]; rfl
      · rw [if_neg hc] at h2
        subst h2
        show flVal (fl ((100 * i + 99) / 100)) ((100 * i + 99) % 100) = _
        rw [show (100 * i + 99) / 100 = i by omega, show (100 * i + 99) % 100 = 99 by omega, show c % 2 = 1 by omega]; rfl
    cases hv with
    | tok _ _ e => exact .tok _ _ (e1.trans (e2.symm.trans e))
  · rename_i y
    refine ⟨rfl, fun I Z v hv => ?_⟩
    obtain ⟨b, hb⟩ := tfG_ok fl y h
    cases hv with
    | tok _ _ e => rw [← e, hb]; exact .uf _ _
  · cases h

theorem half [Toks] {c i : Nat} {g : AH} (hE : EnvGood (envM Tryz.prog kitM c true)) (hp : Less (pM c i)) (h : preS i c g = true) (hr : sayR i c = true) :
    CallOk (envM Tryz.prog kitM c true) 21 [.p (some (0, 0)), .tok (100 * i + 6)] g (.tup []) (gOut 3 (i + 1) (100 * (i + 1) + 99)) := by
  unfold preS mR mRun at h
  unfold sayR mR mRun at hr
  exact add2_ok (E := envM Tryz.prog kitM c true) (m := walksM kitM true) (wk := fun f => Nat.beq f kitM.bs) (d := 60) (nn := 200) (p := pM c i) (f := 21) (fn := Tryz.f21) (ps := addPre) (z := addR 3) (x := pp) (y := .tok (100 * i + 6)) (h1 := g) (K := 3) (k := i + 1) (a := 100 * i + 99) (a' := 100 * (i + 1) + 99) (N := 96) (q := no2) hE hp (Nat.succ_pos i) (by decide) Tryz.func21 add_body no2_less add_tmps h hr

theorem add_small (hq : ∀ i, QCls (fl i)) (hct : Counts fl) (i : Nat) (h1 : 0 < i) (h2 : i < 20) : @CallOk (toks fl) (envM Tryz.prog kitM 0 true) 21 [.p (some (0, 0)), .tok (100 * i + 6)] (gN i (100 * i + 99)) (.tup []) (gOut 3 (i + 1) (100 * (i + 1) + 99)) := by
  letI := toks fl
  have go : ∀ c, NanCls fl c → isNan (fl i).X = (c % 2 == 1) → sayR i c = true → CallOk (envM Tryz.prog kitM 0 true) 21 [.p (some (0, 0)), .tok (100 * i + 6)] (gN i (100 * i + 99)) (.tup []) (gOut 3 (i + 1) (100 * (i + 1) + 99)) := fun c hn hcls hr => by
    have hE := meterEnv_good fl hq hn
    have hp := pM_less fl hct hcls
    refine CallOk.of (E := envM Tryz.prog kitM c true) rfl rfl (addN_ok h1 ?_ ?_)
    · have hA := all_A i h1 h2 c
      unfold sayA at hA
      exact half hE hp hA hr
    · have hB := all_B i h1 h2 c
      unfold sayB at hB
      exact half hE hp hB hr
  cases hx : isNan (fl i).X with
  | false =>
    refine go (10 + 2 * i) (fun _ => ?_) ?_ (all_R i h1 h2)
    · rw [show (10 + 2 * i - 10) / 2 = i by omega, hx, show (10 + 2 * i) % 2 = 0 by omega]; rfl
    · rw [hx, show (10 + 2 * i) % 2 = 0 by omega]; rfl
  | true =>
    refine go (11 + 2 * i) (fun _ => ?_) ?_ (all_Q i h1 h2)
    · rw [show (11 + 2 * i - 10) / 2 = i by omega, hx, show (11 + 2 * i) % 2 = 1 by omega]; rfl
    · rw [hx, show (11 + 2 * i) % 2 = 1 by omega]; rfl

theorem add_first (hq : ∀ i, QCls (fl i)) (hct : Counts fl) : @CallOk (toks fl) (envM Tryz.prog kitM 0 true) 21 [.p (some (0, 0)), .tok 6] (g0 99) (.tup []) (gOut 2 1 199) := by
  letI := toks fl
  have go : ∀ c, NanCls fl (10 + c) → isNan (fl 0).X = ((10 + c) % 2 == 1) → say0 c = true → CallOk (envM Tryz.prog kitM 0 true) 21 [.p (some (0, 0)), .tok 6] (g0 99) (.tup []) (gOut 2 1 199) := fun c hn hcls hr => by
    have hE := meterEnv_good fl hq hn
    have hp := pM_less fl hct hcls
    unfold say0 at hr
    obtain ⟨l, e1, e2⟩ := retAll_of hr
    unfold mR mRun at e1
    exact CallOk.of (E := envM Tryz.prog kitM (10 + c) true) rfl rfl (add0_ok (f := 21) hp ((runM_ok hE (walksM kitM true) (fun f => Nat.beq f kitM.bs) 60 200).1 21 [pp, .tok 6] (g0 99) l e1) e2)
  cases hx : isNan (fl 0).X with
  | false => exact go 0 (fun _ => hx) hx s0_0
  | true => exact go 1 (fun _ => hx) hx s0_1

theorem EG_good (hg : ∀ i, (fl i).Gen Tryz.prog 39 175 120) (hct : Counts fl) : @EnvGood (toks fl) (EG 4) := by
  letI := toks fl
  exact envG_good fl hg (fun _ => .inl (.inr (.inl rfl))) (fun h => absurd h (by decide)) (fun _ => hct) (EI := envM Tryz.prog kitM 0 true) rfl (fun _ => rfl)
    (fun args h v h' e => @addH_ok (toks fl) _ (fun _ => rfl) (pE_less fl hct.1) _ _ (add_first fl (fun i => (hg i).cl) hct) (add_small fl (fun i => (hg i).cl) hct) _ _ _ _ e)
    good_mixed good_bits good_fromBits (by kernel_rfl) (by decide) (by decide) (by decide) (draws_G 4)
end
end Go.Proofs.YtejljkdkhokmoaaGreatDoor
