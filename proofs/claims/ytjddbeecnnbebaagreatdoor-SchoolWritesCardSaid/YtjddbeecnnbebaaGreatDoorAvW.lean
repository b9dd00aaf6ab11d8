/-
  Surroundings with names.
-/
import Derived.Test.YtjddbeecnnbebaaGreatDoorAvV
namespace Go.Av
noncomputable section
set_option linter.unusedSimpArgs false
set_option linter.unusedVariables false
set_option linter.unusedSectionVars false
set_option maxRecDepth 20000
section fl
variable (fl : Nat → Fl)

theorem binA_and (P : Program) (t : TypeId) (a c : Nat) : binA P .and t (.i .u64 (a : Int)) (.i .u64 (c : Int)) = some (.i .u64 (IntKind.wrap .u64 ((BitVec.ofInt 64 (a : Int) &&& BitVec.ofInt 64 (c : Int)).toNat : Nat))) := rfl
theorem binA_or (P : Program) (t : TypeId) (a c : Nat) : binA P .or t (.i .u64 (a : Int)) (.i .u64 (c : Int)) = some (.i .u64 (IntKind.wrap .u64 ((BitVec.ofInt 64 (a : Int) ||| BitVec.ofInt 64 (c : Int)).toNat : Nat))) := rfl
theorem binA_andNot (P : Program) (t : TypeId) (a c : Nat) : binA P .andNot t (.i .u64 (a : Int)) (.i .u64 (c : Int)) = some (.i .u64 (IntKind.wrap .u64 ((BitVec.ofInt 64 (a : Int) &&& ~~~BitVec.ofInt 64 (c : Int)).toNat : Nat))) := rfl
theorem binA_eqU (P : Program) (t : TypeId) (a c : Nat) : binA P .eql t (.i .u64 (a : Int)) (.i .u64 (c : Int)) = some (.b ((a : Int) == (c : Int))) := rfl
theorem conc1 (a : Fl) : concV (flVal a 1) = .i .u64 (a.X : Int) := rfl
theorem conc2 (a : Fl) : concV (flVal a 2) = .i .u64 (a.K : Int) := rfl
theorem signN_eq : signN = 2 ^ 63 := rfl

theorem t1_ok {P : Program} {t : TypeId} {op : BinOp} {i r n : Nat} {v : AV} (hok : (fl i).Ok) (hr : r < 100) (e : t1 (fl i).neg op i r n = some v) :
    binA P op t (@conc (toks fl) (.tok (100 * i + r))) (.i .u64 (n : Int)) = some (@conc (toks fl) v) ∧ @Clear (toks fl) v := by
  rw [conc_fl fl i hr]
  have hlt := hok.lt
  have hs := hok.sgn
  have hk := hok.key
  unfold t1 at e
  split at e
  · split at e
    · rename_i hn; subst hn
      split at e
      · rename_i h; subst h; cases e
        refine ⟨?_, clear_lit fl (fun n e => by cases e)⟩
        rw [conc1, binA_and, and_bits, signN_eq]
        by_cases hx : 2 ^ 63 ≤ (fl i).X
        · have hn : (fl i).neg = true := by rw [hs]; simpa using hx
          rw [and_sign_neg hx hlt, hn, if_pos rfl, wrap_u64 (by decide)]; rfl
        · have hn : (fl i).neg = false := by rw [hs]; simpa using hx
          rw [and_sign_pos (by omega), hn, if_neg (by decide), wrap_u64 (by decide)]; rfl
      · split at e
        · rename_i h; subst h; cases e
          refine ⟨?_, clear_lit fl (fun n e => by cases e)⟩
          rw [conc2, binA_and, and_bits, signN_eq]
          by_cases hx : 2 ^ 63 ≤ (fl i).X
          · have hn : (fl i).neg = true := by rw [hs]; simpa using hx
            rw [hn] at hk
            have hk' : (fl i).K = 2 ^ 64 - 1 - (fl i).X := by simpa using hk
            rw [and_sign_pos (by omega), hn, if_pos rfl, wrap_u64 (by decide)]; rfl
          · have hn : (fl i).neg = false := by rw [hs]; simpa using hx
            rw [hn] at hk
            have hk' : (fl i).K = (fl i).X + 2 ^ 63 := by simpa using hk
            rw [and_sign_neg (by omega) (by omega), hn, if_neg (by decide), wrap_u64 (by decide)]; rfl
        · cases e
    · cases e
  · split at e
    · rename_i h
      obtain ⟨rfl, rfl, hn⟩ := h
      cases e
      have hx : ¬ 2 ^ 63 ≤ (fl i).X := by rw [hs] at hn; simpa using hn
      rw [hn] at hk
      have hk' : (fl i).K = (fl i).X + 2 ^ 63 := by simpa using hk
      refine ⟨?_, clear_fl fl (by decide) hok⟩
      rw [conc_fl fl i (by decide), conc1, conc2, binA_or, or_bits, signN_eq, or_sign (by omega), wrap_u64 (by omega), hk']
    · cases e
  · split at e
    · rename_i h
      obtain ⟨rfl, rfl⟩ := h
      cases e
      refine ⟨?_, clear_lit fl (fun n e => by cases e)⟩
      rw [conc2, binA_eqU]
      have hf := hok.fin
      have : (fl i).K ≠ noneN := by
        unfold noneN
        by_cases hx : 2 ^ 63 ≤ (fl i).X
        · have hn : (fl i).neg = true := by rw [hs]; simpa using hx
          rw [hn] at hk
          have hk' : (fl i).K = 2 ^ 64 - 1 - (fl i).X := by simpa using hk
          omega
        · have hn : (fl i).neg = false := by rw [hs]; simpa using hx
          rw [hn] at hk
          have hk' : (fl i).K = (fl i).X + 2 ^ 63 := by simpa using hk
          omega
      have h2 : ((((fl i).K : Nat) : Int) == ((noneN : Nat) : Int)) = false := by rw [beq_eq_false_iff_ne]; exact fun e => this (Int.ofNat.inj e)
      rw [h2]; rfl
    · cases e
  · split at e
    · rename_i h
      obtain ⟨rfl, rfl, hn⟩ := h
      cases e
      have hx : ¬ 2 ^ 63 ≤ (fl i).X := by rw [hs] at hn; simpa using hn
      rw [hn] at hk
      have hk' : (fl i).K = (fl i).X + 2 ^ 63 := by simpa using hk
      refine ⟨?_, clear_fl fl (by decide) hok⟩
      rw [conc_fl fl i (by decide), conc1, conc2, binA_andNot, hk', signN_eq, andNot_sign (by omega), wrap_u64 (by omega)]
    · cases e
  · cases e

theorem ts_ok {P : Program} {t : TypeId} {op : BinOp} {i r n : Nat} {k : IntKind} {v : AV} (hok : (fl i).Ok) (hr : r < 100) (e : ts op i r n = some v) :
    binA P op t (@conc (toks fl) (.tok (100 * i + r))) (.i k (n : Int)) = some (@conc (toks fl) v) ∧ @Clear (toks fl) v := by
  rw [conc_fl fl i hr]
  have hk := hok.klt
  unfold ts at e
  split at e
  · split at e
    · rename_i h
      obtain ⟨rfl, h8, hn⟩ := h
      cases e
      refine ⟨?_, clear_fl fl (by omega) hok⟩
      rw [conc_fl fl i (by omega), flVal_s (fl i) (r := 10 + n / 8) (by omega)]
      show (if (0 : Int) ≤ (n : Int) then some (AV.i .u64 ((((fl i).K : Nat) : Int).fdiv (2 ^ (min ((n : Int).toNat) 64)))) else none) = some (.i .u64 (((fl i).K / 2 ^ (8 * (10 + n / 8 - 10)) : Nat) : Int))
      rw [if_pos (by omega), show (min ((n : Int).toNat) 64) = n by simp; omega, show 8 * (10 + n / 8 - 10) = n by omega, Int.fdiv_eq_ediv_of_nonneg _ (Int.le_of_lt (Int.pow_pos (by decide)))]
      simp
    · cases e
  · split at e
    · rename_i h
      obtain ⟨h1, h2, rfl⟩ := h
      cases e
      obtain ⟨m, rfl⟩ : ∃ m, r = 40 + m := ⟨r - 40, by omega⟩
      refine ⟨?_, clear_fl fl (by omega) hok⟩
      rw [conc_fl fl i (by omega), flVal_p (fl i) (r := 40 + m) (by omega), flVal_q (fl i) (r := 40 + m + 10) (by omega)]
      rw [show 48 - (40 + m) = 8 - m by omega, show 58 - (40 + m + 10) = 8 - m by omega]
      have hle : (fl i).K / 2 ^ (8 * (8 - m)) * 256 ≤ (fl i).K := by
        have e1 : (fl i).K / 2 ^ (8 * (8 - m)) ≤ (fl i).K / 2 ^ 8 := Nat.div_le_div_left (Nat.pow_le_pow_right (by decide) (by omega)) (by decide)
        have e2 := Nat.div_mul_le_self (fl i).K (2 ^ 8)
        omega
      show (if (0 : Int) ≤ ((8 : Nat) : Int) then some (AV.i .u64 (IntKind.wrap .u64 ((((fl i).K / 2 ^ (8 * (8 - m)) : Nat) : Int) * 2 ^ (min (((8 : Nat) : Int).toNat) 64)))) else none) = some (.i .u64 (((fl i).K / 2 ^ (8 * (8 - m)) * 256 : Nat) : Int))
      rw [if_pos (by omega), show (min (((8 : Nat) : Int).toNat) 64) = 8 by rfl]
      rw [show ((((fl i).K / 2 ^ (8 * (8 - m)) : Nat) : Int) * 2 ^ 8) = (((fl i).K / 2 ^ (8 * (8 - m)) * 256 : Nat) : Int) by simp, wrap_u64 (by omega)]
    · cases e
  · cases e

theorem name_split (n : Nat) : 100 * (n / 100) + n % 100 = n := Nat.div_add_mod n 100

theorem tbT_ok {P : Program} (hok : ∀ i, (fl i).Ok) {op : BinOp} {t : TypeId} {x y r : AV} (e : tbT (fun i => (fl i).neg) op t x y = some r) :
    binA P op t (@conc (toks fl) x) (@conc (toks fl) y) = some (@conc (toks fl) r) ∧ @Clear (toks fl) r := by
  unfold tbT at e
  split at e
  · rename_i a b
    split at e
    · rename_i h
      have := t2_ok fl (P := P) (t := t) (hok (a / 100)) (Nat.mod_lt a (by decide)) (Nat.mod_lt b (by decide)) e
      rw [name_split, h, name_split] at this
      exact this
    · cases e
  · rename_i a k n
    split at e
    · rename_i r0 h
      cases e
      have := ts_ok fl (P := P) (t := t) (k := k) (hok (a / 100)) (Nat.mod_lt a (by decide)) h
      rw [name_split] at this
      exact this
    · split at e
      · rename_i hk; subst hk
        have := t1_ok fl (P := P) (t := t) (hok (a / 100)) (Nat.mod_lt a (by decide)) e
        rw [name_split] at this
        exact this
      · cases e
  · rename_i b
    split at e
    · split at e
      · rename_i hb
        cases e
        have o := hok (b / 100)
        have hk := o.klt
        refine ⟨?_, clear_fl fl (by decide) o⟩
        rw [conc_tok fl b, hb, conc_fl fl _ (by decide), flVal_w _ (by omega), flVal_p _ (by omega)]
        show some (AV.i .u64 (IntKind.wrap .u64 ((BitVec.ofInt 64 ((0 : Nat) : Int) ||| BitVec.ofInt 64 (((fl (b / 100)).K / 2 ^ (8 * (37 - 30)) % 256 : Nat) : Int)).toNat : Nat))) = some (.i .u64 (((fl (b / 100)).K / 2 ^ (8 * (48 - 41)) : Nat) : Int))
        rw [or_bits]
        have e1 : (fl (b / 100)).K / 2 ^ (8 * (37 - 30)) % 256 = (fl (b / 100)).K / 2 ^ (8 * (48 - 41)) := by
          show (fl (b / 100)).K / 2 ^ 56 % 256 = (fl (b / 100)).K / 2 ^ 56
          omega
        have e2 : (fl (b / 100)).K / 2 ^ (8 * (48 - 41)) < 256 := by
          show (fl (b / 100)).K / 2 ^ 56 < 256
          omega
        rw [e1, Nat.zero_mod, Nat.zero_or, Nat.mod_eq_of_lt (by omega), wrap_u64 (by omega)]
      · cases e
    · cases e
  · rename_i n b
    split at e
    · split at e
      · rename_i hb
        obtain ⟨rfl, hb⟩ := hb
        cases e
        have o := hok (b / 100)
        refine ⟨?_, clear_fl fl (by decide) o⟩
        rw [conc_tok fl b, hb, conc_fl fl _ (by decide)]
        show some (AV.f .f64 ((Ieee.double.div oneN (fl (b / 100)).X).getD _)) = some (.f .f64 (fl (b / 100)).inv)
        rw [o.inv]; rfl
      · cases e
    · cases e
  · cases e

theorem tuT_ok (hok : ∀ i, (fl i).Ok) {op : UnOp} {x r : AV} (e : tuT (fun i => (fl i).neg) op x = some r) :
    unA op (@conc (toks fl) x) = some (@conc (toks fl) r) ∧ @Clear (toks fl) r := by
  unfold tuT at e
  split at e
  · rename_i a
    have o := hok (a / 100)
    have hlt := o.lt
    have hkl := o.klt
    split at e
    · rename_i h
      split at e
      · rename_i hn
        have hn : (fl (a / 100)).neg = true := hn
        cases e
        have hk := o.key
        rw [hn] at hk
        have hk' : (fl (a / 100)).K = 2 ^ 64 - 1 - (fl (a / 100)).X := by simpa using hk
        refine ⟨?_, clear_fl fl (by decide) o⟩
        rw [conc_tok fl a, h, conc_fl fl _ (by decide)]
        show some (AV.i .u64 (IntKind.wrap .u64 ((BitVec.ofInt 64 (IntKind.u64.max) ^^^ BitVec.ofInt 64 (((fl (a / 100)).X : Nat) : Int)).toNat : Nat))) = some (.i .u64 (((fl (a / 100)).K : Nat) : Int))
        rw [not_bits hlt, wrap_u64 (by omega), hk']
      · cases e
    · split at e
      · rename_i h
        cases e
        refine ⟨?_, clear_fl fl (by decide) o⟩
        rw [conc_tok fl a, h, conc_fl fl _ (by decide)]
        show some (AV.i .u64 (IntKind.wrap .u64 ((BitVec.ofInt 64 (IntKind.u64.max) ^^^ BitVec.ofInt 64 (((fl (a / 100)).K : Nat) : Int)).toNat : Nat))) = some (.i .u64 ((2 ^ 64 - 1 - (fl (a / 100)).K : Nat) : Int))
        rw [not_bits hkl, wrap_u64 (by omega)]
      · cases e
  · cases e
end fl
end
end Go.Av
