/-
  Names for a number with a point of which the bits are not known: its bits, its key, the key's eight bytes, and what operations on these come to.
-/
import Derived.Test.YtjddbeecnnbebaaGreatDoorAv20
namespace Go.Av
noncomputable section
set_option linter.unusedSimpArgs false
set_option linter.unusedVariables false
set_option maxRecDepth 20000

theorem and_bits (a c : Nat) : (BitVec.ofInt 64 (a : Int) &&& BitVec.ofInt 64 (c : Int)).toNat = (a % 2 ^ 64) &&& (c % 2 ^ 64) := by simp [BitVec.ofInt_natCast]
theorem or_bits (a c : Nat) : (BitVec.ofInt 64 (a : Int) ||| BitVec.ofInt 64 (c : Int)).toNat = (a % 2 ^ 64) ||| (c % 2 ^ 64) := by simp [BitVec.ofInt_natCast]

theorem wrap_u64 {n : Nat} (h : n < 2 ^ 64) : IntKind.wrap .u64 (n : Int) = n := by
  simp [IntKind.wrap, IntKind.bits, IntKind.signed]
  omega
theorem wrap_u8 (n : Nat) : IntKind.wrap .u8 (n : Int) = ((n % 256 : Nat) : Int) := by
  simp [IntKind.wrap, IntKind.bits, IntKind.signed]

theorem and_top (X : Nat) : X &&& 2 ^ 63 = if X.testBit 63 = true then 2 ^ 63 else 0 := by
  apply Nat.eq_of_testBit_eq
  intro i
  rw [Nat.testBit_and, Nat.testBit_two_pow]
  by_cases h : 63 = i
  · subst h
    cases e : X.testBit 63 with
    | true => rw [if_pos rfl, Nat.testBit_two_pow]; rfl
    | false => rw [if_neg (by simp), Nat.zero_testBit]; rfl
  · rw [show decide (63 = i) = false by simpa using h, Bool.and_false]
    split
    · rw [Nat.testBit_two_pow]; simpa using h
    · rw [Nat.zero_testBit]

theorem and_sign_pos {X : Nat} (h : X < 2 ^ 63) : (X % 2 ^ 64) &&& (2 ^ 63 % 2 ^ 64) = 0 := by
  rw [Nat.mod_eq_of_lt (by omega), Nat.mod_eq_of_lt (by decide), and_top, Nat.testBit_lt_two_pow h]; rfl
theorem and_sign_neg {X : Nat} (h : 2 ^ 63 ≤ X) (h2 : X < 2 ^ 64) : (X % 2 ^ 64) &&& (2 ^ 63 % 2 ^ 64) = 2 ^ 63 := by
  rw [Nat.mod_eq_of_lt h2, Nat.mod_eq_of_lt (by decide), and_top]
  have : X.testBit 63 = true := by
    rw [Nat.testBit_eq_decide_div_mod_eq]
    have : X / 2 ^ 63 = 1 := by omega
    simp [this]
  rw [this]; rfl
theorem or_sign {X : Nat} (h : X < 2 ^ 63) : (X % 2 ^ 64) ||| (2 ^ 63 % 2 ^ 64) = X + 2 ^ 63 := by
  rw [Nat.mod_eq_of_lt (by omega), Nat.mod_eq_of_lt (by decide), Nat.or_comm]
  have := Nat.two_pow_add_eq_or_of_lt h 1
  rw [Nat.mul_one] at this
  omega
theorem or_byte {a b : Nat} (h : b < 256) (ha : a * 256 + b < 2 ^ 64) : ((a * 256) % 2 ^ 64) ||| (b % 2 ^ 64) = a * 256 + b := by
  rw [Nat.mod_eq_of_lt (by omega), Nat.mod_eq_of_lt (by omega)]
  have := Nat.two_pow_add_eq_or_of_lt (i := 8) (show b < 2 ^ 8 from h) a
  rw [Nat.mul_comm a 256]
  exact this.symm
theorem not_bits {X : Nat} (h : X < 2 ^ 64) : (BitVec.ofInt 64 (IntKind.u64.max) ^^^ BitVec.ofInt 64 (X : Int)).toNat = 2 ^ 64 - 1 - X := by
  have e : BitVec.ofInt 64 (IntKind.u64.max) = BitVec.allOnes 64 := by decide +kernel
  rw [e, BitVec.allOnes_xor, BitVec.toNat_not, BitVec.ofInt_natCast, BitVec.toNat_ofNat, Nat.mod_eq_of_lt h]
theorem andNot_sign {X : Nat} (h : X < 2 ^ 63) : (BitVec.ofInt 64 ((X + 2 ^ 63 : Nat) : Int) &&& ~~~BitVec.ofInt 64 ((2 ^ 63 : Nat) : Int)).toNat = X := by
  rw [BitVec.toNat_and, BitVec.toNat_not, BitVec.ofInt_natCast, BitVec.ofInt_natCast, BitVec.toNat_ofNat, BitVec.toNat_ofNat, Nat.mod_eq_of_lt (by omega), Nat.mod_eq_of_lt (by decide)]
  have e : 2 ^ 64 - 1 - 2 ^ 63 = 2 ^ 63 - 1 := by decide
  rw [e, Nat.and_two_pow_sub_one_eq_mod]
  omega

theorem finite_number {X : Nat} (h : X % 2 ^ 63 < 2047 * 2 ^ 52) : ∃ s m e, Ieee.double.read X = .number s m e := by
  unfold Ieee.Format.read
  have e1 : Ieee.double.signWeight = 2 ^ 63 := by decide
  have e2 : Ieee.double.infRung = 2047 * 2 ^ 52 := by decide
  simp only [e1, e2]
  split
  · exact ⟨_, _, _, rfl⟩
  · exact ⟨_, _, _, rfl⟩

theorem word_read {s : Bool} {r : Nat} (h : r ≤ 2047 * 2 ^ 52) : (Ieee.double.read (Ieee.double.word s r)).isNaN = false := by
  unfold Ieee.Format.read Ieee.Format.word
  have e1 : Ieee.double.signWeight = 2 ^ 63 := by decide
  have e2 : Ieee.double.infRung = 2047 * 2 ^ 52 := by decide
  simp only [e1, e2]
  have e3 : (if s = true then 2 ^ 63 + r else r) % 2 ^ 63 = r := by split <;> omega
  rw [e3]
  split
  · rfl
  · split
    · rfl
    · rw [if_pos (by omega)]; rfl

theorem write_read {d : Ieee.Datum} (h : d.isNaN = false) : (Ieee.double.read (Ieee.double.write d)).isNaN = false := by
  have e2 : Ieee.double.infRung = 2047 * 2 ^ 52 := by decide
  cases d with
  | nan => cases h
  | infinity s => exact word_read (by rw [e2]; exact Nat.le_refl _)
  | number s m p =>
    show (Ieee.double.read (Ieee.double.nearest s m p)).isNaN = false
    unfold Ieee.Format.nearest
    split
    · exact word_read (Nat.zero_le _)
    · refine word_read ?_
      rw [e2]
      exact Nat.min_le_right _ _

def oneF : Nat := 0x3FF0000000000000

/-- One, by a number: some number. -/
theorem div_one {X : Nat} (h : X % 2 ^ 63 < 2047 * 2 ^ 52) : ∃ r, Ieee.double.div oneF X = some r ∧ (Ieee.double.read r).isNaN = false := by
  obtain ⟨s, m, e, hr⟩ := finite_number h
  have h1 : Ieee.double.read oneF = .number false (2 ^ 52) (-52) := by decide
  unfold Ieee.Format.div
  rw [h1, hr]
  unfold Ieee.Datum.quotient
  simp only
  by_cases hm : m = 0
  · rw [if_pos hm, if_neg (by decide)]
    exact ⟨_, rfl, write_read rfl⟩
  · rw [if_neg hm]
    exact ⟨_, rfl, write_read rfl⟩

theorem order_self {r : Nat} (h : (Ieee.double.read r).isNaN = false) : Ieee.double.order r r = some .eq := by
  unfold Ieee.Format.order
  cases e : Ieee.double.read r with
  | nan => rw [e] at h; cases h
  | infinity s => simp [Ieee.Datum.order]
  | number s m p => simp [Ieee.Datum.order]
end
end Go.Av
