/-
  Names for a number with a point of which the bits are not known: its bits, its key, the key's eight bytes, and what operations on these come to. The tables of names: 100 * i + r, for the i-th number with a point: r = 0 the number, 1 its bits, 2 its key, 3 the key's other bits, 5 one by it, 10.. the key moved down by bytes, 20.. its bytes, 30.. these as wide numbers, 41.. its upper bytes, 51.. these moved up. The tables of names say what the model does. Surroundings with names. Surroundings with names, in order.
-/
import Derived.Test.YtejljkdkhokmoaaGreatDoorAv20
import Derived.Test.YtejljkdkhokmoaaGreatDoorAv11
import Derived.Test.YtejljkdkhokmoaaGreatDoorAvF
namespace Go.Av
noncomputable section
set_option linter.unusedSimpArgs false
set_option linter.unusedVariables false
set_option maxRecDepth 20000

theorem and_bits (a c : Nat) : (BitVec.ofInt 64 (a : Int) &&& BitVec.ofInt 64 (c : Int)).toNat = (a % 2 ^ 64) &&& (c % 2 ^ 64) := by simp [BitVec.ofInt_natCast]
theorem or_bits (a c : Nat) : (BitVec.ofInt 64 (a : Int) ||| BitVec.ofInt 64 (c : Int)).toNat = (a % 2 ^ 64) ||| (c % 2 ^ 64) := by simp [BitVec.ofInt_natCast]

theorem wrap_u64 {n : Nat} (h : n < 2 ^ 64) : IntKind.wrap .u64 (n : Int) = n := by
  simp [IntKind.wrap, IntKind.bits, IntKind.signed]
  omega
theorem wrap_u8 (n : Nat) : IntKind.wrap .u8 (n : Int) = ((n % 256 : Nat) : Int) := by
  simp [IntKind.wrap, IntKind.bits, IntKind.signed]

theorem and_top (X : Nat) : X &&& 2 ^ 63 = if X.testBit 63 = true then 2 ^ 63 else 0 := by
  apply Nat.eq_of_testBit_eq
  intro i
  rw [Nat.testBit_and, Nat.testBit_two_pow]
  by_cases h : 63 = i
  · subst h
    cases e : X.testBit 63 with
    | true => rw [if_pos rfl, Nat.testBit_two_pow]; rfl
    | false => rw [if_neg (by simp), Nat.zero_testBit]; rfl
  · rw [show decide (63 = i) = false by simpa using h, Bool.and_false]
    split
    · rw [Nat.testBit_two_pow]; simpa using h
    · rw [Nat.zero_testBit]

theorem and_sign_pos {X : Nat} (h : X < 2 ^ 63) : (X % 2 ^ 64) &&& (2 ^ 63 % 2 ^ 64) = 0 := by
  rw [Nat.mod_eq_of_lt (by omega), Nat.mod_eq_of_lt (by decide), and_top, Nat.testBit_lt_two_pow h]; rfl
theorem and_sign_neg {X : Nat} (h : 2 ^ 63 ≤ X) (h2 : X < 2 ^ 64) : (X % 2 ^ 64) &&& (2 ^ 63 % 2 ^ 64) = 2 ^ 63 := by
  rw [Nat.mod_eq_of_lt h2, Nat.mod_eq_of_lt (by decide), and_top]
  have : X.testBit 63 = true := by
    rw [Nat.testBit_eq_decide_div_mod_eq]
    have : X / 2 ^ 63 = 1 := by omega
    simp [this]
  rw [this]; rfl
theorem or_sign {X : Nat} (h : X < 2 ^ 63) : (X % 2 ^ 64) ||| (2 ^ 63 % 2 ^ 64) = X + 2 ^ 63 := by
  rw [Nat.mod_eq_of_lt (by omega), Nat.mod_eq_of_lt (by decide), Nat.or_comm]
  have := Nat.two_pow_add_eq_or_of_lt h 1
  rw [Nat.mul_one] at this
  omega
theorem or_byte {a b : Nat} (h : b < 256) (ha : a * 256 + b < 2 ^ 64) : ((a * 256) % 2 ^ 64) ||| (b % 2 ^ 64) = a * 256 + b := by
  rw [Nat.mod_eq_of_lt (by omega), Nat.mod_eq_of_lt (by omega)]
  have := Nat.two_pow_add_eq_or_of_lt (i := 8) (show b < 2 ^ 8 from h) a
  rw [Nat.mul_comm a 256]
  exact this.symm
theorem not_bits {X : Nat} (h : X < 2 ^ 64) : (BitVec.ofInt 64 (IntKind.u64.max) ^^^ BitVec.ofInt 64 (X : Int)).toNat = 2 ^ 64 - 1 - X := by
  have e : BitVec.ofInt 64 (IntKind.u64.max) = BitVec.allOnes 64 := by decide +kernel
  rw [e, BitVec.allOnes_xor, BitVec.toNat_not, BitVec.ofInt_natCast, BitVec.toNat_ofNat, Nat.mod_eq_of_lt h]
theorem andNot_sign {X : Nat} (h : X < 2 ^ 63) : (BitVec.ofInt 64 ((X + 2 ^ 63 : Nat) : Int) &&& ~~~BitVec.ofInt 64 ((2 ^ 63 : Nat) : Int)).toNat = X := by
  rw [BitVec.toNat_and, BitVec.toNat_not, BitVec.ofInt_natCast, BitVec.ofInt_natCast, BitVec.toNat_ofNat, BitVec.toNat_ofNat, Nat.mod_eq_of_lt (by omega), Nat.mod_eq_of_lt (by decide)]
  have e : 2 ^ 64 - 1 - 2 ^ 63 = 2 ^ 63 - 1 := by decide
  rw [e, Nat.and_two_pow_sub_one_eq_mod]
  omega

theorem finite_number {X : Nat} (h : X % 2 ^ 63 < 2047 * 2 ^ 52) : ∃ s m e, Ieee.double.read X = .number s m e := by
  unfold Ieee.Format.read
  have e1 : Ieee.double.signWeight = 2 ^ 63 := by decide
  have e2 : Ieee.double.infRung = 2047 * 2 ^ 52 := by decide
  simp only [e1, e2]
  split
  · exact ⟨_, _, _, rfl⟩
  · exact ⟨_, _, _, rfl⟩

theorem word_read {s : Bool} {r : Nat} (h : r ≤ 2047 * 2 ^ 52) : (Ieee.double.read (Ieee.double.word s r)).isNaN = false := by
  unfold Ieee.Format.read Ieee.Format.word
  have e1 : Ieee.double.signWeight = 2 ^ 63 := by decide
  have e2 : Ieee.double.infRung = 2047 * 2 ^ 52 := by decide
  simp only [e1, e2]
  have e3 : (if s = true then 2 ^ 63 + r else r) % 2 ^ 63 = r := by split <;> omega
  rw [e3]
  split
  · rfl
  · split
    · rfl
    · rw [if_pos (by omega)]; rfl

theorem write_read {d : Ieee.Datum} (h : d.isNaN = false) : (Ieee.double.read (Ieee.double.write d)).isNaN = false := by
  have e2 : Ieee.double.infRung = 2047 * 2 ^ 52 := by decide
  cases d with
  | nan => cases h
  | infinity s => exact word_read (by rw [e2]; exact Nat.le_refl _)
  | number s m p =>
    show (Ieee.double.read (Ieee.double.nearest s m p)).isNaN = false
    unfold Ieee.Format.nearest
    split
    · exact word_read (Nat.zero_le _)
    · refine word_read ?_
      rw [e2]
      exact Nat.min_le_right _ _

def oneF : Nat := 0x3FF0000000000000

/-- One, by a number: some number. -/
theorem div_one {X : Nat} (h : X % 2 ^ 63 < 2047 * 2 ^ 52) : ∃ r, Ieee.double.div oneF X = some r ∧ (Ieee.double.read r).isNaN = false := by
  obtain ⟨s, m, e, hr⟩ := finite_number h
  have h1 : Ieee.double.read oneF = .number false (2 ^ 52) (-52) := by decide
  unfold Ieee.Format.div
  rw [h1, hr]
  unfold Ieee.Datum.quotient
  simp only
  by_cases hm : m = 0
  · rw [if_pos hm, if_neg (by decide)]
    exact ⟨_, rfl, write_read rfl⟩
  · rw [if_neg hm]
    exact ⟨_, rfl, write_read rfl⟩

theorem order_self {r : Nat} (h : (Ieee.double.read r).isNaN = false) : Ieee.double.order r r = some .eq := by
  unfold Ieee.Format.order
  cases e : Ieee.double.read r with
  | nan => rw [e] at h; cases h
  | infinity s => simp [Ieee.Datum.order]
  | number s m p => simp [Ieee.Datum.order]
end
end Go.Av

namespace Go.Av
noncomputable section
set_option linter.unusedSimpArgs false
set_option linter.unusedVariables false

def signN : Nat := 9223372036854775808
def noneN : Nat := 18446744073709551615
def oneN : Nat := 4607182418800017408

def t2 (op : BinOp) (i r s : Nat) : Option AV :=
  match op with
  | .neq => if r = 0 ∧ s = 0 then some (.b false) else none
  | .eql => if (r = 0 ∧ s = 0) ∨ (r = 5 ∧ s = 5) then some (.b true) else none
  | .or => if 51 ≤ r ∧ r ≤ 57 ∧ r + s = 87 then some (if r = 57 then .tok (100 * i + 2) else .tok (100 * i + (r - 9))) else none
  | _ => none

def t1 (neg : Bool) (op : BinOp) (i r n : Nat) : Option AV :=
  match op with
  | .and => if n = signN then (if r = 1 then some (.i .u64 (if neg then signN else (0 : Nat))) else if r = 2 then some (.i .u64 (if neg then (0 : Nat) else signN)) else none) else none
  | .or => if n = signN ∧ r = 1 ∧ neg = false then some (.tok (100 * i + 2)) else none
  | .eql => if n = noneN ∧ r = 2 then some (.b false) else none
  | .andNot => if n = signN ∧ r = 2 ∧ neg = false then some (.tok (100 * i + 1)) else none
  | _ => none

/-- By a count. -/
def ts (op : BinOp) (i r n : Nat) : Option AV :=
  match op with
  | .shr => if r = 2 ∧ n % 8 = 0 ∧ n < 64 then some (.tok (100 * i + (10 + n / 8))) else none
  | .shl => if 41 ≤ r ∧ r ≤ 47 ∧ n = 8 then some (.tok (100 * i + (r + 10))) else none
  | _ => none

def tbT (neg : Nat → Bool) (op : BinOp) (_ : TypeId) (x y : AV) : Option AV :=
  match x, y with
  | .tok a, .tok b => if a / 100 = b / 100 then t2 op (a / 100) (a % 100) (b % 100) else none
  | .tok a, .i k (.ofNat n) => match ts op (a / 100) (a % 100) n with
    | some r => some r
    | none => if k = .u64 then t1 (neg (a / 100)) op (a / 100) (a % 100) n else none
  | .i .u64 (.ofNat 0), .tok b => match op with
    | .or => if b % 100 = 37 then some (.tok (100 * (b / 100) + 41)) else none
    | _ => none
  | .f .f64 n, .tok b => match op with
    | .quo => if n = oneN ∧ b % 100 = 0 then some (.tok (100 * (b / 100) + 5)) else none
    | _ => none
  | _, _ => none

def tuT (neg : Nat → Bool) (op : UnOp) (x : AV) : Option AV :=
  match op, x with
  | .xor, .tok a => if a % 100 = 1 then (if neg (a / 100) then some (.tok (100 * (a / 100) + 2)) else none) else if a % 100 = 2 then some (.tok (100 * (a / 100) + 3)) else none
  | _, _ => none

def tcT (P : Program) (src dst : TypeId) (x : AV) : Option AV :=
  match x with
  | .tok a => match P.underlying src, P.underlying dst with
    | some _, some (.int .u8) => if 10 ≤ a % 100 ∧ a % 100 < 18 then some (.tok (100 * (a / 100) + (a % 100 + 10))) else none
    | some _, some (.int .u64) => if 20 ≤ a % 100 ∧ a % 100 < 28 then some (.tok (100 * (a / 100) + (a % 100 + 10))) else none
    | _, _ => none
  | _ => none

def xbT : List AV → Option AV
  | [.tok a] => if a % 100 = 0 then some (.tok (100 * (a / 100) + 1)) else none
  | _ => none
def xfT (neg : Nat → Bool) : List AV → Option AV
  | [.tok a] => if (a % 100 = 1 ∧ neg (a / 100) = false) ∨ (a % 100 = 3 ∧ neg (a / 100) = true) then some (.tok (100 * (a / 100))) else none
  | _ => none
end
end Go.Av

namespace Go.Av
noncomputable section
set_option linter.unusedSimpArgs false
set_option linter.unusedVariables false
set_option linter.unusedSectionVars false
set_option maxRecDepth 20000

def concV : Value → AV
  | .int k n => .i k n
  | .float k b => .f k b
  | .bool b => .b b
  | _ => .any
def conc [Toks] : AV → AV
  | .tok n => concV (Toks.val n)
  | v => v

/-- It is no NaN. -/
def Clear [Toks] (r : AV) : Prop := ∀ n k b, r = .tok n → Toks.val n = .float k b → (k.format.read b).isNaN = false

section toks
variable [Toks]
theorem conc_rel {I : Inj} {Z : Zed} {x : AV} {v : Value} (h : VRel I Z x v) : VRel I Z (conc x) v := by
  cases x with
  | tok n =>
    cases h with
    | tok _ _ h =>
      show VRel I Z (concV (Toks.val n)) v
      rcases Toks.scalar n with ⟨k, m, e⟩ | ⟨k, b, e⟩ | ⟨b, e⟩
      · rw [e] at h ⊢; subst h; exact .i _ _
      · rw [e] at h ⊢; subst h; exact .f _ _ _ (.inl rfl)
      · rw [e] at h ⊢; subst h; exact .b _
  | _ => exact h
theorem conc_back {I : Inj} {Z : Zed} {r : AV} {v : Value} (hc : Clear r) (h : VRel I Z (conc r) v) : VRel I Z r v := by
  cases r with
  | tok n =>
    refine .tok n v ?_
    have h' : VRel I Z (concV (Toks.val n)) v := h
    rcases Toks.scalar n with ⟨k, m, e⟩ | ⟨k, b, e⟩ | ⟨b, e⟩
    rotate_right
    · rw [e] at h' ⊢; cases h'; rfl
    · rw [e] at h' ⊢; cases h'; rfl
    · have := hc n k b rfl e
      rw [e] at h' ⊢
      cases h' with
      | f _ _ y hy =>
        rcases hy with rfl | ⟨h1, _⟩
        · rfl
        · unfold nanF at h1; rw [this] at h1; cases h1
  | _ => exact h

theorem tb_ok {P : Program} {op : BinOp} {t : TypeId} {x y r : AV} (h : binA P op t (conc x) (conc y) = some (conc r)) (hc : Clear r) (I : Inj) (Z : Zed) (w : World) (v u : Value) (ox oy : Operand) (hx : VRel I Z x v) (hy : VRel I Z y u) :
    ∃ cv w', (do eqGuard op t ox oy v u; binOp op t v u : Sem Value).run P w = .ok cv w' ∧ VRel I Z r cv ∧ ∃ d, w' = { w with drawn := d } := by
  obtain ⟨cv, w', h1, h2, h3⟩ := binA_rel (w := w) h (conc_rel hx) (conc_rel hy) ox oy
  exact ⟨cv, w', h1, conc_back hc h2, h3⟩
end toks

structure Fl where
  X : Nat
  K : Nat
  inv : Nat
  neg : Bool
  Q : Nat
  V : Int
structure Fl.Ok (a : Fl) : Prop where
  lt : a.X < 2 ^ 64
  fin : a.X % 2 ^ 63 < 2047 * 2 ^ 52
  sgn : a.neg = decide (2 ^ 63 ≤ a.X)
  key : a.K = if a.neg = true then 2 ^ 64 - 1 - a.X else a.X + 2 ^ 63
  inv : Ieee.double.div oneN a.X = some a.inv
  nn : (Ieee.double.read a.inv).isNaN = false
  qn : (Ieee.double.read a.Q).isNaN = false

/-- Each number with an end is one of the two kinds. -/
theorem Fl.of {X : Nat} (h : X < 2 ^ 64) (hf : X % 2 ^ 63 < 2047 * 2 ^ 52) : ∃ a : Fl, a.X = X ∧ a.Ok := by
  obtain ⟨r, h1, h2⟩ := div_one hf
  obtain ⟨s, m, e, hr⟩ := finite_number hf
  exact ⟨⟨X, if decide (2 ^ 63 ≤ X) = true then 2 ^ 64 - 1 - X else X + 2 ^ 63, r, decide (2 ^ 63 ≤ X), X, 0⟩, rfl, h, hf, rfl, rfl, h1, h2, by rw [hr]; rfl⟩

theorem Fl.Ok.klt {a : Fl} (o : a.Ok) : a.K < 2 ^ 64 := by
  rw [o.key]
  split
  · omega
  · rename_i h
    have h2 : ¬ (2 ^ 63 ≤ a.X) := by simpa [o.sgn] using h
    omega

def U (k : IntKind) (n : Nat) : Value := .int k (n : Int)
def flVal (a : Fl) (r : Nat) : Value :=
  if r = 0 then .float .f64 a.X else if r = 1 then U .u64 a.X else if r = 2 then U .u64 a.K else if r = 3 then U .u64 (2 ^ 64 - 1 - a.K) else if r = 5 then .float .f64 a.inv
  else if 10 ≤ r ∧ r < 18 then U .u64 (a.K / 2 ^ (8 * (r - 10))) else if 20 ≤ r ∧ r < 28 then U .u8 (a.K / 2 ^ (8 * (r - 20)) % 256) else if 30 ≤ r ∧ r < 38 then U .u64 (a.K / 2 ^ (8 * (r - 30)) % 256)
  else if 41 ≤ r ∧ r < 49 then U .u64 (a.K / 2 ^ (8 * (48 - r))) else if 51 ≤ r ∧ r < 58 then U .u64 (a.K / 2 ^ (8 * (58 - r)) * 256) else if r = 6 then .float .f64 a.Q else if r = 97 then .bool (!isNan a.X) else if r = 96 then .int .i64 (IntKind.wrap .i64 (a.V + 1)) else .int .i64 a.V

theorem flVal_s (a : Fl) {r : Nat} (h : 10 ≤ r ∧ r < 18) : flVal a r = U .u64 (a.K / 2 ^ (8 * (r - 10))) := by
  unfold flVal; rw [if_neg (by omega), if_neg (by omega), if_neg (by omega), if_neg (by omega), if_neg (by omega), if_pos h]
theorem flVal_b (a : Fl) {r : Nat} (h : 20 ≤ r ∧ r < 28) : flVal a r = U .u8 (a.K / 2 ^ (8 * (r - 20)) % 256) := by
  unfold flVal; rw [if_neg (by omega), if_neg (by omega), if_neg (by omega), if_neg (by omega), if_neg (by omega), if_neg (by omega), if_pos h]
theorem flVal_w (a : Fl) {r : Nat} (h : 30 ≤ r ∧ r < 38) : flVal a r = U .u64 (a.K / 2 ^ (8 * (r - 30)) % 256) := by
  unfold flVal; rw [if_neg (by omega), if_neg (by omega), if_neg (by omega), if_neg (by omega), if_neg (by omega), if_neg (by omega), if_neg (by omega), if_pos h]
theorem flVal_p (a : Fl) {r : Nat} (h : 41 ≤ r ∧ r < 49) : flVal a r = U .u64 (a.K / 2 ^ (8 * (48 - r))) := by
  unfold flVal; rw [if_neg (by omega), if_neg (by omega), if_neg (by omega), if_neg (by omega), if_neg (by omega), if_neg (by omega), if_neg (by omega), if_neg (by omega), if_pos h]
theorem flVal_q (a : Fl) {r : Nat} (h : 51 ≤ r ∧ r < 58) : flVal a r = U .u64 (a.K / 2 ^ (8 * (58 - r)) * 256) := by
  unfold flVal; rw [if_neg (by omega), if_neg (by omega), if_neg (by omega), if_neg (by omega), if_neg (by omega), if_neg (by omega), if_neg (by omega), if_neg (by omega), if_neg (by omega), if_pos h]

def Scal (v : Value) : Prop := (∃ k m, v = .int k m) ∨ (∃ k b, v = .float k b) ∨ ∃ b, v = .bool b
theorem scal_i (k : IntKind) (n : Nat) : Scal (U k n) := .inl ⟨_, _, rfl⟩
theorem scal_f (k : FloatKind) (n : Nat) : Scal (.float k n) := .inr (.inl ⟨_, _, rfl⟩)
theorem scal_ite {c : Prop} [Decidable c] {x y : Value} (hx : Scal x) (hy : Scal y) : Scal (if c then x else y) := by split; exact hx; exact hy

theorem flVal_scalar (a : Fl) (r : Nat) : Scal (flVal a r) := by
  unfold flVal
  repeat (first | exact scal_i _ _ | exact scal_f _ _ | exact .inl ⟨_, _, rfl⟩ | exact .inr (.inr ⟨_, rfl⟩) | refine scal_ite ?_ ?_)

@[reducible] def toks (fl : Nat → Fl) : Toks := ⟨fun n => flVal (fl (n / 100)) (n % 100), fun n => flVal_scalar _ _⟩

section fl
variable (fl : Nat → Fl)
theorem conc_fl (i : Nat) {r : Nat} (h : r < 100) : @conc (toks fl) (.tok (100 * i + r)) = concV (flVal (fl i) r) := by
  show concV (flVal (fl ((100 * i + r) / 100)) ((100 * i + r) % 100)) = _
  rw [show (100 * i + r) / 100 = i by omega, show (100 * i + r) % 100 = r by omega]
theorem conc_tok (n : Nat) : @conc (toks fl) (.tok n) = concV (flVal (fl (n / 100)) (n % 100)) := rfl

theorem clear_lit {r : AV} (h : ∀ n, r ≠ .tok n) : @Clear (toks fl) r := fun n k b e => absurd e (h n)
theorem flVal_float {a : Fl} {r : Nat} {k : FloatKind} {b : Nat} (h : flVal a r = .float k b) : k = .f64 ∧ ((r = 0 ∧ b = a.X) ∨ (r = 5 ∧ b = a.inv) ∨ (r = 6 ∧ b = a.Q)) := by
  have key : ∀ (c : Prop) [Decidable c] (x y : Value), (if c then x else y) = .float k b → (c ∧ x = .float k b) ∨ y = .float k b := by
    intro c _ x y h
    by_cases hc : c
    · rw [if_pos hc] at h; exact .inl ⟨hc, h⟩
    · rw [if_neg hc] at h; exact .inr h
  unfold flVal U at h
  rcases key _ _ _ h with ⟨hc, h⟩ | h
  · injection h with h1 h2; subst h1; subst h2; exact ⟨rfl, .inl ⟨hc, rfl⟩⟩
  rcases key _ _ _ h with ⟨hc, h⟩ | h
  · cases h
  rcases key _ _ _ h with ⟨hc, h⟩ | h
  · cases h
  rcases key _ _ _ h with ⟨hc, h⟩ | h
  · cases h
  rcases key _ _ _ h with ⟨hc, h⟩ | h
  · injection h with h1 h2; subst h1; subst h2; exact ⟨rfl, .inr (.inl ⟨hc, rfl⟩)⟩
  rcases key _ _ _ h with ⟨hc, h⟩ | h
  · cases h
  rcases key _ _ _ h with ⟨hc, h⟩ | h
  · cases h
  rcases key _ _ _ h with ⟨hc, h⟩ | h
  · cases h
  rcases key _ _ _ h with ⟨hc, h⟩ | h
  · cases h
  rcases key _ _ _ h with ⟨hc, h⟩ | h
  · cases h
  rcases key _ _ _ h with ⟨hc, h⟩ | h
  · injection h with h1 h2; subst h1; subst h2; exact ⟨rfl, .inr (.inr ⟨hc, rfl⟩)⟩
  rcases key _ _ _ h with ⟨hc, h⟩ | h
  · cases h
  rcases key _ _ _ h with ⟨hc, h⟩ | h
  · cases h
  cases h

theorem clear_fl {i : Nat} {r : Nat} (h : r < 100) (hok : (fl i).Ok) : @Clear (toks fl) (.tok (100 * i + r)) := by
  intro n k b e hv
  cases e
  have hv' : flVal (fl ((100 * i + r) / 100)) ((100 * i + r) % 100) = .float k b := hv
  rw [show (100 * i + r) / 100 = i by omega, show (100 * i + r) % 100 = r by omega] at hv'
  obtain ⟨rfl, ⟨_, rfl⟩ | ⟨_, rfl⟩ | ⟨_, rfl⟩⟩ := flVal_float hv'
  · obtain ⟨s, m, e, hr⟩ := finite_number hok.fin
    show (Ieee.double.read _).isNaN = false
    rw [hr]; rfl
  · exact hok.nn
  · exact hok.qn

theorem div_step (K m : Nat) (h1 : 1 ≤ m) (h2 : m ≤ 7) : K / 2 ^ (8 * (8 - m)) * 256 + K / 2 ^ (8 * (7 - m)) % 256 = K / 2 ^ (8 * (7 - m)) := by
  have e : 2 ^ (8 * (8 - m)) = 2 ^ (8 * (7 - m)) * 256 := by
    rw [show 8 * (8 - m) = 8 * (7 - m) + 8 by omega, Nat.pow_add]
  rw [e, ← Nat.div_div_eq_div_mul]
  omega

theorem t2_ok {P : Program} {t : TypeId} {op : BinOp} {i r s : Nat} {v : AV} (hok : (fl i).Ok) (hr : r < 100) (hs : s < 100) (e : t2 op i r s = some v) :
    binA P op t (@conc (toks fl) (.tok (100 * i + r))) (@conc (toks fl) (.tok (100 * i + s))) = some (@conc (toks fl) v) ∧ @Clear (toks fl) v := by
  rw [conc_fl fl i hr, conc_fl fl i hs]
  unfold t2 at e
  have nx : (Ieee.double.read (fl i).X).isNaN = false := by
    obtain ⟨s, m, e, hr⟩ := finite_number hok.fin
    rw [hr]; rfl
  split at e
  · split at e
    · rename_i h; obtain ⟨rfl, rfl⟩ := h; cases e
      refine ⟨?_, clear_lit fl (fun n e => by cases e)⟩
      show some (AV.b (Ieee.double.order (fl i).X (fl i).X != some .eq)) = some (.b false)
      rw [order_self nx]; rfl
    · cases e
  · split at e
    · rename_i h
      cases e
      refine ⟨?_, clear_lit fl (fun n e => by cases e)⟩
      rcases h with ⟨rfl, rfl⟩ | ⟨rfl, rfl⟩
      · show some (AV.b (Ieee.double.order (fl i).X (fl i).X == some .eq)) = some (.b true)
        rw [order_self nx]; rfl
      · show some (AV.b (Ieee.double.order (fl i).inv (fl i).inv == some .eq)) = some (.b true)
        rw [order_self hok.nn]; rfl
    · cases e
  · split at e
    · rename_i h
      obtain ⟨m, rfl⟩ : ∃ m, r = 50 + m := ⟨r - 50, by omega⟩
      obtain rfl : s = 37 - m := by omega
      have h1 : 1 ≤ m := by omega
      have h2 : m ≤ 7 := by omega
      have hk := hok.klt
      rw [flVal_q _ (by omega), flVal_w _ (by omega)]
      rw [show 58 - (50 + m) = 8 - m by omega, show 37 - m - 30 = 7 - m by omega]
      have st := div_step (fl i).K m h1 h2
      have hb : (fl i).K / 2 ^ (8 * (7 - m)) % 256 < 256 := Nat.mod_lt _ (by decide)
      have hle : (fl i).K / 2 ^ (8 * (7 - m)) ≤ (fl i).K := Nat.div_le_self _ _
      have main : binA P .or t (concV (U .u64 ((fl i).K / 2 ^ (8 * (8 - m)) * 256))) (concV (U .u64 ((fl i).K / 2 ^ (8 * (7 - m)) % 256))) = some (.i .u64 (((fl i).K / 2 ^ (8 * (7 - m)) : Nat) : Int)) := by
        show some (AV.i .u64 (IntKind.wrap .u64 ((BitVec.ofInt 64 (((fl i).K / 2 ^ (8 * (8 - m)) * 256 : Nat) : Int) ||| BitVec.ofInt 64 (((fl i).K / 2 ^ (8 * (7 - m)) % 256 : Nat) : Int)).toNat : Nat))) = _
        rw [or_bits, or_byte hb (by omega), st, wrap_u64 (by omega)]
      rw [main]
      cases e
      by_cases h7 : m = 7
      · subst h7
        rw [if_pos rfl]
        refine ⟨?_, clear_fl fl (by decide) hok⟩
        rw [conc_fl fl i (by decide)]
        show _ = some (AV.i .u64 (((fl i).K : Nat) : Int))
        simp
      · rw [if_neg (by omega), show 50 + m - 9 = 41 + m by omega]
        refine ⟨?_, clear_fl fl (by omega) hok⟩
        rw [conc_fl fl i (by omega), flVal_p _ (by omega), show 48 - (41 + m) = 7 - m by omega]
        rfl
    · cases e
  · cases e
end fl
end
end Go.Av

namespace Go.Av
noncomputable section
set_option linter.unusedSimpArgs false
set_option linter.unusedVariables false
set_option linter.unusedSectionVars false
set_option maxRecDepth 20000
section fl
variable (fl : Nat → Fl)

theorem binA_and (P : Program) (t : TypeId) (a c : Nat) : binA P .and t (.i .u64 (a : Int)) (.i .u64 (c : Int)) = some (.i .u64 (IntKind.wrap .u64 ((BitVec.ofInt 64 (a : Int) &&& BitVec.ofInt 64 (c : Int)).toNat : Nat))) := rfl
theorem binA_or (P : Program) (t : TypeId) (a c : Nat) : binA P .or t (.i .u64 (a : Int)) (.i .u64 (c : Int)) = some (.i .u64 (IntKind.wrap .u64 ((BitVec.ofInt 64 (a : Int) ||| BitVec.ofInt 64 (c : Int)).toNat : Nat))) := rfl
theorem binA_andNot (P : Program) (t : TypeId) (a c : Nat) : binA P .andNot t (.i .u64 (a : Int)) (.i .u64 (c : Int)) = some (.i .u64 (IntKind.wrap .u64 ((BitVec.ofInt 64 (a : Int) &&& ~~~BitVec.ofInt 64 (c : Int)).toNat : Nat))) := rfl
theorem binA_eqU (P : Program) (t : TypeId) (a c : Nat) : binA P .eql t (.i .u64 (a : Int)) (.i .u64 (c : Int)) = some (.b ((a : Int) == (c : Int))) := rfl
theorem conc1 (a : Fl) : concV (flVal a 1) = .i .u64 (a.X : Int) := rfl
theorem conc2 (a : Fl) : concV (flVal a 2) = .i .u64 (a.K : Int) := rfl
theorem signN_eq : signN = 2 ^ 63 := rfl

theorem t1_ok {P : Program} {t : TypeId} {op : BinOp} {i r n : Nat} {v : AV} (hok : (fl i).Ok) (hr : r < 100) (e : t1 (fl i).neg op i r n = some v) :
    binA P op t (@conc (toks fl) (.tok (100 * i + r))) (.i .u64 (n : Int)) = some (@conc (toks fl) v) ∧ @Clear (toks fl) v := by
  rw [conc_fl fl i hr]
  have hlt := hok.lt
  have hs := hok.sgn
  have hk := hok.key
  unfold t1 at e
  split at e
  · split at e
    · rename_i hn; subst hn
      split at e
      · rename_i h; subst h; cases e
        refine ⟨?_, clear_lit fl (fun n e => by cases e)⟩
        rw [conc1, binA_and, and_bits, signN_eq]
        by_cases hx : 2 ^ 63 ≤ (fl i).X
        · have hn : (fl i).neg = true := by rw [hs]; simpa using hx
          rw [and_sign_neg hx hlt, hn, if_pos rfl, wrap_u64 (by decide)]; rfl
        · have hn : (fl i).neg = false := by rw [hs]; simpa using hx
          rw [and_sign_pos (by omega), hn, if_neg (by decide), wrap_u64 (by decide)]; rfl
      · split at e
        · rename_i h; subst h; cases e
          refine ⟨?_, clear_lit fl (fun n e => by cases e)⟩
          rw [conc2, binA_and, and_bits, signN_eq]
          by_cases hx : 2 ^ 63 ≤ (fl i).X
          · have hn : (fl i).neg = true := by rw [hs]; simpa using hx
            rw [hn] at hk
            have hk' : (fl i).K = 2 ^ 64 - 1 - (fl i).X := by simpa using hk
            rw [and_sign_pos (by omega), hn, if_pos rfl, wrap_u64 (by decide)]; rfl
          · have hn : (fl i).neg = false := by rw [hs]; simpa using hx
            rw [hn] at hk
            have hk' : (fl i).K = (fl i).X + 2 ^ 63 := by simpa using hk
            rw [and_sign_neg (by omega) (by omega), hn, if_neg (by decide), wrap_u64 (by decide)]; rfl
        · cases e
    · cases e
  · split at e
    · rename_i h
      obtain ⟨rfl, rfl, hn⟩ := h
      cases e
      have hx : ¬ 2 ^ 63 ≤ (fl i).X := by rw [hs] at hn; simpa using hn
      rw [hn] at hk
      have hk' : (fl i).K = (fl i).X + 2 ^ 63 := by simpa using hk
      refine ⟨?_, clear_fl fl (by decide) hok⟩
      rw [conc_fl fl i (by decide), conc1, conc2, binA_or, or_bits, signN_eq, or_sign (by omega), wrap_u64 (by omega), hk']
    · cases e
  · split at e
    · rename_i h
      obtain ⟨rfl, rfl⟩ := h
      cases e
      refine ⟨?_, clear_lit fl (fun n e => by cases e)⟩
      rw [conc2, binA_eqU]
      have hf := hok.fin
      have : (fl i).K ≠ noneN := by
        unfold noneN
        by_cases hx : 2 ^ 63 ≤ (fl i).X
        · have hn : (fl i).neg = true := by rw [hs]; simpa using hx
          rw [hn] at hk
          have hk' : (fl i).K = 2 ^ 64 - 1 - (fl i).X := by simpa using hk
          omega
        · have hn : (fl i).neg = false := by rw [hs]; simpa using hx
          rw [hn] at hk
          have hk' : (fl i).K = (fl i).X + 2 ^ 63 := by simpa using hk
          omega
      have h2 : ((((fl i).K : Nat) : Int) == ((noneN : Nat) : Int)) = false := by rw [beq_eq_false_iff_ne]; exact fun e => this (Int.ofNat.inj e)
      rw [h2]; rfl
    · cases e
  · split at e
    · rename_i h
      obtain ⟨rfl, rfl, hn⟩ := h
      cases e
      have hx : ¬ 2 ^ 63 ≤ (fl i).X := by rw [hs] at hn; simpa using hn
      rw [hn] at hk
      have hk' : (fl i).K = (fl i).X + 2 ^ 63 := by simpa using hk
      refine ⟨?_, clear_fl fl (by decide) hok⟩
      rw [conc_fl fl i (by decide), conc1, conc2, binA_andNot, hk', signN_eq, andNot_sign (by omega), wrap_u64 (by omega)]
    · cases e
  · cases e

theorem ts_ok {P : Program} {t : TypeId} {op : BinOp} {i r n : Nat} {k : IntKind} {v : AV} (hok : (fl i).Ok) (hr : r < 100) (e : ts op i r n = some v) :
    binA P op t (@conc (toks fl) (.tok (100 * i + r))) (.i k (n : Int)) = some (@conc (toks fl) v) ∧ @Clear (toks fl) v := by
  rw [conc_fl fl i hr]
  have hk := hok.klt
  unfold ts at e
  split at e
  · split at e
    · rename_i h
      obtain ⟨rfl, h8, hn⟩ := h
      cases e
      refine ⟨?_, clear_fl fl (by omega) hok⟩
      rw [conc_fl fl i (by omega), flVal_s (fl i) (r := 10 + n / 8) (by omega)]
      show (if (0 : Int) ≤ (n : Int) then some (AV.i .u64 ((((fl i).K : Nat) : Int).fdiv (2 ^ (min ((n : Int).toNat) 64)))) else none) = some (.i .u64 (((fl i).K / 2 ^ (8 * (10 + n / 8 - 10)) : Nat) : Int))
      rw [if_pos (by omega), show (min ((n : Int).toNat) 64) = n by simp; omega, show 8 * (10 + n / 8 - 10) = n by omega, Int.fdiv_eq_ediv_of_nonneg _ (Int.le_of_lt (Int.pow_pos (by decide)))]
      simp
    · cases e
  · split at e
    · rename_i h
      obtain ⟨h1, h2, rfl⟩ := h
      cases e
      obtain ⟨m, rfl⟩ : ∃ m, r = 40 + m := ⟨r - 40, by omega⟩
      refine ⟨?_, clear_fl fl (by omega) hok⟩
      rw [conc_fl fl i (by omega), flVal_p (fl i) (r := 40 + m) (by omega), flVal_q (fl i) (r := 40 + m + 10) (by omega)]
      rw [show 48 - (40 + m) = 8 - m by omega, show 58 - (40 + m + 10) = 8 - m by omega]
      have hle : (fl i).K / 2 ^ (8 * (8 - m)) * 256 ≤ (fl i).K := by
        have e1 : (fl i).K / 2 ^ (8 * (8 - m)) ≤ (fl i).K / 2 ^ 8 := Nat.div_le_div_left (Nat.pow_le_pow_right (by decide) (by omega)) (by decide)
        have e2 := Nat.div_mul_le_self (fl i).K (2 ^ 8)
        omega
      show (if (0 : Int) ≤ ((8 : Nat) : Int) then some (AV.i .u64 (IntKind.wrap .u64 ((((fl i).K / 2 ^ (8 * (8 - m)) : Nat) : Int) * 2 ^ (min (((8 : Nat) : Int).toNat) 64)))) else none) = some (.i .u64 (((fl i).K / 2 ^ (8 * (8 - m)) * 256 : Nat) : Int))
      rw [if_pos (by omega), show (min (((8 : Nat) : Int).toNat) 64) = 8 by rfl]
      rw [show ((((fl i).K / 2 ^ (8 * (8 - m)) : Nat) : Int) * 2 ^ 8) = (((fl i).K / 2 ^ (8 * (8 - m)) * 256 : Nat) : Int) by simp, wrap_u64 (by omega)]
    · cases e
  · cases e

theorem name_split (n : Nat) : 100 * (n / 100) + n % 100 = n := Nat.div_add_mod n 100

theorem tbT_ok {P : Program} (hok : ∀ i, (fl i).Ok) {op : BinOp} {t : TypeId} {x y r : AV} (e : tbT (fun i => (fl i).neg) op t x y = some r) :
    binA P op t (@conc (toks fl) x) (@conc (toks fl) y) = some (@conc (toks fl) r) ∧ @Clear (toks fl) r := by
  unfold tbT at e
  split at e
  · rename_i a b
    split at e
    · rename_i h
      have := t2_ok fl (P := P) (t := t) (hok (a / 100)) (Nat.mod_lt a (by decide)) (Nat.mod_lt b (by decide)) e
      rw [name_split, h, name_split] at this
      exact this
    · cases e
  · rename_i a k n
    split at e
    · rename_i r0 h
      cases e
      have := ts_ok fl (P := P) (t := t) (k := k) (hok (a / 100)) (Nat.mod_lt a (by decide)) h
      rw [name_split] at this
      exact this
    · split at e
      · rename_i hk; subst hk
        have := t1_ok fl (P := P) (t := t) (hok (a / 100)) (Nat.mod_lt a (by decide)) e
        rw [name_split] at this
        exact this
      · cases e
  · rename_i b
    split at e
    · split at e
      · rename_i hb
        cases e
        have o := hok (b / 100)
        have hk := o.klt
        refine ⟨?_, clear_fl fl (by decide) o⟩
        rw [conc_tok fl b, hb, conc_fl fl _ (by decide), flVal_w _ (by omega), flVal_p _ (by omega)]
        show some (AV.i .u64 (IntKind.wrap .u64 ((BitVec.ofInt 64 ((0 : Nat) : Int) ||| BitVec.ofInt 64 (((fl (b / 100)).K / 2 ^ (8 * (37 - 30)) % 256 : Nat) : Int)).toNat : Nat))) = some (.i .u64 (((fl (b / 100)).K / 2 ^ (8 * (48 - 41)) : Nat) : Int))
        rw [or_bits]
        have e1 : (fl (b / 100)).K / 2 ^ (8 * (37 - 30)) % 256 = (fl (b / 100)).K / 2 ^ (8 * (48 - 41)) := by
          show (fl (b / 100)).K / 2 ^ 56 % 256 = (fl (b / 100)).K / 2 ^ 56
          omega
        have e2 : (fl (b / 100)).K / 2 ^ (8 * (48 - 41)) < 256 := by
          show (fl (b / 100)).K / 2 ^ 56 < 256
          omega
        rw [e1, Nat.zero_mod, Nat.zero_or, Nat.mod_eq_of_lt (by omega), wrap_u64 (by omega)]
      · cases e
    · cases e
  · rename_i n b
    split at e
    · split at e
      · rename_i hb
        obtain ⟨rfl, hb⟩ := hb
        cases e
        have o := hok (b / 100)
        refine ⟨?_, clear_fl fl (by decide) o⟩
        rw [conc_tok fl b, hb, conc_fl fl _ (by decide)]
        show some (AV.f .f64 ((Ieee.double.div oneN (fl (b / 100)).X).getD _)) = some (.f .f64 (fl (b / 100)).inv)
        rw [o.inv]; rfl
      · cases e
    · cases e
  · cases e

theorem tuT_ok (hok : ∀ i, (fl i).Ok) {op : UnOp} {x r : AV} (e : tuT (fun i => (fl i).neg) op x = some r) :
    unA op (@conc (toks fl) x) = some (@conc (toks fl) r) ∧ @Clear (toks fl) r := by
  unfold tuT at e
  split at e
  · rename_i a
    have o := hok (a / 100)
    have hlt := o.lt
    have hkl := o.klt
    split at e
    · rename_i h
      split at e
      · rename_i hn
        have hn : (fl (a / 100)).neg = true := hn
        cases e
        have hk := o.key
        rw [hn] at hk
        have hk' : (fl (a / 100)).K = 2 ^ 64 - 1 - (fl (a / 100)).X := by simpa using hk
        refine ⟨?_, clear_fl fl (by decide) o⟩
        rw [conc_tok fl a, h, conc_fl fl _ (by decide)]
        show some (AV.i .u64 (IntKind.wrap .u64 ((BitVec.ofInt 64 (IntKind.u64.max) ^^^ BitVec.ofInt 64 (((fl (a / 100)).X : Nat) : Int)).toNat : Nat))) = some (.i .u64 (((fl (a / 100)).K : Nat) : Int))
        rw [not_bits hlt, wrap_u64 (by omega), hk']
      · cases e
    · split at e
      · rename_i h
        cases e
        refine ⟨?_, clear_fl fl (by decide) o⟩
        rw [conc_tok fl a, h, conc_fl fl _ (by decide)]
        show some (AV.i .u64 (IntKind.wrap .u64 ((BitVec.ofInt 64 (IntKind.u64.max) ^^^ BitVec.ofInt 64 (((fl (a / 100)).K : Nat) : Int)).toNat : Nat))) = some (.i .u64 ((2 ^ 64 - 1 - (fl (a / 100)).K : Nat) : Int))
        rw [not_bits hkl, wrap_u64 (by omega)]
      · cases e
  · cases e
end fl
end
end Go.Av

namespace Go.Av
noncomputable section
set_option linter.unusedSimpArgs false
set_option linter.unusedVariables false
set_option linter.unusedSectionVars false
set_option maxRecDepth 20000

def bitsY (a : List AV) : Option AV := match bitsX a with | some r => some r | none => xbT a
def fromBitsY (neg : Nat → Bool) (a : List AV) : Option AV := match fromBitsX a with | some r => some r | none => xfT neg a

def envT (P : Program) (T : Tab) (neg : Nat → Bool) : Env where
  P := P
  glob := fun g => (lookupL g T.glob).map bytesL
  fun_ := fun f => P.funcs[f]?
  mode := fun f => T.mode.getD f 0
  hook := fun _ => none
  phook := fun _ => none
  ext := fun f => if f = T.bits then some bitsY else if f = T.fromBits then some (fromBitsY neg) else none
  ownLit := ownBytes P
  win := fun f id => (lookupL f T.win).bind (lookupL id)
  jn := fun _ => none
  xh := fun _ => none
  tb := tbT neg
  tu := tuT neg
  tc := tcT P

theorem inv_one {I : Inj} {Z : Zed} [Toks] {a : AV} {vs : List Value} (hL : LRel I Z [a] vs) : ∃ v, vs = [v] ∧ VRel I Z a v := by
  obtain ⟨y, r, hy, hyr, hr⟩ := hL.inv_cons
  obtain rfl := hr.inv_nil
  exact ⟨y, hy, hyr⟩

theorem tcT_ok {P : Program} (fl : Nat → Fl) (hok : ∀ i, (fl i).Ok) {src dst : TypeId} {x r : AV} (e : tcT P src dst x = some r) (I : Inj) (Z : Zed) (w : World) (v : Value) (hv : @VRel (toks fl) I Z x v) :
    ∃ cv, (convert src dst v).run P w = .ok cv w ∧ @VRel (toks fl) I Z r cv := by
  letI := toks fl
  unfold tcT at e
  split at e
  · rename_i a
    have o := hok (a / 100)
    have hk := o.klt
    cases hv with
    | tok _ _ hv =>
    have hv' : flVal (fl (a / 100)) (a % 100) = v := hv
    split at e
    · rename_i d hs hd
      split at e
      · rename_i h
        cases e
        rw [flVal_s _ h] at hv'
        subst hv'
        refine ⟨U .u8 ((fl (a / 100)).K / 2 ^ (8 * (a % 100 - 10)) % 256), ?_, .tok _ _ ?_⟩
        · unfold U
          rw [← wrap_u8]
          simp [convert, run_underlying hs, run_underlying hd, Conv.intToInt]
        · show flVal (fl ((100 * (a / 100) + (a % 100 + 10)) / 100)) ((100 * (a / 100) + (a % 100 + 10)) % 100) = _
          rw [show (100 * (a / 100) + (a % 100 + 10)) / 100 = a / 100 by omega, show (100 * (a / 100) + (a % 100 + 10)) % 100 = a % 100 + 10 by omega, flVal_b _ (by omega), show a % 100 + 10 - 20 = a % 100 - 10 by omega]
      · cases e
    · rename_i d hs hd
      split at e
      · rename_i h
        cases e
        rw [flVal_b _ h] at hv'
        subst hv'
        have hb : (fl (a / 100)).K / 2 ^ (8 * (a % 100 - 20)) % 256 < 256 := Nat.mod_lt _ (by decide)
        refine ⟨U .u64 ((fl (a / 100)).K / 2 ^ (8 * (a % 100 - 20)) % 256), ?_, .tok _ _ ?_⟩
        · have hw : IntKind.wrap .u64 (((fl (a / 100)).K / 2 ^ (8 * (a % 100 - 20)) % 256 : Nat) : Int) = ((fl (a / 100)).K / 2 ^ (8 * (a % 100 - 20)) % 256 : Nat) := wrap_u64 (by omega)
          unfold U
          conv => rhs; rw [← hw]
          simp [convert, run_underlying hs, run_underlying hd, Conv.intToInt]
        · show flVal (fl ((100 * (a / 100) + (a % 100 + 10)) / 100)) ((100 * (a / 100) + (a % 100 + 10)) % 100) = _
          rw [show (100 * (a / 100) + (a % 100 + 10)) / 100 = a / 100 by omega, show (100 * (a / 100) + (a % 100 + 10)) % 100 = a % 100 + 10 by omega, flVal_w _ (by omega), show a % 100 + 10 - 30 = a % 100 - 20 by omega]
      · cases e
    · cases e
  · cases e

theorem envT_good {P : Program} {T : Tab} (fl : Nat → Fl) (hok : ∀ i, (fl i).Ok) (hmix : P.follows .mixedOrders = true) (hb : ExtIs P T.bits Extern.MathFloatBits.float64bits) (hf : ExtIs P T.fromBits Extern.MathFloatBits.float64frombits)
    (hd : ((T.win.map (·.1)).all fun f => drawCheck (envT P T fun i => (fl i).neg) f) = true) : @EnvGood (toks fl) (envT P T fun i => (fl i).neg) := by
  letI := toks fl
  exact {
    funs := fun f fn h => h
    xhs := fun _ _ h => by cases h
    tbs := fun op t x y r h I Z w v u ox oy hv hu => by
      obtain ⟨h1, h2⟩ := tbT_ok fl (P := P) hok h
      exact tb_ok h1 h2 I Z w v u ox oy hv hu
    tus := fun op x r h I Z w v hv => by
      obtain ⟨h1, h2⟩ := tuT_ok fl hok h
      have hx := conc_rel hv
      have key : ∃ cv, (Op.unary op v).run P w = .ok cv w ∧ VRel I Z (conc r) cv := by
        generalize conc x = x' at h1 hx
        generalize conc r = r' at h1
        unfold unA at h1
        split at h1
        · cases h1; cases hx; exact ⟨_, by simp [Op.unary, Op.intArith], .i _ _⟩
        · cases h1; cases hx; exact ⟨_, rfl, .i _ _⟩
        · cases h1; cases hx; exact ⟨_, rfl, .b _⟩
        · cases h1
      obtain ⟨cv, h3, h4⟩ := key
      exact ⟨cv, h3, conc_back h2 h4⟩
    jns := fun _ _ h => by cases h
    tcs := fun src dst x r h I Z w v hv => tcT_ok fl hok h I Z w v hv
    exts := fun f g hg args v hv I Z w vs hL => by
      simp only [envT] at hg
      split at hg
      · rename_i hf'
        cases hg
        subst hf'
        unfold bitsY at hv
        split at hv
        · rename_i r0 hv0
          cases hv
          unfold bitsX at hv0
          split at hv0
          · rename_i x
            obtain ⟨y, rfl, hyr⟩ := inv_one hL
            cases hyr with
            | f k x y hxy =>
              refine ⟨.int .u64 y, hb.run rfl, ?_⟩
              cases hv0
              split
              · exact .any _
              · rename_i hn
                rcases hxy with rfl | ⟨h1, _⟩
                · exact .i _ _
                · exact absurd h1 hn
          · cases hv0
        · rename_i hnn; clear hnn
          unfold xbT at hv
          split at hv
          · rename_i a
            split at hv
            · rename_i ha
              cases hv
              obtain ⟨y, rfl, hyr⟩ := inv_one hL
              cases hyr with
              | tok _ _ hy =>
              have hy' : flVal (fl (a / 100)) (a % 100) = y := hy
              rw [ha] at hy'
              subst hy'
              refine ⟨U .u64 (fl (a / 100)).X, hb.run rfl, .tok _ _ ?_⟩
              show flVal (fl ((100 * (a / 100) + 1) / 100)) ((100 * (a / 100) + 1) % 100) = _
              rw [show (100 * (a / 100) + 1) / 100 = a / 100 by omega, show (100 * (a / 100) + 1) % 100 = 1 by omega]
              rfl
            · cases hv
          · cases hv
      · split at hg
        · rename_i hf'
          cases hg
          subst hf'
          unfold fromBitsY at hv
          split at hv
          · rename_i r0 hv0
            cases hv
            unfold fromBitsX at hv0
            split at hv0
            · split at hv0
              · rename_i n hn
                obtain ⟨y, rfl, hyr⟩ := inv_one hL
                cases hyr
                cases hv0
                exact ⟨.float .f64 n.toNat, hf.run rfl, .f _ _ _ (.inl rfl)⟩
              · cases hv0
            · cases hv0
          · rename_i hnn; clear hnn
            unfold xfT at hv
            split at hv
            · rename_i a
              split at hv
              · rename_i ha
                cases hv
                obtain ⟨y, rfl, hyr⟩ := inv_one hL
                cases hyr with
                | tok _ _ hy =>
                have o := hok (a / 100)
                have hlt := o.lt
                have hk := o.key
                have hy' : flVal (fl (a / 100)) (a % 100) = y := hy
                have hX : y = U .u64 (fl (a / 100)).X := by
                  rcases ha with ⟨h1, h2⟩ | ⟨h1, h2⟩
                  · rw [h1] at hy'; exact hy'.symm
                  · rw [h1] at hy'
                    have h2' : (fl (a / 100)).neg = true := h2
                    rw [h2'] at hk
                    have hk' : (fl (a / 100)).K = 2 ^ 64 - 1 - (fl (a / 100)).X := by simpa using hk
                    rw [← hy']
                    show U .u64 (2 ^ 64 - 1 - (fl (a / 100)).K) = _
                    rw [hk', show 2 ^ 64 - 1 - (2 ^ 64 - 1 - (fl (a / 100)).X) = (fl (a / 100)).X by omega]
                subst hX
                refine ⟨.float .f64 (fl (a / 100)).X, hf.run ?_, .tok _ _ ?_⟩
                · show Result.ok (Value.float .f64 ((((fl (a / 100)).X : Nat) : Int).toNat)) w = _
                  rfl
                · show flVal (fl ((100 * (a / 100)) / 100)) ((100 * (a / 100)) % 100) = _
                  rw [show (100 * (a / 100)) / 100 = a / 100 by omega, show (100 * (a / 100)) % 100 = 0 by omega]
                  rfl
              · cases hv
            · cases hv
        · cases hg
    pures := fun g cs h => by
      obtain ⟨l, _, rfl⟩ := Option.map_eq_some_iff.1 h
      exact bytesL_pure l
    hookfree := fun _ _ => rfl
    hookfree4 := fun _ _ => rfl
    mixed := hmix
    hooks := fun f g h => by cases h
    phooks := fun f g h => by cases h
    draws := fun f fn c hfn hc x hx W hW => by
      have hW' : (lookupL f T.win).bind (lookupL x.1) = some W := hW
      obtain ⟨l, h1, _⟩ := Option.bind_eq_some_iff.1 hW'
      have := List.all_eq_true.1 hd f (lookupL_mem h1)
      unfold drawCheck at this
      simp only [hfn, hc] at this
      have := List.all_eq_true.1 this x hx
      rw [hW] at this
      simpa using this }
end
end Go.Av
