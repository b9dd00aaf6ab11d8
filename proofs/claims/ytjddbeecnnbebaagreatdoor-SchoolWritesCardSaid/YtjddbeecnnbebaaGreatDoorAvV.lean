/-
  The tables of names say what the model does.
-/
import Derived.Test.YtjddbeecnnbebaaGreatDoorAvT
import Derived.Test.YtjddbeecnnbebaaGreatDoorAvU
namespace Go.Av
noncomputable section
set_option linter.unusedSimpArgs false
set_option linter.unusedVariables false
set_option linter.unusedSectionVars false
set_option maxRecDepth 20000

def concV : Value → AV
  | .int k n => .i k n
  | .float k b => .f k b
  | _ => .any
def conc [Toks] : AV → AV
  | .tok n => concV (Toks.val n)
  | v => v

/-- It is no NaN. -/
def Clear [Toks] (r : AV) : Prop := ∀ n k b, r = .tok n → Toks.val n = .float k b → (k.format.read b).isNaN = false

section toks
variable [Toks]
theorem conc_rel {I : Inj} {Z : Zed} {x : AV} {v : Value} (h : VRel I Z x v) : VRel I Z (conc x) v := by
  cases x with
  | tok n =>
    cases h with
    | tok _ _ h =>
      show VRel I Z (concV (Toks.val n)) v
      rcases Toks.scalar n with ⟨k, m, e⟩ | ⟨k, b, e⟩
      · rw [e] at h ⊢; subst h; exact .i _ _
      · rw [e] at h ⊢; subst h; exact .f _ _ _ (.inl rfl)
  | _ => exact h
theorem conc_back {I : Inj} {Z : Zed} {r : AV} {v : Value} (hc : Clear r) (h : VRel I Z (conc r) v) : VRel I Z r v := by
  cases r with
  | tok n =>
    refine .tok n v ?_
    have h' : VRel I Z (concV (Toks.val n)) v := h
    rcases Toks.scalar n with ⟨k, m, e⟩ | ⟨k, b, e⟩
    · rw [e] at h' ⊢; cases h'; rfl
    · have := hc n k b rfl e
      rw [e] at h' ⊢
      cases h' with
      | f _ _ y hy =>
        rcases hy with rfl | ⟨h1, _⟩
        · rfl
        · unfold nanF at h1; rw [this] at h1; cases h1
  | _ => exact h

theorem tb_ok {P : Program} {op : BinOp} {t : TypeId} {x y r : AV} (h : binA P op t (conc x) (conc y) = some (conc r)) (hc : Clear r) (I : Inj) (Z : Zed) (w : World) (v u : Value) (ox oy : Operand) (hx : VRel I Z x v) (hy : VRel I Z y u) :
    ∃ cv w', (do eqGuard op t ox oy v u; binOp op t v u : Sem Value).run P w = .ok cv w' ∧ VRel I Z r cv ∧ ∃ d, w' = { w with drawn := d } := by
  obtain ⟨cv, w', h1, h2, h3⟩ := binA_rel (w := w) h (conc_rel hx) (conc_rel hy) ox oy
  exact ⟨cv, w', h1, conc_back hc h2, h3⟩
end toks

structure Fl where
  X : Nat
  K : Nat
  inv : Nat
  neg : Bool
  Q : Nat
  V : Int
structure Fl.Ok (a : Fl) : Prop where
  lt : a.X < 2 ^ 64
  fin : a.X % 2 ^ 63 < 2047 * 2 ^ 52
  sgn : a.neg = decide (2 ^ 63 ≤ a.X)
  key : a.K = if a.neg = true then 2 ^ 64 - 1 - a.X else a.X + 2 ^ 63
  inv : Ieee.double.div oneN a.X = some a.inv
  nn : (Ieee.double.read a.inv).isNaN = false
  qn : (Ieee.double.read a.Q).isNaN = false

/-- Each number with an end is one of the two kinds. -/
theorem Fl.of {X : Nat} (h : X < 2 ^ 64) (hf : X % 2 ^ 63 < 2047 * 2 ^ 52) : ∃ a : Fl, a.X = X ∧ a.Ok := by
  obtain ⟨r, h1, h2⟩ := div_one hf
  obtain ⟨s, m, e, hr⟩ := finite_number hf
  exact ⟨⟨X, if decide (2 ^ 63 ≤ X) = true then 2 ^ 64 - 1 - X else X + 2 ^ 63, r, decide (2 ^ 63 ≤ X), X, 0⟩, rfl, h, hf, rfl, rfl, h1, h2, by rw [hr]; rfl⟩

theorem Fl.Ok.klt {a : Fl} (o : a.Ok) : a.K < 2 ^ 64 := by
  rw [o.key]
  split
  · omega
  · rename_i h
    have h2 : ¬ (2 ^ 63 ≤ a.X) := by simpa [o.sgn] using h
    omega

def U (k : IntKind) (n : Nat) : Value := .int k (n : Int)
def flVal (a : Fl) (r : Nat) : Value :=
  if r = 0 then .float .f64 a.X else if r = 1 then U .u64 a.X else if r = 2 then U .u64 a.K else if r = 3 then U .u64 (2 ^ 64 - 1 - a.K) else if r = 5 then .float .f64 a.inv
  else if 10 ≤ r ∧ r < 18 then U .u64 (a.K / 2 ^ (8 * (r - 10))) else if 20 ≤ r ∧ r < 28 then U .u8 (a.K / 2 ^ (8 * (r - 20)) % 256) else if 30 ≤ r ∧ r < 38 then U .u64 (a.K / 2 ^ (8 * (r - 30)) % 256)
  else if 41 ≤ r ∧ r < 49 then U .u64 (a.K / 2 ^ (8 * (48 - r))) else if 51 ≤ r ∧ r < 58 then U .u64 (a.K / 2 ^ (8 * (58 - r)) * 256) else if r = 6 then .float .f64 a.Q else .int .i64 a.V

theorem flVal_s (a : Fl) {r : Nat} (h : 10 ≤ r ∧ r < 18) : flVal a r = U .u64 (a.K / 2 ^ (8 * (r - 10))) := by
  unfold flVal; rw [if_neg (by omega), if_neg (by omega), if_neg (by omega), if_neg (by omega), if_neg (by omega), if_pos h]
theorem flVal_b (a : Fl) {r : Nat} (h : 20 ≤ r ∧ r < 28) : flVal a r = U .u8 (a.K / 2 ^ (8 * (r - 20)) % 256) := by
  unfold flVal; rw [if_neg (by omega), if_neg (by omega), if_neg (by omega), if_neg (by omega), if_neg (by omega), if_neg (by omega), if_pos h]
theorem flVal_w (a : Fl) {r : Nat} (h : 30 ≤ r ∧ r < 38) : flVal a r = U .u64 (a.K / 2 ^ (8 * (r - 30)) % 256) := by
  unfold flVal; rw [if_neg (by omega), if_neg (by omega), if_neg (by omega), if_neg (by omega), if_neg (by omega), if_neg (by omega), if_neg (by omega), if_pos h]
theorem flVal_p (a : Fl) {r : Nat} (h : 41 ≤ r ∧ r < 49) : flVal a r = U .u64 (a.K / 2 ^ (8 * (48 - r))) := by
  unfold flVal; rw [if_neg (by omega), if_neg (by omega), if_neg (by omega), if_neg (by omega), if_neg (by omega), if_neg (by omega), if_neg (by omega), if_neg (by omega), if_pos h]
theorem flVal_q (a : Fl) {r : Nat} (h : 51 ≤ r ∧ r < 58) : flVal a r = U .u64 (a.K / 2 ^ (8 * (58 - r)) * 256) := by
  unfold flVal; rw [if_neg (by omega), if_neg (by omega), if_neg (by omega), if_neg (by omega), if_neg (by omega), if_neg (by omega), if_neg (by omega), if_neg (by omega), if_neg (by omega), if_pos h]

def Scal (v : Value) : Prop := (∃ k m, v = .int k m) ∨ ∃ k b, v = .float k b
theorem scal_i (k : IntKind) (n : Nat) : Scal (U k n) := .inl ⟨_, _, rfl⟩
theorem scal_f (k : FloatKind) (n : Nat) : Scal (.float k n) := .inr ⟨_, _, rfl⟩
theorem scal_ite {c : Prop} [Decidable c] {x y : Value} (hx : Scal x) (hy : Scal y) : Scal (if c then x else y) := by split; exact hx; exact hy

theorem flVal_scalar (a : Fl) (r : Nat) : Scal (flVal a r) := by
  unfold flVal
  repeat (first | exact scal_i _ _ | exact scal_f _ _ | exact .inl ⟨_, _, rfl⟩ | refine scal_ite ?_ ?_)

@[reducible] def toks (fl : Nat → Fl) : Toks := ⟨fun n => flVal (fl (n / 100)) (n % 100), fun n => flVal_scalar _ _⟩

section fl
variable (fl : Nat → Fl)
theorem conc_fl (i : Nat) {r : Nat} (h : r < 100) : @conc (toks fl) (.tok (100 * i + r)) = concV (flVal (fl i) r) := by
  show concV (flVal (fl ((100 * i + r) / 100)) ((100 * i + r) % 100)) = _
  rw [show (100 * i + r) / 100 = i by omega, show (100 * i + r) % 100 = r by omega]
theorem conc_tok (n : Nat) : @conc (toks fl) (.tok n) = concV (flVal (fl (n / 100)) (n % 100)) := rfl

theorem clear_lit {r : AV} (h : ∀ n, r ≠ .tok n) : @Clear (toks fl) r := fun n k b e => absurd e (h n)
theorem clear_fl {i : Nat} {r : Nat} (h : r < 100) (hok : (fl i).Ok) : @Clear (toks fl) (.tok (100 * i + r)) := by
  intro n k b e hv
  cases e
  have hv' : flVal (fl ((100 * i + r) / 100)) ((100 * i + r) % 100) = .float k b := hv
  rw [show (100 * i + r) / 100 = i by omega, show (100 * i + r) % 100 = r by omega] at hv'
  unfold flVal U at hv'
  split at hv'
  · cases hv'
    obtain ⟨s, m, e, hr⟩ := finite_number hok.fin
    show (Ieee.double.read _).isNaN = false
    rw [hr]; rfl
  repeat' split at hv'
  all_goals first | (cases hv'; done) | (cases hv'; exact hok.nn) | (cases hv'; exact hok.qn)

theorem div_step (K m : Nat) (h1 : 1 ≤ m) (h2 : m ≤ 7) : K / 2 ^ (8 * (8 - m)) * 256 + K / 2 ^ (8 * (7 - m)) % 256 = K / 2 ^ (8 * (7 - m)) := by
  have e : 2 ^ (8 * (8 - m)) = 2 ^ (8 * (7 - m)) * 256 := by
    rw [show 8 * (8 - m) = 8 * (7 - m) + 8 by omega, Nat.pow_add]
  rw [e, ← Nat.div_div_eq_div_mul]
  omega

theorem t2_ok {P : Program} {t : TypeId} {op : BinOp} {i r s : Nat} {v : AV} (hok : (fl i).Ok) (hr : r < 100) (hs : s < 100) (e : t2 op i r s = some v) :
    binA P op t (@conc (toks fl) (.tok (100 * i + r))) (@conc (toks fl) (.tok (100 * i + s))) = some (@conc (toks fl) v) ∧ @Clear (toks fl) v := by
  rw [conc_fl fl i hr, conc_fl fl i hs]
  unfold t2 at e
  have nx : (Ieee.double.read (fl i).X).isNaN = false := by
    obtain ⟨s, m, e, hr⟩ := finite_number hok.fin
    rw [hr]; rfl
  split at e
  · split at e
    · rename_i h; obtain ⟨rfl, rfl⟩ := h; cases e
      refine ⟨?_, clear_lit fl (fun n e => by cases e)⟩
      show some (AV.b (Ieee.double.order (fl i).X (fl i).X != some .eq)) = some (.b false)
      rw [order_self nx]; rfl
    · cases e
  · split at e
    · rename_i h
      cases e
      refine ⟨?_, clear_lit fl (fun n e => by cases e)⟩
      rcases h with ⟨rfl, rfl⟩ | ⟨rfl, rfl⟩
      · show some (AV.b (Ieee.double.order (fl i).X (fl i).X == some .eq)) = some (.b true)
        rw [order_self nx]; rfl
      · show some (AV.b (Ieee.double.order (fl i).inv (fl i).inv == some .eq)) = some (.b true)
        rw [order_self hok.nn]; rfl
    · cases e
  · split at e
    · rename_i h
      obtain ⟨m, rfl⟩ : ∃ m, r = 50 + m := ⟨r - 50, by omega⟩
      obtain rfl : s = 37 - m := by omega
      have h1 : 1 ≤ m := by omega
      have h2 : m ≤ 7 := by omega
      have hk := hok.klt
      rw [flVal_q _ (by omega), flVal_w _ (by omega)]
      rw [show 58 - (50 + m) = 8 - m by omega, show 37 - m - 30 = 7 - m by omega]
      have st := div_step (fl i).K m h1 h2
      have hb : (fl i).K / 2 ^ (8 * (7 - m)) % 256 < 256 := Nat.mod_lt _ (by decide)
      have hle : (fl i).K / 2 ^ (8 * (7 - m)) ≤ (fl i).K := Nat.div_le_self _ _
      have main : binA P .or t (concV (U .u64 ((fl i).K / 2 ^ (8 * (8 - m)) * 256))) (concV (U .u64 ((fl i).K / 2 ^ (8 * (7 - m)) % 256))) = some (.i .u64 (((fl i).K / 2 ^ (8 * (7 - m)) : Nat) : Int)) := by
        show some (AV.i .u64 (IntKind.wrap .u64 ((BitVec.ofInt 64 (((fl i).K / 2 ^ (8 * (8 - m)) * 256 : Nat) : Int) ||| BitVec.ofInt 64 (((fl i).K / 2 ^ (8 * (7 - m)) % 256 : Nat) : Int)).toNat : Nat))) = _
        rw [or_bits, or_byte hb (by omega), st, wrap_u64 (by omega)]
      rw [main]
      cases e
      by_cases h7 : m = 7
      · subst h7
        rw [if_pos rfl]
        refine ⟨?_, clear_fl fl (by decide) hok⟩
        rw [conc_fl fl i (by decide)]
        show _ = some (AV.i .u64 (((fl i).K : Nat) : Int))
        simp
      · rw [if_neg (by omega), show 50 + m - 9 = 41 + m by omega]
        refine ⟨?_, clear_fl fl (by omega) hok⟩
        rw [conc_fl fl i (by omega), flVal_p _ (by omega), show 48 - (41 + m) = 7 - m by omega]
        rfl
    · cases e
  · cases e
end fl
end
end Go.Av
