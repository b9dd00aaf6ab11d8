/-
  Surroundings with names for numbers with a point of whatever kind: three functions of the program (the key, the number of a key, the same with one NaN) are told by what they answer; in order.
-/
import Derived.Test.YtejljkdkhokmoaaGreatDoorAvX
import Derived.Test.YtejljkdkhokmoaaGreatDoorAvY
import Derived.Test.YtejljkdkhokmoaaGreatDoorAvK
namespace Go.Av
noncomputable section
set_option linter.unusedSimpArgs false
set_option linter.unusedVariables false
set_option linter.unusedSectionVars false
set_option maxRecDepth 20000

section keys
variable (fl : Nat → Fl)

theorem clear_g {i r : Nat} (h : r < 100) (h0 : r = 2 ∨ 10 ≤ r) : @Clear (toks fl) (.tok (100 * i + r)) := by
  intro n k b e hv
  cases e
  have hv' : flVal (fl ((100 * i + r) / 100)) ((100 * i + r) % 100) = .float k b := hv
  rw [show (100 * i + r) / 100 = i by omega, show (100 * i + r) % 100 = r by omega] at hv'
  obtain ⟨_, ⟨h1, _⟩ | ⟨h1, _⟩ | ⟨h1, _⟩⟩ := flVal_float hv' <;> omega

theorem flVal_v (a : Fl) : flVal a 99 = .int .i64 a.V := rfl

theorem orG_ok {P : Program} {t : TypeId} {i r s : Nat} {v : AV} (hk : (fl i).K < 2 ^ 64) (hr : r < 100) (hs : s < 100) (e : orG i r s = some v) :
    binA P .or t (@conc (toks fl) (.tok (100 * i + r))) (@conc (toks fl) (.tok (100 * i + s))) = some (@conc (toks fl) v) ∧ @Clear (toks fl) v := by
  rw [conc_fl fl i hr, conc_fl fl i hs]
  unfold orG at e
  split at e
  · rename_i h
    obtain ⟨m, rfl⟩ : ∃ m, r = 50 + m := ⟨r - 50, by omega⟩
    obtain rfl : s = 37 - m := by omega
    have h1 : 1 ≤ m := by omega
    have h2 : m ≤ 7 := by omega
    rw [flVal_q _ (by omega), flVal_w _ (by omega)]
    rw [show 58 - (50 + m) = 8 - m by omega, show 37 - m - 30 = 7 - m by omega]
    have st := div_step (fl i).K m h1 h2
    have hb : (fl i).K / 2 ^ (8 * (7 - m)) % 256 < 256 := Nat.mod_lt _ (by decide)
    have hle : (fl i).K / 2 ^ (8 * (7 - m)) ≤ (fl i).K := Nat.div_le_self _ _
    have main : binA P .or t (concV (U .u64 ((fl i).K / 2 ^ (8 * (8 - m)) * 256))) (concV (U .u64 ((fl i).K / 2 ^ (8 * (7 - m)) % 256))) = some (.i .u64 (((fl i).K / 2 ^ (8 * (7 - m)) : Nat) : Int)) := by
      show some (AV.i .u64 (IntKind.wrap .u64 ((BitVec.ofInt 64 (((fl i).K / 2 ^ (8 * (8 - m)) * 256 : Nat) : Int) ||| BitVec.ofInt 64 (((fl i).K / 2 ^ (8 * (7 - m)) % 256 : Nat) : Int)).toNat : Nat))) = _
      rw [or_bits, or_byte hb (by omega), st, wrap_u64 (by omega)]
    rw [main]
    cases e
    by_cases h7 : m = 7
    · subst h7
      rw [if_pos rfl]
      refine ⟨?_, clear_g fl (by decide) (.inl rfl)⟩
      rw [conc_fl fl i (by decide)]
      show _ = some (AV.i .u64 (((fl i).K : Nat) : Int))
      simp
    · rw [if_neg (by omega), show 50 + m - 9 = 41 + m by omega]
      refine ⟨?_, clear_g fl (by omega) (.inr (by omega))⟩
      rw [conc_fl fl i (by omega), flVal_p _ (by omega), show 48 - (41 + m) = 7 - m by omega]
      rfl
  · cases e

theorem shG_ok {P : Program} {t : TypeId} {op : BinOp} {i r n : Nat} {k : IntKind} {v : AV} (hk : (fl i).K < 2 ^ 64) (hr : r < 100) (e : shG op i r n = some v) :
    binA P op t (@conc (toks fl) (.tok (100 * i + r))) (.i k (n : Int)) = some (@conc (toks fl) v) ∧ @Clear (toks fl) v := by
  rw [conc_fl fl i hr]
  unfold shG at e
  split at e
  · split at e
    · rename_i h
      obtain ⟨rfl, h8, hn⟩ := h
      cases e
      refine ⟨?_, clear_g fl (by omega) (.inr (by omega))⟩
      rw [conc_fl fl i (by omega), flVal_s (fl i) (r := 10 + n / 8) (by omega)]
      show (if (0 : Int) ≤ (n : Int) then some (AV.i .u64 ((((fl i).K : Nat) : Int).fdiv (2 ^ (min ((n : Int).toNat) 64)))) else none) = some (.i .u64 (((fl i).K / 2 ^ (8 * (10 + n / 8 - 10)) : Nat) : Int))
      rw [if_pos (by omega), show (min ((n : Int).toNat) 64) = n by simp; omega, show 8 * (10 + n / 8 - 10) = n by omega, Int.fdiv_eq_ediv_of_nonneg _ (Int.le_of_lt (Int.pow_pos (by decide)))]
      simp
    · cases e
  · split at e
    · rename_i h
      obtain ⟨h1, h2, rfl⟩ := h
      cases e
      obtain ⟨m, rfl⟩ : ∃ m, r = 40 + m := ⟨r - 40, by omega⟩
      refine ⟨?_, clear_g fl (by omega) (.inr (by omega))⟩
      rw [conc_fl fl i (by omega), flVal_p (fl i) (r := 40 + m) (by omega), flVal_q (fl i) (r := 40 + m + 10) (by omega)]
      rw [show 48 - (40 + m) = 8 - m by omega, show 58 - (40 + m + 10) = 8 - m by omega]
      have hle : (fl i).K / 2 ^ (8 * (8 - m)) * 256 ≤ (fl i).K := by
        have e1 : (fl i).K / 2 ^ (8 * (8 - m)) ≤ (fl i).K / 2 ^ 8 := Nat.div_le_div_left (Nat.pow_le_pow_right (by decide) (by omega)) (by decide)
        have e2 := Nat.div_mul_le_self (fl i).K (2 ^ 8)
        omega
      show (if (0 : Int) ≤ ((8 : Nat) : Int) then some (AV.i .u64 (IntKind.wrap .u64 ((((fl i).K / 2 ^ (8 * (8 - m)) : Nat) : Int) * 2 ^ (min (((8 : Nat) : Int).toNat) 64)))) else none) = some (.i .u64 (((fl i).K / 2 ^ (8 * (8 - m)) * 256 : Nat) : Int))
      rw [if_pos (by omega), show (min (((8 : Nat) : Int).toNat) 64) = 8 by rfl]
      rw [show ((((fl i).K / 2 ^ (8 * (8 - m)) : Nat) : Int) * 2 ^ 8) = (((fl i).K / 2 ^ (8 * (8 - m)) * 256 : Nat) : Int) by simp, wrap_u64 (by omega)]
    · cases e
  · cases e

/-- Where a whole number lies beside 0 .. 2. -/
def InCls (c : Nat) (V : Int) : Prop := (c = 3 ∨ c = 4 ∨ 10 ≤ c) ∨ (c = 0 ∧ V < 0) ∨ (c = 1 ∧ 0 ≤ V ∧ V ≤ 2) ∨ (c = 2 ∧ 2 < V)

theorem cmpG_ok {P : Program} {t : TypeId} {c : Nat} {op : BinOp} {V : Int} {n : Nat} {v : AV} (hc : InCls c V) (e : cmpG c op n = some v) :
    binA P op t (.i .i64 V) (.i .i64 (n : Int)) = some v ∧ ∀ n, v ≠ .tok n := by
  unfold cmpG at e
  split at e
  · cases e
  rename_i hc3
  replace hc : (c = 0 ∧ V < 0) ∨ (c = 1 ∧ 0 ≤ V ∧ V ≤ 2) ∨ (c = 2 ∧ 2 < V) := hc.resolve_left hc3
  split at e
  · split at e
    · rename_i h; subst h; cases e
      refine ⟨?_, fun n e => by cases e⟩
      show some (AV.b (decide (V < ((0 : Nat) : Int)))) = _
      congr 2
      rcases hc with ⟨rfl, h⟩ | ⟨rfl, h1, h2⟩ | ⟨rfl, h⟩
      · simpa using h
      · simpa using h1
      · simp; omega
    · cases e
  · split at e
    · rename_i h; subst h; cases e
      refine ⟨?_, fun n e => by cases e⟩
      show some (AV.b (decide (V ≥ ((3 : Nat) : Int)))) = _
      congr 2
      rcases hc with ⟨rfl, h⟩ | ⟨rfl, h1, h2⟩ | ⟨rfl, h⟩
      · simp; omega
      · simp; omega
      · simp; omega
    · cases e
  · split at e
    · rename_i h; subst h; cases e
      refine ⟨?_, fun n e => by cases e⟩
      show some (AV.b (decide (V > ((2 : Nat) : Int)))) = _
      congr 2
      rcases hc with ⟨rfl, h⟩ | ⟨rfl, h1, h2⟩ | ⟨rfl, h⟩
      · simp; omega
      · simp; omega
      · simp; omega
    · cases e
  · cases e

theorem order_nan {a b : Nat} (h : (Ieee.double.read a).isNaN = true) : Ieee.double.order a b = none := by
  unfold Ieee.Format.order
  cases e : Ieee.double.read a with
  | nan => cases Ieee.double.read b <;> rfl
  | infinity s => rw [e] at h; cases h
  | number s m p => rw [e] at h; cases h

/-- A number and the same with one NaN. -/
def QCls (a : Fl) : Prop := (isNan a.X = false ∧ a.Q = a.X) ∨ (isNan a.X = true ∧ isNan a.Q = true)
def NanCls (fl : Nat → Fl) (c : Nat) : Prop := 10 ≤ c → isNan (fl ((c - 10) / 2)).X = (c % 2 == 1)

theorem fcG_ok {P : Program} {t : TypeId} {c : Nat} {op : BinOp} {i r s : Nat} {v : AV} (hq : QCls (fl i)) (hn : NanCls fl c) (hr : r < 100) (hs : s < 100) (e : fcG c op i r s = some v) :
    binA P op t (@conc (toks fl) (.tok (100 * i + r))) (@conc (toks fl) (.tok (100 * i + s))) = some (@conc (toks fl) v) ∧ @Clear (toks fl) v := by
  rw [conc_fl fl i hr, conc_fl fl i hs]
  unfold fcG at e
  split at e
  · rename_i hc
    obtain ⟨h10, rfl, hr', hs'⟩ := hc
    have hx := hn h10
    have key : ∀ x y, (x = (fl ((c - 10) / 2)).X ∨ x = (fl ((c - 10) / 2)).Q) → (y = (fl ((c - 10) / 2)).X ∨ y = (fl ((c - 10) / 2)).Q) → (Ieee.double.order x y == some .eq) = (c % 2 == 0) := fun x y h1 h2 => by
      rcases hq with ⟨q1, q2⟩ | ⟨q1, q2⟩
      · have hxx : x = (fl ((c - 10) / 2)).X := by rcases h1 with h | h; exact h; rw [h, q2]
        have hyy : y = (fl ((c - 10) / 2)).X := by rcases h2 with h | h; exact h; rw [h, q2]
        rw [hxx, hyy, order_self q1]
        rw [q1] at hx
        have : c % 2 = 0 := by
          have h' : ¬ c % 2 = 1 := by simpa using hx.symm
          omega
        rw [this]; rfl
      · have hxx : (Ieee.double.read x).isNaN = true := by rcases h1 with h | h; rw [h]; exact q1; rw [h]; exact q2
        rw [order_nan hxx]
        rw [q1] at hx
        have : c % 2 = 1 := by simpa using hx.symm
        rw [this]; rfl
    obtain ⟨x, hx1, hx2⟩ : ∃ x, concV (flVal (fl ((c - 10) / 2)) r) = .f .f64 x ∧ (x = (fl ((c - 10) / 2)).X ∨ x = (fl ((c - 10) / 2)).Q) := by
      rcases hr' with rfl | rfl
      · exact ⟨_, rfl, .inl rfl⟩
      · exact ⟨_, rfl, .inr rfl⟩
    obtain ⟨y, hy1, hy2⟩ : ∃ x, concV (flVal (fl ((c - 10) / 2)) s) = .f .f64 x ∧ (x = (fl ((c - 10) / 2)).X ∨ x = (fl ((c - 10) / 2)).Q) := by
      rcases hs' with rfl | rfl
      · exact ⟨_, rfl, .inl rfl⟩
      · exact ⟨_, rfl, .inr rfl⟩
    have hk := key x y hx2 hy2
    rw [hx1, hy1]
    split at e
    · cases e
      refine ⟨?_, clear_lit fl (fun n e => by cases e)⟩
      show some (AV.b (Ieee.double.order x y != some .eq)) = some (.b (c % 2 == 1))
      unfold bne
      rw [hk]
      congr 2
      have : c % 2 = 0 ∨ c % 2 = 1 := by omega
      rcases this with h | h <;> rw [h] <;> rfl
    · cases e
      refine ⟨?_, clear_lit fl (fun n e => by cases e)⟩
      show some (AV.b (Ieee.double.order x y == some .eq)) = some (.b (c % 2 == 0))
      rw [hk]
    · cases e
  · cases e

theorem ctG_ok {P : Program} {t : TypeId} {i r s : Nat} {v : AV} (hr : r < 100) (hs : s < 100) (e : ctG i r s = some v) :
    binA P .eql t (@conc (toks fl) (.tok (100 * i + r))) (@conc (toks fl) (.tok (100 * i + s))) = some (@conc (toks fl) v) ∧ @Clear (toks fl) v := by
  rw [conc_fl fl i hr, conc_fl fl i hs]
  unfold ctG at e
  split at e
  · rename_i h
    obtain ⟨rfl, rfl⟩ := h
    cases e
    refine ⟨?_, clear_g fl (by decide) (.inr (by decide))⟩
    rw [conc_fl fl i (by decide)]
    show some (AV.b (Ieee.double.order (fl i).X (fl i).X == some .eq)) = some (.b (!isNan (fl i).X))
    cases h : isNan (fl i).X with
    | false => rw [order_self h]; rfl
    | true => rw [order_nan h]; rfl
  · split at e
    · rename_i h
      obtain ⟨rfl, rfl⟩ := h
      cases e
      refine ⟨?_, clear_lit fl (fun n e => by cases e)⟩
      show some (AV.b ((fl i).V == (fl i).V)) = some (.b true)
      simp
    · cases e

theorem upG_ok {P : Program} {t : TypeId} {i n : Nat} {op : BinOp} {v : AV} (e : upG i op n = some v) :
    binA P op t (.i .i64 (fl i).V) (.i .i64 (n : Int)) = some (@conc (toks fl) v) ∧ @Clear (toks fl) v := by
  unfold upG at e
  split at e
  · split at e
    · rename_i h; subst h
      cases e
      refine ⟨?_, clear_g fl (by decide) (.inr (by decide))⟩
      rw [conc_fl fl i (by decide)]
      rfl
    · cases e
  · cases e

/-- The names of the counts. -/
def Counts (fl : Nat → Fl) : Prop := (fl 0).V = 0 ∧ ∀ i, (fl (i + 1)).V = if isNan (fl i).X = true then (fl i).V else IntKind.wrap .i64 ((fl i).V + 1)

theorem jnG_ok {c n : Nat} {f : AV → AV → Option AV} (hct : c = 4 → Counts fl) (e : jnG c n = some f) :
    ∃ b, (toks fl).val n = .bool b ∧ ∀ x y r, f x y = some r → ∀ I Z v, (b = true → @VRel (toks fl) I Z x v → @VRel (toks fl) I Z r v) ∧ (b = false → @VRel (toks fl) I Z y v → @VRel (toks fl) I Z r v) := by
  letI := toks fl
  unfold jnG at e
  split at e
  · rename_i hc
    obtain ⟨h4, hn⟩ := hc
    cases e
    have hcn := (hct h4).2 (n / 100)
    have hc0 := (hct h4).1
    refine ⟨!isNan (fl (n / 100)).X, ?_, fun x y r e I Z v => ?_⟩
    · show flVal (fl (n / 100)) (n % 100) = _
      rw [hn]; rfl
    · dsimp only at e
      split at e
      · rename_i a b
        split at e
        · rename_i hab
          obtain ⟨rfl, rfl⟩ := hab
          cases e
          have val : ∀ i r, r < 100 → Toks.val (100 * i + r) = flVal (fl i) r := fun i r hr => by
            show flVal (fl ((100 * i + r) / 100)) ((100 * i + r) % 100) = _
            rw [show (100 * i + r) / 100 = i by omega, show (100 * i + r) % 100 = r by omega]
          refine ⟨fun hb hv => ?_, fun hb hv => ?_⟩
          · have hx : isNan (fl (n / 100)).X = false := by simpa using hb
            rw [hx] at hcn
            cases hv with
            | tok _ _ h =>
            rw [val _ _ (by decide)] at h
            refine .tok _ _ ?_
            rw [val _ _ (by decide), ← h]
            show Value.int .i64 (fl (n / 100 + 1)).V = Value.int .i64 (IntKind.wrap .i64 ((fl (n / 100)).V + 1))
            rw [hcn]; rfl
          · have hx : isNan (fl (n / 100)).X = true := by simpa using hb
            rw [hx] at hcn
            cases hv with
            | tok _ _ h =>
            rw [val _ _ (by decide)] at h
            refine .tok _ _ ?_
            rw [val _ _ (by decide), ← h]
            show Value.int .i64 (fl (n / 100 + 1)).V = Value.int .i64 (fl (n / 100)).V
            rw [hcn]; rfl
        · cases e
      · split at e
        · rename_i h0
          cases e
          rw [h0] at hcn ⊢
          have v1 : Toks.val 199 = .int .i64 (fl 1).V := rfl
          refine ⟨fun hb hv => ?_, fun hb hv => ?_⟩
          · have hx : isNan (fl 0).X = false := by simpa using hb
            rw [hx, hc0] at hcn
            cases hv
            exact .tok _ _ (by rw [v1, hcn]; rfl)
          · have hx : isNan (fl 0).X = true := by simpa using hb
            rw [hx, hc0] at hcn
            cases hv
            exact .tok _ _ (by rw [v1, hcn]; rfl)
        · cases e
      · cases e
  · cases e

theorem tbG_ok {P : Program} {c : Nat} (hk : ∀ i, (fl i).K < 2 ^ 64) (hc : ∀ i, InCls c (fl i).V) (hq : ∀ i, QCls (fl i)) (hn : NanCls fl c) {op : BinOp} {t : TypeId} {x y r : AV} (e : tbG c op t x y = some r) :
    binA P op t (@conc (toks fl) x) (@conc (toks fl) y) = some (@conc (toks fl) r) ∧ @Clear (toks fl) r := by
  unfold tbG at e
  split at e
  · rename_i a
    split at e
    · rename_i b
      split at e
      · split at e
        · rename_i h
          have := orG_ok fl (P := P) (t := t) (hk (a / 100)) (Nat.mod_lt a (by decide)) (Nat.mod_lt b (by decide)) e
          rw [name_split, h, name_split] at this
          exact this
        · cases e
      · split at e
        · rename_i h
          have := fcG_ok fl (P := P) (t := t) (hq (a / 100)) hn (Nat.mod_lt a (by decide)) (Nat.mod_lt b (by decide)) e
          rw [name_split, h, name_split] at this
          exact this
        · cases e
      · split at e
        · rename_i h
          split at e
          · have := ctG_ok fl (P := P) (t := t) (Nat.mod_lt a (by decide)) (Nat.mod_lt b (by decide)) e
            rw [name_split, h, name_split] at this
            exact this
          · have := fcG_ok fl (P := P) (t := t) (hq (a / 100)) hn (Nat.mod_lt a (by decide)) (Nat.mod_lt b (by decide)) e
            rw [name_split, h, name_split] at this
            exact this
        · cases e
      · cases e
    · rename_i k n
      split at e
      · rename_i h99
        split at e
        · rename_i hki; subst hki
          split at e
          · have := upG_ok fl (P := P) (t := t) (i := a / 100) e
            rw [conc_tok fl a, h99, flVal_v]
            exact this
          obtain ⟨h1, h2⟩ := cmpG_ok (P := P) (t := t) (hc (a / 100)) e
          refine ⟨?_, clear_lit fl h2⟩
          have hcr : @conc (toks fl) r = r := by
            cases r with
            | tok n => exact absurd rfl (h2 n)
            | _ => rfl
          rw [hcr, conc_tok fl a, h99, flVal_v]
          exact h1
        · cases e
      · have := shG_ok fl (P := P) (t := t) (k := k) (hk (a / 100)) (Nat.mod_lt a (by decide)) e
        rw [name_split] at this
        exact this
    · cases e
  · split at e
    · rename_i b
      split at e
      · split at e
        · rename_i hb
          cases e
          have hk := hk (b / 100)
          refine ⟨?_, clear_g fl (by decide) (.inr (by decide))⟩
          rw [conc_tok fl b, hb, conc_fl fl _ (by decide), flVal_w _ (by omega), flVal_p _ (by omega)]
          show some (AV.i .u64 (IntKind.wrap .u64 ((BitVec.ofInt 64 ((0 : Nat) : Int) ||| BitVec.ofInt 64 (((fl (b / 100)).K / 2 ^ (8 * (37 - 30)) % 256 : Nat) : Int)).toNat : Nat))) = some (.i .u64 (((fl (b / 100)).K / 2 ^ (8 * (48 - 41)) : Nat) : Int))
          rw [or_bits]
          have e1 : (fl (b / 100)).K / 2 ^ (8 * (37 - 30)) % 256 = (fl (b / 100)).K / 2 ^ (8 * (48 - 41)) := by
            show (fl (b / 100)).K / 2 ^ 56 % 256 = (fl (b / 100)).K / 2 ^ 56
            omega
          have e2 : (fl (b / 100)).K / 2 ^ (8 * (48 - 41)) < 256 := by
            show (fl (b / 100)).K / 2 ^ 56 < 256
            omega
          rw [e1, Nat.zero_mod, Nat.zero_or, Nat.mod_eq_of_lt (by omega), wrap_u64 (by omega)]
        · cases e
      · cases e
    · cases e
  · cases e

theorem tcG_ok {P : Program} {src dst : TypeId} {x r : AV} (e : tcG P src dst x = some r) (I : Inj) (Z : Zed) (w : World) (v : Value) (hv : @VRel (toks fl) I Z x v) :
    ∃ cv, (convert src dst v).run P w = .ok cv w ∧ @VRel (toks fl) I Z r cv := by
  letI := toks fl
  unfold tcG at e
  split at e
  · rename_i a
    cases hv with
    | tok _ _ hv =>
    have hv' : flVal (fl (a / 100)) (a % 100) = v := hv
    split at e
    · rename_i d hs hd
      split at e
      · rename_i h
        cases e
        rw [flVal_s _ h] at hv'
        subst hv'
        refine ⟨U .u8 ((fl (a / 100)).K / 2 ^ (8 * (a % 100 - 10)) % 256), ?_, .tok _ _ ?_⟩
        · unfold U
          rw [← wrap_u8]
          simp [convert, run_underlying hs, run_underlying hd, Conv.intToInt]
        · show flVal (fl ((100 * (a / 100) + (a % 100 + 10)) / 100)) ((100 * (a / 100) + (a % 100 + 10)) % 100) = _
          rw [show (100 * (a / 100) + (a % 100 + 10)) / 100 = a / 100 by omega, show (100 * (a / 100) + (a % 100 + 10)) % 100 = a % 100 + 10 by omega, flVal_b _ (by omega), show a % 100 + 10 - 20 = a % 100 - 10 by omega]
      · cases e
    · rename_i d hs hd
      split at e
      · rename_i h
        cases e
        rw [flVal_b _ h] at hv'
        subst hv'
        have hb : (fl (a / 100)).K / 2 ^ (8 * (a % 100 - 20)) % 256 < 256 := Nat.mod_lt _ (by decide)
        refine ⟨U .u64 ((fl (a / 100)).K / 2 ^ (8 * (a % 100 - 20)) % 256), ?_, .tok _ _ ?_⟩
        · have hw : IntKind.wrap .u64 (((fl (a / 100)).K / 2 ^ (8 * (a % 100 - 20)) % 256 : Nat) : Int) = ((fl (a / 100)).K / 2 ^ (8 * (a % 100 - 20)) % 256 : Nat) := wrap_u64 (by omega)
          unfold U
          conv => rhs; rw [← hw]
          simp [convert, run_underlying hs, run_underlying hd, Conv.intToInt]
        · show flVal (fl ((100 * (a / 100) + (a % 100 + 10)) / 100)) ((100 * (a / 100) + (a % 100 + 10)) % 100) = _
          rw [show (100 * (a / 100) + (a % 100 + 10)) / 100 = a / 100 by omega, show (100 * (a / 100) + (a % 100 + 10)) % 100 = a % 100 + 10 by omega, flVal_w _ (by omega), show a % 100 + 10 - 30 = a % 100 - 20 by omega]
      · cases e
    · cases e
  · cases e
end keys

/-- The function answers so whatever the memory is, and leaves what there was as it was. -/
def Plainly (P : Program) (f : FuncId) (vs : List Value) (cv : Value) : Prop := ∀ w : World, Calls P f vs.toArray w fun e w' => e = .returned cv ∧ ∃ J h', Fr noI emptyH w J h' w'

section plainly
variable [Toks]
theorem plainly_of_run {E : Env} (hE : EnvGood E) (hgl : ∀ g, E.glob g = none) {n : Nat} {f : FuncId} {args : List AV} {v : AV} {h' : AH} (e : run E n (.call f args emptyH) = some (.ret v h')) {vs : List Value} {cv : Value}
    (hL : LRel noI (fun _ _ => none) args vs) (hv : ∀ J Y u, VRel J Y v u → u = cv) : Plainly E.P f vs cv := fun w => by
  refine (call_ok hE e noI (fun _ _ => none) w vs (fun g cs h => by rw [hgl] at h; cases h) hL (empty_rel (fun _ _ _ h => by cases h))).mono ?_
  rintro e' w' ⟨J, Y, u, rfl, hgo, hu⟩
  exact ⟨by rw [hv J Y u hu], J, h', hgo.fr⟩

theorem back_fr {I J : Inj} {Z : Zed} {h h' : AH} {w w' : World} (hr : Rel I Z h w) (hf : Fr noI emptyH w J h' w') : Goes I Z h w I Z h w' := by
  have hold : ∀ b, b < w.heap.size → w'.heap[b]? = w.heap[b]? := fun b hb => hf.other b hb (fun k B hk => (emptyH_live hk).elim)
  have hcell : ∀ b o v, w.cell? ⟨b, o, none⟩ = some v → w'.cell? ⟨b, o, none⟩ = some v := fun b o v h1 => by
    have hb : b < w.heap.size := World.block_lt_of_cell? w _ h1
    simp only [World.cell?, hold b hb]; simpa [World.cell?] using h1
  refine ⟨.refl _, .refl _, fun _ _ _ h => .inl h, ⟨fun k es cs hk => ?_, fun k es hk => ?_, hr.inj, fun b o v hz => ⟨hcell b o v (hr.zed b o v hz).1, (hr.zed b o v hz).2⟩, hr.fresh, fun k B hB => Nat.lt_of_lt_of_le (hr.size k B hB) hf.size⟩,
    ⟨hf.os, hf.out, hf.size, Nat.le_refl _, fun b hb _ => hold b hb, fun k B hk hB o ho => ?_, fun k B hk hB _ => ⟨k, B, hk, hB, rfl, Nat.le_refl _⟩⟩⟩
  · obtain ⟨B, hB, he, hc⟩ := hr.cells k es cs hk
    exact ⟨B, hB, he, hc.mono (.refl _) (.refl _) (hold _ (hr.size k B hB))⟩
  · obtain ⟨B, hB, hc⟩ := hr.map k es hk
    exact ⟨B, hB, hc.mono (.refl _) (.refl _) (hold _ (hr.size k B hB))⟩
  · simp only [World.cell?, hold _ (hr.size k B hB)]

theorem callok_plainly {E : Env} {f : FuncId} {args : List AV} {h : AH} {v : AV} {vs0 : List Value} {cv : Value} (hargs : ∀ I Z vs, LRel I Z args vs → vs = vs0) (hp : Plainly E.P f vs0 cv) (hv : ∀ I Z, VRel I Z v cv) : CallOk E f args h v h := by
  intro I Z w vs hg hL hr
  obtain rfl := hargs I Z vs hL
  refine (hp w).mono ?_
  rintro e w' ⟨rfl, J, h', hf⟩
  exact ⟨I, Z, cv, rfl, back_fr hr hf, hv I Z⟩

/-- What a function answers in an empty heap. -/
def fbA (E : Env) (f : FuncId) (as : List AV) : Option AV :=
  match run E 60 (.call f as emptyH) with
  | some (.ret v _) => if v.flat = true then some v else none
  | _ => none

theorem fbA_ok {E E' : Env} (hE : EnvGood E) (hgl : ∀ g, E.glob g = none) (hP : E'.P = E.P) {f : FuncId} {args as : List AV} {h : AH} {v : AV} (ha : args.mapM (deepR emptyH deep) = some as) (hp : pureL as = true) (e : fbA E f as = some v) : CallOk E' f args h v h := by
  unfold fbA at e
  split at e
  · rename_i v' h' hrun
    split at e
    · rename_i hfl
      cases e
      intro I Z w vs hg hL hr
      have hLn : LRel noI Z as vs := pureL_rel (mapM_empty ha hL) hp
      rw [hP]
      refine (call_ok hE hrun noI Z w vs (fun g cs h => by rw [hgl] at h; cases h) hLn (empty_rel hr.le_all)).mono ?_
      rintro e' w' ⟨J, Y, u, rfl, hgo, hu⟩
      exact ⟨I, Z, u, rfl, Rel.back hr hgo (.refl _), flat_rel hu hfl⟩
    · cases e
  · cases e
end plainly

def qN : Nat := 9221120237041090561

/-- Bare tables. -/
def Tab.bare (T : Tab) : Tab := { T with glob := [], win := [] }

/-- Surroundings for numbers that are none, or without end. -/
def envN (P : Program) (T : Tab) : Env :=
  { env P T.bare with ext := fun f => if f = T.bits then some bitsX else if f = T.fromBits then some (fun a => match a with | [.i .u64 (.ofNat n)] => if n = qN then some (.tok 6) else fromBitsX a | _ => fromBitsX a) else none }

def nanFl : Fl := ⟨qN, noneN, 0, false, qN, 0⟩

theorem envN_good {P : Program} {T : Tab} (hmix : P.follows .mixedOrders = true) (hb : ExtIs P T.bits Extern.MathFloatBits.float64bits) (hf : ExtIs P T.fromBits Extern.MathFloatBits.float64frombits) : @EnvGood (toks fun _ => nanFl) (envN P T) := by
  letI := toks fun _ => nanFl
  have h0 : EnvGood (env P T.bare) := env_good hmix hb hf rfl
  have hfrom : ∀ args v, fromBitsX args = some v → ∀ I Z (w : World) (vs : List Value), LRel I Z args vs → ∃ cv, (callFunc T.fromBits vs.toArray).run P w = .ok (.value cv) w ∧ VRel I Z v cv := by
    intro args v hv I Z w vs hL
    unfold fromBitsX at hv
    split at hv
    · split at hv
      · rename_i n hn
        obtain ⟨y, rfl, hyr⟩ := inv_one hL
        cases hyr
        cases hv
        exact ⟨.float .f64 n.toNat, hf.run rfl, .f _ _ _ (.inl rfl)⟩
      · cases hv
    · cases hv
  exact { h0 with
    draws := fun f fn c _ _ x _ W hW => by simp [envN, env, Tab.bare, lookupL] at hW
    exts := fun f g hg args v hv I Z w vs hL => by
      simp only [envN] at hg
      split at hg
      · rename_i hf'
        cases hg; subst hf'
        exact h0.exts T.bits bitsX (by simp [env, Tab.bare]) args v hv I Z w vs hL
      · split at hg
        · rename_i hf'
          cases hg; subst hf'
          dsimp only at hv
          split at hv
          · rename_i n
            split at hv
            · rename_i hn; subst hn
              cases hv
              obtain ⟨y, rfl, hyr⟩ := inv_one hL
              cases hyr
              exact ⟨.float .f64 qN, hf.run rfl, .tok _ _ rfl⟩
            · exact hfrom _ _ hv I Z w vs hL
          · exact hfrom _ _ hv I Z w vs hL
        · cases hg }

structure Fl.Gen (P : Program) (key of_ plain : FuncId) (a : Fl) : Prop where
  klt : a.K < 2 ^ 64
  k0 : Plainly P key [.float .f64 a.X] (U .u64 a.K)
  k6 : Plainly P key [.float .f64 a.Q] (U .u64 a.K)
  p0 : Plainly P plain [.float .f64 a.X] (.float .f64 a.Q)
  p6 : Plainly P plain [.float .f64 a.Q] (.float .f64 a.Q)
  of_ : Plainly P of_ [U .u64 a.K] (.tuple #[.float .f64 a.Q, .bool true])
  cl : QCls a

def retIs (p : AV → Bool) (r : Option Res) : Bool := match r with | some (.ret v _) => p v | _ => false
def isTok (n : Nat) : AV → Bool | .tok m => m == n | _ => false
def isKey (n : Nat) : AV → Bool | .i .u64 (.ofNat m) => m == n | _ => false
def isFl (n : Nat) : AV → Bool | .f .f64 m => m == n | _ => false
def isPair (p : AV → Bool) : AV → Bool | .tup [x, .b true] => p x | _ => false

theorem retIs_of {p : AV → Bool} {r : Option Res} (h : retIs p r = true) : ∃ v h', r = some (.ret v h') ∧ p v = true := by
  unfold retIs at h
  split at h
  · exact ⟨_, _, rfl, h⟩
  · cases h
theorem isTok_of {n : Nat} {v : AV} (h : isTok n v = true) : v = .tok n := by
  unfold isTok at h
  split at h
  · rw [beq_iff_eq] at h; rw [h]
  · cases h
theorem isKey_of {n : Nat} {v : AV} (h : isKey n v = true) : v = .i .u64 (n : Int) := by
  unfold isKey at h
  split at h
  · rw [beq_iff_eq] at h; rw [h]; rfl
  · cases h
theorem isFl_of {n : Nat} {v : AV} (h : isFl n v = true) : v = .f .f64 n := by
  unfold isFl at h
  split at h
  · rw [beq_iff_eq] at h; rw [h]
  · cases h
theorem isPair_of {p : AV → Bool} {v : AV} (h : isPair p v = true) : ∃ x, v = .tup [x, .b true] ∧ p x = true := by
  unfold isPair at h
  split at h
  · exact ⟨_, rfl, h⟩
  · cases h

section gen
variable {P : Program} {T : Tab} {key of_ plain : FuncId}

theorem tup_inv [Toks] {J : Inj} {Y : Zed} {x : AV} {u : Value} {c : Value} (h : VRel J Y (.tup [x, .b true]) u) (hx : ∀ y, VRel J Y x y → y = c) : u = .tuple #[c, .bool true] := by
  obtain ⟨vs, rfl, hL⟩ := tup_iff.1 h
  obtain ⟨y, r, rfl, hy, hL1⟩ := hL.inv_cons
  obtain ⟨b, r1, rfl, hb, hL2⟩ := hL1.inv_cons
  obtain rfl := hL2.inv_nil
  cases hb
  rw [hx y hy]

/-- Numbers with an end. -/
theorem gen_fin (hmix : P.follows .mixedOrders = true) (hb : ExtIs P T.bits Extern.MathFloatBits.float64bits) (hf : ExtIs P T.fromBits Extern.MathFloatBits.float64frombits)
    (hk : ∀ neg, retIs (isTok 2) (run (envT P T.bare fun _ => neg) 60 (.call key [.tok 0] emptyH)) = true) (hp : ∀ neg, retIs (isTok 0) (run (envT P T.bare fun _ => neg) 60 (.call plain [.tok 0] emptyH)) = true)
    (ho : ∀ neg, retIs (isPair (isTok 0)) (run (envT P T.bare fun _ => neg) 60 (.call of_ [.tok 2] emptyH)) = true) {X : Nat} (h : X < 2 ^ 64) (hfin : X % 2 ^ 63 < 2047 * 2 ^ 52) : ∃ a : Fl, a.X = X ∧ a.V = 0 ∧ a.Gen P key of_ plain := by
  obtain ⟨a0, hX, ok0⟩ := Fl.of h hfin
  refine ⟨{ a0 with Q := a0.X, V := 0 }, hX, rfl, ?_⟩
  have ok : ({ a0 with Q := a0.X, V := 0 } : Fl).Ok := ⟨ok0.lt, ok0.fin, ok0.sgn, ok0.key, ok0.inv, ok0.nn, by
    obtain ⟨s, m, e, hr⟩ := finite_number ok0.fin
    show (Ieee.double.read a0.X).isNaN = false
    rw [hr]; rfl⟩
  letI := toks fun _ => ({ a0 with Q := a0.X, V := 0 } : Fl)
  have hE : EnvGood (envT P T.bare fun _ => a0.neg) := envT_good (fun _ => { a0 with Q := a0.X, V := 0 }) (fun _ => ok) hmix hb hf rfl
  have l0 : LRel noI (fun _ _ => none) [.tok 0] [.float .f64 a0.X] := .cons (.tok 0 _ rfl) .nil
  have l2 : LRel noI (fun _ _ => none) [.tok 2] [U .u64 a0.K] := .cons (.tok 2 _ rfl) .nil
  have t0 : ∀ J Y u, VRel J Y (.tok 0) u → u = .float .f64 a0.X := fun J Y u h => by cases h with | tok _ _ h => exact h.symm
  have t2 : ∀ J Y u, VRel J Y (.tok 2) u → u = U .u64 a0.K := fun J Y u h => by cases h with | tok _ _ h => exact h.symm
  have k0 : Plainly P key [.float .f64 a0.X] (U .u64 a0.K) := by
    obtain ⟨v, h', e, hv⟩ := retIs_of (hk a0.neg)
    rw [isTok_of hv] at e
    exact plainly_of_run hE (fun _ => rfl) e l0 t2
  have p0 : Plainly P plain [.float .f64 a0.X] (.float .f64 a0.X) := by
    obtain ⟨v, h', e, hv⟩ := retIs_of (hp a0.neg)
    rw [isTok_of hv] at e
    exact plainly_of_run hE (fun _ => rfl) e l0 t0
  have o0 : Plainly P of_ [U .u64 a0.K] (.tuple #[.float .f64 a0.X, .bool true]) := by
    obtain ⟨v, h', e, hv⟩ := retIs_of (ho a0.neg)
    obtain ⟨x, rfl, hx⟩ := isPair_of hv
    rw [isTok_of hx] at e
    exact plainly_of_run hE (fun _ => rfl) e l2 (fun J Y u h => tup_inv h (t0 J Y))
  refine ⟨ok0.klt, k0, k0, p0, p0, o0, .inl ⟨?_, rfl⟩⟩
  obtain ⟨s, m, e, hr⟩ := finite_number ok0.fin
  show (Ieee.double.read a0.X).isNaN = false
  rw [hr]; rfl

/-- Numbers without end. -/
theorem gen_inf (hmix : P.follows .mixedOrders = true) (hb : ExtIs P T.bits Extern.MathFloatBits.float64bits) (hf : ExtIs P T.fromBits Extern.MathFloatBits.float64frombits) {X K : Nat} (hX : isNan X = false) (hK : K < 2 ^ 64)
    (hk : retIs (isKey K) (run (envN P T) 60 (.call key [.f .f64 X] emptyH)) = true) (hp : retIs (isFl X) (run (envN P T) 60 (.call plain [.f .f64 X] emptyH)) = true)
    (ho : retIs (isPair (isFl X)) (run (envN P T) 60 (.call of_ [.i .u64 (K : Int)] emptyH)) = true) : ∃ a : Fl, a.X = X ∧ a.V = 0 ∧ a.Gen P key of_ plain := by
  refine ⟨⟨X, K, 0, false, X, 0⟩, rfl, rfl, ?_⟩
  letI := toks fun _ => nanFl
  have hE : EnvGood (envN P T) := envN_good hmix hb hf
  have l0 : LRel noI (fun _ _ => none) [.f .f64 X] [.float .f64 X] := .cons (.f _ _ _ (.inl rfl)) .nil
  have l2 : LRel noI (fun _ _ => none) [.i .u64 (K : Int)] [U .u64 K] := .cons (.i _ _) .nil
  have t0 : ∀ J Y u, VRel J Y (.f .f64 X) u → u = .float .f64 X := fun J Y u h => by
    cases h with
    | f _ _ y hy =>
      rcases hy with rfl | ⟨h1, _⟩
      · rfl
      · unfold nanF at h1; unfold isNan at hX; rw [hX] at h1; cases h1
  have t2 : ∀ J Y u, VRel J Y (.i .u64 (K : Int)) u → u = U .u64 K := fun J Y u h => by cases h; rfl
  have k0 : Plainly P key [.float .f64 X] (U .u64 K) := by
    obtain ⟨v, h', e, hv⟩ := retIs_of hk
    rw [isKey_of hv] at e
    exact plainly_of_run hE (fun _ => rfl) e l0 t2
  have p0 : Plainly P plain [.float .f64 X] (.float .f64 X) := by
    obtain ⟨v, h', e, hv⟩ := retIs_of hp
    rw [isFl_of hv] at e
    exact plainly_of_run hE (fun _ => rfl) e l0 t0
  have o0 : Plainly P of_ [U .u64 K] (.tuple #[.float .f64 X, .bool true]) := by
    obtain ⟨v, h', e, hv⟩ := retIs_of ho
    obtain ⟨x, rfl, hx⟩ := isPair_of hv
    rw [isFl_of hx] at e
    exact plainly_of_run hE (fun _ => rfl) e l2 (fun J Y u h => tup_inv h (t0 J Y))
  exact ⟨hK, k0, k0, p0, p0, o0, .inl ⟨hX, rfl⟩⟩

/-- No number. -/
theorem gen_nan (hmix : P.follows .mixedOrders = true) (hb : ExtIs P T.bits Extern.MathFloatBits.float64bits) (hf : ExtIs P T.fromBits Extern.MathFloatBits.float64frombits) {X : Nat} (hX : isNan X = true)
    (hk : retIs (isKey noneN) (run (envN P T) 60 (.call key [.f .f64 qN] emptyH)) = true) (hp : retIs (isTok 6) (run (envN P T) 60 (.call plain [.f .f64 qN] emptyH)) = true)
    (ho : retIs (isPair (isTok 6)) (run (envN P T) 60 (.call of_ [.i .u64 (noneN : Int)] emptyH)) = true) : ∃ a : Fl, a.X = X ∧ a.V = 0 ∧ a.Gen P key of_ plain := by
  refine ⟨⟨X, noneN, 0, false, qN, 0⟩, rfl, rfl, ?_⟩
  letI := toks fun _ => nanFl
  have hE : EnvGood (envN P T) := envN_good hmix hb hf
  have hq : nanF .f64 qN := by show isNan qN = true; decide
  have l0 : LRel noI (fun _ _ => none) [.f .f64 qN] [.float .f64 X] := .cons (.f _ _ _ (.inr ⟨hq, hX⟩)) .nil
  have l6 : LRel noI (fun _ _ => none) [.f .f64 qN] [.float .f64 qN] := .cons (.f _ _ _ (.inl rfl)) .nil
  have l2 : LRel noI (fun _ _ => none) [.i .u64 (noneN : Int)] [U .u64 noneN] := .cons (.i _ _) .nil
  have t6 : ∀ J Y u, VRel J Y (.tok 6) u → u = .float .f64 qN := fun J Y u h => by cases h with | tok _ _ h => exact h.symm
  have t2 : ∀ J Y u, VRel J Y (.i .u64 (noneN : Int)) u → u = U .u64 noneN := fun J Y u h => by cases h; rfl
  obtain ⟨v1, h1, e1, hv1⟩ := retIs_of hk
  rw [isKey_of hv1] at e1
  obtain ⟨v2, h2, e2, hv2⟩ := retIs_of hp
  rw [isTok_of hv2] at e2
  obtain ⟨v3, h3, e3, hv3⟩ := retIs_of ho
  obtain ⟨x, rfl, hx⟩ := isPair_of hv3
  rw [isTok_of hx] at e3
  exact ⟨show noneN < 2 ^ 64 by decide, plainly_of_run hE (fun _ => rfl) e1 l0 t2, plainly_of_run hE (fun _ => rfl) e1 l6 t2, plainly_of_run hE (fun _ => rfl) e2 l0 t6, plainly_of_run hE (fun _ => rfl) e2 l6 t6,
    plainly_of_run hE (fun _ => rfl) e3 l2 (fun J Y u h => tup_inv h (t6 J Y)), .inr ⟨hX, hq⟩⟩
end gen

/-- The surroundings. -/
structure Kit where
  ins : FuncId
  key : FuncId
  of_ : FuncId
  plain : FuncId

def orElse (a b : Option AV) : Option AV := match a with | some x => some x | none => b

def envG (P : Program) (T : Tab) (c : Nat) (K : Kit) (insH : List AV → AH → Option (AV × AH)) : Env where
  P := P
  glob := fun g => (lookupL g T.glob).map bytesL
  fun_ := fun f => P.funcs[f]?
  mode := fun f => T.mode.getD f 0
  hook := fun f => if f = K.ins then some insH else none
  phook := fun f => if f = K.key then some (fun as => orElse (keyG as) (fbA (env P T.bare) K.key as)) else if f = K.plain then some (fun as => orElse (plainG as) (fbA (env P T.bare) K.plain as))
    else if f = K.of_ then some (fun as => orElse (ofG as) (fbA (env P T.bare) K.of_ as)) else none
  ext := fun f => if f = T.bits then some bitsX else if f = T.fromBits then some fromBitsX else none
  ownLit := ownBytes P
  win := fun f id => (lookupL f T.win).bind (lookupL id)
  jn := jnG c
  xh := fun _ => none
  tb := tbG c
  tu := fun _ _ => none
  tc := tcG P

theorem deepR_tok {a : AV} {n : Nat} (h : deepR emptyH deep a = some (.tok n)) : a = .tok n := by
  unfold deepR at h
  split at h
  · rename_i hd; exact absurd hd (by decide)
  · exfalso; simp [AH.get, emptyH, Tr.get_lf] at h
  · split at h
    · cases h
    · obtain ⟨_, _, h⟩ := Option.map_eq_some_iff.1 h; cases h
  · obtain ⟨_, _, h⟩ := Option.map_eq_some_iff.1 h; cases h
  · obtain ⟨_, _, h⟩ := Option.map_eq_some_iff.1 h; cases h
  · obtain ⟨_, _, h⟩ := Option.map_eq_some_iff.1 h; cases h
  · exact Option.some.inj h

theorem mapM_tok {args : List AV} {n : Nat} (h : args.mapM (deepR emptyH deep) = some [.tok n]) : args = [.tok n] := by
  cases args with
  | nil => simp at h
  | cons a r =>
    cases r with
    | nil =>
      simp only [List.mapM_cons, List.mapM_nil, Option.bind_eq_bind, Option.bind_eq_some_iff] at h
      obtain ⟨x, hx, y, hy, h⟩ := h
      cases hy
      simp at h
      subst h
      rw [deepR_tok hx]
    | cons b r =>
      exfalso
      simp only [List.mapM_cons, Option.bind_eq_bind, Option.bind_eq_some_iff] at h
      obtain ⟨x, hx, y, ⟨x', hx', y', hy', hp⟩, h⟩ := h
      cases hp
      cases h

/-- In order. -/
theorem envG_good {P : Program} {T : Tab} {c : Nat} {K : Kit} {insH : List AV → AH → Option (AV × AH)} (fl : Nat → Fl) (hgen : ∀ i, (fl i).Gen P K.key K.of_ K.plain) (hc : ∀ i, InCls c (fl i).V) (hn : NanCls fl c) (hct : c = 4 → Counts fl) {EI : Env} (hIP : EI.P = P) (hIg : ∀ g, EI.glob g = none)
    (hins : ∀ args h v h', insH args h = some (v, h') → @CallOk (toks fl) EI K.ins args h v h')
    (hmix : P.follows .mixedOrders = true) (hb : ExtIs P T.bits Extern.MathFloatBits.float64bits) (hf : ExtIs P T.fromBits Extern.MathFloatBits.float64frombits)
    (hm : T.mode.getD K.ins 0 = 0) (h1 : K.key ≠ K.ins) (h2 : K.of_ ≠ K.ins) (h3 : K.plain ≠ K.ins) (hd : ((T.win.map (·.1)).all fun f => drawCheck (envG P T c K insH) f) = true) : @EnvGood (toks fl) (envG P T c K insH) := by
  letI := toks fl
  have h0 : EnvGood (env P T.bare) := env_good hmix hb hf rfl
  have hh : ∀ f, f ≠ K.ins → (envG P T c K insH).hook f = none := fun f h => by simp [envG, h]
  have tokv : ∀ a I Z vs, LRel I Z [.tok a] vs → vs = [flVal (fl (a / 100)) (a % 100)] := fun a I Z vs hL => by
    obtain ⟨y, rfl, hy⟩ := inv_one hL
    cases hy with
    | tok _ _ h => have h' : flVal (fl (a / 100)) (a % 100) = y := h; rw [h']
  have valt : ∀ i r, r < 100 → ∀ (I : Inj) (Z : Zed), VRel I Z (.tok (100 * i + r)) (flVal (fl i) r) := fun i r hr I Z => by
    refine .tok _ _ ?_
    show flVal (fl ((100 * i + r) / 100)) ((100 * i + r) % 100) = _
    rw [show (100 * i + r) / 100 = i by omega, show (100 * i + r) % 100 = r by omega]
  have fall : ∀ f args as (h : AH) v, args.mapM (deepR emptyH deep) = some as → pureL as = true → fbA (env P T.bare) f as = some v → CallOk (envG P T c K insH) f args h v h := fun f args as h v ha hp e => fbA_ok (E' := envG P T c K insH) h0 (fun _ => rfl) rfl ha hp e
  exact {
    funs := fun f fn h => h
    xhs := fun _ _ h => by cases h
    tbs := fun op t x y r h I Z w v u ox oy hv hu => by
      obtain ⟨h1, h2⟩ := tbG_ok fl (P := P) (fun i => (hgen i).klt) hc (fun i => (hgen i).cl) hn h
      exact tb_ok h1 h2 I Z w v u ox oy hv hu
    tus := fun op x r h => by cases h
    jns := fun n f h => jnG_ok fl hct h
    tcs := fun src dst x r h I Z w v hv => tcG_ok fl h I Z w v hv
    exts := fun f g hg args v hv I Z w vs hL => by
      have hx : (env P T.bare).ext f = (envG P T c K insH).ext f := rfl
      exact h0.exts f g (hx.trans hg) args v hv I Z w vs hL
    pures := fun g cs h => by
      obtain ⟨l, _, rfl⟩ := Option.map_eq_some_iff.1 h
      exact bytesL_pure l
    hookfree := fun f h => by
      refine hh f ?_
      rintro rfl
      rcases h with h | h
      · have h' : T.mode.getD K.ins 0 = 2 := h
        rw [hm] at h'; cases h'
      · simp only [envG] at h
        rw [if_neg (fun e => h1 e.symm), if_neg (fun e => h3 e.symm), if_neg (fun e => h2 e.symm)] at h
        cases h
    hookfree4 := fun f h => by
      refine hh f ?_
      rintro rfl
      have h' : T.mode.getD K.ins 0 = 4 := h
      rw [hm] at h'; cases h'
    mixed := hmix
    hooks := fun f g hg args h v h' e => by
      simp only [envG] at hg
      split at hg
      · rename_i hf'
        cases hg; subst hf'
        intro I Z w vs _ hL hr
        have := hins args h v h' e I Z w vs (fun g cs h => by rw [hIg] at h; cases h) hL hr
        rw [hIP] at this
        exact this
      · cases hg
    phooks := fun f g hg args as h v ha hp e hvp => by
      simp only [envG] at hg
      split at hg
      · rename_i hf'
        cases hg; subst hf'
        dsimp only [orElse] at e
        split at e
        · rename_i x hx
          cases e
          unfold keyG at hx
          split at hx
          · rename_i a
            split at hx
            · rename_i hr
              cases hx
              rw [mapM_tok ha]
              refine callok_plainly (cv := U .u64 (fl (a / 100)).K) (tokv a) ?_ (valt (a / 100) 2 (by decide))
              rcases hr with hr | hr
              · rw [hr]; exact (hgen (a / 100)).k0
              · rw [hr]; exact (hgen (a / 100)).k6
            · cases hx
          · cases hx
        · exact fall _ _ _ _ _ ha hp e
      · split at hg
        · rename_i hf'
          cases hg; subst hf'
          dsimp only [orElse] at e
          split at e
          · rename_i x hx
            cases e
            unfold plainG at hx
            split at hx
            · rename_i a
              split at hx
              · rename_i hr
                cases hx
                rw [mapM_tok ha]
                refine callok_plainly (cv := .float .f64 (fl (a / 100)).Q) (tokv a) ?_ (valt (a / 100) 6 (by decide))
                rcases hr with hr | hr
                · rw [hr]; exact (hgen (a / 100)).p0
                · rw [hr]; exact (hgen (a / 100)).p6
              · cases hx
            · cases hx
          · exact fall _ _ _ _ _ ha hp e
        · split at hg
          · rename_i hf'
            cases hg; subst hf'
            dsimp only [orElse] at e
            split at e
            · rename_i x hx
              cases e
              unfold ofG at hx
              split at hx
              · rename_i a
                split at hx
                · rename_i hr
                  cases hx
                  rw [mapM_tok ha]
                  refine callok_plainly (cv := .tuple #[.float .f64 (fl (a / 100)).Q, .bool true]) (tokv a) ?_ (fun I Z => ?_)
                  · rw [hr]; exact (hgen (a / 100)).of_
                  · exact tup_iff.2 ⟨[.float .f64 (fl (a / 100)).Q, .bool true], rfl, .cons (valt (a / 100) 6 (by decide) I Z) (.cons (.b true) .nil)⟩
                · cases hx
              · cases hx
            · exact fall _ _ _ _ _ ha hp e
          · cases hg
    draws := fun f fn c' hfn hc' x hx W hW => by
      have hW' : (lookupL f T.win).bind (lookupL x.1) = some W := hW
      obtain ⟨l, h1, _⟩ := Option.bind_eq_some_iff.1 hW'
      have := List.all_eq_true.1 hd f (lookupL_mem h1)
      unfold drawCheck at this
      simp only [hfn, hc'] at this
      have := List.all_eq_true.1 this x hx
      rw [hW] at this
      simpa using this }
end
end Go.Av
