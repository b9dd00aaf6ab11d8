/-
  Comparing and reckoning: what the abstract machine says of them, the model does.
-/
import Derived.Test.YtmiodddnokpdfaaGreatDoorAv5
namespace Go.Av
noncomputable section
set_option linter.unusedSectionVars false
variable [Toks]
set_option linter.unusedSimpArgs false

theorem read_nan (f : Ieee.Format) (x : Nat) (h : f.infRung < x % f.signWeight) (hb : f.binade ≤ f.infRung) : (f.read x).isNaN = true := by
  unfold Ieee.Format.read
  dsimp only
  rw [if_neg (by omega), if_neg (by omega), if_neg (by omega)]
  rfl

theorem double_sign : Ieee.double.signWeight = 9223372036854775808 := by decide
theorem double_inf : Ieee.double.infRung = 9218868437227405312 := by decide
theorem double_bin : Ieee.double.binade = 4503599627370496 := by decide

theorem nan_drawn (t : Nat) : nanF .f64 ((t % 2) * 2 ^ 63 + 0x7ff0000000000000 + 1 + (t / 2) % (2 ^ 52 - 1)) := by
  unfold nanF
  refine read_nan _ _ ?_ ?_
  · show Ieee.double.infRung < _ % Ieee.double.signWeight
    rw [double_sign, double_inf]
    have h1 : (t / 2) % (2 ^ 52 - 1) < 2 ^ 52 - 1 := Nat.mod_lt _ (by decide)
    generalize (t / 2) % (2 ^ 52 - 1) = r at *
    have h2 : t % 2 < 2 := Nat.mod_lt _ (by decide)
    generalize t % 2 = s at *
    omega
  · show Ieee.double.binade ≤ Ieee.double.infRung
    rw [double_inf, double_bin]; omega

theorem nan_nanA : nanF .f64 (nanA .f64) := by
  unfold nanF nanA
  refine read_nan _ _ ?_ ?_
  · show Ieee.double.infRung < 0x7ff8000000000000 % Ieee.double.signWeight
    rw [double_sign, double_inf]
    omega
  · show Ieee.double.binade ≤ Ieee.double.infRung
    rw [double_inf, double_bin]; omega

theorem nan_read {k : FloatKind} {x : Nat} (h : nanF k x) : ∃ s m, k.format.read x = .nan s m := by
  unfold nanF at h
  cases e : k.format.read x with
  | nan s m => exact ⟨s, m, rfl⟩
  | number _ _ _ => rw [e] at h; cases h
  | infinity _ => rw [e] at h; cases h

/-- Alike, or both no numbers. -/
def FRel (k : FloatKind) (x y : Nat) : Prop := x = y ∨ (nanF k x ∧ nanF k y)

theorem order_frel {k : FloatKind} {x x' y y' : Nat} (h : FRel k x x') (h' : FRel k y y') : k.format.order x' y' = k.format.order x y := by
  rcases h with rfl | ⟨h1, h2⟩
  · rcases h' with rfl | ⟨h3, h4⟩
    · rfl
    · obtain ⟨s, m, e⟩ := nan_read h3
      obtain ⟨s', m', e'⟩ := nan_read h4
      unfold Ieee.Format.order
      rw [e, e']
      cases k.format.read x <;> rfl
  · obtain ⟨s, m, e⟩ := nan_read h1
    obtain ⟨s', m', e'⟩ := nan_read h2
    unfold Ieee.Format.order
    rw [e, e']; rfl

theorem nan_same {α : Type} {k : FloatKind} {g : Ieee.Datum → Ieee.Datum → Option α} (h1 : ∀ s m d, g (.nan s m) d = none) (h2 : ∀ s m d, g d (.nan s m) = none) {x x' y y' : Nat} (h : FRel k x x') (h' : FRel k y y') :
    g (k.format.read x') (k.format.read y') = g (k.format.read x) (k.format.read y) := by
  rcases h with rfl | ⟨a1, a2⟩
  · rcases h' with rfl | ⟨a3, a4⟩
    · rfl
    · obtain ⟨s, m, e⟩ := nan_read a3
      obtain ⟨s', m', e'⟩ := nan_read a4
      rw [e, e', h2, h2]
  · obtain ⟨s, m, e⟩ := nan_read a1
    obtain ⟨s', m', e'⟩ := nan_read a2
    rw [e, e', h1, h1]

theorem sum_l (s : Bool) (m : Nat) (d : Ieee.Datum) : Ieee.Datum.sum (.nan s m) d = none := rfl
theorem sum_r (s : Bool) (m : Nat) (d : Ieee.Datum) : Ieee.Datum.sum d (.nan s m) = none := by cases d <;> rfl
theorem prod_l (s : Bool) (m : Nat) (d : Ieee.Datum) : Ieee.Datum.product (.nan s m) d = none := rfl
theorem prod_r (s : Bool) (m : Nat) (d : Ieee.Datum) : Ieee.Datum.product d (.nan s m) = none := by cases d <;> rfl
theorem quo_l (n : Nat) (s : Bool) (m : Nat) (d : Ieee.Datum) : Ieee.Datum.quotient n (.nan s m) d = none := rfl
theorem quo_r (n : Nat) (s : Bool) (m : Nat) (d : Ieee.Datum) : Ieee.Datum.quotient n d (.nan s m) = none := by cases d <;> rfl

section run
variable {P : Program} {w : World}

theorem eqFieldsA_rel {I : Inj} {Z : Zed} {d : Nat} {eq : TypeId → AV → AV → Option Bool}
    (ih : ∀ t x y r v u, eq t x y = some r → VRel I Z x v → VRel I Z y u → (Op.equalIn d t v u).run P w = .ok r w)
    {xs ys : List AV} {vs us : List Value} (hx : LRel I Z xs vs) (hy : LRel I Z ys us) : ∀ (fs : List Field) (r : Bool), eqFieldsA P eq xs ys fs = some r →
      (Op.eqFields d vs.toArray us.toArray fs).run P w = .ok r w := by
  intro fs
  induction fs with
  | nil => intro r e; simp [eqFieldsA] at e; subst e; simp [Op.eqFields]
  | cons f fs ihf =>
    intro r e
    simp only [eqFieldsA] at e
    by_cases hn : f.name = "_"
    · rw [if_pos hn] at e
      simp only [Op.eqFields, hn, ne_eq, not_true_eq_false, if_false]
      exact ihf r e
    · rw [if_neg hn] at e
      simp only [Op.eqFields, ne_eq, hn, not_false_eq_true, if_true]
      split at e
      · rename_i u v eu ev
        obtain ⟨cu, hu, hur⟩ := partA_rel (w := w) hx eu
        obtain ⟨cv, hv, hvr⟩ := partA_rel (w := w) hy ev
        simp only [Sem.run_bind, hu, hv, Result.andThen_ok]
        split at e
        · rename_i e1
          rw [ih _ _ _ _ _ _ e1 hur hvr]
          simp only [Result.andThen_ok, Bool.not_true, Bool.false_eq_true, if_false]
          exact ihf r e
        · rename_i e1
          have : ∃ b, eq f.type u v = some b ∧ b = r := by
            cases h : eq f.type u v with
            | none => rw [h] at e; cases e
            | some b => rw [h] at e; cases e; exact ⟨_, rfl, rfl⟩
          obtain ⟨b, hb, rfl⟩ := this
          rw [ih _ _ _ _ _ _ hb hur hvr]
          cases b with
          | true => exact absurd hb e1
          | false => simp
      · cases e

theorem eqA_rel {I : Inj} {Z : Zed} : ∀ (d : Nat) (t : TypeId) (x y : AV) (r : Bool) (v u : Value), eqA P d t x y = some r → VRel I Z x v → VRel I Z y u → (Op.equalIn d t v u).run P w = .ok r w := by
  intro d
  induction d with
  | zero => intro t x y r v u e; simp [eqA] at e
  | succ d ih =>
    intro t x y r v u e hv hu
    simp only [eqA] at e
    split at e
    · rename_i ht; cases hv; cases hu; cases e; simp only [Op.equalIn, Sem.run_bind, run_underlying ht, Result.andThen_ok, Sem.run_pure]
    · rename_i ht
      cases hv; cases hu
      split at e
      · rename_i hk; cases e; simp only [Op.equalIn, Sem.run_bind, run_underlying ht, Result.andThen_ok, Sem.run_pure]; rw [if_pos hk]; rfl
      · cases e
    · rename_i ht
      cases hv with
      | f k a x h =>
        cases hu with
        | f k' b y h' =>
          cases e
          simp only [Op.equalIn, Sem.run_bind, run_underlying ht, Result.andThen_ok, Sem.run_pure]
          simp only [if_true, Sem.run_pure, Op.floatEq]
          rw [order_frel h h']
    · rename_i ht; cases hv; cases hu; cases e; simp only [Op.equalIn, Sem.run_bind, run_underlying ht, Result.andThen_ok, Sem.run_pure]
    · rename_i ht
      cases hv
      cases e
      cases hu <;> simp only [Op.equalIn, Sem.run_bind, run_underlying ht, Result.andThen_ok, Sem.run_pure] <;> rfl
    · rename_i ht; cases hv; cases hu; cases e; simp only [Op.equalIn, Sem.run_bind, run_underlying ht, Result.andThen_ok, Sem.run_pure]
    · rename_i ht; cases hv; cases hu; cases e; simp only [Op.equalIn, Sem.run_bind, run_underlying ht, Result.andThen_ok, Sem.run_pure]
    · rename_i ht; cases hv; cases hu; cases e; simp only [Op.equalIn, Sem.run_bind, run_underlying ht, Result.andThen_ok, Sem.run_pure]; rfl
    · rename_i ht; cases hv; cases hu; cases e; simp only [Op.equalIn, Sem.run_bind, run_underlying ht, Result.andThen_ok, Sem.run_pure]
    · rename_i ht; cases hv; cases hu; cases e; simp only [Op.equalIn, Sem.run_bind, run_underlying ht, Result.andThen_ok, Sem.run_pure]
    · rename_i ht; cases hv; cases hu; cases e; simp only [Op.equalIn, Sem.run_bind, run_underlying ht, Result.andThen_ok, Sem.run_pure]; rfl
    · rename_i ht; cases hv; cases e; cases hu <;> simp only [Op.equalIn, Sem.run_bind, run_underlying ht, Result.andThen_ok, Sem.run_pure] <;> rfl
    · rename_i ht; cases hu; cases e; cases hv <;> simp only [Op.equalIn, Sem.run_bind, run_underlying ht, Result.andThen_ok, Sem.run_pure]
    · rename_i ht; cases hv; cases e; cases hu; simp only [Op.equalIn, Sem.run_bind, run_underlying ht, Result.andThen_ok, Sem.run_pure]; rfl
    · rename_i ht; cases hu; cases e; cases hv; simp only [Op.equalIn, Sem.run_bind, run_underlying ht, Result.andThen_ok, Sem.run_pure]
    · rename_i ht; cases hv; cases e; cases hu <;> simp only [Op.equalIn, Sem.run_bind, run_underlying ht, Result.andThen_ok, Sem.run_pure] <;> rfl
    · rename_i ht; cases hv; cases hu; cases e; simp only [Op.equalIn, Sem.run_bind, run_underlying ht, Result.andThen_ok, Sem.run_pure]
    · rename_i fs xs ys ht
      split at e
      · cases e
      · rename_i hs
        obtain ⟨vs, rfl, hx⟩ := agg_iff.1 hv
        obtain ⟨us, rfl, hy⟩ := agg_iff.1 hu
        have hf : P.fieldsOf t = fs := by simp [Program.fieldsOf, ht]
        rw [run_equalIn_struct w d t _ _ (by rw [hf]; exact ht) (by simpa using hs), hf]
        exact eqFieldsA_rel (fun t x y r v u e a b => ih t x y r v u e a b) hx hy _ _ e
    · cases e


theorem str_room {a c : ByteArray} (h : a.size + c.size ≤ room) : ¬ ((a.size + c.size : Nat) : Int) > IntKind.i64.max := by
  unfold room at h; simp [IntKind.max, IntKind.signed, IntKind.bits]; omega

theorem eqA_any {d : Nat} {t : TypeId} {x y : AV} {r : Bool} (e : eqA P (d + 1) t x y = some r) : x ≠ .any ∧ y ≠ .any := by
  constructor
  · rintro rfl
    simp only [eqA] at e
    split at e <;> simp_all
  · rintro rfl
    simp only [eqA] at e
    split at e <;> simp_all

theorem guard_ok {t : TypeId} {x y : AV} {v u : Value} {I : Inj} {Z : Zed} (hx : VRel I Z x v) (hy : VRel I Z y u) (ox oy : Operand) {op : BinOp} (ho : op = .eql ∨ op = .neq) {r : Bool}
    (hg : P.eqGuardType P.depth t = true → ∀ a b, ¬(x = .agg a ∧ y = .agg b)) {d : Nat} (e : eqA P (d + 1) t x y = some r) : (eqGuard op t ox oy v u).run P w = .ok () w := by
  have H : ∀ v u : Value, ¬ (v = .nilIface ∧ u = .nilIface) → (∀ xs ys, v = .agg xs → u = .agg ys → P.eqGuardType P.depth t = false) → (eqGuard op t ox oy v u).run P w = .ok () w := by
    intro v u h1 h2
    rcases ho with rfl | rfl
    all_goals
      unfold eqGuard
      simp only [Bool.not_true, Bool.false_eq_true, if_false]
      split
      · exact absurd ⟨rfl, rfl⟩ h1
      · simp [h2 _ _ rfl rfl]
      · rfl
  refine H v u ?_ ?_
  · rintro ⟨rfl, rfl⟩
    cases hx <;> cases hy <;> simp [eqA] at e
    all_goals (split at e <;> simp_all)
  · rintro xs ys rfl rfl
    cases hgt : P.eqGuardType P.depth t with
    | false => rfl
    | true =>
      cases hx with
      | any =>
        exfalso
        simp only [eqA] at e
        split at e <;> simp_all
      | tok n _ h =>
        exfalso
        simp only [eqA] at e
        split at e <;> simp_all
      | junk _ h =>
        exfalso
        simp only [eqA] at e
        split at e <;> simp_all
      | agg h1 h2 =>
        cases hy with
        | any =>
          exfalso
          simp only [eqA] at e
          split at e <;> simp_all
        | tok n _ h =>
          exfalso
          simp only [eqA] at e
          split at e <;> simp_all
        | junk _ h =>
          exfalso
          simp only [eqA] at e
          split at e <;> simp_all
        | agg h3 h4 => exact absurd ⟨rfl, rfl⟩ (hg hgt _ _)

theorem binA_eq {I : Inj} {Z : Zed} {t : TypeId} {x y : AV} {r : Bool} {v u : Value} (e : eqA P 10000 t x y = some r) (hv : VRel I Z x v) (hu : VRel I Z y u) : (Op.equal t v u).run P w = .ok r w :=
  eqA_rel 10000 t x y r v u e hv hu

theorem run_nan {x y : Nat} : ∃ n w', (choose (.nanBits .f64 x y)).run P w = .ok n w' ∧ nanF .f64 n ∧ ∃ d, w' = { w with drawn := d } := by
  refine ⟨_, _, ?_, nan_drawn (w.tape w.drawn (.nanBits .f64 x y)), w.drawn + 1, rfl⟩
  simp [Question.forced, Question.cut]

/-- Arithmetic on floats: a number, or some NaN. -/
theorem run_float {I : Inj} {Z : Zed} {op : BinOp} {f : Nat → Nat → Option Nat} (hop : ∀ x y, (Op.floatArith op .f64 x y) = (do
      match f x y with
      | some r => pure (.float .f64 r)
      | none => do pure (.float .f64 (← choose (.nanBits .f64 x y)))))
    (hf : ∀ x x' y y', FRel .f64 x x' → FRel .f64 y y' → f x' y' = f x y) {a c x y : Nat} (h : FRel .f64 a x) (h' : FRel .f64 c y) :
    ∃ cv w', (Op.floatArith op .f64 x y).run P w = .ok cv w' ∧ VRel I Z (.f .f64 ((f a c).getD (nanA .f64))) cv ∧ ∃ d, w' = { w with drawn := d } := by
  rw [hop, hf a x c y h h']
  cases e : f a c with
  | some r => exact ⟨_, w, rfl, .f _ _ _ (.inl rfl), w.drawn, rfl⟩
  | none =>
    obtain ⟨n, w', h1, h2, h3⟩ := run_nan (P := P) (w := w) (x := x) (y := y)
    exact ⟨.float .f64 n, w', by simp only [Sem.run_bind, h1, Result.andThen_ok, Sem.run_pure], .f _ _ _ (.inr ⟨nan_nanA, h2⟩), h3⟩

theorem eql_eq {I : Inj} {Z : Zed} {d : Nat} {t : TypeId} {x y : AV} {r : Bool} {v u : Value} (e : eqA P (d + 1) t x y = some r) (hv : VRel I Z x v) (hu : VRel I Z y u)
    (hi : ∀ k a k' c, x = .i k a → y = .i k' c → False) (hf : ∀ a c, x = .f .f64 a → y = .f .f64 c → False) (hs : ∀ a c, x = .s a → y = .s c → False) :
    (binOp .eql t v u = Op.equal t v u >>= fun b => pure (.bool b)) ∧ (binOp .neq t v u = Op.equal t v u >>= fun b => pure (.bool (!b))) := by
  simp only [eqA] at e
  split at e
  · cases hv; cases hu; exact ⟨rfl, rfl⟩
  · exact (hi _ _ _ _ rfl rfl).elim
  · exact (hf _ _ rfl rfl).elim
  · exact (hs _ _ rfl rfl).elim
  · cases hv; cases hu <;> exact ⟨rfl, rfl⟩
  · cases hv; cases hu; exact ⟨rfl, rfl⟩
  · cases hv; cases hu; exact ⟨rfl, rfl⟩
  · cases hv; cases hu; exact ⟨rfl, rfl⟩
  · cases hv; cases hu; exact ⟨rfl, rfl⟩
  · cases hv; cases hu; exact ⟨rfl, rfl⟩
  · cases hv; cases hu; exact ⟨rfl, rfl⟩
  · cases hv; cases hu <;> exact ⟨rfl, rfl⟩
  · cases hu; cases hv <;> exact ⟨rfl, rfl⟩
  · cases hv; cases hu; exact ⟨rfl, rfl⟩
  · cases hu; cases hv; exact ⟨rfl, rfl⟩
  · cases hv; cases hu <;> exact ⟨rfl, rfl⟩
  · cases hv; cases hu; exact ⟨rfl, rfl⟩
  · cases hv; cases hu; exact ⟨rfl, rfl⟩
  · cases e

set_option maxHeartbeats 1000000 in
theorem binA_rel {I : Inj} {Z : Zed} {op : BinOp} {t : TypeId} {x y r : AV} {v u : Value} (e : binA P op t x y = some r) (hv : VRel I Z x v) (hu : VRel I Z y u) (ox oy : Operand) :
    ∃ cv w', (do eqGuard op t ox oy v u; binOp op t v u : Sem Value).run P w = .ok cv w' ∧ VRel I Z r cv ∧ ∃ d, w' = { w with drawn := d } := by
  have same : ∀ (cv : Value), (do eqGuard op t ox oy v u; binOp op t v u : Sem Value).run P w = .ok cv w → VRel I Z r cv →
      ∃ cv w', (do eqGuard op t ox oy v u; binOp op t v u : Sem Value).run P w = .ok cv w' ∧ VRel I Z r cv ∧ ∃ d, w' = { w with drawn := d } := fun cv h1 h2 => ⟨cv, w, h1, h2, w.drawn, rfl⟩
  unfold binA at e
  split at e
  · -- shl
    cases hv; cases hu
    split at e
    · rename_i hc
      cases e
      refine same _ ?_ (.i _ _)
      simp [eqGuard, binOp, Op.shift, Int.not_lt.2 hc]
    · cases e
  · cases hv; cases hu
    split at e
    · rename_i hc
      cases e
      refine same _ ?_ (.i _ _)
      simp [eqGuard, binOp, Op.shift, Int.not_lt.2 hc]
    · cases e
  · -- ints
    rename_i hs1 hs2
    cases hv with
    | i k a =>
      cases hu with
      | i k' c =>
        split at e
        · cases e
        · rename_i hk
          simp only [ne_eq, Decidable.not_not] at hk
          subst hk
          cases op
          case quo =>
            dsimp only at e
            split at e
            · cases e
            · rename_i h0; cases e; exact same _ (by simp [eqGuard, binOp, Op.intDiv, h0]) (.i _ _)
          case rem =>
            dsimp only at e
            split at e
            · cases e
            · rename_i h0; cases e; exact same _ (by simp [eqGuard, binOp, Op.intDiv, h0]) (.i _ _)
          case shl => cases e
          case shr => cases e
          case add => cases e; exact same _ (by simp [eqGuard, binOp, Op.intArith]) (.i _ _)
          case sub => cases e; exact same _ (by simp [eqGuard, binOp, Op.intArith]) (.i _ _)
          case mul => cases e; exact same _ (by simp [eqGuard, binOp, Op.intArith]) (.i _ _)
          case and => cases e; exact same _ (by simp only [eqGuard, binOp, ne_eq, not_true_eq_false, if_false, Bool.not_false, if_true, Sem.run_bind, Sem.run_pure, Result.andThen_ok]; rfl) (.i _ _)
          case or => cases e; exact same _ (by simp only [eqGuard, binOp, ne_eq, not_true_eq_false, if_false, Bool.not_false, if_true, Sem.run_bind, Sem.run_pure, Result.andThen_ok]; rfl) (.i _ _)
          case xor => cases e; exact same _ (by simp only [eqGuard, binOp, ne_eq, not_true_eq_false, if_false, Bool.not_false, if_true, Sem.run_bind, Sem.run_pure, Result.andThen_ok]; rfl) (.i _ _)
          case andNot => cases e; exact same _ (by simp only [eqGuard, binOp, ne_eq, not_true_eq_false, if_false, Bool.not_false, if_true, Sem.run_bind, Sem.run_pure, Result.andThen_ok]; rfl) (.i _ _)
          case eql => cases e; exact same _ (by simp [eqGuard, binOp, Op.intCmp]) (.b _)
          case neq => cases e; exact same _ (by simp [eqGuard, binOp, Op.intCmp]) (.b _)
          case lss => cases e; exact same _ (by simp [eqGuard, binOp, Op.intCmp]) (.b _)
          case leq => cases e; exact same _ (by simp [eqGuard, binOp, Op.intCmp]) (.b _)
          case gtr => cases e; exact same _ (by simp [eqGuard, binOp, Op.intCmp]) (.b _)
          case geq => cases e; exact same _ (by simp [eqGuard, binOp, Op.intCmp]) (.b _)
  · -- floats
    cases hv with
    | f k1 a1 x1 h =>
      cases hu with
      | f k2 c1 y1 h' =>
        have hgd : (eqGuard op t ox oy (.float .f64 x1) (.float .f64 y1)).run P w = .ok () w := by cases op <;> rfl
        have ho := order_frel (k := .f64) h h'
        refine (fun (H : ∃ cv w', (binOp op t (.float .f64 x1) (.float .f64 y1)).run P w = .ok cv w' ∧ VRel I Z r cv ∧ ∃ d, w' = { w with drawn := d }) => by
          obtain ⟨cv, w', h1, h2, h3⟩ := H
          exact ⟨cv, w', by simp only [Sem.run_bind, hgd, Result.andThen_ok, h1], h2, h3⟩) ?_
        dsimp only at e
        split at e
        all_goals (try (cases e; done))
        all_goals (cases e)
        · simp only [binOp, ne_eq, not_true_eq_false, if_false]
          exact run_float (f := (FloatKind.f64).format.add) (fun x y => by simp only [Op.floatArith, pure_bind]; rfl) (fun x x' y y' a b => by unfold Ieee.Format.add; rw [nan_same (g := Ieee.Datum.sum) sum_l sum_r a b]) h h'
        · simp only [binOp, ne_eq, not_true_eq_false, if_false]
          exact run_float (f := (FloatKind.f64).format.sub) (fun x y => by simp only [Op.floatArith, pure_bind]; rfl) (fun x x' y y' a b => by
            unfold Ieee.Format.sub
            rw [nan_same (g := fun a b => Ieee.Datum.sum a b.opposite) (fun s m d => rfl) (fun s m d => by cases d <;> rfl) a b]) h h'
        · simp only [binOp, ne_eq, not_true_eq_false, if_false]
          exact run_float (f := (FloatKind.f64).format.mul) (fun x y => by simp only [Op.floatArith, pure_bind]; rfl) (fun x x' y y' a b => by unfold Ieee.Format.mul; rw [nan_same (g := Ieee.Datum.product) prod_l prod_r a b]) h h'
        · simp only [binOp, ne_eq, not_true_eq_false, if_false]
          exact run_float (f := (FloatKind.f64).format.div) (fun x y => by simp only [Op.floatArith, pure_bind]; rfl) (fun x x' y y' a b => by unfold Ieee.Format.div; rw [nan_same (g := Ieee.Datum.quotient _) (quo_l _) (quo_r _) a b]) h h'
        all_goals (refine ⟨_, w, ?_, .b _, w.drawn, rfl⟩; simp [binOp, Op.floatCmp, ho])
  · -- strings
    cases hv; cases hu
    split at e
    · split at e
      · rename_i hr
        cases e
        refine same _ ?_ (.s _)
        simp only [eqGuard, binOp, Op.stringOp, Bool.not_false, if_true, Sem.run_bind, Sem.run_pure, Result.andThen_ok]
        rw [if_neg (str_room hr)]; rfl
      · cases e
    all_goals (try (cases e; done))
    all_goals (cases e; exact same _ (by simp [eqGuard, binOp, Op.stringOp]) (.b _))
  · rename_i hi hf hs
    have H : ∀ r', eqA P 10000 t x y = some r' → (P.eqGuardType P.depth t = true → ∀ a b, ¬(x = .agg a ∧ y = .agg b)) → r = .b r' →
        ∃ cv w', (do eqGuard .eql t ox oy v u; binOp .eql t v u : Sem Value).run P w = .ok cv w' ∧ VRel I Z r cv ∧ ∃ d, w' = { w with drawn := d } := by
      intro r' e' hg hr
      have ha := eqA_any (d := 9999) e'
      have h1 := guard_ok (w := w) hv hu ox oy (op := .eql) (by simp) hg (d := 9999) e'
      have h2 := binA_eq (w := w) e' hv hu
      refine same (.bool r') ?_ (hr ▸ .b _)
      rw [Sem.run_bind, h1, Result.andThen_ok, (eql_eq (d := 9999) e' hv hu hi hf hs).1, Sem.run_bind, h2]; rfl
    split at e
    · rename_i hgt
      split at e
      · cases e
      · rename_i hna
        cases e1 : eqA P 10000 t x y with
        | none => simp [e1] at e
        | some r' =>
          simp [e1] at e
          exact H r' e1 (fun _ a b h => hna a b h.1 h.2) e.symm
    · rename_i hgt
      cases e1 : eqA P 10000 t x y with
      | none => simp [e1] at e
      | some r' =>
        simp [e1] at e
        exact H r' e1 (fun h => absurd h hgt) e.symm
  · rename_i hi hf hs
    have H : ∀ r', eqA P 10000 t x y = some r' → (P.eqGuardType P.depth t = true → ∀ a b, ¬(x = .agg a ∧ y = .agg b)) → r = .b (!r') →
        ∃ cv w', (do eqGuard .neq t ox oy v u; binOp .neq t v u : Sem Value).run P w = .ok cv w' ∧ VRel I Z r cv ∧ ∃ d, w' = { w with drawn := d } := by
      intro r' e' hg hr
      have ha := eqA_any (d := 9999) e'
      have h1 := guard_ok (w := w) hv hu ox oy (op := .neq) (by simp) hg (d := 9999) e'
      have h2 := binA_eq (w := w) e' hv hu
      refine same (.bool (!r')) ?_ (hr ▸ .b _)
      rw [Sem.run_bind, h1, Result.andThen_ok, (eql_eq (d := 9999) e' hv hu hi hf hs).2, Sem.run_bind, h2]; rfl
    split at e
    · rename_i hgt
      split at e
      · cases e
      · rename_i hna
        cases e1 : eqA P 10000 t x y with
        | none => simp [e1] at e
        | some r' =>
          simp [e1] at e
          exact H r' e1 (fun _ a b h => hna a b h.1 h.2) e.symm
    · rename_i hgt
      cases e1 : eqA P 10000 t x y with
      | none => simp [e1] at e
      | some r' =>
        simp [e1] at e
        exact H r' e1 (fun h => absurd h hgt) e.symm
  · cases e

end run
end
end Go.Av
