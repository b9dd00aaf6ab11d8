/-
  Statements that draw their order: any order comes to what the text's own comes to.
-/
import Derived.Test.YtmiodddnokpdfaaGreatDoorAv16
namespace Go.Av
noncomputable section
set_option linter.unusedSectionVars false
variable [Toks]
set_option linter.unusedSimpArgs false
set_option linter.unusedVariables false

theorem stepOp_swap0 {E : Env} (hE : EnvGood E) {rec : Rec} (hf : RecFree E rec) {o : Oper} {t : List AV} {h : AH} {s1 : S} (hk : kindA E o = 0) (e : stepOp E rec o ⟨t, h⟩ = some s1) :
    ∃ v, s1 = ⟨putA t o.dst v, h⟩ ∧ ∀ g, stepOp E rec o ⟨t, g⟩ = some ⟨putA t o.dst v, g⟩ := by
  unfold stepOp at e
  dsimp only at e
  cases hx : execA E t h o with
  | none => simp [hx] at e
  | some r =>
    rw [hx] at e
    rcases exec0 hk hx with ⟨v, rfl, h1⟩ | ⟨f, args, rfl, h1, h2⟩
    · cases e
      exact ⟨v, rfl, fun g => by unfold stepOp; dsimp only; rw [h1 g]⟩
    · simp only at e
      split at e
      · rename_i v h3 h4
        cases e
        obtain ⟨h5, h6⟩ := hf.1 f (hE.hookfree f h2) h2 _ _ _ _ h4
        exact ⟨v, by rw [h5], fun g => by unfold stepOp; dsimp only; rw [h1 g]; dsimp only; rw [h6 g]⟩
      · cases e

/-- The temporaries where these operations are done. -/
def Mix (ops : Array Oper) (L : Nat → Prop) (t t' m : List AV) : Prop :=
  m.length = t.length ∧ ∀ d, ((∃ (i : Nat) (o : Oper), L i ∧ ops[i]? = some o ∧ o.dst = some d) → m[d]? = t'[d]?) ∧ ((∀ (i : Nat) (o : Oper), L i → ops[i]? = some o → o.dst ≠ some d) → m[d]? = t[d]?)

theorem step1_put {E : Env} {rec : Rec} {ops : Array Oper} {j : Nat} {s s' : S} (e : step1 E rec ops j s = some s') : ∃ o v, ops[j]? = some o ∧ s'.t = putA s.t o.dst v := by
  unfold step1 at e
  split at e
  · cases e
  · rename_i o ho
    split at e
    · unfold stepOp at e
      split at e
      · cases e; exact ⟨o, _, ho, rfl⟩
      · split at e
        · cases e; exact ⟨o, _, ho, rfl⟩
        · cases e
      · cases e
    · cases e; exact ⟨o, _, ho, rfl⟩
    · cases e

theorem putA_length (t : List AV) (d : Option Tmp) (v : AV) : (putA t d v).length = t.length := by cases d <;> simp [putA]
theorem putA_ne (t : List AV) {d : Option Tmp} {x : Nat} (v : AV) (h : d ≠ some x) : (putA t d v)[x]? = t[x]? := by
  cases d with
  | none => rfl
  | some y => exact List.getElem?_set_ne (fun e => h (by rw [e]))
theorem putA_eq (t u : List AV) {d : Option Tmp} {x : Nat} (v : AV) (h : d = some x) (hl : t.length = u.length) : (putA t d v)[x]? = (putA u d v)[x]? := by
  subst h
  simp [putA, List.getElem?_set, hl]

section
variable {E : Env} {rec : Rec} {ops : Array Oper} {W : List (Nat × Nat × Nat)} {gs : List AH} {rs : List (Oper × List AV × Nat × Nat)} {st : Nat → S}

theorem Text.length (T : Text E rec ops W gs rs 0 ops.size st) : ∀ j, j ≤ ops.size → (st j).t.length = (st 0).t.length
  | 0, _ => rfl
  | j + 1, h => by
    obtain ⟨o, v, _, h1⟩ := step1_put (T.step j (Nat.zero_le _) (by omega))
    rw [h1, putA_length, Text.length T j (by omega)]

/-- A temporary is as it was as long as nobody writes it. -/
theorem Text.still (T : Text E rec ops W gs rs 0 ops.size st) {d : Nat} {i : Nat} : ∀ k, i + k ≤ ops.size → (∀ (j : Nat) (o : Oper), i ≤ j → j < i + k → ops[j]? = some o → o.dst ≠ some d) → (st (i + k)).t[d]? = (st i).t[d]?
  | 0, _, _ => rfl
  | k + 1, h, hn => by
    obtain ⟨o, v, h0, h1⟩ := step1_put (T.step (i + k) (Nat.zero_le _) (by omega))
    have : i + (k + 1) = i + k + 1 := by omega
    rw [this, h1, putA_ne _ _ (hn (i + k) o (by omega) (by omega) h0), Text.still T k (by omega) (fun j o h1 h2 => hn j o h1 (by omega))]

theorem Text.before (T : Text E rec ops W gs rs 0 ops.size st) (hD : Drawable E ops) {d j : Nat} {oj : Oper} (hj : ops[j]? = some oj) (hd : oj.dst = some d) {i : Nat} (h : i ≤ j) : (st i).t[d]? = (st 0).t[d]? := by
  have hjs : j < ops.size := (Array.getElem?_eq_some_iff.1 hj).1
  have := T.still (d := d) (i := 0) i (by omega) (fun k o h1 h2 h3 h4 => hD.one k j o oj d (by omega) h3 hj h4 hd)
  simpa using this

theorem Text.behind (T : Text E rec ops W gs rs 0 ops.size st) (hD : Drawable E ops) {d j : Nat} {oj : Oper} (hj : ops[j]? = some oj) (hd : oj.dst = some d) {i : Nat} (h : j < i) (hi : i ≤ ops.size) : (st i).t[d]? = (st ops.size).t[d]? := by
  have := T.still (d := d) (i := i) (ops.size - i) (by omega) (fun k o h1 h2 h3 h4 => hD.one j k oj o d (by omega) hj h3 hd h4)
  rw [show i + (ops.size - i) = ops.size by omega] at this
  exact this.symm

/-- An operation whose turn it is sees what it sees in the text's own order. -/
theorem mix_sees (T : Text E rec ops W gs rs 0 ops.size st) (hD : Drawable E ops) {L : Nat → Prop} (hL : Closed ops L) {m : List AV} (hm : Mix ops L (st 0).t (st ops.size).t m) {i : Nat} {o : Oper} (hi : ops[i]? = some o) (hn : ¬ L i)
    (hr : ∀ e ∈ o.after, Region.binds .any e = true → L e.on) {d : Nat} (hd : d ∈ o.looksAt ops) : m[d]? = (st i).t[d]? := by
  have his : i < ops.size := (Array.getElem?_eq_some_iff.1 hi).1
  by_cases hw : ∃ (j : Nat) (oj : Oper), ops[j]? = some oj ∧ oj.dst = some d
  · obtain ⟨j, oj, hj, hjd⟩ := hw
    have hun : ∀ (k : Nat) (ok : Oper), ops[k]? = some ok → ok.dst = some d → k = j := fun k ok hk hkd => by
      rcases Nat.lt_trichotomy k j with h | h | h
      · exact absurd hjd (hD.one k j ok oj d h hk hj hkd)
      · exact h
      · exact absurd hkd (hD.one j k oj ok d h hj hk hjd)
    by_cases hji : j = i
    · subst hji
      rw [(hm.2 d).2 (fun k ok hk ho hkd => hn (hun k ok ho hkd ▸ hk)), T.before hD hj hjd (Nat.le_refl _)]
    · have hs := hD.seen j i oj o d hj hi hjd hji hd
      by_cases hlt : j < i
      · rw [if_pos hlt] at hs
        have hLj : L j := before_closed hD hL i j (fun o' ho' => by rw [hi] at ho'; cases ho'; exact hr) hs
        rw [(hm.2 d).1 ⟨j, oj, hLj, hj, hjd⟩, T.behind hD hj hjd hlt (by omega)]
      · rw [if_neg hlt] at hs
        have hLj : ¬ L j := fun h => hn (before_closed hD hL j i (fun o' ho' => hL j o' h ho') hs)
        rw [(hm.2 d).2 (fun k ok hk ho hkd => hLj (hun k ok ho hkd ▸ hk)), T.before (i := i) hD hj hjd (by omega)]
  · have hw' : ∀ (k : Nat) (ok : Oper), ops[k]? = some ok → ok.dst ≠ some d := fun k ok hk hkd => hw ⟨k, ok, hk, hkd⟩
    rw [(hm.2 d).2 (fun k ok _ ho => hw' k ok ho)]
    have := T.still (d := d) (i := 0) i (by omega) (fun k o _ _ h3 => hw' k o h3)
    simpa using this.symm

theorem mix_put (T : Text E rec ops W gs rs 0 ops.size st) (hD : Drawable E ops) {L : Nat → Prop} {m : List AV} (hm : Mix ops L (st 0).t (st ops.size).t m) {i : Nat} {o : Oper} (hi : ops[i]? = some o) {v : AV} (hv : (st (i + 1)).t = putA (st i).t o.dst v) :
    Mix ops (fun k => L k ∨ k = i) (st 0).t (st ops.size).t (putA m o.dst v) := by
  have his : i < ops.size := (Array.getElem?_eq_some_iff.1 hi).1
  refine ⟨by rw [putA_length, hm.1], fun d => ?_⟩
  by_cases hd : o.dst = some d
  · refine ⟨fun _ => ?_, fun h => absurd hd (h i o (.inr rfl) hi)⟩
    rw [← T.behind hD hi hd (Nat.lt_succ_self i) (by omega), hv]
    exact putA_eq _ _ _ hd (by rw [hm.1, T.length i (by omega)])
  · rw [putA_ne _ _ hd]
    refine ⟨fun ⟨k, ok, h1, h2, h3⟩ => (hm.2 d).1 ⟨k, ok, ?_, h2, h3⟩, fun h => (hm.2 d).2 fun k ok h1 h2 => h k ok (.inl h1) h2⟩
    rcases h1 with h1 | rfl
    · exact h1
    · rw [hi] at h2; cases h2; exact absurd h3 hd

open Classical in
/-- How many writing operations are done. -/
noncomputable def cnt (E : Env) (ops : Array Oper) (L : Nat → Prop) : Nat := ((heavies E ops).filter fun i => decide (L i)).length

theorem mem_heavies {i : Nat} : i ∈ heavies E ops ↔ i < ops.size ∧ isHeavy E ops i = true := by
  simp [heavies, isHeavy, List.mem_filter]

theorem hv_cnt : ∀ i, i ≤ ops.size → cnt E ops (fun j => j < i) = hv E ops i := by
  have key : ∀ i, i ≤ ops.size → ((List.range ops.size).filter fun j => isHeavy E ops j && decide (j < i)).length = hv E ops i := by
    intro i
    have h1 : ∀ n i, i ≤ n → ((List.range n).filter fun j => isHeavy E ops j && decide (j < i)) = (List.range i).filter fun j => isHeavy E ops j := by
      intro n
      induction n with
      | zero => intro i hi; have : i = 0 := by omega
                subst this; rfl
      | succ n ih =>
        intro i hi
        rw [List.range_succ, List.filter_append]
        by_cases hn : i = n + 1
        · subst hn
          rw [List.range_succ, List.filter_append]
          congr 1
          · apply List.filter_congr
            intro j hj
            have := List.mem_range.1 hj
            simp; intro _; omega
          · simp [List.filter_cons]
        · have : (List.filter (fun j => isHeavy E ops j && decide (j < i)) [n]) = [] := by
            simp only [List.filter_cons, List.filter_nil]
            rw [if_neg (by simp; intro _; omega)]
          rw [this, List.append_nil, ih i (by omega)]
    intro hi
    rw [h1 _ i hi]
    clear hi
    induction i with
    | zero => rfl
    | succ i ih =>
      rw [List.range_succ, List.filter_append, List.length_append, ih]
      simp only [hv]
      congr 1
      by_cases hh : isHeavy E ops i = true
      · rw [if_pos hh]; simp [List.filter_cons, hh]
      · rw [if_neg hh]; simp [List.filter_cons, hh]
  intro i hi
  rw [← key i hi]
  unfold cnt heavies
  rw [List.filter_filter]
  congr 1
  apply List.filter_congr
  intro j hj
  by_cases hji : j < i <;> simp [isHeavy, hji]

theorem cnt_congr {L M : Nat → Prop} (h : ∀ j ∈ heavies E ops, (L j ↔ M j)) : cnt E ops L = cnt E ops M := by
  unfold cnt
  congr 1
  apply List.filter_congr
  intro j hj
  simp [h j hj]

theorem cnt_le {L M : Nat → Prop} (h : ∀ j ∈ heavies E ops, L j → M j) : cnt E ops L ≤ cnt E ops M := by
  unfold cnt
  rw [← List.countP_eq_length_filter, ← List.countP_eq_length_filter]
  exact List.countP_mono_left fun x hx h1 => by simpa using h x hx (by simpa using h1)

theorem nthW_none {l : List (Nat × Nat × Nat)} {i : Nat} (h : nthW i l = none) : ∀ lo hi, (i, lo, hi) ∉ l := by
  induction l with
  | nil => simp
  | cons x r ih =>
    obtain ⟨j, lo, hi⟩ := x
    simp only [nthW] at h
    split at h
    · cases h
    · rename_i hne
      intro lo' hi' hm
      rcases List.mem_cons.1 hm with h1 | h1
      · cases h1; exact hne rfl
      · exact ih h lo' hi' h1

theorem nthW_some {l : List (Nat × Nat × Nat)} {i lo hi : Nat} (h : nthW i l = some (lo, hi)) : (i, lo, hi) ∈ l := by
  induction l with
  | nil => cases h
  | cons x r ih =>
    obtain ⟨j, lo', hi'⟩ := x
    simp only [nthW] at h
    split at h
    · rename_i he; cases h; subst he; simp
    · exact List.mem_cons_of_mem _ (ih h)

/-- The bounds of a reading operation. -/
theorem windows_spec {i : Nat} (hi : i < ops.size) (hk : (ops[i]?).any (fun o => kindA E o == 1) = true) :
    let lo := ((heavies E ops).filter fun e => isBefore (Region.before ops) e i).length
    let hi := ((heavies E ops).filter fun e => !isBefore (Region.before ops) i e).length
    (lo = hi ∧ nthW i (windows E ops) = none) ∨ nthW i (windows E ops) = some (lo, hi) := by
  intro lo hi'
  have hmem : ∀ a b, (i, a, b) ∈ windows E ops → a = lo ∧ b = hi' ∧ lo ≠ hi' := by
    intro a b h
    simp only [windows, List.mem_filterMap, List.mem_range] at h
    obtain ⟨j, hj, h⟩ := h
    split at h
    · split at h
      · cases h
      · rename_i hne; simp only [Option.some.injEq, Prod.mk.injEq] at h; obtain ⟨rfl, rfl, rfl⟩ := h; exact ⟨rfl, rfl, hne⟩
    · cases h
  cases hn : nthW i (windows E ops) with
  | none =>
    left
    refine ⟨?_, rfl⟩
    by_cases he : lo = hi'
    · exact he
    · exfalso
      refine nthW_none hn lo hi' ?_
      simp only [windows, List.mem_filterMap, List.mem_range]
      refine ⟨i, hi, ?_⟩
      rw [if_pos hk, if_neg he]
  | some x =>
    obtain ⟨a, b⟩ := x
    right
    obtain ⟨rfl, rfl, _⟩ := hmem a b (nthW_some hn)
    rfl

end

end
end Go.Av
