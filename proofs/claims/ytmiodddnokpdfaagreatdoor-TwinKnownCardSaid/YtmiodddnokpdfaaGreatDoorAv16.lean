/-
  Statements that draw their order: what stands before what; the text's own order.
-/
import Derived.Test.YtmiodddnokpdfaaGreatDoorAv15
namespace Go.Av
noncomputable section
set_option linter.unusedSectionVars false
variable [Toks]
set_option linter.unusedSimpArgs false
set_option linter.unusedVariables false

theorem orFold (acc : Array Nat) (j : Nat) : ∀ (l : List Edge) (s : Nat), (l.foldl (fun s e => if Region.binds .any e then s ||| 2 ^ e.on ||| acc.getD e.on 0 else s) s).testBit j = true →
    s.testBit j = true ∨ ∃ e ∈ l, Region.binds .any e = true ∧ (e.on = j ∨ (acc.getD e.on 0).testBit j = true)
  | [], s, h => .inl h
  | e :: l, s, h => by
    rw [List.foldl_cons] at h
    rcases orFold acc j l _ h with h1 | ⟨e', h1, h2, h3⟩
    · split at h1
      · rename_i hb
        rw [Nat.testBit_or, Nat.testBit_or, Nat.testBit_two_pow] at h1
        simp only [Bool.or_eq_true, decide_eq_true_eq] at h1
        rcases h1 with (h1 | h1) | h1
        · exact .inl h1
        · exact .inr ⟨e, by simp, hb, .inl h1⟩
        · exact .inr ⟨e, by simp, hb, .inr h1⟩
      · exact .inl h1
    · exact .inr ⟨e', by simp [h1], h2, h3⟩

def befStep (acc : Array Nat) (o : Oper) : Array Nat := acc.push (o.after.foldl (fun s e => if Region.binds .any e then s ||| 2 ^ e.on ||| acc.getD e.on 0 else s) 0)

theorem before_list : ∀ (l : List Oper) (acc : Array Nat), (l.foldl befStep acc).size = acc.size + l.length ∧ (∀ i, i < acc.size → (l.foldl befStep acc).getD i 0 = acc.getD i 0) ∧
    ∀ i j, acc.size ≤ i → ((l.foldl befStep acc).getD i 0).testBit j = true → ∃ o, l[i - acc.size]? = some o ∧ ∃ e ∈ o.after, Region.binds .any e = true ∧ (e.on = j ∨ ((l.foldl befStep acc).getD e.on 0).testBit j = true)
  | [], acc => ⟨by simp, by simp, fun i j hi h => by
      simp only [List.foldl_nil] at h
      have : acc.getD i 0 = 0 := by simp [Array.getD, Nat.not_lt.2 hi]
      rw [this] at h; simp at h⟩
  | o :: l, acc => by
    rw [List.foldl_cons]
    obtain ⟨h1, h2, h3⟩ := before_list l (befStep acc o)
    have hs : (befStep acc o).size = acc.size + 1 := by simp [befStep]
    have hold : ∀ i, i < acc.size → (befStep acc o).getD i 0 = acc.getD i 0 := fun i hi => by
      have : i < acc.size + 1 := by omega
      simp [befStep, Array.getD, hi, this, Array.getElem_push]
    refine ⟨by rw [h1, hs]; simp; omega, fun i hi => by rw [h2 i (by omega), hold i hi], fun i j hi h => ?_⟩
    by_cases he : i = acc.size
    · subst he
      rw [h2 _ (by omega)] at h
      have hv : (befStep acc o).getD acc.size 0 = o.after.foldl (fun s e => if Region.binds .any e then s ||| 2 ^ e.on ||| acc.getD e.on 0 else s) 0 := by
        simp [befStep, Array.getD]
      rw [hv, ← Array.foldl_toList] at h
      rcases orFold acc j _ _ h with h4 | ⟨e, h4, h5, h6⟩
      · simp at h4
      · refine ⟨o, by simp, e, by simpa using h4, h5, h6.imp id fun h6 => ?_⟩
        have hlt : e.on < acc.size := by
          rcases Nat.lt_or_ge e.on acc.size with hlt | hge
          · exact hlt
          · exfalso
            have : acc.getD e.on 0 = 0 := by simp [Array.getD, Nat.not_lt.2 hge]
            rw [this] at h6; simp at h6
        rw [h2 _ (by omega), hold _ hlt]; exact h6
    · obtain ⟨o', g1, g2⟩ := h3 i j (by omega) h
      refine ⟨o', ?_, g2⟩
      rw [hs] at g1
      have : i - acc.size = (i - (acc.size + 1)) + 1 := by omega
      rw [this]; simpa using g1

theorem before_spec {ops : Array Oper} {i j : Nat} (h : isBefore (Region.before ops) j i = true) : ∃ o, ops[i]? = some o ∧ ∃ e ∈ o.after, Region.binds .any e = true ∧ (e.on = j ∨ isBefore (Region.before ops) j e.on = true) := by
  have hb : Region.before ops = ops.toList.foldl befStep #[] := by unfold Region.before; rw [← Array.foldl_toList]; rfl
  unfold isBefore at h ⊢
  rw [hb] at h ⊢
  obtain ⟨o, h1, h2⟩ := (before_list ops.toList #[]).2.2 i j (by simp) h
  exact ⟨o, by simpa using h1, h2⟩

/-- What 'drawOk' says. -/
structure Drawable (E : Env) (ops : Array Oper) : Prop where
  down : ∀ (i : Nat) (o : Oper), ops[i]? = some o → ∀ e ∈ o.after, Region.binds .any e = true → e.on < i
  one : ∀ (i j : Nat) (oi oj : Oper) d, i < j → ops[i]? = some oi → ops[j]? = some oj → oi.dst = some d → oj.dst ≠ some d
  seen : ∀ (i j : Nat) (oi oj : Oper) d, ops[i]? = some oi → ops[j]? = some oj → oi.dst = some d → i ≠ j → d ∈ oj.looksAt ops → (if i < j then isBefore (Region.before ops) i j else isBefore (Region.before ops) j i) = true
  heavy : ∀ i j, i ∈ heavies E ops → j ∈ heavies E ops → i < j → isBefore (Region.before ops) i j = true

theorem drawOk_spec {E : Env} {ops : Array Oper} (h : drawOk E ops = true) : Drawable E ops := by
  simp only [drawOk, Bool.and_eq_true, List.all_eq_true, List.mem_range] at h
  obtain ⟨⟨⟨h1, h2⟩, h3⟩, h4⟩ := h
  have lt : ∀ {i : Nat} {o : Oper}, ops[i]? = some o → i < ops.size := fun e => (Array.getElem?_eq_some_iff.1 e).1
  refine ⟨fun i o ho e he hb => ?_, fun i j oi oj d hij hi hj hd hd' => ?_, fun i j oi oj d hi hj hd hne hl => ?_, fun i j hi hj hij => ?_⟩
  · have := h1 i (lt ho)
    simp only [ho, Option.all_some, Array.all_eq_true_iff_forall_mem] at this
    have := this e he
    simpa [hb] using this
  · have := h2 i (lt hi) j (lt hj)
    simp [hij, hi, hj, hd, hd'] at this
  · have := h3 i (lt hi)
    simp only [hi, Option.bind_some, hd, List.all_eq_true, List.mem_range] at this
    have := this j (lt hj)
    simp only [hj, Bool.or_eq_true, beq_iff_eq, hne, false_or, Bool.not_eq_true', List.contains_iff_mem] at this
    rcases this with this | this
    · have hc : (oj.looksAt ops).contains d = true := by simpa using hl
      rw [hc] at this; cases this
    · by_cases hij : i < j
      · simpa [hij] using this
      · simpa [hij] using this
  · have := h4 i hi j hj
    simpa [hij] using this

theorem before_lt {E : Env} {ops : Array Oper} (hd : Drawable E ops) : ∀ (i j : Nat), isBefore (Region.before ops) j i = true → j < i := by
  intro i
  induction i using Nat.strongRecOn with
  | _ i ih =>
    intro j h
    obtain ⟨o, h1, e, h2, h3, h4⟩ := before_spec h
    have := hd.down i o h1 e h2 h3
    rcases h4 with h4 | h4
    · omega
    · have := ih e.on this j h4; omega

/-- Listed operations have all listed that stands before them. -/
def Closed (ops : Array Oper) (L : Nat → Prop) : Prop := ∀ (i : Nat) (o : Oper), L i → ops[i]? = some o → ∀ e ∈ o.after, Region.binds .any e = true → L e.on

theorem before_closed {E : Env} {ops : Array Oper} (hd : Drawable E ops) {L : Nat → Prop} (hL : Closed ops L) : ∀ (i j : Nat), (∀ o, ops[i]? = some o → ∀ e ∈ o.after, Region.binds .any e = true → L e.on) → isBefore (Region.before ops) j i = true → L j := by
  intro i
  induction i using Nat.strongRecOn with
  | _ i ih =>
    intro j hi h
    obtain ⟨o, h1, e, h2, h3, h4⟩ := before_spec h
    have hlt := hd.down i o h1 e h2 h3
    have he := hi o h1 e h2 h3
    rcases h4 with h4 | h4
    · exact h4 ▸ he
    · exact ih e.on hlt j (fun o' ho' => hL e.on o' he ho') h4

def isHeavy (E : Env) (ops : Array Oper) (i : Nat) : Bool := (ops[i]?).any fun o => kindA E o == 2

/-- How many writing operations stand ahead of this place of the text. -/
def hv (E : Env) (ops : Array Oper) : Nat → Nat
  | 0 => 0
  | i + 1 => hv E ops i + if isHeavy E ops i then 1 else 0

theorem kindA_lt (E : Env) (o : Oper) : kindA E o = 0 ∨ kindA E o = 1 ∨ kindA E o = 2 := by
  unfold kindA
  repeat' split
  all_goals simp

/-- What an operation leaves of the heap. -/
theorem stepOp_keep {E : Env} {rec : Rec} (hE : EnvGood E) (hf : RecFree E rec) {o : Oper} {s s' : S} (hk : kindA E o ≠ 2) (e : stepOp E rec o s = some s') : s'.h = s.h := by
  unfold stepOp at e
  cases hx : execA E s.t s.h o with
  | none => simp [hx] at e
  | some r =>
    rw [hx] at e
    rcases kindA_lt E o with h | h | h
    · rcases exec0 h hx with ⟨v, rfl, h1⟩ | ⟨f, args, rfl, h1, h2⟩
      · cases e; rfl
      · simp only at e
        split at e
        · rename_i h3; cases e; exact (hf.1 f (hE.hookfree f h2) h2 _ _ _ _ h3).1
        · cases e
    · rcases exec1 h hx with ⟨v, rfl⟩ | ⟨f, args, rfl, hm⟩
      · cases e; rfl
      · simp only at e
        split at e
        · rename_i h3; cases e; exact hf.2 f (hE.hookfree4 f hm) hm _ _ _ _ h3
        · cases e
    · exact absurd h hk

theorem step1_keep {E : Env} {rec : Rec} (hE : EnvGood E) (hf : RecFree E rec) {ops : Array Oper} {j : Nat} {s s' : S} (hk : isHeavy E ops j = false) (e : step1 E rec ops j s = some s') : s'.h = s.h := by
  unfold step1 at e
  split at e
  · cases e
  · rename_i o ho
    have : kindA E o ≠ 2 := by simpa [isHeavy, ho] using hk
    split at e
    · exact stepOp_keep hE hf this e
    · cases e; rfl
    · cases e

/-- The text's own order: its states. -/
structure Text (E : Env) (rec : Rec) (ops : Array Oper) (W : List (Nat × Nat × Nat)) (gs : List AH) (rs : List (Oper × List AV × Nat × Nat)) (i n : Nat) (st : Nat → S) : Prop where
  step : ∀ j, i ≤ j → j < n → step1 E rec ops j (st j) = some (st (j + 1))
  heap : ∀ j, i ≤ j → j ≤ n → gs[hv E ops j]? = some (st j).h
  reads : ∀ j o lo hi, i ≤ j → j < n → ops[j]? = some o → nthW j W = some (lo, hi) → wantedA ops (st j).t o = some true → (o, (st j).t, lo, hi) ∈ rs

theorem runD_text {E : Env} {rec : Rec} (hE : EnvGood E) (hf : RecFree E rec) {ops : Array Oper} {W : List (Nat × Nat × Nat)} : ∀ (k i : Nat) (s : S) (gs : List AH) (rs : List (Oper × List AV × Nat × Nat)) {s' gs' rs'},
    runD E rec ops W (List.range' i k) s gs rs = some (s', gs', rs') → gs.length = hv E ops i + 1 → gs[hv E ops i]? = some s.h →
    (∃ st, st i = s ∧ st (i + k) = s' ∧ Text E rec ops W gs' rs' i (i + k) st) ∧ (∀ m, m < gs.length → gs'[m]? = gs[m]?) ∧ ∀ x ∈ rs, x ∈ rs'
  | 0, i, s, gs, rs, s', gs', rs', e, hl, hg => by
    simp only [List.range'_zero, runD] at e
    cases e
    exact ⟨⟨fun _ => s, rfl, rfl, fun j h1 h2 => by omega, fun j h1 h2 => by rw [show j = i by omega]; exact hg, fun j o lo hi h1 h2 => by omega⟩, fun m _ => rfl, fun x hx => hx⟩
  | k + 1, i, s, gs, rs, s', gs', rs', e, hl, hg => by
    rw [List.range'_succ] at e
    simp only [runD] at e
    cases ho : ops[i]? with
    | none => simp [ho] at e
    | some o =>
      simp only [ho] at e
      cases h1 : step1 E rec ops i s with
      | none => simp [h1] at e
      | some s1 =>
        simp only [h1] at e
        have hhv : isHeavy E ops i = decide (kindA E o = 2) := by
          simp only [isHeavy, ho, Option.any_some]
          by_cases hk : kindA E o = 2 <;> simp [hk]
        have hl1 : (if kindA E o = 2 then gs ++ [s1.h] else gs).length = hv E ops (i + 1) + 1 := by
          simp only [hv, hhv]
          by_cases hk : kindA E o = 2 <;> simp [hk, hl]
        have hg1 : (if kindA E o = 2 then gs ++ [s1.h] else gs)[hv E ops (i + 1)]? = some s1.h := by
          simp only [hv, hhv]
          by_cases hk : kindA E o = 2
          · simp only [hk, if_true, decide_true]
            rw [List.getElem?_append_right (by omega), hl]; simp
          · simp only [hk, if_false, decide_false, Bool.false_eq_true, Nat.add_zero]
            rw [step1_keep hE hf (by simp [hhv, hk]) h1]; exact hg
        obtain ⟨⟨st, g1, g2, g3⟩, g4, g5⟩ := runD_text hE hf k (i + 1) s1 _ _ e hl1 hg1
        have hpre : ∀ m, m < gs.length → gs'[m]? = gs[m]? := fun m hm => by
          have hm' : m < (if kindA E o = 2 then gs ++ [s1.h] else gs).length := by split <;> (try simp) <;> omega
          rw [g4 m hm']
          split
          · exact List.getElem?_append_left hm
          · rfl
        have hne : ∀ j, i + 1 ≤ j → (if j ≤ i then s else st j) = st j := fun j hj => if_neg (by omega)
        refine ⟨⟨fun j => if j ≤ i then s else st j, if_pos (Nat.le_refl _), by show (if i + (k + 1) ≤ i then s else st (i + (k + 1))) = s'; rw [if_neg (by omega), ← g2]; congr 1; omega, fun j h2 h3 => ?_, fun j h2 h3 => ?_, fun j o' lo hi h2 h3 ho' hn hw => ?_⟩, hpre, fun x hx => g5 x ?_⟩
        · by_cases hj : j = i
          · subst hj
            try dsimp only
            rw [if_pos (Nat.le_refl _), if_neg (by omega), g1]; exact h1
          · rw [if_neg (by omega), if_neg (by omega)]
            exact g3.step j (by omega) (by omega)
        · by_cases hj : j = i
          · subst hj
            try dsimp only
            rw [if_pos (Nat.le_refl _), hpre _ (by omega)]; exact hg
          · rw [if_neg (by omega)]
            exact g3.heap j (by omega) (by omega)
        · by_cases hj : j = i
          · subst hj
            try dsimp only
            rw [if_pos (Nat.le_refl _)] at hw ⊢
            rw [ho] at ho'; cases ho'
            refine g5 _ ?_
            simp [hn, hw]
          · rw [if_neg (by omega)] at hw ⊢
            exact g3.reads j o' lo hi (by omega) (by omega) ho' hn hw
        · split
          · split
            · exact List.mem_cons_of_mem _ hx
            · exact hx
          · exact hx

end
end Go.Av
