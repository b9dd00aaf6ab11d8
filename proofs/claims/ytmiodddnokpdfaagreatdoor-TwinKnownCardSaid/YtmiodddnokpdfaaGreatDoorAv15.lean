/-
  What an operation asks of the temporaries, of memory.
-/
import Derived.Test.YtmiodddnokpdfaaGreatDoorAv14
namespace Go.Av
noncomputable section
set_option linter.unusedSectionVars false
variable [Toks]
set_option linter.unusedSimpArgs false
set_option linter.unusedVariables false

theorem execA_congr {E : Env} {t u : List AV} {g : AH} {o : Oper} (h : ∀ x ∈ o.op.operands, evA E t x = evA E u x) : execA E t g o = execA E u g o := by
  have pairs : ∀ ps : Array (Nat × Operand), (∀ x ∈ ps.map (·.2), evA E t x = evA E u x) →
      (ps.toList.map fun x => (x.1, evA E t x.2)) = (ps.toList.map fun x => (x.1, evA E u x.2)) := fun ps hp =>
    List.map_congr_left fun p hm => by
      simp only [hp p.2 (Array.mem_map.2 ⟨p, by simpa using hm, rfl⟩)]
  have list : ∀ ps : Array Operand, (∀ x ∈ ps, evA E t x = evA E u x) → ps.toList.map (evA E t) = ps.toList.map (evA E u) := fun ps hp =>
    List.map_congr_left fun p hm => hp p (by simpa using hm)
  obtain ⟨dst, op, type, pos, after, guard⟩ := o
  cases op <;> simp only [Op.operands] at h <;> simp only [execA]
  case build ty ps => rw [pairs ps fun x hx => h x (by simpa using hx)]
  case buildSlice ty n ps => rw [pairs ps fun x hx => h x (by simpa using hx)]
  case makeFunc fn first captured => rw [list first fun x hx => h x (by simp [hx]), list captured fun x hx => h x (by simp [hx])]
  case makeMap ty r => cases r <;> rfl
  case slice ty x lo hi mx => cases lo <;> cases hi <;> cases mx <;> simp_all
  case call c =>
    rw [list c.args fun x hx => h x (by simp [Call.operands, hx])]
    cases hc : c.callee with
    | value f => simp only [h f (by simp [Call.operands, hc])]
    | invoke r m => simp only [h r (by simp [Call.operands, hc])]
    | builtin b => rfl
  all_goals (first | rfl | (simp_all; done))

theorem evA_get {E : Env} {t u : List AV} {i : Nat} (h : t[i]? = u[i]?) : evA E t (.tmp i) = evA E u (.tmp i) := by
  simp only [evA, List.getD_eq_getElem?_getD, h]

theorem execA_looks {E : Env} {ops : Array Oper} {t u : List AV} {g : AH} {o : Oper} (h : ∀ d ∈ o.looksAt ops, t[d]? = u[d]?) : execA E t g o = execA E u g o :=
  execA_congr fun x hx => by
    cases x with
    | tmp i => exact evA_get (h i (List.mem_append_left _ (List.mem_filterMap.2 ⟨.tmp i, by simpa using hx, rfl⟩)))
    | const v => rfl
    | global g => rfl
    | func f => rfl

theorem wantedA_looks {ops : Array Oper} {t u : List AV} {o : Oper} (h : ∀ d ∈ o.looksAt ops, t[d]? = u[d]?) : wantedA ops t o = wantedA ops u o := by
  unfold wantedA
  cases hg : o.guard with
  | none => rfl
  | some gw =>
    obtain ⟨j, want⟩ := gw
    simp only
    cases hd : (ops[j]?).bind (·.dst) with
    | none => rfl
    | some d => simp only; rw [h d (by simp [Oper.looksAt, hg, hd])]


/-- A call that asks nothing of memory. -/
def RecFree0 (E : Env) (rec : Rec) : Prop := ∀ f, E.hook f = none → (E.mode f = 2 ∨ (E.phook f).isSome = true) → ∀ args h v h', rec (.call f args h) = some (.ret v h') → h' = h ∧ ∀ g, rec (.call f args g) = some (.ret v g)

theorem run_free0 (E : Env) : ∀ n, RecFree0 E (run E n)
  | 0, f, hh, hm, args, h, v, h', e => by cases e
  | n + 1, f, hh, hm, args, h, v, h', e => by
    simp only [run, stepTask] at e ⊢
    obtain ⟨⟨v0, h0⟩, h1, h2⟩ := Option.map_eq_some_iff.1 e
    cases h2
    unfold stepCall at h1 ⊢
    cases hp : E.phook f with
    | some g =>
      simp only [hp] at h1 ⊢
      split at h1
      · rename_i as ha
        split at h1
        · rename_i hpu
          split at h1
          · rename_i v' hgv
            split at h1
            · rename_i hvp
              cases h1
              refine ⟨rfl, fun g' => ?_⟩
              simp [ha, hpu, hgv, hvp]
            · cases h1
          · cases h1
        · cases h1
      · cases h1
    | none =>
      have hm2 : E.mode f = 2 := by rcases hm with hm | hm; exact hm; simp [hp] at hm
      simp only [hp, hh] at h1 ⊢
      cases hf : E.fun_ f with
      | none => simp [hf] at h1
      | some fn =>
        simp only [hf, if_pos hm2] at h1 ⊢
        split at h1
        · rename_i as ha
          split at h1
          · rename_i hpu
            split at h1
            · rename_i v0 h0 hb
              split at h1
              · rename_i v1 hd
                split at h1
                · rename_i hvp
                  cases h1
                  refine ⟨rfl, fun g' => ?_⟩
                  simp [ha, hpu, hb, hd, hvp]
                · cases h1
              · cases h1
            · cases h1
          · cases h1
        · cases h1

/-- A call that leaves memory as it is. -/
def RecRead (E : Env) (rec : Rec) : Prop := ∀ f, E.hook f = none → E.mode f = 4 → ∀ args h v h', rec (.call f args h) = some (.ret v h') → h' = h

theorem run_read (E : Env) : ∀ n, RecRead E (run E n)
  | 0, f, hh, hm, args, h, v, h', e => by cases e
  | n + 1, f, hh, hm, args, h, v, h', e => by
    simp only [run, stepTask] at e
    obtain ⟨⟨v0, h0⟩, h1, h2⟩ := Option.map_eq_some_iff.1 e
    cases h2
    unfold stepCall at h1
    cases hp : E.phook f with
    | some g =>
      simp only [hp] at h1
      split at h1
      · split at h1
        · split at h1
          · split at h1
            · cases h1; rfl
            · cases h1
          · cases h1
        · cases h1
      · cases h1
    | none =>
      simp only [hp, hh] at h1
      cases hf : E.fun_ f with
      | none => simp [hf] at h1
      | some fn =>
        simp only [hf] at h1
        rw [if_neg (by omega), if_neg (by omega), if_pos hm] at h1
        split at h1
        · split at h1
          · cases h1; rfl
          · cases h1
        · cases h1

def RecFree (E : Env) (rec : Rec) : Prop := RecFree0 E rec ∧ RecRead E rec
theorem run_free (E : Env) (n : Nat) : RecFree E (run E n) := ⟨run_free0 E n, run_read E n⟩

/-- An operation that asks nothing of memory. -/
theorem exec0 {E : Env} {t : List AV} {h : AH} {o : Oper} {r : ON} (hk : kindA E o = 0) (e : execA E t h o = some r) :
    (∃ v, r = .val v h ∧ ∀ g, execA E t g o = some (.val v g)) ∨ (∃ f args, r = .enter f args ∧ (∀ g, execA E t g o = some (.enter f args)) ∧ (E.mode f = 2 ∨ (E.phook f).isSome = true)) := by
  obtain ⟨dst, op, type, pos, after, guard⟩ := o
  cases op <;> simp only [kindA] at hk <;> (try (exfalso; revert hk; decide))
  case move x => simp only [execA] at e ⊢; cases e; exact .inl ⟨_, rfl, fun g => rfl⟩
  case assign x => simp only [execA] at e ⊢; cases e; exact .inl ⟨_, rfl, fun g => rfl⟩
  case pick c a b =>
    simp only [execA] at e ⊢
    split at e
    · rename_i hc; cases e; exact .inl ⟨_, rfl, fun g => by simp⟩
    · rename_i hc; cases e; exact .inl ⟨_, rfl, fun g => by simp⟩
    · cases e
  case build ty ps =>
    simp only [execA] at e ⊢
    obtain ⟨x, h1, rfl⟩ := Option.map_eq_some_iff.1 e
    exact .inl ⟨_, rfl, fun g => by simp [h1]⟩
  case buildSlice ty n ps =>
    simp only [execA] at e ⊢
    split at hk
    · cases hk
    · rename_i hc
      rw [if_neg hc] at e
      obtain ⟨x, h1, rfl⟩ := Option.map_eq_some_iff.1 e
      exact .inl ⟨_, rfl, fun g => by rw [if_neg hc]; simp [h1]⟩
  case nilCheck x =>
    simp only [execA] at e ⊢
    split at e
    · rename_i hc; cases e; exact .inl ⟨_, rfl, fun g => by simp⟩
    · rename_i hc; cases e; exact .inl ⟨_, rfl, fun g => by simp⟩
    · cases e
  case binOp b ty x y ty' =>
    simp only [execA] at e ⊢
    obtain ⟨x, h1, rfl⟩ := Option.map_eq_some_iff.1 e
    exact .inl ⟨_, rfl, fun g => by simp [h1]⟩
  case unOp b ty x =>
    simp only [execA] at e ⊢
    obtain ⟨x, h1, rfl⟩ := Option.map_eq_some_iff.1 e
    exact .inl ⟨_, rfl, fun g => by simp [h1]⟩
  case convert src dst xo =>
    simp only [execA] at e ⊢
    obtain ⟨x, h1, rfl⟩ := Option.map_eq_some_iff.1 e
    have key : x.2 = h ∧ ∀ g, convE E g src dst (evA E t xo) = some (x.1, g) := by
      unfold convE at h1 ⊢
      split at h1
      · cases h1; exact ⟨rfl, fun g => by simp [*]⟩
      unfold convA at h1 ⊢
      split at h1
      · cases h1; exact ⟨rfl, fun g => by simp [*]⟩
      · cases h1; exact ⟨rfl, fun g => by simp [*]⟩
      · rename_i e1 e2 _
        split at h1
        · cases h1; exact ⟨rfl, fun g => by simp [*]⟩
        · cases h1
      · cases h1; exact ⟨rfl, fun g => by simp [*]⟩
      · rename_i e1 e2 _; simp [e1, e2] at hk
      · rename_i e1 e2 _; simp [e1, e2] at hk
      · rename_i e1 e2 _; simp [e1, e2] at hk
      · cases h1
    refine .inl ⟨x.1, by rw [key.1], fun g => by rw [key.2 g]; rfl⟩
  case makeInterface ty x =>
    simp only [execA] at e ⊢
    split at e
    · cases e
    · cases e
    · rename_i hc _ _; cases e; exact .inl ⟨_, rfl, fun g => by simp [*]⟩
  case makeFunc g first captured => simp only [execA] at e ⊢; cases e; exact .inl ⟨_, rfl, fun g => rfl⟩
  case fieldAddr ty x j =>
    simp only [execA] at e ⊢
    obtain ⟨x, h1, rfl⟩ := Option.map_eq_some_iff.1 e
    exact .inl ⟨_, rfl, fun g => by simp [h1]⟩
  case field ty x j =>
    simp only [execA] at e ⊢
    obtain ⟨x, h1, rfl⟩ := Option.map_eq_some_iff.1 e
    exact .inl ⟨_, rfl, fun g => by simp [h1]⟩
  case indexAddr ty x j =>
    simp only [execA] at e ⊢
    obtain ⟨x, h1, rfl⟩ := Option.map_eq_some_iff.1 e
    exact .inl ⟨_, rfl, fun g => by simp [h1]⟩
  case index ty x j =>
    simp only [execA] at e ⊢
    obtain ⟨x, h1, rfl⟩ := Option.map_eq_some_iff.1 e
    exact .inl ⟨_, rfl, fun g => by simp [h1]⟩
  case extract x j =>
    simp only [execA] at e ⊢
    split at e
    · obtain ⟨x, h1, rfl⟩ := Option.map_eq_some_iff.1 e
      exact .inl ⟨_, rfl, fun g => by simp [h1]⟩
    · cases e
  case call c =>
    simp only [execA] at e ⊢
    cases hc : c.callee with
    | builtin b =>
      simp only [hc] at e hk ⊢
      obtain ⟨x, h1, rfl⟩ := Option.map_eq_some_iff.1 e
      have key : x.2 = h ∧ ∀ g, builtinA E.P g b c.argTypes (c.args.toList.map (evA E t)) = some (x.1, g) := by
        generalize c.args.toList.map (evA E t) = args at *
        cases b <;> simp at hk
        · unfold builtinA at h1 ⊢
          cases args with
          | nil => cases h1
          | cons a r => obtain ⟨v, h2, rfl⟩ := Option.map_eq_some_iff.1 h1; exact ⟨rfl, fun g => by simp [h2]⟩
        · unfold builtinA at h1 ⊢
          cases args with
          | nil => cases h1
          | cons a r => obtain ⟨v, h2, rfl⟩ := Option.map_eq_some_iff.1 h1; exact ⟨rfl, fun g => by simp [h2]⟩
      exact .inl ⟨x.1, by rw [key.1], fun g => by rw [key.2 g]; rfl⟩
    | invoke r m => simp [hc] at hk
    | value f =>
      simp only [hc] at e hk ⊢
      cases f with
      | func f =>
        simp only [evA] at e ⊢
        dsimp only at hk
        split at hk
        · rename_i hm
          simp only [List.nil_append, List.append_nil] at e ⊢
          unfold callFnA at e ⊢
          cases hx : E.ext f with
          | some g0 =>
            simp only [hx] at e ⊢
            obtain ⟨x, h1, rfl⟩ := Option.map_eq_some_iff.1 e
            exact .inl ⟨_, rfl, fun g => by simp [h1]⟩
          | none =>
            simp only [hx] at e ⊢
            have hm' : E.mode f = 2 ∨ (E.phook f).isSome = true := by
              rcases hm with hm | hm | hm
              · exact .inl hm
              · exact .inr hm
              · rw [hx] at hm; cases hm
            have h5 : ¬ (E.mode f = 5 ∧ (E.phook f).isNone = true) := by
              rintro ⟨h1, h2⟩
              rcases hm' with h3 | h3
              · omega
              · cases hp : E.phook f <;> simp_all
            rw [if_neg h5] at e
            simp only [if_neg h5]
            split at e
            · rename_i hfn
              split at e
              · cases e
              · rename_i hn
                cases e
                exact .inr ⟨f, _, rfl, fun g => by simp only [hfn, if_neg hn], hm'⟩
            · cases e
        · split at hk <;> cases hk
      | _ => simp at hk

/-- An operation that reads memory. -/
theorem exec1 {E : Env} {t : List AV} {h : AH} {o : Oper} {r : ON} (hk : kindA E o = 1) (e : execA E t h o = some r) : (∃ v, r = .val v h) ∨ ∃ f args, r = .enter f args ∧ E.mode f = 4 := by
  obtain ⟨dst, op, type, pos, after, guard⟩ := o
  cases op <;> simp only [kindA] at hk <;> (try (exfalso; revert hk; decide)) <;> simp only [execA] at e
  case buildSlice ty n ps => split at hk <;> cases hk
  case convert src dst x =>
    obtain ⟨x, h1, rfl⟩ := Option.map_eq_some_iff.1 e
    have key : x.2 = h := by
      unfold convE at h1
      split at h1
      · cases h1; rfl
      unfold convA at h1
      split at h1
      · cases h1; rfl
      · cases h1; rfl
      · split at h1
        · cases h1; rfl
        · cases h1
      · cases h1; rfl
      · rename_i e1 e2 _; simp [e1, e2] at hk
      · rename_i e1 e2 _; simp [e1, e2] at hk
      · split at h1
        · obtain ⟨cs, h2, h3⟩ := Option.bind_eq_some_iff.1 h1
          obtain ⟨l, h4, h5⟩ := Option.map_eq_some_iff.1 h3
          rw [← h5]
        · cases h1
      · cases h1
    exact .inl ⟨x.1, by rw [key]⟩
  case load ty x => obtain ⟨x, h1, rfl⟩ := Option.map_eq_some_iff.1 e; exact .inl ⟨_, rfl⟩
  case slice ty x lo hi mx => obtain ⟨x, h1, rfl⟩ := Option.map_eq_some_iff.1 e; exact .inl ⟨_, rfl⟩
  case lookup ty x y ok => obtain ⟨x, h1, rfl⟩ := Option.map_eq_some_iff.1 e; exact .inl ⟨_, rfl⟩
  case call c =>
    cases hc : c.callee with
    | builtin b =>
      simp only [hc] at e hk
      obtain ⟨x, h1, rfl⟩ := Option.map_eq_some_iff.1 e
      have key : x.2 = h := by
        generalize c.args.toList.map (evA E t) = args at *
        cases b <;> simp at hk
        unfold builtinA at h1
        split at h1 <;> simp_all
        split at h1
        · obtain ⟨v, h2, h3⟩ := Option.map_eq_some_iff.1 h1
          rw [← h3]
        · cases h1
      exact .inl ⟨x.1, by rw [key]⟩
    | invoke r m => simp [hc] at hk
    | value f =>
      simp only [hc] at hk
      cases f with
      | func f =>
        simp only at hk
        split at hk
        · cases hk
        · rename_i hne
          split at hk
          · rename_i hm
            simp only [hc, evA] at e
            simp only [List.nil_append, List.append_nil] at e
            unfold callFnA at e
            cases hx : E.ext f with
            | some g0 => exact absurd (.inr (.inr (by rw [hx]; rfl))) hne
            | none =>
              simp only [hx] at e
              rw [if_neg (by omega)] at e
              split at e
              · split at e
                · cases e
                · cases e; exact .inr ⟨f, _, rfl, hm⟩
              · cases e
          · cases hk
      | _ => simp at hk

end
end Go.Av
