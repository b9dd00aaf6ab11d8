/-
  A closed law with several outcomes; functions told by a table of what they answer to arguments that are written down.
-/
import Derived.Test.YtmiodddnokpdfaaGreatDoorAvN
namespace Go.Av
noncomputable section
set_option linter.unusedSectionVars false
set_option linter.unusedSimpArgs false
set_option linter.unusedVariables false

/-- Surroundings in which slices of one type are written later, unless they are of constants. -/
def envL (P : Program) (T : Tab) (own : TypeId) : Env := { env P T with ownLit := fun t c => ownBytes P t c || (Nat.beq t own && !c) }

def findT (as : List AV) : List (List AV × Bool) → Option AV
  | [] => none
  | e :: r => if beqL e.1 as = true then some (.b e.2) else findT as r

def tabHookP (tabs : List (FuncId × List (List AV × Bool))) (f : FuncId) : Option (List AV → Option AV) := match lookupL f tabs with
  | some t => some fun as => findT as t
  | none => none

/-- Surroundings with functions told by a table. -/
def envP (P : Program) (T : Tab) (tabs : List (FuncId × List (List AV × Bool))) : Env := { env P T with phook := tabHookP tabs }

def isB (b : Bool) (v : AV) (_ : AH) : Bool := match v with | .b x => x == b | _ => false
def retAll' (p : AV → AH → Bool) (r : Option (List Res)) : Bool :=
  match r with
  | some l => l.all fun x => match x with
    | .ret v h => p v h
    | _ => false
  | none => false
theorem retAll'_of {p : AV → AH → Bool} {r : Option (List Res)} (h : retAll' p r = true) : ∃ l, r = some l ∧ ∀ v g, Res.ret v g ∈ l → p v g = true := by
  unfold retAll' at h
  split at h
  · rename_i l
    exact ⟨l, rfl, fun v g hm => List.all_eq_true.1 h _ hm⟩
  · cases h

variable [Toks]

theorem findT_mem {as : List AV} {v : AV} : ∀ {t : List (List AV × Bool)}, findT as t = some v → ∃ b, (as, b) ∈ t ∧ v = .b b
  | [], h => by cases h
  | e :: r, h => by
    unfold findT at h
    split at h
    · rename_i hb
      cases h
      have := beqL_eq _ _ hb
      subst this
      exact ⟨e.2, List.mem_cons_self .., rfl⟩
    · obtain ⟨b, h1, h2⟩ := findT_mem h
      exact ⟨b, List.mem_cons_of_mem _ h1, h2⟩

theorem draws_of {E : Env} {win : List (FuncId × List (Nat × List (Nat × Nat × Nat)))} (hw : ∀ f id, E.win f id = (lookupL f win).bind (lookupL id)) (hd : ((win.map (·.1)).all fun f => drawCheck E f) = true) :
    ∀ f fn c, E.fun_ f = some fn → fn.body = some c → ∀ x ∈ drawsIn c, DrawGood E f x := fun f fn c hfn hc x hx W hW => by
  rw [hw] at hW
  obtain ⟨l, h1, _⟩ := Option.bind_eq_some_iff.1 hW
  have := List.all_eq_true.1 hd f (lookupL_mem h1)
  unfold drawCheck at this
  simp only [hfn, hc] at this
  have := List.all_eq_true.1 this x hx
  rw [hw, hW] at this
  simpa using this

theorem envL_good {P : Program} {T : Tab} {own : TypeId} (hmix : P.follows .mixedOrders = true) (hb : ExtIs P T.bits Extern.MathFloatBits.float64bits) (hf : ExtIs P T.fromBits Extern.MathFloatBits.float64frombits)
    (hd : ((T.win.map (·.1)).all fun f => drawCheck (envL P T own) f) = true) : EnvGood (envL P T own) := by
  have h0 : EnvGood (env P { T with win := [] }) := env_good hmix hb hf rfl
  exact {
    funs := fun f fn h => h
    xhs := fun _ _ h => by cases h
    tbs := fun _ _ _ _ _ h => by cases h
    tus := fun _ _ _ h => by cases h
    jns := fun _ _ h => by cases h
    tcs := fun _ _ _ _ h => by cases h
    exts := fun f g hg => h0.exts f g hg
    pures := fun g cs h => h0.pures g cs h
    hookfree := fun _ _ => rfl
    hookfree4 := fun _ _ => rfl
    mixed := hmix
    hooks := fun f g h => by cases h
    phooks := fun f g h => by cases h
    draws := draws_of (fun _ _ => rfl) hd }

theorem envP_good {P : Program} {T T0 : Tab} {own : TypeId} {tabs : List (FuncId × List (List AV × Bool))} {m wk : FuncId → Bool} {d n : Nat} (hL : EnvGood (envL P T0 own)) (hgl : T0.glob = T.glob)
    (hfacts : ∀ f t, lookupL f tabs = some t → ∀ x ∈ t, retAll' (isB x.2) (runM (envL P T0 own) m wk d n (.call f x.1 emptyH)) = true)
    (hmix : P.follows .mixedOrders = true) (hb : ExtIs P T.bits Extern.MathFloatBits.float64bits) (hf : ExtIs P T.fromBits Extern.MathFloatBits.float64frombits)
    (hd : ((T.win.map (·.1)).all fun f => drawCheck (envP P T tabs) f) = true) : EnvGood (envP P T tabs) := by
  have h0 : EnvGood (env P { T with win := [] }) := env_good hmix hb hf rfl
  exact {
    funs := fun f fn h => h
    xhs := fun _ _ h => by cases h
    tbs := fun _ _ _ _ _ h => by cases h
    tus := fun _ _ _ h => by cases h
    jns := fun _ _ h => by cases h
    tcs := fun _ _ _ _ h => by cases h
    exts := fun f g hg => h0.exts f g hg
    pures := fun g cs h => h0.pures g cs h
    hookfree := fun _ _ => rfl
    hookfree4 := fun _ _ => rfl
    mixed := hmix
    hooks := fun f g h => by cases h
    phooks := fun f g hg args as h v ha hp e hv => by
      have hg' : tabHookP tabs f = some g := hg
      unfold tabHookP at hg'
      split at hg'
      · rename_i t ht
        cases hg'
        obtain ⟨b, hm, rfl⟩ := findT_mem e
        obtain ⟨l, h1, h2⟩ := retAll'_of (hfacts f t ht _ hm)
        refine CallOk.of (E := envL P T0 own) (E' := envP P T tabs) rfl ?_ (callok_pureM hL ((runM_ok hL m wk d n).1 _ _ _ _ h1) (fun I Z vs hLr => pureL_rel (mapM_empty ha hLr) hp) (fun v1 h1 hm I J Z Y cv hcv => ?_) h)
        · show (fun g => (lookupL g T.glob).map bytesL) = fun g => (lookupL g T0.glob).map bytesL
          rw [hgl]
        · have := h2 v1 h1 hm
          unfold isB at this
          split at this
          · rw [beq_iff_eq] at this
            subst this
            cases hcv
            exact .b _
          · cases this
      · cases hg'
    draws := draws_of (fun _ _ => rfl) hd }

/-- As calls_true, with several outcomes. -/
theorem calls_trueM {E : Env} (hE : EnvGood E) {m wk : FuncId → Bool} {d n : Nat} {f : FuncId} {args : List AV} (e : retAll' (isB true) (runM E m wk d n (.call f args emptyH)) = true) (W : World) (vs : List Value)
    (hG : Glob noI (Zed.all W) E) (hL : LRel noI (Zed.all W) args vs) : Calls E.P f vs.toArray W fun e W' => e = .returned (.bool true) ∧ Keeps W W' := by
  obtain ⟨l, h1, h2⟩ := retAll'_of e
  refine ((runM_ok hE m wk d n).1 f args emptyH l h1 noI (Zed.all W) W vs hG hL (empty_rel (.refl _))).mono ?_
  rintro e' W' ⟨v, h', hm, J, Y, cv, rfl, hgo, hv⟩
  have := h2 v h' hm
  unfold isB at this
  split at this
  · rw [beq_iff_eq] at this
    subst this
    cases hv
    exact ⟨rfl, hgo.keeps⟩
  · cases this
end
end Go.Av
