/-
  A function in two pieces: the first with several outcomes, all of which come to the same state but for what is not looked at any more; then the rest, once.
-/
import Derived.Test.YtejljkdkhokmoaaGreatDoorAvP
namespace Go.Av
noncomputable section
set_option linter.unusedSectionVars false
set_option linter.unusedSimpArgs false
set_option linter.unusedVariables false
set_option maxRecDepth 20000
variable [Toks]

def normM (k : S → Option (List S)) (r : Ex × S) : Option (List S) := match r with
  | (.normal, s) => k s
  | _ => none

def stepLM (E : Env) (det : Rec) (rec : RecM) (f : FuncId) : List Code → S → Option (List S)
  | [], s => some [s]
  | p :: ps, s => match stepCodeM E det rec f p s with
    | some l => bindO (normM (stepLM E det rec f ps)) l
    | none => none

theorem chainM_ok {E : Env} (hE : EnvGood E) {m wk : FuncId → Bool} {d n : Nat} {f : FuncId} {z : Code} : ∀ (ps : List Code) {s : S} {l : List S}, stepLM E (run E d) (runM E m wk d n) f ps s = some l → (∀ p ∈ ps, ∀ x ∈ drawsIn p, DrawGood E f x) →
    ∀ I Z (w : World) (a : Act), Glob I Z E → LRel I Z s.t a.tmps.toList → a.defers = [] → Rel I Z s.h w → ∀ Q,
      (∀ s1 ∈ l, ∀ J Y w' a', Goes I Z s.h w J Y s1.h w' → LRel J Y s1.t a'.tmps.toList → a'.defers = [] → z.wp E.P Q a' w') → (chain ps z).wp E.P Q a w
  | [], s, l, e, _, I, Z, w, a, hg, ht, hd, hr, Q, hq => by
    cases e
    exact hq s (List.mem_singleton.2 rfl) I Z w a (.refl hr) ht hd
  | p :: ps, s, l, e, hdg, I, Z, w, a, hg, ht, hd, hr, Q, hq => by
    simp only [stepLM] at e
    split at e
    · rename_i l1 h1
      refine wp_seq ?_
      refine @stepCodeM_ok _ ⟨[]⟩ _ hE.toEnvOk d _ _ (runM_ok hE m wk d n).1 (@(runM_ok hE m wk d n).2 ⟨[]⟩) (@draws_ok _ ⟨[]⟩ _ hE _ (run_ok hE d).1) f p s l1 (hdg p (List.mem_cons_self ..)) h1 I Z w a hg ht hd hr _ (fun r hr1 J Y w' a' hgo ht' hd' => ?_)
      obtain ⟨x, hx1, hx2⟩ := bindO_mem e r hr1
      obtain ⟨ex, s'⟩ := r
      cases ex with
      | normal =>
        exact chainM_ok hE ps hx1 (fun q hq => hdg q (List.mem_cons_of_mem _ hq)) J Y w' a' (hg.mono hgo.le hgo.lez) ht' hd' hgo.rel Q (fun s1 hs1 J' Y' w'' a'' hgo' ht'' hd'' => hq s1 (hx2 s1 hs1) J' Y' w'' a'' (hgo.trans hr hgo') ht'' hd'')
      | exit j => cases hx1
      | ret => cases hx1
    · cases e

/-- The first two are known, of the others nothing. -/
def anyS (x y : AV) (n : Nat) : List AV := x :: y :: List.replicate n .any

theorem anyS_rel {I : Inj} {Z : Zed} {x y : AV} {t : List AV} {vs : List Value} (h : LRel I Z (x :: y :: t) vs) : LRel I Z (anyS x y t.length) vs := by
  refine ⟨by rw [← h.1]; simp [anyS], fun j a v e1 e2 => ?_⟩
  match j, e1 with
  | 0, e1 => exact h.2 0 a v e1 e2
  | 1, e1 => exact h.2 1 a v e1 e2
  | j + 2, e1 =>
    unfold anyS at e1
    simp only [List.getElem?_cons_succ, List.getElem?_replicate] at e1
    split at e1
    · cases e1; exact .any v
    · cases e1

/-- Does a state come to this heap, whatever else it bears? -/
def preM (p : AV → AV → Bool) (K m a : Nat) (x y : AV) (n : Nat) (s : S) : Bool :=
  match s.t with
  | u :: v :: t => AV.beq u x && (AV.beq v y && (Nat.beq t.length n && finM p K m a (.tup []) s.h))
  | _ => false

def preAll (q : S → Bool) (r : Option (List S)) : Bool :=
  match r with
  | some l => l.all q
  | none => false
theorem preAll_of {q : S → Bool} {r : Option (List S)} (h : preAll q r = true) : ∃ l, r = some l ∧ ∀ s ∈ l, q s = true := by
  unfold preAll at h
  split at h
  · rename_i l; exact ⟨l, rfl, fun s hs => List.all_eq_true.1 h s hs⟩
  · cases h

/-- What the rest comes to. -/
def restM (E : Env) (fn : Func) (p : AV → AV → Bool) (g : AH) (r : Option (List (Ex × S))) : Bool :=
  match r with
  | some l => match bindO (endM E fn) l with
    | some o => o.all fun x => (match x.1 with | .tup [] => true | _ => false) && AH.covP p g x.2
    | none => false
  | none => false

/-- Two pieces. -/
theorem add2_ok {E : Env} (hE : EnvGood E) {m wk : FuncId → Bool} {d nn : Nat} {p : AV → AV → Bool} (hp : Less p) {f : FuncId} {fn : Func} {ps : List Code} {z : Code} {x y : AV} {h1 : AH} {K k a a' N : Nat} (hk : 0 < k) (hK : K ≠ 0) (hf : E.fun_ f = some fn) (hb : fn.body = some (chain ps z))
    {q : AV → AV → Bool} (hq : Less q) (hN : fn.ntmps - 2 = N)
    (h1' : preAll (preM q K k a x y N) (stepLM E (run E d) (runM E m wk d nn) f ps ⟨x :: y :: List.replicate N undefA, h1⟩) = true)
    (h2 : restM E fn p (gOut K k a') (stepCodeM E (run E d) (runM E m wk d nn) f z ⟨anyS x y N, gOut K k a⟩) = true) : CallOk E f [x, y] h1 (.tup []) (gOut K k a') := by
  have hdg := hE.draws f fn _ hf hb
  have hcd := chain_draws ps z
  obtain ⟨l, e1, e2⟩ := preAll_of h1'
  obtain ⟨lz, e3, o, e4, e5⟩ : ∃ lz, stepCodeM E (run E d) (runM E m wk d nn) f z ⟨anyS x y N, gOut K k a⟩ = some lz ∧ ∃ o, bindO (endM E fn) lz = some o ∧ ∀ r ∈ o, r.1 = .tup [] ∧ AH.covP p (gOut K k a') r.2 = true := by
    unfold restM at h2
    split at h2
    · rename_i lz hz
      split at h2
      · rename_i o ho
        refine ⟨lz, hz, o, ho, fun r hr => ?_⟩
        have := List.all_eq_true.1 h2 r hr
        rw [Bool.and_eq_true] at this
        refine ⟨?_, this.2⟩
        have h3 := this.1
        split at h3
        · assumption
        · cases h3
      · cases h2
    · cases h2
  intro I Z w vs hg hL hr
  refine calls_of_wp (hE.funs f fn hf) hb ?_
  have ht : LRel I Z ([x, y] ++ List.replicate (fn.ntmps - 2) undefA) (vs.toArray ++ Array.replicate (fn.ntmps - vs.toArray.size) undef).toList := by
    have h0 : vs.length = 2 := by rw [← hL.1]; rfl
    have := hL.append (rep_rel (I := I) (Z := Z) (fn.ntmps - 2))
    simpa [h0] using this
  rw [hN] at ht
  have ht : LRel I Z (⟨x :: y :: List.replicate N undefA, h1⟩ : S).t ({ tmps := vs.toArray ++ Array.replicate (fn.ntmps - vs.toArray.size) undef, defers := [] } : Act).tmps.toList := ht
  refine chainM_ok hE ps e1 (fun p hp x hx => hdg x (hcd.1 p hp x hx)) I Z w _ hg ht rfl hr _ (fun s1 hs1 J Y w1 a1 hgo ht1 hd1 => ?_)
  have hs := e2 s1 hs1
  unfold preM at hs
  split at hs
  · rename_i u v t hst
    simp only [Bool.and_eq_true] at hs
    obtain ⟨q1, q2, q3, q4⟩ := hs
    have q1 := beq_eq _ _ q1
    have q2 := beq_eq _ _ q2
    have q3 : t.length = N := Nat.eq_of_beq_eq_true q3
    subst q1; subst q2; subst q3
    obtain ⟨_, J2, hgo2⟩ := finM_ok hq hk hK q4 hgo.rel
    have g2 := hgo.trans hr hgo2
    rw [hst] at ht1
    refine @stepCodeM_ok _ ⟨[]⟩ _ hE.toEnvOk d _ _ (runM_ok hE m wk d nn).1 (@(runM_ok hE m wk d nn).2 ⟨[]⟩) (@draws_ok _ ⟨[]⟩ _ hE _ (run_ok hE d).1) f z _ lz (fun x hx => hdg x (hcd.2 x hx)) e3 J2 Y w1 a1 (hg.mono g2.le g2.lez) (anyS_rel (ht1.mono hgo2.le hgo2.lez)) hd1 hgo2.rel _ (fun r hr1 J' Y' w' a' hgo' ht' hd' => ?_)
    obtain ⟨y1, hy1, hy2⟩ := bindO_mem e4 r hr1
    have g3 := g2.trans hr hgo'
    have fin : ∀ v, resultsA E.P fn r.2 = some v → y1 = [(v, r.2.h)] → ∃ cv, (results fn a'.tmps).run E.P w' = .ok cv w' ∧ ∃ J Y cv', Ending.returned cv = .returned cv' ∧ Goes I Z h1 w J Y (gOut K k _) w' ∧ VRel J Y (.tup []) cv' := fun v hv hyv => by
      obtain ⟨cv, h5, h6⟩ := results_ok hv ht' hgo'.rel
      obtain ⟨c1, c2⟩ := e5 (v, r.2.h) (hy2 _ (by rw [hyv]; exact List.mem_singleton.2 rfl))
      have c1 : v = .tup [] := c1
      subst c1
      exact ⟨cv, h5, J', Y', cv, rfl, g3.trans hr (Goes.covP hp hgo'.rel c2), h6⟩
    obtain ⟨ex, s2⟩ := r
    cases ex with
    | normal =>
      obtain ⟨v, hv, he⟩ := Option.map_eq_some_iff.1 hy1
      exact ⟨hd', fin v hv he.symm⟩
    | exit j => cases hy1
    | ret =>
      obtain ⟨v, hv, he⟩ := Option.map_eq_some_iff.1 hy1
      exact ⟨hd', fin v hv he.symm⟩
  · cases hs

/-- Whatever the capacity, once more. -/
theorem addN_ok {E : Env} {f : FuncId} {args : List AV} {n a : Nat} {g : AH} (hn : 0 < n) (hA : CallOk E f args (gA n a) (.tup []) g) (hB : CallOk E f args (gB n a) (.tup []) g) : CallOk E f args (gN n a) (.tup []) g := by
  intro I Z w vs hg hL hr
  have fin : ∀ (g1 : AH), CallOk E f args g1 (.tup []) g → Goes I Z (gN n a) w I Z g1 w →
      Calls E.P f vs.toArray w fun e w' => ∃ J Y cv, e = .returned cv ∧ Goes I Z (gN n a) w J Y g w' ∧ VRel J Y (.tup []) cv := fun g1 hM h1 => by
    refine (hM I Z w vs hg hL h1.rel).mono ?_
    rintro e w' ⟨J, Y, cv, rfl, hgo, hv⟩
    exact ⟨J, Y, cv, rfl, h1.trans hr hgo, hv⟩
  rcases split_cap hn hr with h1 | h1
  · exact fin _ hA h1
  · exact fin _ hB h1
end
end Go.Av
