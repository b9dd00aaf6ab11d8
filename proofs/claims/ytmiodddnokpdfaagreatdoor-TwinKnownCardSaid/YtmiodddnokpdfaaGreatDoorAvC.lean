/-
  A long run in pieces: calls whose heaps before and behind are written down, each checked by itself, then taken as known.
-/
import Derived.Test.YtmiodddnokpdfaaGreatDoorAvF
namespace Go.Av
noncomputable section
set_option linter.unusedSectionVars false
variable [Toks]
set_option linter.unusedSimpArgs false
set_option linter.unusedVariables false

/-- The first says no more than the second. -/
def kindU (a b : AV) : Bool := match a, b with
  | .ui k, .i j _ => k == j
  | .uf k, .f j _ => k == j
  | .uf k, .uf j => k == j
  | .ui k, .ig j _ => k == j
  | .unkb, .b _ => true
  | _, _ => false
def covV (a b : AV) : Bool := match a with
  | .junk => b.one
  | _ => AV.beq a b || kindU a b

theorem kindU_rel {I : Inj} {Z : Zed} {a b : AV} {v : Value} (h : kindU a b = true) (hv : VRel I Z b v) : VRel I Z a v := by
  unfold kindU at h
  split at h
  · rw [beq_iff_eq] at h; subst h; cases hv; exact .ui _ _
  · rw [beq_iff_eq] at h; subst h; cases hv; exact .uf _ _
  · rw [beq_iff_eq] at h; subst h; cases hv; exact .uf _ _
  · rw [beq_iff_eq] at h; subst h; cases hv; exact .ui _ _
  · cases hv; exact .unkb _
  · cases h
theorem kindU_one {a b : AV} (h : kindU a b = true) : a.one = true := by
  unfold kindU at h
  split at h <;> first | rfl | cases h
/-- What the second says, the first says too. -/
theorem covV_rel {I : Inj} {Z : Zed} {a b : AV} {v : Value} (h : covV a b = true) (hone : v.oneCell' = true) (hv : VRel I Z b v) : VRel I Z a v := by
  unfold covV at h
  split at h
  · exact .junk _ hone
  · rcases (Bool.or_eq_true_iff.1 h) with h | h
    · rw [beq_eq a b h]; exact hv
    · exact kindU_rel h hv
def covL : List AV → List AV → Bool
  | [], [] => true
  | a :: r, b :: s => covV a b && covL r s
  | _, _ => false
def covO : AO → AO → Bool
  | .cells n cs, .cells m ds => n == m && covL cs ds
  | .map es, .map fs => MO.beq es fs
  | _, _ => false
def AH.cov (g h : AH) : Bool := g.next == h.next && Tr.sub covO g.objs h.objs

theorem sub_get' {α : Type} (p : α → α → Bool) : ∀ (t u : Tr α), Tr.sub p t u = true → ∀ k x, t.get k = some x → ∃ y, u.get k = some y ∧ p x y = true
  | .lf, u, _, k, x, h => by rw [Tr.get_lf] at h; cases h
  | .nd v l r, .lf, h, k, x, hk => by simp [Tr.sub] at h
  | .nd v l r, .nd w a b, h, k, x, hk => by
    simp only [Tr.sub, Bool.and_eq_true] at h
    obtain ⟨⟨h1, h2⟩, h3⟩ := h
    cases k with
    | zero =>
      rw [Tr.get_zero] at hk ⊢
      subst hk
      cases w with
      | none => simp at h1
      | some y => exact ⟨y, rfl, h1⟩
    | succ j =>
      rw [Tr.get_succ] at hk ⊢
      split at hk
      · rename_i hj; rw [if_pos hj]; exact sub_get' p l a h2 _ x hk
      · rename_i hj; rw [if_neg hj]; exact sub_get' p r b h3 _ x hk

theorem covL_get : ∀ (cs ds : List AV), covL cs ds = true → cs.length = ds.length ∧ ∀ (j : Nat) a, cs[j]? = some a → ∃ b, ds[j]? = some b ∧ covV a b = true
  | [], [], _ => ⟨rfl, fun j a h => by simp at h⟩
  | [], _ :: _, h => by simp [covL] at h
  | _ :: _, [], h => by simp [covL] at h
  | a :: r, b :: s, h => by
    simp only [covL, Bool.and_eq_true] at h
    obtain ⟨h1, h2⟩ := covL_get r s h.2
    refine ⟨by simp [h1], fun j x hj => ?_⟩
    cases j with
    | zero => simp at hj; subst hj; exact ⟨b, rfl, h.1⟩
    | succ j => simp at hj; simpa using h2 j x hj

theorem covV_one {a b : AV} (h : covV a b = true) (hb : b.one = true) : a.one = true := by
  unfold covV at h
  split at h
  · rfl
  · rcases (Bool.or_eq_true_iff.1 h) with h | h
    · rw [beq_eq a b h]; exact hb
    · exact kindU_one h

/-- What a heap says, one that says less says too. -/
theorem Goes.cov {I : Inj} {Z : Zed} {g h : AH} {w : World} (hr : Rel I Z h w) (hc : AH.cov g h = true) : Goes I Z h w I Z g w := by
  simp only [AH.cov, Bool.and_eq_true, beq_iff_eq] at hc
  obtain ⟨hn, hs⟩ := hc
  have hget : ∀ k o, g.get k = some o → ∃ o', h.get k = some o' ∧ covO o o' = true := fun k o e => sub_get' covO _ _ hs k o e
  have hlive : ∀ k, g.live k → h.live k := fun k hl => by
    unfold AH.live at *
    cases e : g.get k with
    | none => exact absurd e hl
    | some o => obtain ⟨o', h1, _⟩ := hget k o e; rw [h1]; simp
  refine ⟨.refl _, .refl _, fun _ _ _ h => .inl h, ⟨fun k es cs e => ?_, fun k es e => ?_, fun k k' B B' h1 h2 => hr.inj k k' B B' (hlive k h1) (hlive k' h2), fun b o v hz => ⟨(hr.zed b o v hz).1, fun k B hl => (hr.zed b o v hz).2 k B (hlive k hl)⟩, fun k hk => ?_, hr.size⟩,
    ⟨rfl, rfl, Nat.le_refl _, by rw [hn]; exact Nat.le_refl _, fun _ _ _ => rfl, fun _ _ _ _ _ _ => rfl, fun k B hl hB _ => ⟨k, B, hlive k hl, hB, rfl, Nat.le_refl _⟩⟩⟩
  · obtain ⟨o', h1, h2⟩ := hget k _ e
    cases o' with
    | map fs => simp [covO] at h2
    | cells m ds =>
      simp only [covO, Bool.and_eq_true, beq_iff_eq] at h2
      obtain ⟨rfl, h2⟩ := h2
      obtain ⟨hl, hj⟩ := covL_get cs ds h2
      obtain ⟨B, hB, he, arr, el, fr, a1, a2, a3, a4, a5, a6⟩ := hr.cells k es ds h1
      refine ⟨B, hB, he, arr, el, fr, a1, a2, by rw [hl]; exact a3, fun j a ha => ?_, a5, a6⟩
      obtain ⟨b, hb, hab⟩ := hj j a ha
      obtain ⟨o1, v, h3, h4⟩ := a4 j b hb
      refine ⟨covV_one hab o1, v, h3, ?_⟩
      exact covV_rel hab (a6 _ _ h3) h4
  · obtain ⟨o', h1, h2⟩ := hget k _ e
    cases o' with
    | cells m ds => simp [covO] at h2
    | map fs =>
      simp only [covO] at h2
      rw [MO.beq_eq es fs h2]
      exact hr.map k fs h1
  · rw [hn]; exact hr.fresh k (hk.imp (hlive k) id)

/-- A call, with what there was and what there is behind it. -/
structure Entry where
  f : FuncId
  args : List AV
  h : AH
  v : AV
  h' : AH

def Entry.ok (E : Env) (e : Entry) : Bool :=
  match runF E 4000 (.call e.f e.args e.h) with
  | some (.ret v h) => AV.beq v e.v && AH.cov e.h' h
  | _ => false

def Entry.good (E : Env) (e : Entry) : Prop := CallOk E e.f e.args e.h e.v e.h'

theorem Entry.good_of {E : Env} (hE : EnvGood E) {e : Entry} (h : e.ok E = true) : e.good E := by
  unfold Entry.ok at h
  split at h
  · rename_i v h1 hr
    rw [Bool.and_eq_true] at h
    obtain ⟨hv, hc⟩ := h
    rw [beq_eq _ _ hv] at hr
    intro I Z w vs hg hL hrel
    refine (call_ok hE (runF_ret hr) I Z w vs hg hL hrel).mono ?_
    rintro e' w' ⟨J, Y, cv, rfl, hgo, hcv⟩
    exact ⟨J, Y, cv, rfl, hgo.trans hrel (Goes.cov hgo.rel hc), hcv⟩
  · cases h

/-- The call's surroundings matter by the program and the laid variables alone. -/
theorem CallOk.of {E E' : Env} (hP : E'.P = E.P) (hg : E'.glob = E.glob) {f : FuncId} {args : List AV} {h h' : AH} {v : AV} (c : CallOk E f args h v h') : CallOk E' f args h v h' := by
  intro I Z w vs hgl hL hr
  rw [hP]
  exact c I Z w vs (fun g cs e => hgl g cs (by rw [hg]; exact e)) hL hr
theorem Entry.good.of {E E' : Env} (hP : E'.P = E.P) (hg : E'.glob = E.glob) {e : Entry} (c : e.good E) : e.good E' := CallOk.of hP hg c

/-- The call in a table. -/
def findE (f : FuncId) (args : List AV) (h : AH) : List Entry → Option (AV × AH)
  | [] => none
  | e :: r => if (Nat.beq e.h.next h.next && (Nat.beq e.f f && (beqL e.args args && AH.cov e.h h))) = true then some (e.v, e.h') else findE f args h r

theorem findE_ok {E : Env} {f : FuncId} {args : List AV} {h h' : AH} {v : AV} : ∀ (l : List Entry), (∀ e ∈ l, e.good E) → findE f args h l = some (v, h') → CallOk E f args h v h'
  | [], _, h => by cases h
  | e :: r, hl, hf => by
    unfold findE at hf
    split at hf
    · rename_i hc
      simp only [Bool.and_eq_true] at hc
      obtain ⟨_, h2, h3, h4⟩ := hc
      have e2 : e.f = f := Nat.eq_of_beq_eq_true h2
      have e3 := beqL_eq _ _ h3
      cases hf
      have hg := hl e (List.mem_cons_self ..)
      unfold Entry.good at hg
      rw [e2, e3] at hg
      intro I Z w vs hgl hL hr
      have hgo := Goes.cov hr h4
      refine (hg I Z w vs hgl hL hgo.rel).mono ?_
      rintro e' w' ⟨J, Y, cv, rfl, hg2, hcv⟩
      exact ⟨J, Y, cv, rfl, hgo.trans hr hg2, hcv⟩
    · exact findE_ok r (fun e he => hl e (List.mem_cons_of_mem _ he)) hf

def tabHook (E : Env) (es : List Entry) (f : FuncId) (args : List AV) (h : AH) : Option (AV × AH) :=
  match findE f args h es with
  | some r => some r
  | none => match runF E 4000 (.call f args h) with
    | some (.ret v h') => some (v, h')
    | _ => none

/-- The surroundings, with calls of these functions looked up first. -/
def withE (E : Env) (fs : List FuncId) (es : List Entry) : Env := { E with hook := fun f => if fs.any (Nat.beq f) = true then some (tabHook E es f) else E.hook f }

theorem withE_good {E : Env} (hE : EnvGood E) {fs : List FuncId} {es : List Entry} (hes : ∀ e ∈ es, e.good E) (hfs : fs.all (fun f => !(Nat.beq (E.mode f) 2) && !(Nat.beq (E.mode f) 4) && (E.phook f).isNone) = true) : EnvGood (withE E fs es) := by
  have hin : ∀ f, fs.any (Nat.beq f) = true → E.mode f ≠ 2 ∧ E.mode f ≠ 4 ∧ (E.phook f).isNone = true := fun f h => by
    obtain ⟨g, hg, e⟩ := List.any_eq_true.1 h
    have e' : f = g := Nat.eq_of_beq_eq_true e
    subst e'
    have := List.all_eq_true.1 hfs f hg
    simp only [Bool.and_eq_true, Bool.not_eq_true'] at this
    obtain ⟨⟨h1, h2⟩, h3⟩ := this
    exact ⟨fun e => (by rw [e] at h1; cases h1), fun e => (by rw [e] at h2; cases h2), h3⟩
  exact {
    funs := hE.funs
    exts := hE.exts
    xhs := hE.xhs
    tbs := hE.tbs
    tus := hE.tus
    jns := hE.jns
    tcs := hE.tcs
    pures := hE.pures
    hookfree := fun f h => by
      show (if fs.any (Nat.beq f) = true then some (tabHook E es f) else E.hook f) = none
      rw [if_neg ?_]
      · exact hE.hookfree f h
      · intro hf
        obtain ⟨h1, _, h3⟩ := hin f hf
        rcases h with h | h
        · exact h1 h
        · have h' : (E.phook f).isSome = true := h
          cases e : E.phook f with
          | none => rw [e] at h'; cases h'
          | some g => rw [e] at h3; cases h3
    hookfree4 := fun f h => by
      show (if fs.any (Nat.beq f) = true then some (tabHook E es f) else E.hook f) = none
      rw [if_neg ?_]
      · exact hE.hookfree4 f h
      · intro hf
        obtain ⟨_, h2, _⟩ := hin f hf
        exact h2 h
    mixed := hE.mixed
    hooks := fun f g hg args h v h' e => by
      have hg' : (if fs.any (Nat.beq f) = true then some (tabHook E es f) else E.hook f) = some g := hg
      split at hg'
      · cases hg'
        unfold tabHook at e
        split at e
        · rename_i r hr
          cases e
          exact CallOk.of rfl rfl (findE_ok es hes hr)
        · split at e
          · rename_i v2 h2 hr
            cases e
            exact CallOk.of rfl rfl (call_ok hE (runF_ret hr))
          · cases e
      · exact CallOk.of rfl rfl (hE.hooks f g hg' args h v h' e)
    phooks := fun f g hg args as h v ha hp e hv => CallOk.of rfl rfl (hE.phooks f g hg args as h v ha hp e hv)
    draws := hE.draws }

/-- A heap, changed. -/
def AH.edit (h : AH) (n : Nat) (dels : List Nat) (sets : List (Nat × AO)) : AH :=
  ⟨n, sets.foldl (fun t x => t.set x.1 (some x.2)) (dels.foldl (fun t k => t.set k none) h.objs)⟩
end
end Go.Av
