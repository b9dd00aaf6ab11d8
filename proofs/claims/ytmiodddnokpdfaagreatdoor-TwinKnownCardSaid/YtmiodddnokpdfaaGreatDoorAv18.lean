/-
  Statements that draw their order are sound; so is the whole machine.
-/
import Derived.Test.YtmiodddnokpdfaaGreatDoorAv17
namespace Go.Av
noncomputable section
set_option linter.unusedSectionVars false
variable [Toks]
set_option linter.unusedSimpArgs false
set_option linter.unusedVariables false

theorem stepOp_mix {E : Env} {rec : Rec} {o : Oper} {t m : List AV} {g : AH} {s1 : S} (he : execA E m g o = execA E t g o) (e : stepOp E rec o ⟨t, g⟩ = some s1) :
    ∃ v, s1.t = putA t o.dst v ∧ stepOp E rec o ⟨m, g⟩ = some ⟨putA m o.dst v, s1.h⟩ := by
  unfold stepOp at e ⊢
  dsimp only at e ⊢
  rw [he]
  split at e
  · rename_i v h1 hx; cases e; exact ⟨v, rfl, rfl⟩
  · rename_i f args hx
    split at e
    · rename_i v h1 hc; cases e; exact ⟨v, rfl, rfl⟩
    · cases e
  · cases e

section
variable {E : Env} {rec : Rec} {ops : Array Oper} {W : List (Nat × Nat × Nat)} {gs : List AH} {rs : List (Oper × List AV × Nat × Nat)} {st : Nat → S}

theorem readV_of (hE : EnvGood E) (hf : RecFree E rec) {o : Oper} {s s' : S} (hk : kindA E o = 1) (e : stepOp E rec o s = some s') : ∃ v, readV E rec s.t s.h o = some v ∧ s' = ⟨putA s.t o.dst v, s.h⟩ := by
  unfold stepOp at e
  unfold readV
  cases hx : execA E s.t s.h o with
  | none => simp [hx] at e
  | some r =>
    rw [hx] at e
    rcases exec1 hk hx with ⟨v, rfl⟩ | ⟨f, args, rfl, hm⟩
    · cases e; exact ⟨v, rfl, rfl⟩
    · simp only at e ⊢
      split at e
      · rename_i v h1 hc
        cases e
        obtain rfl := hf.2 f (hE.hookfree4 f hm) hm _ _ _ _ hc
        exact ⟨v, rfl, rfl⟩
      · cases e
theorem step_of_readV (hE : EnvGood E) (hf : RecFree E rec) {o : Oper} {m : List AV} {g : AH} {v : AV} (hk : kindA E o = 1) (e : readV E rec m g o = some v) : stepOp E rec o ⟨m, g⟩ = some ⟨putA m o.dst v, g⟩ := by
  unfold readV at e
  unfold stepOp
  cases hx : execA E m g o with
  | none => simp [hx] at e
  | some r =>
    rw [hx] at e
    rcases exec1 hk hx with ⟨v', rfl⟩ | ⟨f, args, rfl, hm⟩
    · cases e; rfl
    · simp only at e ⊢
      split at e
      · rename_i v' h1 hc
        cases e
        obtain rfl := hf.2 f (hE.hookfree4 f hm) hm _ _ _ _ hc
        rfl
      · cases e

theorem stable_at {t : List AV} {o : Oper} {lo hi k j : Nat} {g g' : AH} {v : AV} (h : stable E rec gs (o, t, lo, hi) = true) (hk : lo ≤ k ∧ k ≤ hi) (hj : lo ≤ j ∧ j ≤ hi) (hg : gs[k]? = some g) (hg' : gs[j]? = some g')
    (hv : readV E rec t g o = some v) : readV E rec t g' o = some v := by
  unfold stable at h
  dsimp only at h
  split at h
  · cases h
  · rename_i gl hgl
    split at h
    · cases h
    · rename_i vl hvl
      simp only [List.all_eq_true, List.mem_range, Bool.or_eq_true, decide_eq_true_eq] at h
      have h1 := (h k (by omega)).resolve_left (by omega)
      have h2 := (h j (by omega)).resolve_left (by omega)
      rw [hg] at h1
      rw [hg'] at h2
      dsimp only at h1 h2
      rw [hv] at h1
      dsimp only at h1
      split at h2
      · cases h2
      · rename_i v' hv'
        rw [hv', ← beq_eq _ _ h1, beq_eq _ _ h2]

theorem draw_step (hE : EnvGood E) (hf : RecFree E rec) (T : Text E rec ops W gs rs 0 ops.size st) (hD : Drawable E ops) (hW : W = windows E ops) (hst : ∀ r ∈ rs, stable E rec gs r = true) {L : Nat → Prop} (hL : Closed ops L) {m : List AV}
    (hm : Mix ops L (st 0).t (st ops.size).t m) {g : AH} (hg : gs[cnt E ops L]? = some g) {i : Nat} {o : Oper} (hi : ops[i]? = some o) (hn : ¬ L i) (hr : ∀ e ∈ o.after, Region.binds .any e = true → L e.on) :
    ∃ m' g', step1 E rec ops i ⟨m, g⟩ = some ⟨m', g'⟩ ∧ Mix ops (fun k => L k ∨ k = i) (st 0).t (st ops.size).t m' ∧ gs[cnt E ops (fun k => L k ∨ k = i)]? = some g' := by
  have his : i < ops.size := (Array.getElem?_eq_some_iff.1 hi).1
  have hr' : ∀ o', ops[i]? = some o' → ∀ e ∈ o'.after, Region.binds .any e = true → L e.on := fun o' ho' => by rw [hi] at ho'; cases ho'; exact hr
  have hsee : ∀ d ∈ o.looksAt ops, m[d]? = (st i).t[d]? := fun d hd => mix_sees T hD hL hm hi hn hr hd
  have hex : ∀ g, execA E m g o = execA E (st i).t g o := fun g => execA_looks hsee
  have hst1 := T.step i (Nat.zero_le _) his
  have hlight : isHeavy E ops i = false → cnt E ops (fun k => L k ∨ k = i) = cnt E ops L := fun hh => cnt_congr fun j hj => by
    have : j ≠ i := fun e => by rw [e] at hj; rw [(mem_heavies.1 hj).2] at hh; cases hh
    simp [this]
  have hheavy : isHeavy E ops i = true → (∀ j ∈ heavies E ops, (L j ↔ j < i)) := fun hh j hj => by
    have him : i ∈ heavies E ops := mem_heavies.2 ⟨his, hh⟩
    constructor
    · intro h
      rcases Nat.lt_trichotomy j i with h1 | h1 | h1
      · exact h1
      · subst h1; exact absurd h hn
      · exact absurd (before_closed hD hL j i (fun o' ho' => hL j o' h ho') (hD.heavy i j him hj h1)) hn
    · intro h
      exact before_closed hD hL i j hr' (hD.heavy j i hj him h)
  have hgh : isHeavy E ops i = true → g = (st i).h := fun hh => by
    rw [cnt_congr (hheavy hh), hv_cnt i (by omega), T.heap i (Nat.zero_le _) (by omega)] at hg
    cases hg; rfl
  have hgh' : isHeavy E ops i = true → gs[cnt E ops (fun k => L k ∨ k = i)]? = some (st (i + 1)).h := fun hh => by
    rw [← T.heap (i + 1) (Nat.zero_le _) (by omega), ← hv_cnt (i + 1) (by omega)]
    congr 1
    refine cnt_congr fun j hj => ?_
    rw [hheavy hh j hj]; omega
  have hkind : isHeavy E ops i = decide (kindA E o = 2) := by
    simp only [isHeavy, hi, Option.any_some]
    by_cases hk : kindA E o = 2 <;> simp [hk]
  have hs1 : step1 E rec ops i ⟨m, g⟩ = match wantedA ops (st i).t o with
      | some true => stepOp E rec o ⟨m, g⟩
      | some false => some ⟨putA m o.dst undefA, g⟩
      | none => none := by
    unfold step1
    simp only [hi, wantedA_looks hsee]
    cases wantedA ops (st i).t o with
    | none => rfl
    | some b => cases b <;> rfl
  unfold step1 at hst1
  simp only [hi] at hst1
  rw [hs1]
  split at hst1
  · rename_i hw
    rw [hw]
    dsimp only
    rcases kindA_lt E o with hk | hk | hk
    · obtain ⟨v, h1, h2⟩ := stepOp_swap0 hE hf hk hst1
      obtain ⟨v', h3, h4⟩ := stepOp_mix (hex g) (h2 g)
      have hnh : isHeavy E ops i = false := by rw [hkind, hk]; rfl
      dsimp only at h3 h4
      refine ⟨_, _, h4, mix_put T hD hm hi (by rw [h1, h3]), by rw [hlight hnh]; exact hg⟩
    · -- it reads
      have hnh : isHeavy E ops i = false := by rw [hkind, hk]; rfl
      obtain ⟨v, hx, hst1⟩ := readV_of hE hf hk hst1
      have hany : (ops[i]?).any (fun o => kindA E o == 1) = true := by simp [hi, hk]
      have hlo : ((heavies E ops).filter fun e => isBefore (Region.before ops) e i).length = cnt E ops (fun e => isBefore (Region.before ops) e i = true) := by unfold cnt; congr 1; apply List.filter_congr; intro j _; simp
      have hhi : ((heavies E ops).filter fun e => !isBefore (Region.before ops) i e).length = cnt E ops (fun e => ¬ isBefore (Region.before ops) i e = true) := by unfold cnt; congr 1; apply List.filter_congr; intro j _; simp
      have b1 : cnt E ops (fun e => isBefore (Region.before ops) e i = true) ≤ cnt E ops L := cnt_le fun j _ h => before_closed hD hL i j hr' h
      have b2 : cnt E ops L ≤ cnt E ops (fun e => ¬ isBefore (Region.before ops) i e = true) := cnt_le fun j _ h hb => hn (before_closed hD hL j i (fun o' ho' => hL j o' h ho') hb)
      have b3 : cnt E ops (fun e => isBefore (Region.before ops) e i = true) ≤ hv E ops i := by rw [← hv_cnt i (by omega)]; exact cnt_le fun j _ h => before_lt hD i j h
      have b4 : hv E ops i ≤ cnt E ops (fun e => ¬ isBefore (Region.before ops) i e = true) := by
        rw [← hv_cnt i (by omega)]
        exact cnt_le fun j _ h hb => by have := before_lt hD j i hb; omega
      have hval : readV E rec (st i).t g o = some v := by
        rcases windows_spec his hany with ⟨h1, _⟩ | h1
        · rw [hlo, hhi] at h1
          have : cnt E ops L = hv E ops i := by omega
          rw [this, T.heap i (Nat.zero_le _) (by omega)] at hg
          cases hg
          exact hx
        · rw [hlo, hhi, ← hW] at h1
          have hs := hst _ (T.reads i o _ _ (Nat.zero_le _) his hi h1 hw)
          exact stable_at hs ⟨b3, b4⟩ ⟨b1, b2⟩ (T.heap i (Nat.zero_le _) (by omega)) hg hx
      have hval' : readV E rec m g o = some v := by
        unfold readV at hval ⊢
        rw [hex g]; exact hval
      exact ⟨putA m o.dst v, g, step_of_readV hE hf hk hval', mix_put T hD hm hi (by rw [hst1]), by rw [hlight hnh]; exact hg⟩
    · have hh : isHeavy E ops i = true := by rw [hkind, hk]; rfl
      have hge := hgh hh
      subst hge
      obtain ⟨v', h3, h4⟩ := stepOp_mix (hex _) hst1
      exact ⟨_, _, h4, mix_put T hD hm hi h3, hgh' hh⟩
  · rename_i hw
    rw [hw]
    dsimp only
    simp only [Option.some.injEq] at hst1
    refine ⟨_, _, rfl, mix_put T hD hm hi (by rw [← hst1]), ?_⟩
    cases hh : isHeavy E ops i with
    | false => rw [hlight hh]; exact hg
    | true => rw [hgh' hh, ← hst1, hgh hh]
  · cases hst1

end

theorem filt_lt {p q : Nat → Bool} : ∀ l : List Nat, (∀ x ∈ l, q x = true → p x = true) → (∃ x ∈ l, p x = true ∧ q x = false) → (l.filter q).length < (l.filter p).length
  | [], _, h => by obtain ⟨x, h, _⟩ := h; cases h
  | y :: l, h, h' => by
    have hle : (l.filter q).length ≤ (l.filter p).length := by
      rw [← List.countP_eq_length_filter, ← List.countP_eq_length_filter]
      exact List.countP_mono_left fun x hx => h x (by simp [hx])
    rw [List.filter_cons, List.filter_cons]
    obtain ⟨x, h1, h2, h3⟩ := h'
    rcases List.mem_cons.1 h1 with rfl | h1
    · rw [if_pos h2, if_neg (by simp [h3])]; simp; omega
    · have := filt_lt l (fun x hx => h x (by simp [hx])) ⟨x, h1, h2, h3⟩
      cases hq : q y with
      | true => rw [if_pos rfl, if_pos (h y (by simp) hq)]; simp; omega
      | false => rw [if_neg (by simp)]; split <;> (try simp) <;> omega

def listedIn (l : Array Bool) (i : Nat) : Prop := l.getD i false = true

theorem listed_set {l : Array Bool} {i : Nat} (hi : i < l.size) (k : Nat) : listedIn (l.setIfInBounds i true) k ↔ (listedIn l k ∨ k = i) := by
  unfold listedIn
  by_cases h : k = i
  · subst h; simp [hi]
  · rw [getD_set_ne false (fun e => h e.symm)]; simp [h]

theorem draws_ok [Dfs] {E : Env} (hE : EnvGood E) {n : Nat} (hrec : CallsOk E (run E n)) : DrawsOk E (run E n) := by
  intro f id ops s s' hdg hsd I Z w a hglob ht hd hr Q hq
  unfold stepDraw at hsd
  split at hsd
  · cases hsd
  rename_i W hwin
  obtain ⟨hok, hW⟩ := hdg W hwin
  have hD := drawOk_spec hok
  split at hsd
  rotate_left
  · cases hsd
  rename_i s1 gs rs hrun
  split at hsd
  rotate_left
  · cases hsd
  rename_i hall
  cases hsd
  have hf := run_free E n
  rw [List.range_eq_range'] at hrun
  obtain ⟨⟨st, e0, e1, T⟩, _, _⟩ := runD_text hE hf ops.size 0 s [s.h] [] hrun rfl rfl
  rw [Nat.zero_add] at e1 T
  have hst : ∀ r ∈ rs, stable E (run E n) gs r = true := fun r hr => List.all_eq_true.1 hall r hr
  have hs : ∀ (k : Nat) (ok : Oper), ops[k]? = some ok → k < ops.size := fun k ok h => (Array.getElem?_eq_some_iff.1 h).1
  refine wp_region_any hE.mixed ?_
  have main : ∀ (fuel : Nat) (l : Array Bool) (a' : Act) (w' : World), l.size = ops.size → ((List.range ops.size).filter fun i => !l.getD i true).length ≤ fuel → Closed ops (listedIn l) →
      (∃ J Y m g, Goes I Z s.h w J Y g w' ∧ LRel J Y m a'.tmps.toList ∧ a'.defers = Dfs.l ∧ Mix ops (listedIn l) (st 0).t (st ops.size).t m ∧ gs[cnt E ops (listedIn l)]? = some g) → wpAny E.P .any ops Q fuel l a' w' := by
    have full : ∀ (l : Array Bool) (a' : Act) (w' : World), l.size = ops.size → (∀ j, j < ops.size → listedIn l j) →
        (∃ J Y m g, Goes I Z s.h w J Y g w' ∧ LRel J Y m a'.tmps.toList ∧ a'.defers = Dfs.l ∧ Mix ops (listedIn l) (st 0).t (st ops.size).t m ∧ gs[cnt E ops (listedIn l)]? = some g) → Q .normal a' w' := by
      rintro l a' w' hl hfull ⟨J, Y, m, g, hgo, hm, hd', hmix, hg⟩
      have hmt : m = s'.t := by
        apply List.ext_getElem?
        intro d
        rw [← e1]
        by_cases hw : ∃ (j : Nat) (oj : Oper), ops[j]? = some oj ∧ oj.dst = some d
        · obtain ⟨j, oj, hj, hjd⟩ := hw
          exact (hmix.2 d).1 ⟨j, oj, hfull j (hs j oj hj), hj, hjd⟩
        · rw [(hmix.2 d).2 (fun k ok _ ho hkd => hw ⟨k, ok, ho, hkd⟩)]
          have := T.still (d := d) (i := 0) ops.size (by omega) (fun k o _ _ h3 hkd => hw ⟨k, o, h3, hkd⟩)
          simpa using this.symm
      have hgh : g = s'.h := by
        rw [cnt_congr (M := fun j => j < ops.size) (fun j hj => ⟨fun _ => (mem_heavies.1 hj).1, fun h => hfull j h⟩), hv_cnt _ (Nat.le_refl _), T.heap _ (Nat.zero_le _) (Nat.le_refl _), e1] at hg
        cases hg; rfl
      subst hmt
      subst hgh
      exact hq J Y w' a' hgo hm hd'
    have ready_nil : ∀ (l : Array Bool), l.size = ops.size → Region.ready .any ops l = [] → ∀ j, j < ops.size → listedIn l j := by
      intro l hl hrn j
      induction j using Nat.strongRecOn with
      | _ j ih =>
        intro hj
        by_cases hlj : listedIn l j
        · exact hlj
        exfalso
        obtain ⟨o, ho⟩ : ∃ o, ops[j]? = some o := ⟨ops[j], by simp [hj]⟩
        have : j ∈ Region.ready .any ops l := mem_ready.2 ⟨by
          unfold listedIn at hlj
          have hjl : j < l.size := by omega
          simp [Array.getD, hjl] at hlj ⊢; exact hlj, o, ho, fun e he hb => by
            have := hD.down j o ho e he hb
            exact ih e.on this (by omega)⟩
        rw [hrn] at this; cases this
    intro fuel
    induction fuel with
    | zero =>
      intro l a' w' hl hfu hcl hinv
      have hfull : ∀ j, j < ops.size → listedIn l j := by
        intro j hj
        have hnil : (List.range ops.size).filter (fun i => !l.getD i true) = [] := List.length_eq_zero_iff.1 (by omega)
        have := List.filter_eq_nil_iff.1 hnil j (List.mem_range.2 hj)
        have hjl : j < l.size := by omega
        unfold listedIn
        simpa [Array.getD, hjl] using this
      refine ⟨?_, full l a' w' hl hfull hinv⟩
      cases hrd : Region.ready .any ops l with
      | nil => rfl
      | cons j r =>
        exfalso
        obtain ⟨h1, o, h2, _⟩ := mem_ready.1 (show j ∈ Region.ready .any ops l by rw [hrd]; simp)
        have hjl : j < l.size := by have := hs j o h2; omega
        have := hfull j (hs j o h2)
        unfold listedIn at this
        simp [Array.getD, hjl] at this h1
        rw [this] at h1; cases h1
    | succ fuel ih =>
      intro l a' w' hl hfu hcl hinv
      refine ⟨fun hrn => full l a' w' hl (ready_nil l hl hrn) hinv, fun i hi => ?_⟩
      obtain ⟨h1, o, h2, h3⟩ := mem_ready.1 hi
      have his := hs i o h2
      have hil : i < l.size := by omega
      have hni : ¬ listedIn l i := by unfold listedIn; simp [Array.getD, hil] at h1 ⊢; exact h1
      obtain ⟨J, Y, m, g, hgo, hm, hd', hmix, hg⟩ := hinv
      obtain ⟨m', g', k1, k2, k3⟩ := draw_step hE hf T hD hW hst hcl hmix hg h2 hni h3
      obtain ⟨o', ho', v, k4, k5⟩ := step1_ok hE.toEnvOk hrec k1
      rw [h2] at ho'; cases ho'
      refine k5 J Y w' a' (hglob.mono hgo.le hgo.lez) hm hgo.rel _ Q (fun J' Y' w'' cv hgo' hv' => ?_)
      have hiff : ∀ k, listedIn (l.setIfInBounds i true) k ↔ (listedIn l k ∨ k = i) := fun k => listed_set hil k
      have hfun : listedIn (l.setIfInBounds i true) = fun k => listedIn l k ∨ k = i := funext fun k => propext (hiff k)
      refine ih _ _ _ (by simp [hl]) ?_ ?_ ⟨J', Y', m', g', hgo.trans hr hgo', ?_, by rw [put_defers]; exact hd', by rw [hfun]; exact k2, by rw [hfun]; exact k3⟩
      · have : ((List.range ops.size).filter fun j => !(l.setIfInBounds i true).getD j true).length < ((List.range ops.size).filter fun i => !l.getD i true).length := by
          refine filt_lt _ (fun x hx hq => ?_) ⟨i, List.mem_range.2 his, by simpa using h1, by simp [Array.getD, hil]⟩
          by_cases hxi : x = i
          · subst hxi; simp [Array.getD, hil] at hq
          · rw [getD_set_ne true (fun e => hxi e.symm)] at hq; exact hq
        omega
      · intro k ok hk hko e he hb
        rw [hiff] at hk ⊢
        rcases hk with hk | rfl
        · exact .inl (hcl k ok hk hko e he hb)
        · rw [h2] at hko; cases hko
          exact .inl (h3 e he hb)
      · dsimp only at k4
        rw [k4]
        exact put_rel (hm.mono hgo'.le hgo'.lez) _ hv'
  refine main ops.size _ a _ (by simp) (by refine Nat.le_trans (List.length_filter_le _ _) (by simp)) ?_ ⟨I, Z, s.t, s.h, Goes.drew hr _, ht, hd, ?_, ?_⟩
  · intro i o hi
    exfalso
    unfold listedIn at hi
    rcases Nat.lt_or_ge i ops.size with h | h
    · simp [Array.getD, h] at hi
    · simp [Array.getD, Nat.not_lt.2 h] at hi
  · have hno : ∀ k, ¬ listedIn (Array.replicate ops.size false) k := by
      intro k hk
      unfold listedIn at hk
      rcases Nat.lt_or_ge k ops.size with h | h
      · simp [Array.getD, h] at hk
      · simp [Array.getD, Nat.not_lt.2 h] at hk
    refine ⟨by rw [e0], fun d => ⟨fun ⟨k, ok, h, _⟩ => absurd h (hno k), fun _ => by rw [e0]⟩⟩
  · have hno : ∀ k, ¬ listedIn (Array.replicate ops.size false) k := by
      intro k hk
      unfold listedIn at hk
      rcases Nat.lt_or_ge k ops.size with h | h
      · simp [Array.getD, h] at hk
      · simp [Array.getD, Nat.not_lt.2 h] at hk
    rw [cnt_congr (M := fun j => j < 0) (fun j _ => ⟨fun h => absurd h (hno j), fun h => by omega⟩), hv_cnt 0 (Nat.zero_le _), T.heap 0 (Nat.le_refl _) (Nat.zero_le _), e0]

/-- The machine is sound. -/
theorem run_ok {E : Env} (hE : EnvGood E) : ∀ n, CallsOk E (run E n) ∧ ∀ [Dfs], ∀ f c s e s', run E n (.loop f c s) = some (.code e s') → (∀ x ∈ drawsIn c, DrawGood E f x) → LoopOk E n c s e s'
  | 0 => ⟨fun f args h v h' e => by (cases e), fun {_} f c s e s' h => by (cases h)⟩
  | n + 1 => by
    obtain ⟨h1, h2⟩ := run_ok hE n
    have hd : ∀ [Dfs], DrawsOk E (run E n) := draws_ok hE h1
    refine ⟨fun f args h v h' e => ?_, fun {_} f c s e s' h hdg => ?_⟩
    · simp only [run, stepTask] at e
      obtain ⟨⟨v0, h0⟩, h3, h4⟩ := Option.map_eq_some_iff.1 e
      cases h4
      exact stepCall_ok hE h1 @h2 @hd h3
    · simp only [run, stepTask] at h
      intro I Z w a hg ht hde hr Q hq
      rw [rounds_succ]
      cases h3 : stepCode E (run E n) f c s with
      | none => simp [h3] at h
      | some y =>
        obtain ⟨ex, s1⟩ := y
        rw [h3] at h
        refine stepCode_ok hE.toEnvOk h1 h2 hd f c s ex s1 hdg h3 I Z w a hg ht hde hr _ (fun J Y w' a' hgo ht' hd' => ?_)
        cases ex with
        | normal =>
          exact h2 f c s1 e s' h hdg J Y w' a' (hg.mono hgo.le hgo.lez) ht' hd' hgo.rel Q (fun J' Y' w'' a'' hgo' ht'' hd'' => hq J' Y' w'' a'' (hgo.trans hr hgo') ht'' hd'')
        | exit j => cases h; exact hq J Y w' a' hgo ht' hd'
        | ret => cases h; exact hq J Y w' a' hgo ht' hd'

/-- What a call of the machine's comes to, the model's comes to. -/
theorem call_ok {E : Env} (hE : EnvGood E) {n : Nat} {f : FuncId} {args : List AV} {h h' : AH} {v : AV} (e : run E n (.call f args h) = some (.ret v h')) : CallOk E f args h v h' := (run_ok hE n).1 f args h v h' e

end
end Go.Av
