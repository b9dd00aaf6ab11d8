/-
  A function that forks at an answer that is not known, both ways coming to the same; slices.overlaps, where it may answer either way; a hook more.
-/
import Derived.Test.YtmiodddnokpdfaaGreatDoorAvO
namespace Go.Av
noncomputable section
set_option linter.unusedSectionVars false
variable [Toks]
set_option linter.unusedSimpArgs false
set_option linter.unusedVariables false

def chain : List Code → Code → Code
  | [], z => z
  | p :: ps, z => .seq p (chain ps z)

def stepL (E : Env) (rec : Rec) (f : FuncId) : List Code → S → Option S
  | [], s => some s
  | p :: ps, s => match stepCode E rec f p s with
    | some (.normal, s') => stepL E rec f ps s'
    | _ => none

theorem chain_draws (ps : List Code) (z : Code) : (∀ p ∈ ps, ∀ x ∈ drawsIn p, x ∈ drawsIn (chain ps z)) ∧ ∀ x ∈ drawsIn z, x ∈ drawsIn (chain ps z) := by
  induction ps with
  | nil => exact ⟨fun p hp => (by cases hp), fun x hx => hx⟩
  | cons p ps ih =>
    refine ⟨fun q hq x hx => ?_, fun x hx => by simp only [chain, drawsIn, List.mem_append]; exact .inr (ih.2 x hx)⟩
    simp only [chain, drawsIn, List.mem_append]
    rcases List.mem_cons.1 hq with rfl | hq
    · exact .inl hx
    · exact .inr (ih.1 q hq x hx)

theorem chain_ok {E : Env} (hE : EnvGood E) {n : Nat} {f : FuncId} {z : Code} : ∀ (ps : List Code) {s s1 : S}, stepL E (run E n) f ps s = some s1 → (∀ p ∈ ps, ∀ x ∈ drawsIn p, DrawGood E f x) →
    ∀ I Z (w : World) (a : Act), Glob I Z E → LRel I Z s.t a.tmps.toList → a.defers = [] → Rel I Z s.h w → ∀ Q,
      (∀ J Y w' a', Goes I Z s.h w J Y s1.h w' → LRel J Y s1.t a'.tmps.toList → a'.defers = [] → z.wp E.P Q a' w') → (chain ps z).wp E.P Q a w
  | [], s, s1, e, _, I, Z, w, a, hg, ht, hd, hr, Q, hq => by
    cases e
    exact hq I Z w a (.refl hr) ht hd
  | p :: ps, s, s1, e, hdg, I, Z, w, a, hg, ht, hd, hr, Q, hq => by
    simp only [stepL] at e
    split at e
    · rename_i s' h1
      refine wp_seq ?_
      refine @stepCode_ok _ ⟨[]⟩ _ hE.toEnvOk _ (run_ok hE n).1 (@(run_ok hE n).2 ⟨[]⟩) (@draws_ok _ ⟨[]⟩ _ hE _ (run_ok hE n).1) f p s .normal s' (hdg p (List.mem_cons_self ..)) h1 I Z w a hg ht hd hr _ (fun J Y w' a' hgo ht' hd' => ?_)
      exact chain_ok hE ps e (fun q hq => hdg q (List.mem_cons_of_mem _ hq)) J Y w' a' (hg.mono hgo.le hgo.lez) ht' hd' hgo.rel Q (fun J' Y' w'' a'' hgo' ht'' hd'' => hq J' Y' w'' a'' (hgo.trans hr hgo') ht'' hd'')
    · cases e

/-- Both ways of a fork come to the same. -/
theorem callok_fork {E : Env} (hE : EnvGood E) {n : Nat} {f : FuncId} {fn : Func} {ps : List Code} {A X B : Code} {c : Operand} {args : List AV} {h G : AH} {s1 s2 s3 s4 : S} {r : AV}
    (hf : E.fun_ f = some fn) (hb : fn.body = some (chain ps (.seq (.seq A (.cond c X .skip)) B)))
    (h1 : stepL E (run E n) f ps ⟨args ++ List.replicate (fn.ntmps - args.length) undefA, h⟩ = some s1) (h2 : stepCode E (run E n) f A s1 = some (.normal, s2)) (hc : evA E s2.t c = .unkb)
    (h3 : stepCode E (run E n) f X s2 = some (.ret, s3)) (h4 : stepCode E (run E n) f B s2 = some (.ret, s4)) (r3 : resultsA E.P fn s3 = some r) (r4 : resultsA E.P fn s4 = some r) (g3 : s3.h.Alike G) (g4 : s4.h.Alike G) : CallOk E f args h r G := by
  have hdg := hE.draws f fn _ hf hb
  have hcd := chain_draws ps (.seq (.seq A (.cond c X .skip)) B)
  intro I Z w vs hg hL hr
  refine calls_of_wp (hE.funs f fn hf) hb ?_
  have ht : LRel I Z (args ++ List.replicate (fn.ntmps - args.length) undefA) (vs.toArray ++ Array.replicate (fn.ntmps - vs.toArray.size) undef).toList := by
    have := hL.append (rep_rel (I := I) (Z := Z) (fn.ntmps - args.length))
    rw [hL.1] at this
    simpa using (hL.1 ▸ this)
  have step := fun (p : Code) s e s' hd => @stepCode_ok _ ⟨[]⟩ _ hE.toEnvOk n (run_ok hE n).1 (@(run_ok hE n).2 ⟨[]⟩) (@draws_ok _ ⟨[]⟩ _ hE _ (run_ok hE n).1) f p s e s' hd
  refine chain_ok hE ps h1 (fun p hp x hx => hdg x (hcd.1 p hp x hx)) I Z w _ hg ht rfl hr _ (fun J Y w1 a1 hgo ht1 hd1 => ?_)
  refine wp_seq (wp_seq ?_)
  refine step A s1 .normal s2 (fun x hx => hdg x (hcd.2 x (by simp [drawsIn, hx]))) h2 J Y w1 a1 (hg.mono hgo.le hgo.lez) ht1 hd1 hgo.rel _ (fun K X' w2 a2 hgo2 ht2 hd2 => ?_)
  have g2 := hgo.trans hr hgo2
  have hcv := evA_rel (hg.mono g2.le g2.lez) ht2 c
  rw [hc] at hcv
  cases hev : a2.eval c <;> rw [hev] at hcv <;> cases hcv
  rename_i b
  have fin : ∀ s K' X'' w3 (a3 : Act), Goes K X' s2.h w2 K' X'' s.h w3 → LRel K' X'' s.t a3.tmps.toList → a3.defers = [] → resultsA E.P fn s = some r → s.h.Alike G →
      bodyPost E.P fn (fun e w' => ∃ J Y cv, e = .returned cv ∧ Goes I Z h w J Y G w' ∧ VRel J Y r cv) .ret a3 w3 := fun s K' X'' w3 a3 hgo3 ht3 hd3 hres hal => by
    obtain ⟨cv, h5, h6⟩ := results_ok hres ht3 hgo3.rel
    exact ⟨hd3, cv, h5, K', X'', cv, rfl, (g2.trans hr hgo3).alike hal, h6⟩
  cases b with
  | true =>
    refine wp_cond_true hev (step X s2 .ret s3 (fun x hx => hdg x (hcd.2 x (by simp [drawsIn, hx]))) h3 K X' w2 a2 (hg.mono g2.le g2.lez) ht2 hd2 g2.rel _ (fun K' X'' w3 a3 hgo3 ht3 hd3 => ?_))
    exact fin s3 K' X'' w3 a3 hgo3 ht3 hd3 r3 g3
  | false =>
    refine wp_cond_false hev (wp_skip ?_)
    exact step B s2 .ret s4 (fun x hx => hdg x (hcd.2 x (by simp [drawsIn, hx]))) h4 K X' w2 a2 (hg.mono g2.le g2.lez) ht2 hd2 g2.rel _ (fun K' X'' w3 a3 hgo3 ht3 hd3 => fin s4 K' X'' w3 a3 hgo3 ht3 hd3 r4 g4)

/-- As put_ok, of calls. -/
theorem put_ok' {E : Env} {f : FuncId} {n n' k es : Nat} {args : List AV} {h : AH} {cs content : List AV} (hn : 0 < n) (hn' : 0 < n') (hk : h.get k = some (.cells es cs)) (hlen : content.length = n' * es)
    (hA : ∀ c, n ≤ c → cs.length ≤ c * es → c < n' → ∃ hA, CallOk E f (.own k 0 n (some c) :: args) (padH h k es c cs) (.own h.next 0 n' none) hA ∧ hA.Alike ((padH h k es c cs).new (.cells es content)))
    (hB : ∀ c, n ≤ c → cs.length ≤ c * es → n' ≤ c → ∃ hB rest, CallOk E f (.own k 0 n (some c) :: args) (padH h k es c cs) (.own k 0 n' (some c)) hB ∧ hB.Alike (h.set k (.cells es (content ++ rest)))) :
    CallOk E f (.own k 0 n none :: args) h (.own h.next 0 n' none) ((h.del k).new (.cells es content)) := by
  intro I Z w vs hg hL hr
  obtain ⟨v0, vs0, rfl, hv0, hL0⟩ := hL.inv_cons
  obtain ⟨B, c, hB1, hnc, hBN, rfl, hv1⟩ := hv0.capOf hn
  obtain ⟨B', hB2, hes, arr, el, fr, a1, a2, a3, a4, a5⟩ := hr.cells k es cs hk
  rw [hB1] at hB2; cases hB2
  rw [hes] at hBN
  have hcl : cs.length ≤ c * es := by omega
  have hp : Goes I Z h w I Z (padH h k es c cs) w := Goes.pad hr hk hB1 (by omega)
  have hL1 : LRel I Z (.own k 0 n (some c) :: args) (.slice (some ⟨B.blk, B.d + 0, none⟩) n c :: vs0) := .cons hv1 hL0
  by_cases hcn : c < n'
  · obtain ⟨h2, e, al⟩ := hA c hnc hcl hcn
    refine (e I Z w _ hg hL1 hp.rel).mono ?_
    rintro e' w' ⟨J, Y, cv, rfl, hgo, hv⟩
    have hd := Goes.del hgo.rel k
    have al2 : (h2.del k).Alike ((h.del k).new (.cells es content)) := by
      refine ⟨by rw [AH.next_del, al.next]; rfl, fun j => ?_⟩
      rw [AH.get_del, al.get, AH.get_new, AH.get_new, AH.get_del, AH.next_del]
      have hkn : k < h.next := hr.fresh k (.inl (by simp [AH.live, hk]))
      have e1 : (padH h k es c cs).next = h.next := rfl
      rw [e1]
      by_cases hj : j = k
      · subst hj; rw [if_pos rfl, if_neg (by omega), if_pos rfl]
      · rw [if_neg hj, if_neg hj]
        by_cases hj2 : j = h.next
        · rw [if_pos hj2, if_pos hj2]
        · rw [if_neg hj2, if_neg hj2]
          unfold padH
          rw [AH.get_set, if_neg hj]
    exact ⟨J, Y, cv, rfl, (hp.trans hr (hgo.trans hp.rel hd)).alike al2, hv⟩
  · obtain ⟨h2, rest, e, al⟩ := hB c hnc hcl (by omega)
    refine (e I Z w _ hg hL1 hp.rel).mono ?_
    rintro e' w' ⟨J, Y, cv, rfl, hgo, hv⟩
    have hJ : J k = some B := hgo.le k B hB1
    have hk2 : h2.get k = some (.cells es (content ++ rest)) := by rw [al.get, AH.get_set, if_pos rfl]
    have hren := Goes.rename (o := 0) (n := n' * es) hgo.rel hk2 hJ (by simp; omega)
    have hnx : h2.next = h.next := al.next
    have hct : ((content ++ rest).drop 0).take (n' * es) = content := by rw [List.drop_zero, ← hlen]; exact List.take_left' rfl
    rw [hct, hnx] at hren
    have al2 : ((h2.del k).new (.cells es content)).Alike ((h.del k).new (.cells es content)) := by
      refine ⟨by rw [AH.next_new, AH.next_new, AH.next_del, AH.next_del, hnx], fun j => ?_⟩
      rw [AH.get_new, AH.get_new, AH.next_del, AH.next_del, hnx, AH.get_del, AH.get_del, al.get, AH.get_set]
      by_cases hj2 : j = h.next
      · rw [if_pos hj2, if_pos hj2]
      · rw [if_neg hj2, if_neg hj2]
        by_cases hj : j = k
        · rw [if_pos hj, if_pos hj]
        · rw [if_neg hj, if_neg hj, if_neg hj]
    refine ⟨_, Y, cv, rfl, (hp.trans hr (hgo.trans hp.rel hren)).alike al2, ?_⟩
    cases hv with
    | @own _ _ _ capC _ B2 h3 h4 h5 =>
      rw [hJ] at h3; cases h3
      have h5' : capC = c := h5
      subst h5'
      have : VRel (J.put h.next { B with d := B.d + 0 }) Y (.own h.next 0 n' none) (.slice (some ⟨B.blk, B.d + 0 + 0, none⟩) n' capC) :=
        VRel.own Inj.put_same h4 (by simp only [capOk]; rw [hes]; omega)
      exact this
    | own0 => omega

/-- Some answer. -/
def Ans (P : Program) (w : World) (S : Sem Value) : Prop := ∃ x d, S.run P w = .ok (.bool x) { w with drawn := d }
theorem Ans.bind {P : Program} {w : World} {α : Type} {A : Sem α} {f : α → Sem Value} {v : α} (h : A.run P w = .ok v w) (g : Ans P w (f v)) : Ans P w (A >>= f) := by
  obtain ⟨x, d, e⟩ := g
  exact ⟨x, d, by rw [Sem.run_bind, h]; exact e⟩
theorem Ans.one {P : Program} {w : World} (x : Bool) : Ans P w (pure (.bool x)) := ⟨x, w.drawn, rfl⟩
theorem Ans.ite {P : Program} {w : World} {c : Prop} [Decidable c] {A B : Sem Value} (h : c → Ans P w A) (g : ¬c → Ans P w B) : Ans P w (if c then A else B) := by
  by_cases hc : c
  · rw [if_pos hc]; exact h hc
  · rw [if_neg hc]; exact g hc

theorem some_overlaps {P : Program} (w : World) (tS tR e : TypeId) (ht : P.underlying tS = some (.slice e)) (size : Nat) (hz : (Go.sizeOf e).run P w = .ok size w)
    (a b : Addr) (la ca lb cb : Nat) (ha : (w.shape? a.block).isSome = true) (hb : (w.shape? b.block).isSome = true) (hf : w.frozen? b = false) :
    Ans P w (Extern.SlicesOverlaps.overlaps #[tS, tS] #[tR] #[.slice (some a) la ca, .slice (some b) lb cb]) := by
  refine Ans.bind (v := .slice e) (by exact run_underlying ht w) ?_
  refine Ans.bind (v := size) (by exact hz) ?_
  refine Ans.ite (fun _ => Ans.one _) (fun h0 => ?_)
  refine Ans.bind (run_frozen P w _) ?_
  refine Ans.bind (run_frozen P w _) ?_
  refine Ans.ite (fun h => ?_) (fun _ => ?_)
  · rw [hf] at h; simp at h
  refine Ans.ite (fun h => ?_) (fun _ => Ans.one _)
  refine Ans.bind (v := ()) (by simp [noView, viewAt, ha]) ?_
  refine Ans.bind (v := ()) (by simp [noView, viewAt, hb]) ?_
  obtain ⟨m, hm⟩ : ∃ m, (mayBeOne a b).run P w = .ok m w := by
    obtain ⟨sa, ea⟩ : ∃ m, (stringish a).run P w = .ok m w := by
      unfold stringish
      cases h : w.frozen? a
      · cases h' : w.shape? a.block with
        | none => simp [h, h']
        | some p => simp [h, h']
      · simp [h]
    obtain ⟨sb, eb⟩ : ∃ m, (stringish b).run P w = .ok m w := by
      unfold stringish
      cases h : w.frozen? b
      · cases h' : w.shape? b.block with
        | none => simp [h, h']
        | some p => simp [h, h']
      · simp [h]
    unfold mayBeOne
    simp [ea, eb]
  refine Ans.bind hm ?_
  refine Ans.ite (fun h => ?_) (fun _ => Ans.one _)
  refine ⟨(((Question.extern "sameAddr.stringBytes" 2).cut (w.tape w.drawn (.extern "sameAddr.stringBytes" 2))) == 1), w.drawn + 1, ?_⟩
  rw [Sem.run_bind, run_choose]
  rfl

def ovU (args : List AV) (h : AH) : Option AV :=
  match args with
  | [.imm cs n, .own k o m _] => match h.get k with
    | some (.cells es ds) => if cs ≠ [] ∧ m ≠ 0 ∧ o < ds.length then some .unkb else none
    | _ => none
  | _ => none

theorem ovU_ok {P : Program} {f : FuncId} {es0 : Nat} {tS tR e : TypeId} (ht : P.underlying tS = some (.slice e)) (hz : ∀ w : World, (Go.sizeOf e).run P w = .ok es0 w) (hx : ExtIs P f (Extern.SlicesOverlaps.overlaps #[tS, tS] #[tR]))
    (args : List AV) (h : AH) (v : AV) (he : ovU args h = some v) (I : Inj) (Z : Zed) (w : World) (vs : List Value) (hL : LRel I Z args vs) (hr : Rel I Z h w) :
    ∃ cv d, (callFunc f vs.toArray).run P w = .ok (.value cv) { w with drawn := d } ∧ VRel I Z v cv := by
  unfold ovU at he
  split at he
  · rename_i cs n k o m cap
    split at he
    · rename_i es ds hk
      split at he
      · rename_i hc
        obtain ⟨hne, hm, ho⟩ := hc
        cases he
        obtain ⟨v1, l1, rfl, hv1, hL1⟩ := hL.inv_cons
        obtain ⟨v2, l2, rfl, hv2, hL2⟩ := hL1.inv_cons
        obtain rfl := hL2.inv_nil
        obtain ⟨B, hB, hes, arr, elem, fr, a1, a2, a3, a4, a5⟩ := hr.cells k es ds hk
        cases hv1 with
        | @imm _ vs' _ blk base ca hl hzz hvv hca =>
        cases hv2 with
        | own0 _ _ => exact absurd rfl hm
        | @own _ _ _ capC _ B' hB' hn hcap =>
        rw [hB] at hB'; cases hB'
        have hpos : 0 < cs.length := List.length_pos_iff.2 hne
        have hcell : w.cell? ⟨blk, base + 0, none⟩ ≠ none := by
          have := hr.zed _ _ _ (hzz 0 vs'[0] (List.getElem?_eq_getElem (by omega)))
          rw [this.1]; simp
        have hsa : (w.shape? blk).isSome = true := by
          unfold World.cell? at hcell
          split at hcell
          · rename_i c el fr' hh
            simp [World.shape?, hh]
          · exact absurd rfl hcell
        have hsb : (w.shape? B.blk).isSome = true := by simp [World.shape?, a1]
        have hfz : w.frozen? ⟨B.blk, B.d + o, none⟩ = false := by
          have := free_of a5.1 (x := B.d + o) (by omega)
          simp only [World.frozen?, a1]
          obtain ⟨f1, f2⟩ := fr
          simpa using this
        obtain ⟨x, d, key⟩ := some_overlaps (P := P) w tS tR e ht es0 (hz w) ⟨blk, base, none⟩ ⟨B.blk, B.d + o, none⟩ n ca m capC hsa hsb hfz
        obtain ⟨fn, q1, q2, q3, q4, q5⟩ := hx.is
        have h2' : ¬ fn.name = "runtime.NumGoroutine" := by simpa using q2
        have h3' : fn.body = none := by simpa using q3
        refine ⟨.bool x, d, ?_, .unkb x⟩
        simp [callFunc, q1, h2', h3', q4, q5, key]
      · cases he
    · cases he
  · cases he

/-- A hook more. -/
def hookE (E : Env) (f : FuncId) (H : List AV → AH → Option (AV × AH)) : Env := { E with hook := fun g => if Nat.beq g f = true then some H else E.hook g }

theorem hookE_good {E : Env} (hE : EnvGood E) {f : FuncId} {H : List AV → AH → Option (AV × AH)} (hH : ∀ args h v h', H args h = some (v, h') → CallOk E f args h v h') (h2 : E.mode f ≠ 2) (h4 : E.mode f ≠ 4) (hp : E.phook f = none) : EnvGood (hookE E f H) where
  funs := hE.funs
  exts := hE.exts
  xhs := hE.xhs
  tbs := hE.tbs
  tus := hE.tus
  jns := hE.jns
  tcs := hE.tcs
  pures := hE.pures
  hookfree := fun g h => by
    show (if Nat.beq g f = true then some H else E.hook g) = none
    rw [if_neg ?_]
    · exact hE.hookfree g h
    · intro hf
      have e : g = f := Nat.eq_of_beq_eq_true hf
      subst e
      rcases h with h | h
      · exact h2 h
      · have h' : (E.phook g).isSome = true := h
        rw [hp] at h'; cases h'
  hookfree4 := fun g h => by
    show (if Nat.beq g f = true then some H else E.hook g) = none
    rw [if_neg ?_]
    · exact hE.hookfree4 g h
    · intro hf
      have e : g = f := Nat.eq_of_beq_eq_true hf
      subst e
      exact h4 h
  mixed := hE.mixed
  hooks := fun g k hg args h v h' e => by
    have hg' : (if Nat.beq g f = true then some H else E.hook g) = some k := hg
    split at hg'
    · rename_i hf
      have e2 : g = f := Nat.eq_of_beq_eq_true hf
      subst e2
      cases hg'
      exact hH args h v h' e
    · exact hE.hooks g k hg' args h v h' e
  phooks := fun g k hg args as h v ha hp' e hv => hE.phooks g k hg args as h v ha hp' e hv
  draws := hE.draws
def notU (op : UnOp) (x : AV) : Option AV := match op, x with
  | .not, .unkb => some .unkb
  | _, _ => none

/-- Bare surroundings with slices.overlaps, either way. -/
def envK (P : Program) (ov : Nat) (win : List (FuncId × List (Nat × List (Nat × Nat × Nat)))) : Env where
  P := P
  glob := fun _ => none
  fun_ := fun f => P.funcs[f]?
  mode := fun f => if f = ov then 5 else 0
  hook := fun _ => none
  phook := fun _ => none
  ext := fun _ => none
  ownLit := fun _ _ => false
  jn := fun _ => none
  xh := fun f => if f = ov then some ovU else none
  tb := fun _ _ _ _ => none
  tu := notU
  tc := fun _ _ _ => none
  win := fun f id => (lookupL f win).bind (lookupL id)

theorem envK_good {P : Program} {ov es0 : Nat} {tS tR e : TypeId} {win : List (FuncId × List (Nat × List (Nat × Nat × Nat)))} (ht : P.underlying tS = some (.slice e)) (hz : ∀ w : World, (Go.sizeOf e).run P w = .ok es0 w) (hx : ExtIs P ov (Extern.SlicesOverlaps.overlaps #[tS, tS] #[tR]))
    (hmix : P.follows .mixedOrders = true) (hd : ((win.map (·.1)).all fun f => drawCheck (envK P ov win) f) = true) : EnvGood (envK P ov win) where
  funs := fun f fn h => h
  xhs := fun f g hg args h v hv I Z w vs hL hr => by
    simp only [envK] at hg
    split at hg
    · rename_i hf
      cases hg; subst hf
      exact ovU_ok ht hz hx args h v hv I Z w vs hL hr
    · cases hg
  tbs := fun _ _ _ _ _ h => by cases h
  tus := fun op x r h I Z w v hv => by
    have h' : notU op x = some r := h
    unfold notU at h'
    split at h'
    · cases h'
      cases hv with
      | unkb b => exact ⟨.bool !b, rfl, .unkb _⟩
    · cases h'
  jns := fun _ _ h => by cases h
  tcs := fun _ _ _ _ h => by cases h
  exts := fun f g hg => by cases hg
  pures := fun g cs h => by cases h
  hookfree := fun _ _ => rfl
  hookfree4 := fun _ _ => rfl
  mixed := hmix
  hooks := fun f g h => by cases h
  phooks := fun f g h => by cases h
  draws := fun f fn c hfn hc x hx W hW => by
    have hW' : (lookupL f win).bind (lookupL x.1) = some W := hW
    obtain ⟨l, h1, _⟩ := Option.bind_eq_some_iff.1 hW'
    have := List.all_eq_true.1 hd f (lookupL_mem h1)
    unfold drawCheck at this
    simp only [hfn, hc] at this
    have := List.all_eq_true.1 this x hx
    rw [hW] at this
    simpa using this
end
end Go.Av
