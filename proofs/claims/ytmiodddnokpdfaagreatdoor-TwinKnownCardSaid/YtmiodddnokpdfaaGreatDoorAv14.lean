/-
  Calls, in all their ways.
-/
import Derived.Test.YtmiodddnokpdfaaGreatDoorAv13
namespace Go.Av
noncomputable section
set_option linter.unusedSectionVars false
variable [Toks]
set_option linter.unusedSimpArgs false
set_option linter.unusedVariables false

structure EnvGood (E : Env) : Prop extends EnvOk E where
  pures : ∀ g cs, E.glob g = some cs → pureL cs = true
  hookfree : ∀ f, (E.mode f = 2 ∨ (E.phook f).isSome = true) → E.hook f = none
  hookfree4 : ∀ f, E.mode f = 4 → E.hook f = none
  mixed : E.P.follows .mixedOrders = true
  hooks : ∀ f g, E.hook f = some g → ∀ args h v h', g args h = some (v, h') → CallOk E f args h v h'
  phooks : ∀ f g, E.phook f = some g → ∀ args as h v, args.mapM (deepR emptyH deep) = some as → pureL as = true → g as = some v → v.pure = true → CallOk E f args h v h
  draws : ∀ f fn c, E.fun_ f = some fn → fn.body = some c → ∀ x ∈ drawsIn c, DrawGood E f x

theorem rep_rel {I : Inj} {Z : Zed} : ∀ n, LRel I Z (List.replicate n undefA) (List.replicate n undef)
  | 0 => .nil
  | n + 1 => .cons und_rel (rep_rel n)

theorem body_ok {E : Env} (hE : EnvGood E) {n : Nat} (hrec : CallsOk E (run E n)) (hloop : ∀ [Dfs], ∀ f c s e s', run E n (.loop f c s) = some (.code e s') → (∀ x ∈ drawsIn c, DrawGood E f x) → LoopOk E n c s e s')
    (hdraw : ∀ [Dfs], DrawsOk E (run E n)) {f : FuncId} {fn : Func} (hf : E.fun_ f = some fn) {args : List AV} {h h' : AH} {v : AV} (e : bodyA E (run E n) f fn args h = some (v, h')) : CallOk E f args h v h' := by
  unfold bodyA at e
  split at e
  · cases e
  · rename_i c hc
    have hdg := hE.draws f fn c hf hc
    intro I Z w vs hg hL hr
    refine calls_of_wp (hE.funs f fn hf) hc ?_
    have ht : LRel I Z (args ++ List.replicate (fn.ntmps - args.length) undefA) (vs.toArray ++ Array.replicate (fn.ntmps - vs.toArray.size) undef).toList := by
      have := hL.append (rep_rel (I := I) (Z := Z) (fn.ntmps - args.length))
      rw [hL.1] at this
      simpa using (hL.1 ▸ this)
    have fin : ∀ ex s', stepCode E (run E n) f c ⟨args ++ List.replicate (fn.ntmps - args.length) undefA, h⟩ = some (ex, s') → (ex = .normal ∨ ex = .ret) → (resultsA E.P fn s').map (fun v => (v, s'.h)) = some (v, h') →
        c.wp E.P (bodyPost E.P fn fun e w' => ∃ J Y cv, e = .returned cv ∧ Goes I Z h w J Y h' w' ∧ VRel J Y v cv) { tmps := vs.toArray ++ Array.replicate (fn.ntmps - vs.toArray.size) undef, defers := [] } w := by
      intro ex s' h1 hex h2
      obtain ⟨v', h3, h4⟩ := Option.map_eq_some_iff.1 h2
      cases h4
      letI : Dfs := ⟨[]⟩
      refine stepCode_ok hE.toEnvOk hrec hloop hdraw f c _ ex s' hdg h1 I Z w _ hg ht rfl hr _ (fun J Y w' a' hgo ht' hd' => ?_)
      obtain ⟨cv, h5, h6⟩ := results_ok h3 ht' hgo.rel
      rcases hex with rfl | rfl
      · exact ⟨hd', cv, h5, J, Y, cv, rfl, hgo, h6⟩
      · exact ⟨hd', cv, h5, J, Y, cv, rfl, hgo, h6⟩
    split at e
    · rename_i s' h1; exact fin .normal s' h1 (.inl rfl) e
    · rename_i s' h1; exact fin .ret s' h1 (.inr rfl) e
    · cases e

theorem emptyH_live {k : Nat} : ¬ emptyH.live k := by simp [AH.live, AH.get, emptyH, Tr.get_lf]

def noI : Inj := fun _ => none

/-- An empty heap stands for nothing. -/
theorem empty_rel {w : World} {Z : Zed} (hz : Z.le (Zed.all w)) : Rel noI Z emptyH w where
  cells := fun k es cs h => by simp [AH.get, emptyH, Tr.get_lf] at h
  map := fun k es h => by simp [AH.get, emptyH, Tr.get_lf] at h
  inj := fun k k' B B' h => (emptyH_live h).elim
  zed := fun b o v h => ⟨hz b o v h, fun k B h => (emptyH_live h).elim⟩
  fresh := fun k h => by
    rcases h with h | h
    · exact (emptyH_live h).elim
    · exact (h rfl).elim
  size := fun k B h => by cases h

open Classical in
/-- The cells of the live blocks beside those that stay. -/
noncomputable def Zed.live (J : Inj) (Y : Zed) (h : AH) (w : World) : Zed := fun b o =>
  match Y b o with
  | some v => some v
  | none => if ∃ k B, h.live k ∧ J k = some B ∧ B.blk = b ∧ B.d ≤ o then w.cell? ⟨b, o, none⟩ else none

theorem Zed.le_live {J : Inj} {Y : Zed} {h : AH} {w : World} : Y.le (Zed.live J Y h w) := fun b o v e => by simp [Zed.live, e]

/-- Behind a run in an empty heap the caller's heap stands as before. -/
theorem Rel.back {I J : Inj} {Z Y Z0 : Zed} {h h' : AH} {w w' : World} (hr : Rel I Z h w) (hg : Goes noI Z0 emptyH w J Y h' w') (hZ0 : Z.le Z0) :
    Goes I Z h w I Z h w' := by
  have hold : ∀ b, b < w.heap.size → w'.heap[b]? = w.heap[b]? := fun b hb => hg.fr.other b hb (fun k B hk => (emptyH_live hk).elim)
  have hcell : ∀ b o v, w.cell? ⟨b, o, none⟩ = some v → w'.cell? ⟨b, o, none⟩ = some v := fun b o v h1 => by
    have hb : b < w.heap.size := World.block_lt_of_cell? w _ h1
    simp only [World.cell?, hold b hb]; simpa [World.cell?] using h1
  refine ⟨.refl _, .refl _, fun _ _ _ h => .inl h, ⟨fun k es cs hk => ?_, fun k es hk => ?_, hr.inj, fun b o v hz => ⟨hcell b o v (hr.zed b o v hz).1, (hr.zed b o v hz).2⟩, hr.fresh, fun k B hB => Nat.lt_of_lt_of_le (hr.size k B hB) hg.fr.size⟩,
    ⟨hg.fr.os, hg.fr.out, hg.fr.size, Nat.le_refl _, fun b hb _ => hold b hb, fun k B hk hB o ho => ?_, fun k B hk hB _ => ⟨k, B, hk, hB, rfl, Nat.le_refl _⟩⟩⟩
  · obtain ⟨B, hB, he, hc⟩ := hr.cells k es cs hk
    exact ⟨B, hB, he, hc.mono (.refl _) (.refl _) (hold _ (hr.size k B hB))⟩
  · obtain ⟨B, hB, hc⟩ := hr.map k es hk
    exact ⟨B, hB, hc.mono (.refl _) (.refl _) (hold _ (hr.size k B hB))⟩
  · simp only [World.cell?, hold _ (hr.size k B hB)]

/-- What is so by a naming, and by a greater one, is so by the first. -/
theorem VRel.both {I J : Inj} {Z Y : Zed} {a : AV} {v : Value} (hI : I.le J) (h : VRel J Y a v) : ∀ {u : Value}, VRel I Z a u → VRel I Y a v := by
  induction h with
  | any v => exact fun _ => .any v
  | b x => exact fun _ => .b x
  | i k n => exact fun _ => .i k n
  | f k x y h => exact fun _ => .f k x y h
  | s x => exact fun _ => .s x
  | pn => exact fun _ => .pn
  | p h =>
    intro u hu
    cases hu with
    | p h' => have := hI _ _ h'; rw [h] at this; cases this; exact .p h'
  | ip hl hz _ ih =>
    intro u hu
    cases hu with
    | ip hl' _ hv' => exact .ip hl hz (fun j a v e1 e2 => by
        have hj := (List.getElem?_eq_some_iff.1 e1).1
        exact ih j a v e1 e2 (hv' j a _ e1 (List.getElem?_eq_getElem (by omega))))
  | nsl => exact fun _ => .nsl
  | emp0 => exact fun _ => .emp0
  | emp1 b o => exact fun _ => .emp1 b o
  | imm hl hz _ hc ih =>
    intro u hu
    cases hu with
    | imm hl' _ hv' _ => exact .imm hl hz (fun j a v e1 e2 => by
        have hj := (List.getElem?_eq_some_iff.1 e1).1
        exact ih j a v e1 e2 (hv' j a _ e1 (List.getElem?_eq_getElem (by omega)))) hc
  | own h hn hc =>
    intro u hu
    cases hu with
    | own h' _ _ => have := hI _ _ h'; rw [h] at this; cases this; exact .own h' hn hc
    | own0 h' _ => have := hI _ _ h'; rw [h] at this; cases this; exact .own h' hn hc
  | own0 h hc =>
    intro u hu
    cases hu with
    | own h' _ _ => have := hI _ _ h'; rw [h] at this; cases this; exact .own0 h' hc
    | own0 h' _ => have := hI _ _ h'; rw [h] at this; cases this; exact .own0 h' hc
  | mn => exact fun _ => .mn
  | m h =>
    intro u hu
    cases hu with
    | m h' => have := hI _ _ h'; rw [h] at this; cases this; exact .m h'
  | fn hx _ hc _ ih1 ih2 =>
    intro u hu
    cases hu with
    | fn hx' hxv' hc' hcv' => exact .fn hx (fun j a v e1 e2 => by
        have hj := (List.getElem?_eq_some_iff.1 e1).1
        exact ih1 j a v e1 e2 (hxv' j a _ e1 (Array.getElem?_eq_getElem (by omega)))) hc (fun j a v e1 e2 => by
        have hj := (List.getElem?_eq_some_iff.1 e1).1
        exact ih2 j a v e1 e2 (hcv' j a _ e1 (Array.getElem?_eq_getElem (by omega))))
  | nfn => exact fun _ => .nfn
  | ifc _ ih =>
    intro u hu
    cases hu with
    | ifc h' => exact .ifc (ih h')
  | nif => exact fun _ => .nif
  | agg hl _ ih =>
    intro u hu
    cases hu with
    | agg hl' hv' => exact .agg hl (fun j a v e1 e2 => by
        have hj := (List.getElem?_eq_some_iff.1 e1).1
        exact ih j a v e1 e2 (hv' j a _ e1 (Array.getElem?_eq_getElem (by omega))))
  | tup hl _ ih =>
    intro u hu
    cases hu with
    | tup hl' hv' => exact .tup hl (fun j a v e1 e2 => by
        have hj := (List.getElem?_eq_some_iff.1 e1).1
        exact ih j a v e1 e2 (hv' j a _ e1 (Array.getElem?_eq_getElem (by omega))))
  | tok n v h => exact fun _ => .tok n v h
  | junk v h => exact fun _ => .junk v h
  | unkb b => exact fun _ => .unkb b
  | ui k n => exact fun _ => .ui k n
  | uf k n => exact fun _ => .uf k n
  | ig k m n h => exact fun _ => .ig k m n h

theorem MapOk.both {I J : Inj} {Z Y : Zed} {w w' : World} {B : BI} {mo : MO} (hI : I.le J) (h : MapOk J Y w' B mo) (g : MapOk I Z w B mo) : MapOk I Y w' B mo := by
  cases mo with
  | es es bs c =>
    obtain ⟨ces0, a1, a2, _, a3⟩ := g
    obtain ⟨ces, b1, b2, b3, b4⟩ := h
    refine ⟨ces, b1, b2, b3, fun j a c ha hc => ?_⟩
    have hj : j < ces0.size := by have := (List.getElem?_eq_some_iff.1 ha).1; omega
    obtain ⟨h1, h2⟩ := b4 j a c ha hc
    obtain ⟨h3, h4⟩ := a3 j a _ ha (Array.getElem?_eq_getElem hj)
    exact ⟨h1.both hI h3, h2.both hI h4⟩
  | it m since seen last =>
    cases m with
    | none => exact h
    | some m =>
      obtain ⟨h0, Bm, h1, h2⟩ := h
      obtain ⟨_, Bm', g1, _⟩ := g
      have := hI m Bm' g1
      rw [h1] at this; cases this
      exact ⟨h0, Bm, g1, h2⟩

/-- A run that left the blocks of before as they were: what it made is forgotten. -/
theorem Goes.forget {I J : Inj} {Z Y : Zed} {h h' : AH} {w w' : World} (hr : Rel I Z h w) (hg : Goes I Z h w J Y h' w') (hk : ∀ k o, h.get k = some o → h'.get k = some o) : Goes I Z h w I Y h w' := by
  have hlive : ∀ k, h.live k → h'.live k := fun k hl => by
    unfold AH.live at *
    cases e : h.get k with
    | none => exact absurd e hl
    | some o => rw [hk k o e]; simp
  refine ⟨.refl _, hg.lez, hg.newz, ⟨fun k es cs e => ?_, fun k es e => ?_, hr.inj, fun b o v e => ?_, hr.fresh, fun k B hB => Nat.lt_of_lt_of_le (hr.size k B hB) hg.fr.size⟩,
    ⟨hg.fr.os, hg.fr.out, hg.fr.size, Nat.le_refl _, hg.fr.other, hg.fr.below, fun k B hl hB _ => ⟨k, B, hl, hB, rfl, Nat.le_refl _⟩⟩⟩
  · obtain ⟨B, hB, he, arr0, el0, fr0, a1, a2, a3, a4, a5⟩ := hr.cells k es cs e
    obtain ⟨B', hB', he', arr, el, fr, b1, b2, b3, b4, b5⟩ := hg.rel.cells k es cs (hk k _ e)
    have : B' = B := by have := hg.le k B hB; rw [hB'] at this; exact Option.some.inj this
    subst this
    refine ⟨B', hB, he, arr, el, fr, b1, b2, b3, fun j a ha => ?_, b5⟩
    obtain ⟨o1, v, h1, h2⟩ := b4 j a ha
    obtain ⟨_, u, _, h4⟩ := a4 j a ha
    exact ⟨o1, v, h1, h2.both hg.le h4⟩
  · obtain ⟨B, hB, a1⟩ := hr.map k es e
    obtain ⟨B', hB', b1⟩ := hg.rel.map k es (hk k _ e)
    have : B' = B := by have := hg.le k B hB; rw [hB'] at this; exact Option.some.inj this
    subst this
    exact ⟨B', hB, b1.both hg.le a1⟩
  · obtain ⟨h1, h2⟩ := hg.rel.zed b o v e
    exact ⟨h1, fun k B hl hB hb => h2 k B (hlive k hl) (hg.le k B hB) hb⟩

/-- The same, where what the run made stays as it is. -/
theorem Rel.back_keep {I J : Inj} {Z Y : Zed} {h h' : AH} {w w' : World} (hr : Rel I Z h w) (hg : Goes noI Z emptyH w J Y h' w') :
    Goes I Z h w I (Zed.live J Y h' w') h w' := by
  have hb := Rel.back hr hg (.refl _)
  have hnew : ∀ b o v, Zed.live J Y h' w' b o = some v → w'.cell? ⟨b, o, none⟩ = some v ∧ (Z b o = some v ∨ w.heap.size ≤ b) := by
    intro b o v e
    unfold Zed.live at e
    split at e
    · rename_i v' hy
      cases e
      refine ⟨(hg.rel.zed b o _ hy).1, ?_⟩
      rcases hg.newz b o _ hy with h1 | h1 | ⟨k, B, h1, _⟩
      · exact .inl h1
      · exact .inr h1
      · exact (emptyH_live h1).elim
    · split at e
      · rename_i hl
        refine ⟨e, .inr ?_⟩
        obtain ⟨k, B, h1, h2, h3, h4⟩ := hl
        rcases Nat.lt_or_ge b w.heap.size with hlt | hge
        · obtain ⟨k', B', g1, _⟩ := hg.fr.live k B h1 h2 (by omega)
          exact (emptyH_live g1).elim
        · exact hge
      · cases e
  have hle : Z.le (Zed.live J Y h' w') := hg.lez.trans Zed.le_live
  refine ⟨.refl _, hle, fun b o v e => (hnew b o v e).2.imp id .inl, ⟨fun k es cs hk => ?_, fun k es hk => ?_, hr.inj, fun b o v e => ?_, hr.fresh, hb.rel.size⟩, hb.fr⟩
  · obtain ⟨B, hB, he, hc⟩ := hb.rel.cells k es cs hk
    exact ⟨B, hB, he, hc.mono (.refl _) hle rfl⟩
  · obtain ⟨B, hB, hc⟩ := hb.rel.map k es hk
    exact ⟨B, hB, hc.mono (.refl _) hle rfl⟩
  · obtain ⟨h1, h2⟩ := hnew b o v e
    refine ⟨h1, fun k B hk hB hbb => ?_⟩
    rcases h2 with h2 | h2
    · exact (hr.zed b o v h2).2 k B hk hB hbb
    · have := hr.size k B hB; omega

theorem pureL_rel {I J : Inj} {Z : Zed} {as : List AV} {vs : List Value} (h : LRel I Z as vs) (hp : pureL as = true) : LRel J Z as vs :=
  ⟨h.1, fun j a v e1 e2 => pure_rel (h.2 j a v e1 e2) (pureL_mem hp e1)⟩

theorem emptyH_ids : ∀ (n : Nat) (a : AV) k es cs, k ∈ idsOf emptyH n a → emptyH.get k = some (.cells es cs) → False := by
  intro n a k es cs _ h; simp [AH.get, emptyH, Tr.get_lf] at h

/-- All blocks of a value's slices stay as they are from now on. -/
theorem freezeAll {J : Inj} : ∀ (ids : List Nat) {Y : Zed} {h : AH} {w : World}, Rel J Y h w → ∃ Y', Goes J Y h w J Y' (delAll h ids) w ∧
    ∀ k es cs B, k ∈ ids → h.get k = some (.cells es cs) → J k = some B → ∀ (j : Nat) x, j < cs.length → w.cell? ⟨B.blk, B.d + j, none⟩ = some x → Y' B.blk (B.d + j) = some x
  | [], Y, h, w, hr => ⟨Y, .refl hr, fun k es cs B hk => by simp at hk⟩
  | i :: ids, Y, h, w, hr => by
    by_cases hi : ∃ es cs, h.get i = some (.cells es cs)
    · obtain ⟨es, cs, hg⟩ := hi
      obtain ⟨B, hB, hes, arr, tt, fr, a1, a2, a3, a4, a5⟩ := hr.cells i es cs hg
      have hf := Goes.freeze hr hg hB a1
      obtain ⟨Y', h1, h2⟩ := freezeAll ids hf.rel
      refine ⟨Y', hf.trans hr h1, fun k es' cs' B' hk hgk hBk j x hj hx => ?_⟩
      by_cases hki : k = i
      · subst hki
        rw [hg] at hgk; cases hgk
        rw [hB] at hBk; cases hBk
        refine h1.lez _ _ _ ?_
        unfold Zed.put
        rw [if_pos ⟨rfl, by omega, by omega⟩]
        simpa [World.cell?, a1] using hx
      · have hk' : k ∈ ids := by simpa [hki] using hk
        exact h2 k es' cs' B' hk' (by rw [AH.get_del, if_neg hki]; exact hgk) hBk j x hj hx
    · have hd := Goes.del hr i
      obtain ⟨Y', h1, h2⟩ := freezeAll ids hd.rel
      refine ⟨Y', hd.trans hr h1, fun k es' cs' B' hk hgk hBk j x hj hx => ?_⟩
      by_cases hki : k = i
      · subst hki; exact absurd ⟨_, _, hgk⟩ hi
      · have hk' : k ∈ ids := by simpa [hki] using hk
        exact h2 k es' cs' B' hk' (by rw [AH.get_del, if_neg hki]; exact hgk) hBk j x hj hx

theorem Glob.noI {E : Env} (hE : EnvGood E) {I : Inj} {Z : Zed} (hg : Glob I Z E) : Glob noI Z E := fun g cs e => by
  obtain ⟨vs, h1, h2⟩ := hg g cs e
  exact ⟨vs, pureL_rel h1 (hE.pures g cs e), h2⟩

/-- A value without a heap. -/
theorem deepR_empty {I : Inj} {Z : Zed} : ∀ (n : Nat) (a r : AV) (v : Value), deepR emptyH n a = some r → VRel I Z a v → VRel I Z r v := by
  intro n
  induction n with
  | zero => intro a r v e; simp [deepR] at e
  | succ n ih =>
    intro a r v e hv
    have list : ∀ (cs rs : List AV) (vs : List Value), cs.mapM (deepR emptyH n) = some rs → LRel I Z cs vs → LRel I Z rs vs := by
      intro cs rs vs e hL
      exact mapM_rel cs rs vs e hL (fun a' r' v' hm he hv' => ih a' r' v' he hv')
    unfold deepR at e
    split at e
    · rename_i he; cases he
    · exfalso
      simp [AH.get, emptyH, Tr.get_lf] at e
    · rename_i n' cs len hn
      cases hn
      split at e
      · cases e; exact hv
      · obtain ⟨r', h1, h2⟩ := Option.map_eq_some_iff.1 e
        subst h2
        cases hv with
        | imm hl hz hvv hcap =>
          have hL' := list cs r' _ h1 ⟨hl.symm, hvv⟩
          exact .imm hL'.1.symm hz hL'.2 hcap
    · rename_i n' cs hn
      cases hn
      obtain ⟨r', h1, h2⟩ := Option.map_eq_some_iff.1 e
      subst h2
      obtain ⟨vs, rfl, hL⟩ := agg_iff.1 hv
      exact agg_iff.2 ⟨vs, rfl, list cs r' vs h1 hL⟩
    · rename_i n' cs hn
      cases hn
      obtain ⟨r', h1, h2⟩ := Option.map_eq_some_iff.1 e
      subst h2
      obtain ⟨vs, rfl, hL⟩ := tup_iff.1 hv
      exact tup_iff.2 ⟨vs, rfl, list cs r' vs h1 hL⟩
    · rename_i n' t x hn
      cases hn
      obtain ⟨r', h1, h2⟩ := Option.map_eq_some_iff.1 e
      subst h2
      cases hv with
      | ifc hx => exact .ifc (ih x r' _ h1 hx)
    · cases e; exact hv

theorem mapM_empty {I : Inj} {Z : Zed} {args as : List AV} {vs : List Value} (e : args.mapM (deepR emptyH deep) = some as) (h : LRel I Z args vs) : LRel I Z as vs :=
  mapM_rel args as vs e h (fun a r v _ he hv => deepR_empty deep a r v he hv)

/-- A call. -/
theorem stepCall_ok {E : Env} (hE : EnvGood E) {n : Nat} (hrec : CallsOk E (run E n)) (hloop : ∀ [Dfs], ∀ f c s e s', run E n (.loop f c s) = some (.code e s') → (∀ x ∈ drawsIn c, DrawGood E f x) → LoopOk E n c s e s')
    (hdraw : ∀ [Dfs], DrawsOk E (run E n)) {f : FuncId} {args : List AV} {h h' : AH} {v : AV} (e : stepCall E (run E n) f args h = some (v, h')) : CallOk E f args h v h' := by
  unfold stepCall at e
  cases hp : E.phook f with
  | some g =>
    simp only [hp] at e
    split at e
    · rename_i as ha
      split at e
      · rename_i hpu
        split at e
        · rename_i v' hgv
          split at e
          · rename_i hvp
            cases e
            exact hE.phooks f g hp args as h _ ha hpu hgv hvp
          · cases e
        · cases e
      · cases e
    · cases e
  | none =>
    simp only [hp] at e
    cases hh : E.hook f with
    | some g => simp only [hh] at e; exact hE.hooks f g hh args h v h' e
    | none =>
      simp only [hh] at e
      cases hf : E.fun_ f with
      | none => simp [hf] at e
      | some fn =>
        simp only [hf] at e
        have hbody : ∀ {args : List AV} {h h' : AH} {v : AV}, bodyA E (run E n) f fn args h = some (v, h') → CallOk E f args h v h' := fun e => body_ok hE hrec @hloop @hdraw hf e
        by_cases hm : E.mode f = 2
        · rw [if_pos hm] at e
          split at e
          · rename_i as ha
            split at e
            · rename_i hpu
              split at e
              · rename_i v0 h0 hb
                split at e
                · rename_i v1 hd
                  split at e
                  · rename_i hvp
                    cases e
                    intro I Z w vs hg hL hr
                    have hLn : LRel noI Z as vs := pureL_rel (mapM_empty ha hL) hpu
                    refine (hbody hb noI Z w vs (hg.noI hE) hLn (empty_rel hr.le_all)).mono ?_
                    rintro e' w' ⟨J, Y, cv, rfl, hgo, hv⟩
                    refine ⟨I, _, cv, rfl, Rel.back_keep hr hgo, pure_rel (deepR_rel hgo.rel Zed.le_live deep v0 v cv hd hv (fun k es cs B hk hgk hB j x hj hx => ?_)) hvp⟩
                    unfold Zed.live
                    split
                    · rename_i v' hy
                      rw [← hx, (hgo.rel.zed _ _ _ hy).1]
                    · rw [if_pos ⟨k, B, by simp [AH.live, hgk], hB, rfl, by omega⟩]; exact hx
                  · cases e
                · cases e
              · cases e
            · cases e
          · cases e
        · rw [if_neg hm] at e
          by_cases hm3 : E.mode f = 3
          · rw [if_pos hm3] at e
            split at e
            · rename_i as ha
              split at e
              · rename_i hpu
                split at e
                · rename_i v0 h0 hb
                  split at e
                  · rename_i v1 hd
                    split at e
                    · rename_i hvp
                      cases e
                      intro I Z w vs hg hL hr
                      have hLa : LRel I (Zed.all w) as vs := mapM_rel args as vs ha hL (fun a r v _ he hv => deepR_rel hr hr.le_all deep a r v he hv (fun k es cs B hk hgk hB j x hj hx => hx))
                      have hLn : LRel noI (Zed.all w) as vs := pureL_rel hLa hpu
                      refine (hbody hb noI (Zed.all w) w vs ((hg.mono (.refl _) hr.le_all).noI hE) hLn (empty_rel (.refl _))).mono ?_
                      rintro e' w' ⟨J, Y, cv, rfl, hgo, hv⟩
                      refine ⟨I, Z, cv, rfl, Rel.back hr hgo hr.le_all, flat_rel (deepR_rel hgo.rel (Zed.le_live (J := J) (h := h0) (w := w')) deep v0 v cv hd hv (fun k es cs B hk hgk hB j x hj hx => ?_)) hvp⟩
                      unfold Zed.live
                      split
                      · rename_i v' hy
                        rw [← hx, (hgo.rel.zed _ _ _ hy).1]
                      · rw [if_pos ⟨k, B, by simp [AH.live, hgk], hB, rfl, by omega⟩]; exact hx
                    · cases e
                  · cases e
                · cases e
              · cases e
            · cases e
          · rw [if_neg hm3] at e
            by_cases hm4 : E.mode f = 4
            · rw [if_pos hm4] at e
              split at e
              · rename_i v0 h0 hb
                split at e
                · rename_i hs
                  cases e
                  intro I Z w vs hg hL hr
                  refine (hbody hb I Z w vs hg hL hr).mono ?_
                  rintro e' w' ⟨J, Y, cv, rfl, hgo, hv⟩
                  exact ⟨I, Y, cv, rfl, Goes.forget hr hgo (fun k o hk => AH.sub_get hs.2 hk), pure_rel hv hs.1⟩
                · cases e
              · cases e
            rw [if_neg hm4] at e
            by_cases hm1 : E.mode f = 1
            · rw [if_pos hm1] at e
              split at e
              · rename_i v0 h0 hb
                split at e
                · rename_i v1 hd
                  cases e
                  intro I Z w vs hg hL hr
                  refine (hbody hb I Z w vs hg hL hr).mono ?_
                  rintro e' w' ⟨J, Y, cv, rfl, hgo, hv⟩
                  obtain ⟨Y', h1, h2⟩ := freezeAll (idsOf h0 deep v0) hgo.rel
                  exact ⟨J, Y', cv, rfl, hgo.trans hr h1, deepR_rel hgo.rel h1.lez deep v0 v cv hd hv h2⟩
                · cases e
              · cases e
            · rw [if_neg hm1] at e
              exact hbody e

end
end Go.Av
