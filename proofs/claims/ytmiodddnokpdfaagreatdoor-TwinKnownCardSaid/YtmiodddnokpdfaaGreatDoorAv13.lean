/-
  Calls: what the abstract machine says that a call answers, the model's call does.
-/
import Derived.Test.YtmiodddnokpdfaaGreatDoorAv12
namespace Go.Av
noncomputable section
set_option linter.unusedSectionVars false
variable [Toks]
set_option linter.unusedSimpArgs false
set_option linter.unusedVariables false

theorem pureL_mem {cs : List AV} (h : pureL cs = true) {j : Nat} {a : AV} (e : cs[j]? = some a) : a.pure = true := by
  induction cs generalizing j with
  | nil => simp at e
  | cons x r ih =>
    simp only [pureL, Bool.and_eq_true] at h
    cases j with
    | zero => simp at e; subst e; exact h.1
    | succ j => exact ih h.2 (by simpa using e)

theorem flatL_mem {cs : List AV} (h : flatL cs = true) {j : Nat} {a : AV} (e : cs[j]? = some a) : a.flat = true := by
  induction cs generalizing j with
  | nil => simp at e
  | cons x r ih =>
    simp only [flatL, Bool.and_eq_true] at h
    cases j with
    | zero => simp at e; subst e; exact h.1
    | succ j => exact ih h.2 (by simpa using e)

/-- What names no block is so under any naming. -/
theorem pure_rel {I J : Inj} {Z : Zed} {a : AV} {v : Value} (h : VRel I Z a v) (hp : a.pure = true) : VRel J Z a v := by
  induction h with
  | any v => exact .any v
  | b x => exact .b x
  | i k n => exact .i k n
  | f k x y h => exact .f k x y h
  | s x => exact .s x
  | pn => exact .pn
  | p h => simp [AV.pure] at hp
  | ip hl hz _ ih => exact .ip hl hz (fun j a v e1 e2 => ih j a v e1 e2 (pureL_mem (by simpa [AV.pure] using hp) e1))
  | nsl => exact .nsl
  | emp0 => exact .emp0
  | emp1 b o => exact .emp1 b o
  | imm hl hz _ hc ih => exact .imm hl hz (fun j a v e1 e2 => ih j a v e1 e2 (pureL_mem (by simpa [AV.pure] using hp) e1)) hc
  | own h hn hc => simp [AV.pure] at hp
  | own0 h hc => simp [AV.pure] at hp
  | mn => exact .mn
  | m h => simp [AV.pure] at hp
  | fn hx _ hc _ ih1 ih2 =>
    simp only [AV.pure, Bool.and_eq_true] at hp
    exact .fn hx (fun j a v e1 e2 => ih1 j a v e1 e2 (pureL_mem hp.1 e1)) hc (fun j a v e1 e2 => ih2 j a v e1 e2 (pureL_mem hp.2 e1))
  | nfn => exact .nfn
  | ifc _ ih => exact .ifc (ih (by simpa [AV.pure] using hp))
  | nif => exact .nif
  | agg hl _ ih => exact .agg hl (fun j a v e1 e2 => ih j a v e1 e2 (pureL_mem (by simpa [AV.pure] using hp) e1))
  | tup hl _ ih => exact .tup hl (fun j a v e1 e2 => ih j a v e1 e2 (pureL_mem (by simpa [AV.pure] using hp) e1))
  | tok n v h => exact .tok n v h
  | junk v h => exact .junk v h
  | unkb b => exact .unkb b
  | ui k n => exact .ui k n
  | uf k n => exact .uf k n
  | ig k m n h => exact .ig k m n h

theorem flat_rel {I J : Inj} {Z Y : Zed} {a : AV} {v : Value} (h : VRel I Z a v) (hp : a.flat = true) : VRel J Y a v := by
  induction h with
  | any v => exact .any v
  | b x => exact .b x
  | i k n => exact .i k n
  | f k x y h => exact .f k x y h
  | s x => exact .s x
  | pn => exact .pn
  | p h => simp [AV.flat] at hp
  | ip hl hz _ ih => simp [AV.flat] at hp
  | nsl => exact .nsl
  | emp0 => exact .emp0
  | emp1 b o => exact .emp1 b o
  | @imm cs vs n blk base cap hl hz hv hc ih =>
    have h0 : cs = [] := by simpa [AV.flat] using hp
    subst h0
    have hv0 : vs = [] := by simpa using hl
    subst hv0
    exact .imm (vs := []) rfl (fun j v e => by simp at e) (fun j a v e => by simp at e) hc
  | own h hn hc => simp [AV.flat] at hp
  | own0 h hc => simp [AV.flat] at hp
  | mn => exact .mn
  | m h => simp [AV.flat] at hp
  | fn hx _ hc _ ih1 ih2 =>
    simp only [AV.flat, Bool.and_eq_true] at hp
    exact .fn hx (fun j a v e1 e2 => ih1 j a v e1 e2 (flatL_mem hp.1 e1)) hc (fun j a v e1 e2 => ih2 j a v e1 e2 (flatL_mem hp.2 e1))
  | nfn => exact .nfn
  | ifc _ ih => exact .ifc (ih (by simpa [AV.flat] using hp))
  | nif => exact .nif
  | agg hl _ ih => exact .agg hl (fun j a v e1 e2 => ih j a v e1 e2 (flatL_mem (by simpa [AV.flat] using hp) e1))
  | tup hl _ ih => exact .tup hl (fun j a v e1 e2 => ih j a v e1 e2 (flatL_mem (by simpa [AV.flat] using hp) e1))
  | tok n v h => exact .tok n v h
  | junk v h => exact .junk v h
  | unkb b => exact .unkb b
  | ui k n => exact .ui k n
  | uf k n => exact .uf k n
  | ig k m n h => exact .ig k m n h

/-- All cells of a world. -/
def Zed.all (w : World) : Zed := fun b o => w.cell? ⟨b, o, none⟩

theorem Rel.le_all {I : Inj} {Z : Zed} {h : AH} {w : World} (hr : Rel I Z h w) : Z.le (Zed.all w) := fun b o v hz => (hr.zed b o v hz).1

theorem mapM_rel {I J : Inj} {Z Y : Zed} {f : AV → Option AV} : ∀ (as rs : List AV) (vs : List Value), as.mapM f = some rs → LRel I Z as vs → (∀ a r v, a ∈ as → f a = some r → VRel I Z a v → VRel J Y r v) → LRel J Y rs vs
  | [], rs, vs, e, hL, _ => by simp at e; subst e; rw [hL.inv_nil]; exact .nil
  | a :: as, rs, vs, e, hL, hf => by
    obtain ⟨v, r, rfl, hv, hr⟩ := hL.inv_cons
    simp only [List.mapM_cons, Option.bind_eq_bind, Option.pure_def] at e
    cases h1 : f a with
    | none => simp [h1] at e
    | some b =>
      cases h2 : as.mapM f with
      | none => simp [h1, h2] at e
      | some bs =>
        simp [h1, h2] at e
        subst e
        exact .cons (hf a b v (by simp) h1 hv) (mapM_rel as bs r h2 hr (fun a r v hm => hf a r v (by simp [hm])))

/-- A value with what its slices hold, read where the cells of these slices are known. -/
theorem deepR_rel {I : Inj} {Z Y : Zed} {h : AH} {w : World} (hr : Rel I Z h w) (hZ : Z.le Y) : ∀ (n : Nat) (a r : AV) (v : Value), deepR h n a = some r → VRel I Z a v →
    (∀ k es cs B, k ∈ idsOf h n a → h.get k = some (.cells es cs) → I k = some B → ∀ (j : Nat) x, j < cs.length → w.cell? ⟨B.blk, B.d + j, none⟩ = some x → Y B.blk (B.d + j) = some x) → VRel I Y r v := by
  intro n
  induction n with
  | zero => intro a r v e; simp [deepR] at e
  | succ n ih =>
    intro a r v e hv hc
    have list : ∀ (cs rs : List AV) (vs : List Value), cs.mapM (deepR h n) = some rs → LRel I Z cs vs → (∀ k, k ∈ cs.flatMap (idsOf h n) → k ∈ idsOf h (n + 1) a) → LRel I Y rs vs := by
      intro cs rs vs e hL hi
      exact mapM_rel cs rs vs e hL (fun a' r' v' hm he hv' => ih a' r' v' he hv' (fun k es cs' B hk => hc k es cs' B (hi k (List.mem_flatMap.2 ⟨a', hm, hk⟩))))
    unfold deepR at e
    split at e
    · rename_i he; cases he
    · -- a slice of a block
      rename_i n' k o len cap hn
      cases hn
      split at e
      · rename_i es cs hg
        split at e
        · rename_i rr htk
          obtain ⟨r', h1, h2⟩ := Option.map_eq_some_iff.1 e
          subst h2
          obtain ⟨B, hB, hes, arr, tt, fr, a1, a2, a3, a4, a5⟩ := hr.cells k es cs hg
          obtain ⟨hl, hget⟩ := takeN_get htk
          have hsub : ∀ k', k' ∈ rr.flatMap (idsOf h n) → k' ∈ idsOf h (n + 1) (.own k o len cap) := by
            intro k' hk'
            obtain ⟨x, hx, hkx⟩ := List.mem_flatMap.1 hk'
            simp only [idsOf, hg, List.mem_cons]
            right
            have : rr = (cs.drop o).take (len * es) := by
              unfold takeN at htk; dsimp only at htk; split at htk
              · cases htk; rfl
              · cases htk
            rw [this] at hx
            exact List.mem_flatMap.2 ⟨x, List.mem_of_mem_drop (List.mem_of_mem_take hx), hkx⟩
          cases hv with
          | @own _ _ _ capC _ B' hk' hn hcap =>
            rw [hB] at hk'; cases hk'
            obtain ⟨b, o', vs, e0, hl2, hL, hcell⟩ := cellsAt_rel hr (VRel.p (o := o) hB) (n := len * es) (cs := rr) (by simp only [cellsAt, hg]; exact htk)
            cases e0
            have hL' := list rr r' vs h1 hL hsub
            refine .imm hL'.1.symm (fun j x hj => ?_) hL'.2 hn
            have hjl : j < len * es := by have := (List.getElem?_eq_some_iff.1 hj).1; have := hL.1; omega
            have hcl : o + j < cs.length := by
              have := hget j hjl
              rw [List.getElem?_eq_getElem (by omega)] at this
              exact (List.getElem?_eq_some_iff.1 this.symm).1
            have := hc k es cs B (by simp [idsOf]) hg hB (o + j) x hcl (by rw [← Nat.add_assoc]; exact hcell j x hj)
            rw [Nat.add_assoc]; exact this
          | @own0 _ _ off _ B' hk' hcap =>
            have hrr : rr = [] := by simpa using hl
            subst hrr
            simp at h1
            subst h1
            exact .imm (vs := []) rfl (fun j v e => by simp at e) (fun j a v e => by simp at e) (Nat.le_refl _)
        · cases e
      · cases e
    · rename_i n' cs len hn
      cases hn
      split at e
      · rename_i hp
        cases e
        exact hv.mono (.refl _) hZ
      · rename_i hp
        obtain ⟨r', h1, h2⟩ := Option.map_eq_some_iff.1 e
        subst h2
        have hsub : ∀ k', k' ∈ cs.flatMap (idsOf h n) → k' ∈ idsOf h (n + 1) (.imm cs len) := by
          intro k' hk'; simp only [idsOf, hp]; exact hk'
        cases hv with
        | imm hl hz hvv hcap =>
          have hL' := list cs r' _ h1 ⟨hl.symm, hvv⟩ hsub
          exact .imm hL'.1.symm (fun j x hj => hZ _ _ _ (hz j x hj)) hL'.2 hcap
    · rename_i n' cs hn
      cases hn
      obtain ⟨r', h1, h2⟩ := Option.map_eq_some_iff.1 e
      subst h2
      obtain ⟨vs, rfl, hL⟩ := agg_iff.1 hv
      exact agg_iff.2 ⟨vs, rfl, list cs r' vs h1 hL (fun k hk => by simpa [idsOf] using hk)⟩
    · rename_i n' cs hn
      cases hn
      obtain ⟨r', h1, h2⟩ := Option.map_eq_some_iff.1 e
      subst h2
      obtain ⟨vs, rfl, hL⟩ := tup_iff.1 hv
      exact tup_iff.2 ⟨vs, rfl, list cs r' vs h1 hL (fun k hk => by simpa [idsOf] using hk)⟩
    · rename_i n' t x hn
      cases hn
      obtain ⟨r', h1, h2⟩ := Option.map_eq_some_iff.1 e
      subst h2
      cases hv with
      | ifc hx => exact .ifc (ih x r' _ h1 hx (fun k es cs' B hk => hc k es cs' B (by simpa [idsOf] using hk)))
    · cases e; exact hv.mono (.refl _) hZ

/-- A result, as the model reads it. -/
def resF (tmps : Array Value) : ResultVar → Sem Value
  | .tmp t => pure (tmps.getD t undef)
  | .cell a t => do loadVar t (← asAddr (tmps.getD a undef))

/-- The results of a body. -/
theorem results_ok {E : Env} {I : Inj} {Z : Zed} {s : S} {a : Act} {w : World} {fn : Func} {v : AV} (e : resultsA E.P fn s = some v) (ht : LRel I Z s.t a.tmps.toList) (hr : Rel I Z s.h w) :
    ∃ cv, (results fn a.tmps).run E.P w = .ok cv w ∧ VRel I Z v cv := by
  have one : ∀ x r, resA E.P s x = some r → ∃ cv, (resF a.tmps x).run E.P w = .ok cv w ∧ VRel I Z r cv := by
    intro x r hx
    have hget : ∀ t, VRel I Z (s.t.getD t undefA) (a.tmps.getD t undef) := fun t => evA_rel (E := { E with glob := fun _ => none }) (fun g cs e => by cases e) ht (.tmp t)
    cases x with
    | tmp t =>
      simp only [resA, Option.some.injEq] at hx
      subst hx
      exact ⟨_, rfl, hget t⟩
    | cell ad t =>
      simp only [resA] at hx
      obtain ⟨cv, h1, h2⟩ := loadA_rel hr (hget ad) hx
      refine ⟨cv, ?_, h2⟩
      rw [← h1]
      have hp : ∃ b, a.tmps.getD ad undef = .pointer (some b) := by
        unfold loadA at hx
        have hv := hget ad
        generalize s.t.getD ad undefA = q at *
        generalize a.tmps.getD ad undef = cq at *
        cases hv
        case p => exact ⟨_, rfl⟩
        case ip => exact ⟨_, rfl⟩
        all_goals (exfalso; split at hx <;> simp [cellsAt] at hx)
      obtain ⟨b, hb⟩ := hp
      show (do loadVar t (← asAddr (a.tmps.getD ad undef)) : Sem Value).run E.P w = _
      rw [hb]; rfl
  have all : ∀ (l : List ResultVar) (rs : List AV), l.mapM (resA E.P s) = some rs → ∃ vs : List Value, (l.mapM (resF a.tmps)).run E.P w = .ok vs w ∧ LRel I Z rs vs := by
    intro l
    induction l with
    | nil => intro rs h; simp at h; subst h; exact ⟨[], by simp, .nil⟩
    | cons x l ih =>
      intro rs h
      simp only [List.mapM_cons, Option.bind_eq_bind, Option.pure_def] at h
      cases h1 : resA E.P s x with
      | none => simp [h1] at h
      | some r =>
        cases h2 : l.mapM (resA E.P s) with
        | none => simp [h1, h2] at h
        | some rs' =>
          simp [h1, h2] at h
          subst h
          obtain ⟨cv, g1, g2⟩ := one x r h1
          obtain ⟨vs, g3, g4⟩ := ih rs' h2
          exact ⟨cv :: vs, by rw [List.mapM_cons, Sem.run_bind, g1]; simp only [Result.andThen_ok]; rw [Sem.run_bind, g3]; rfl, .cons g2 g4⟩
  unfold resultsA at e
  cases h : fn.results.toList.mapM (resA E.P s) with
  | none => simp [h] at e
  | some rs =>
    obtain ⟨vs, g1, g2⟩ := all _ _ h
    have hrun : (fn.results.mapM (resF a.tmps)).run E.P w = .ok vs.toArray w := by
      rw [Array.mapM_eq_mapM_toList, Sem.run_map, g1]; rfl
    have hres : (results fn a.tmps).run E.P w = .ok (if h : vs.toArray.size = 1 then vs.toArray[0] else .tuple vs.toArray) w := by
      have hd : results fn a.tmps = (fn.results.mapM (resF a.tmps) >>= fun vs => pure (if h : vs.size = 1 then vs[0] else .tuple vs)) := rfl
      rw [hd, Sem.run_bind, hrun]; rfl
    refine ⟨_, hres, ?_⟩
    rw [h] at e
    split at e
    · rename_i r0 hrs
      cases hrs; cases e
      obtain ⟨y, r, rfl, hy, hrr⟩ := g2.inv_cons
      have := hrr.inv_nil
      subst this
      simpa using hy
    · rename_i vs' hne hrs
      cases hrs; cases e
      have : ¬ vs.toArray.size = 1 := by
        intro h1
        have hl := g2.1
        simp at h1
        rw [h1] at hl
        obtain ⟨x, hx⟩ := List.length_eq_one_iff.1 hl
        exact hne x (by rw [hx])
      rw [dif_neg this]
      exact tup_iff.2 ⟨vs, rfl, g2⟩
    · rename_i hrs; cases hrs

end
end Go.Av
