/-
  copy, clear, conversions, maps, len, min and max: what the abstract machine says of them, the model does.
-/
import Derived.Test.YtmiodddnokpdfaaGreatDoorAv8
namespace Go.Av
noncomputable section
set_option linter.unusedSectionVars false
variable [Toks]
set_option linter.unusedSimpArgs false
set_option linter.unusedVariables false

section run
variable {P : Program} {w : World}

theorem lenA_rel {I : Inj} {Z : Zed} {h : AH} (hr : Rel I Z h w) {t ty : TypeId} {ts : Array TypeId} (ht : ts[0]? = some t) {x r : AV} {v : Value} (hv : VRel I Z x v) (e : lenA P h t x = some r) :
    ∃ cv, (Builtin.len_ ts ty #[v]).run P w = .ok cv w ∧ VRel I Z r cv := by
  unfold lenA at e
  split at e
  · rename_i hu; cases hv; cases e; exact ⟨_, by simp [Builtin.len_, ht, run_underlying hu]; rfl, .i _ _⟩
  · rename_i hu; cases hv; cases e; exact ⟨_, by simp [Builtin.len_, ht, run_underlying hu]; rfl, .i _ _⟩
  · rename_i hu; cases e; cases hv <;> exact ⟨_, by simp [Builtin.len_, ht, run_underlying hu]; rfl, .i _ _⟩
  · rename_i hu
    cases e
    cases hv with
    | imm hl hz hvv hc => exact ⟨_, by simp [Builtin.len_, ht, run_underlying hu]; rfl, .i _ _⟩
  · rename_i hu
    cases e
    cases hv with
    | own hk hn hc => exact ⟨_, by simp [Builtin.len_, ht, run_underlying hu]; rfl, .i _ _⟩
    | own0 hk hc => exact ⟨_, by simp [Builtin.len_, ht, run_underlying hu]; rfl, .i _ _⟩
  · rename_i hu; cases e; exact ⟨_, by simp [Builtin.len_, ht, run_underlying hu]; rfl, .i _ _⟩
  · rename_i hu; cases hv; cases e; exact ⟨_, by simp [Builtin.len_, ht, run_underlying hu]; rfl, .i _ _⟩
  · rename_i k hu
    split at e
    · rename_i es bs cl hg
      cases e
      obtain ⟨B, hB, ces, a1, a2, _, a3⟩ := hr.map k _ hg
      cases hv with
      | m hk =>
        rw [hB] at hk; cases hk
        refine ⟨_, ?_, .i _ _⟩
        rw [a2]
        have hgo : (getObj B.blk).run P w = .ok (.map ces cl) w := by simp [getObj, Sem.run, a1]
        simp [Builtin.len_, ht, run_underlying hu, hgo, goInt]
    · cases e
  · cases e

theorem min2A_rel {I : Inj} {Z : Zed} {x y r : AV} {v u : Value} (hv : VRel I Z x v) (hu : VRel I Z y u) (e : min2A x y = some r) : ∃ cv, (Builtin.min2 v u).run P w = .ok cv w ∧ VRel I Z r cv := by
  unfold min2A at e
  split at e
  · split at e
    · rename_i hk; cases e; cases hv; cases hu; exact ⟨_, by simp [Builtin.min2], .i _ _⟩
    · cases e
  · cases e

theorem max2A_rel {I : Inj} {Z : Zed} {x y r : AV} {v u : Value} (hv : VRel I Z x v) (hu : VRel I Z y u) (e : max2A x y = some r) : ∃ cv, (Builtin.max2 v u).run P w = .ok cv w ∧ VRel I Z r cv := by
  unfold max2A at e
  split at e
  · split at e
    · rename_i hk; cases e; cases hv; cases hu; exact ⟨_, by simp [Builtin.max2], .i _ _⟩
    · cases e
  · cases e

theorem foldA_rel {I : Inj} {Z : Zed} {f : AV → AV → Option AV} {g : Value → Value → Sem Value} (hf : ∀ x y r v u, VRel I Z x v → VRel I Z y u → f x y = some r → ∃ cv, (g v u).run P w = .ok cv w ∧ VRel I Z r cv) :
    ∀ (l : List AV) (vs : List Value) (x r : AV) (v : Value), LRel I Z l vs → VRel I Z x v → foldA f x l = some r → ∃ cv, (vs.foldlM g v).run P w = .ok cv w ∧ VRel I Z r cv := by
  intro l
  induction l with
  | nil => intro vs x r v hL hx e; rw [hL.inv_nil]; simp [foldA] at e; subst e; exact ⟨v, by simp, hx⟩
  | cons y l ih =>
    intro vs x r v hL hx e
    obtain ⟨u, us, rfl, hu, hL'⟩ := hL.inv_cons
    simp only [foldA] at e
    cases h : f x y with
    | none => simp [h] at e
    | some z =>
      simp [h] at e
      obtain ⟨cz, h1, h2⟩ := hf x y z v u hx hu h
      obtain ⟨cv, h3, h4⟩ := ih us z r cz hL' h2 e
      exact ⟨cv, by simp [h1, h3], h4⟩

theorem copyA_rel {I : Inj} {Z : Zed} {h h' : AH} (hr : Rel I Z h w) {ts tx ty : TypeId} {tys : Array TypeId} (h0 : tys[0]? = some ts) {d x r : AV} {v u : Value} (hv : VRel I Z d v) (hu : VRel I Z x u)
    (e : copyA P h ts tx d x = some (r, h')) : ∃ cv w', (Builtin.copy_ tys ty #[v, u]).run P w = .ok cv w' ∧ Goes I Z h w I Z h' w' ∧ VRel I Z r cv := by
  unfold copyA at e
  split at e
  · cases e
  · rename_i el hel
    have hue := elemA_some hel
    split at e
    · cases e
    · rename_i es hes
      obtain ⟨hsz, hpos⟩ := esA_some hes
      have hszr : ∀ w' : World, (sizeOf el).run P w' = .ok es w' := fun w' => run_szA hsz
      split at e
      · cases e
      · rename_i new k hm hnot
        -- what is copied
        have hsrc : ∃ vs, Builtin.lenOf u = (pure k : Sem Nat) ∧ new.length = k * es ∧ LRel I Z new vs ∧ (∀ m, m ≤ k → (Builtin.firstCells es m u).run P w = .ok (vs.take (m * es)).toArray w) := by
          unfold moreA at hm
          split at hm
          · rename_i ik hux
            exact absurd hux (by simpa using hnot ik)
          · rename_i hux
            split at hm
            · split at hm
              · rename_i s h1
                cases hm
                cases hu
                subst h1
                refine ⟨_, rfl, by rw [List.length_map, Nat.mul_one]; rfl, strCells_rel _, fun m hm => ?_⟩
                have hx : ((s.extract 0 m).data.map (fun c : UInt8 => Value.int .u8 c.toNat)) = ((s.data.toList.map fun c => Value.int .u8 c.toNat).take (m * 1)).toArray := by
                  obtain ⟨⟨l⟩⟩ := s
                  rw [ByteArray.extract_mk]
                  apply Array.ext'
                  simp [List.map_take]
                simp only [Builtin.firstCells, hx, Sem.run_pure]
              · cases hm
            · cases hm
          · rename_i el' hux
            split at hm
            · cases hm
              cases hu
              exact ⟨[], rfl, by simp, .nil, fun m _ => by simp [Builtin.firstCells]⟩
            · cases hm
              cases hu with
              | emp0 => exact ⟨[], rfl, by simp, .nil, fun m _ => by simp [Builtin.firstCells]⟩
              | emp1 b o => exact ⟨[], rfl, by simp, .nil, fun m hm => by
                  obtain rfl : m = 0 := by omega
                  simp [Builtin.firstCells, loadCells, loadCellsFrom]⟩
            · rename_i cs n
              split at hm
              · rename_i hl
                cases hm
                obtain ⟨n', vs, e1, e2, e3, e4, e5⟩ := sliceCells_rel (P := P) hr (es := es) hu (cs := new) (by simp [sliceCells, hl])
                have hnn : n' = k := Nat.eq_of_mul_eq_mul_right hpos (by omega)
                subst hnn
                exact ⟨vs, e1, e2, e3, fun m hm => e5 m hm w rfl⟩
              · cases hm
            · rename_i id o n cap
              by_cases hn0 : n = 0
              · subst hn0
                rw [if_pos rfl] at hm
                cases hm
                refine ⟨[], ?_, by simp, .nil, fun m hm => ?_⟩
                · cases hu <;> rfl
                · obtain rfl : m = 0 := by omega
                  cases hu <;> simp [Builtin.firstCells, loadCells, loadCellsFrom]
              rw [if_neg hn0] at hm
              cases hs : sliceCells h es (.own id o n cap) with
              | none => simp [hs] at hm
              | some cs =>
                simp [hs] at hm
                obtain ⟨rfl, rfl⟩ := hm
                obtain ⟨n', vs, e1, e2, e3, e4, e5⟩ := sliceCells_rel (P := P) hr (es := es) hu hs
                have hl2 : cs.length = n * es := by
                  unfold sliceCells at hs
                  dsimp only at hs
                  split at hs
                  · split at hs
                    · exact (takeN_get hs).1
                    · cases hs
                  · cases hs
                have hnn : n' = n := Nat.eq_of_mul_eq_mul_right hpos (by omega)
                subst hnn
                exact ⟨vs, e1, e2, e3, fun m hm => e5 m hm w rfl⟩
            · cases hm
          · cases hm
        obtain ⟨vs, s1, s2, s3, s4⟩ := hsrc
        dsimp only at e
        split at e
        · cases e
          cases hv
          refine ⟨.int .i64 0, w, ?_, .refl hr, .i _ _⟩
          have := s4 0 (Nat.zero_le _)
          simp at this
          simp [Builtin.copy_, h0, run_underlying hue, s1, hszr, this, goInt]
        · cases e
          have := s4 0 (Nat.zero_le _)
          simp at this
          cases hv with
          | emp0 => exact ⟨.int .i64 0, w, by simp [Builtin.copy_, h0, run_underlying hue, s1, hszr, this, goInt], .refl hr, .i _ _⟩
          | emp1 b o => exact ⟨.int .i64 0, w, by simp [Builtin.copy_, h0, run_underlying hue, s1, hszr, this, goInt, storeCells], .refl hr, .i _ _⟩
        · rename_i id o n cap
          cases hp : putCells h id o (new.take (min k n * es)) with
          | none => simp [hp] at e
          | some h2 =>
            simp only [hp, Option.map_some, Option.some.injEq, Prod.mk.injEq] at e
            obtain ⟨rfl, rfl⟩ := e
            have hf := s4 (min k n) (Nat.min_le_left _ _)
            cases hv with
            | @own _ _ _ capC _ B hk hn hc =>
              obtain ⟨w', e1, hg⟩ := putCells_rel (P := P) hr hp (s3.take _) hk
              refine ⟨.int .i64 (min k n : Nat), w', ?_, hg, .i _ _⟩
              simp [Builtin.copy_, h0, run_underlying hue, s1, hszr, hf, e1, goInt]
            | @own0 _ _ off _ B hk hc =>
              have hz : min k 0 * es = 0 := by simp
              rw [hz] at hp hf
              simp only [List.take_zero] at hp hf
              refine ⟨.int .i64 (min k 0 : Nat), w, ?_, putCells_empty hr hp, .i _ _⟩
              simp at hf
              simp [Builtin.copy_, h0, run_underlying hue, s1, hszr, hf, storeCells, goInt]
        · cases e
      · cases e

theorem clearA_rel {I : Inj} {Z : Zed} {h h' : AH} (hr : Rel I Z h w) {t ty : TypeId} {ts : Array TypeId} (ht : ts[0]? = some t) {x r : AV} {v : Value} (hv : VRel I Z x v) (e : clearA P h t x = some (r, h')) :
    ∃ cv w', (Builtin.clear_ ts ty #[v]).run P w = .ok cv w' ∧ Goes I Z h w I Z h' w' ∧ VRel I Z r cv := by
  have htup : VRel I Z (.tup []) (.tuple #[]) := .tup rfl (fun j a v h => by simp at h)
  unfold clearA at e
  split at e
  · rename_i hu
    cases e; cases hv
    exact ⟨.tuple #[], w, by simp [Builtin.clear_, ht, run_underlying hu], .refl hr, htup⟩
  · rename_i el id o n cap hu
    split at e
    · rename_i z es hz hes
      obtain ⟨hsz, hpos⟩ := esA_some hes
      split at e
      · rename_i h0
        cases e
        subst h0
        refine ⟨.tuple #[], w, ?_, .refl hr, htup⟩
        cases hv <;> simp [Builtin.clear_, ht, run_underlying hu]
      · rename_i hn0
        split at e
        · rename_i hc
          cases hp : putCells h id o (repZ z.cells n) with
          | none => simp [hp] at e
          | some h2 =>
            simp only [hp, Option.map_some, Option.some.injEq, Prod.mk.injEq] at e
            obtain ⟨rfl, rfl⟩ := e
            obtain ⟨zv, hzr, hzrel⟩ := zero_rel (I := I) (Z := Z) (w := w) hz
            have hzc := cells_rel hzrel hc.2
            have hzs : zv.cells.size = es := by have := hzc.1; simp at this; omega
            have hrow := zeroRow_rel hzc (by omega) n
            rw [hc.1] at hrow
            have hzz : Builtin.zeroCells zv.cells n = (Array.range (n * es)).map (zv.cells[· % zv.cells.size]!) := by simp only [Builtin.zeroCells, hzs]
            cases hv with
            | @own _ _ _ capC _ B hk hn hcc =>
              obtain ⟨w', e1, hg⟩ := putCells_rel (P := P) hr hp hrow hk
              refine ⟨.tuple #[], w', ?_, hg, htup⟩
              obtain ⟨n, rfl⟩ := Nat.exists_eq_succ_of_ne_zero hn0
              simp only [Builtin.clear_, ht]
              simp [run_underlying hu, hzr]
              rw [hzz, e1]; rfl
            | @own0 _ _ off _ B hk hcc => exact absurd rfl hn0
        · cases e
    · cases e
  · cases e


/-- Keys that are looked at at once. -/
theorem findI_rel {I : Inj} {Z : Zed} {kt : TypeId} {kd : TypeDesc} (hs : isStruct kd = false) {k : AV} {ck : Value} (hk : VRel I Z k ck) : ∀ (es : List (AV × AV)) (ces : List MapEntry) (j : Nat) (r : Option (Nat × AV)), es.length = ces.length →
    (∀ (i : Nat) a c, es[i]? = some a → ces[i]? = some c → VRel I Z a.1 c.key ∧ VRel I Z a.2 c.val) → findA P kt kd k es j = some r →
    ∃ r', Instr.findNow kd ck ces j = some r' ∧ match r, r' with
      | none, none => True
      | some (i, a), some (i', v) => i = i' ∧ VRel I Z a v ∧ j ≤ i ∧ ∃ e c, es[i - j]? = some e ∧ ces[i - j]? = some c ∧ sameKeyT P kt kd k e.1 = some true
      | _, _ => False := by
  intro es
  induction es with
  | nil =>
    intro ces j r hl _ e
    cases ces with
    | nil => simp [findA] at e; subst e; exact ⟨none, rfl, trivial⟩
    | cons _ _ => simp at hl
  | cons x es ih =>
    intro ces j r hl hr e
    cases ces with
    | nil => simp at hl
    | cons c ces =>
      obtain ⟨hxk, hxv⟩ := hr 0 x c rfl rfl
      simp only [findA] at e
      have hsame : ∀ b, sameKeyT P kt kd k x.1 = some b → Instr.sameNow kd ck c.key = some b := by
        intro b hb
        unfold sameKeyT at hb
        rw [if_neg (by simp [hs])] at hb
        unfold sameKey at hb
        split at hb
        · rename_i k1 a1 k2 a2 hx1
          split at hb
          · split at hb
            · rename_i hkk
              cases hb
              cases hk
              rw [hx1] at hxk
              cases hcv : c.key <;> rw [hcv] at hxk <;> cases hxk
              simp [Instr.sameNow, hkk]
            · cases hb
          · cases hb
        · rename_i a1 a2 hx1
          split at hb
          · cases hb
            cases hk
            rw [hx1] at hxk
            cases hcv : c.key <;> rw [hcv] at hxk <;> cases hxk
            simp [Instr.sameNow]
          · cases hb
        · cases hb
      split at e
      · rename_i h1
        cases e
        refine ⟨some (j, c.val), by simp [Instr.findNow, hsame _ h1], rfl, hxv, Nat.le_refl _, x, c, by simp, by simp, h1⟩
      · rename_i h1
        obtain ⟨r', e1, e2⟩ := ih ces (j + 1) r (by simpa using hl) (fun i a b ha hb => hr (i + 1) a b (by simpa using ha) (by simpa using hb)) e
        refine ⟨r', by simp [Instr.findNow, hsame _ h1, e1], ?_⟩
        cases r with
        | none => cases r' <;> first | trivial | exact e2.elim
        | some p =>
          obtain ⟨i, a⟩ := p
          cases r' with
          | none => exact e2
          | some p' =>
            obtain ⟨i', v⟩ := p'
            obtain ⟨a1, a2, a3, e', c', a4, a5, a6⟩ := e2
            refine ⟨a1, a2, by omega, e', c', ?_, ?_, a6⟩
            · rw [show i - j = (i - (j + 1)) + 1 by omega, List.getElem?_cons_succ]; exact a4
            · rw [show i - j = (i - (j + 1)) + 1 by omega, List.getElem?_cons_succ]; exact a5
      · cases e

/-- Keys that are asked, one by one. -/
theorem findS_rel {I : Inj} {Z : Zed} {kt : TypeId} {kd : TypeDesc} (hs : isStruct kd = true) {k : AV} {ck : Value} (hk : VRel I Z k ck) : ∀ (es : List (AV × AV)) (ces : List MapEntry) (j : Nat) (r : Option (Nat × AV)), es.length = ces.length →
    (∀ (i : Nat) a c, es[i]? = some a → ces[i]? = some c → VRel I Z a.1 c.key ∧ VRel I Z a.2 c.val) → findA P kt kd k es j = some r →
    ∃ r', (Instr.findAsking kt ck ces j).run P w = .ok r' w ∧ match r, r' with
      | none, none => True
      | some (i, a), some (i', v) => i = i' ∧ VRel I Z a v ∧ j ≤ i ∧ ∃ e c, es[i - j]? = some e ∧ ces[i - j]? = some c ∧ sameKeyT P kt kd k e.1 = some true
      | _, _ => False := by
  intro es
  induction es with
  | nil =>
    intro ces j r hl _ e
    cases ces with
    | nil => simp [findA] at e; subst e; exact ⟨none, rfl, trivial⟩
    | cons _ _ => simp at hl
  | cons x es ih =>
    intro ces j r hl hr e
    cases ces with
    | nil => simp at hl
    | cons c ces =>
      obtain ⟨hxk, hxv⟩ := hr 0 x c rfl rfl
      simp only [findA] at e
      have hsame : ∀ b, sameKeyT P kt kd k x.1 = some b → (Op.equal kt ck c.key).run P w = .ok b w := by
        intro b hb
        unfold sameKeyT at hb
        rw [if_pos hs] at hb
        unfold sameKeyS at hb
        split at hb
        · rename_i xs ys hx1
          rw [hx1] at hxk
          split at hb
          · rename_i h1
            split at hb
            · cases hb; exact binA_eq h1 hk hxk
            · cases hb
          · exact binA_eq hb hk hxk
        · cases hb
      split at e
      · rename_i h1
        cases e
        refine ⟨some (j, c.val), by simp [Instr.findAsking, hsame _ h1], rfl, hxv, Nat.le_refl _, x, c, by simp, by simp, h1⟩
      · rename_i h1
        obtain ⟨r', e1, e2⟩ := ih ces (j + 1) r (by simpa using hl) (fun i a b ha hb => hr (i + 1) a b (by simpa using ha) (by simpa using hb)) e
        refine ⟨r', by simp [Instr.findAsking, hsame _ h1, e1], ?_⟩
        cases r with
        | none => cases r' <;> first | trivial | exact e2.elim
        | some p =>
          obtain ⟨i, a⟩ := p
          cases r' with
          | none => exact e2
          | some p' =>
            obtain ⟨i', v⟩ := p'
            obtain ⟨a1, a2, a3, e', c', a4, a5, a6⟩ := e2
            refine ⟨a1, a2, by omega, e', c', ?_, ?_, a6⟩
            · rw [show i - j = (i - (j + 1)) + 1 by omega, List.getElem?_cons_succ]; exact a4
            · rw [show i - j = (i - (j + 1)) + 1 by omega, List.getElem?_cons_succ]; exact a5
      · cases e

theorem find_rel {I : Inj} {Z : Zed} {kt : TypeId} {kd : TypeDesc} (hu : P.underlying kt = some kd) {k : AV} {ck : Value} (hk : VRel I Z k ck) {es : List (AV × AV)} {ces : List MapEntry} {r : Option (Nat × AV)} (hl : es.length = ces.length)
    (hr : ∀ (i : Nat) a c, es[i]? = some a → ces[i]? = some c → VRel I Z a.1 c.key ∧ VRel I Z a.2 c.val) : findA P kt kd k es 0 = some r →
    ∃ r', (Instr.findKey kt ck ces).run P w = .ok r' w ∧ match r, r' with
      | none, none => True
      | some (i, a), some (i', v) => i = i' ∧ VRel I Z a v ∧ 0 ≤ i ∧ ∃ e c, es[i - 0]? = some e ∧ ces[i - 0]? = some c ∧ sameKeyT P kt kd k e.1 = some true
      | _, _ => False := by
  intro e
  by_cases hs : isStruct kd = true
  · obtain ⟨r', e1, e2⟩ := findS_rel (w := w) hs hk es ces 0 r hl hr e
    refine ⟨r', ?_, e2⟩
    cases ces with
    | nil => simp [Instr.findKey, run_underlying hu, Instr.findNow]; simpa [Instr.findAsking] using e1
    | cons c ces =>
      have hn : Instr.findNow kd ck (c :: ces) 0 = none := by
        cases kd <;> first | cases hs | skip
        simp [Instr.findNow, Instr.sameNow]
      simp [Instr.findKey, run_underlying hu, hn, e1]
  · obtain ⟨r', e1, e2⟩ := findI_rel (by simpa using hs) hk es ces 0 r hl hr e
    exact ⟨r', by simp [Instr.findKey, run_underlying hu, e1], e2⟩

theorem run_forFields {l : List Field} {g : Field → PUnit → Sem (ForInStep PUnit)} (h : ∀ f ∈ l, (g f ⟨⟩).run P w = .ok (.yield ⟨⟩) w) : (forIn l PUnit.unit g).run P w = .ok ⟨⟩ w := by
  induction l with
  | nil => rfl
  | cons f l ih =>
    rw [List.forIn_cons, Sem.run_bind, h f (List.mem_cons_self ..)]
    exact ih (fun f hf => h f (List.mem_cons_of_mem _ hf))

theorem partsI_mem {cs : List AV} : ∀ {l : List Field}, partsI P cs l = true → ∀ f ∈ l, ∃ k j n, P.underlying f.type = some (.int k) ∧ partA P f.type cs f.offset = some (.i j n)
  | [], _, f, hf => by cases hf
  | g :: l, h, f, hf => by
    simp only [partsI, Bool.and_eq_true] at h
    rcases List.mem_cons.1 hf with rfl | hf
    · have h1 := h.1
      split at h1
      · rename_i k j n e1 e2; exact ⟨k, j, n, e1, e2⟩
      · cases h1
    · exact partsI_mem h.2 f hf

theorem run_checkKey {kt : TypeId} {kd : TypeDesc} (hu : P.underlying kt = some kd) {I : Inj} {Z : Zed} {k : AV} {ck : Value} (hk : VRel I Z k ck) (ho : keyOk P kd k = true) (b : Bool) (n : Nat) : (Instr.checkKey b (n + 2) kt ck).run P w = .ok () w := by
  unfold keyOk at ho
  split at ho
  · cases hk; simp [Instr.checkKey, run_underlying hu]
  · cases hk; simp [Instr.checkKey, run_underlying hu]
  · rename_i fs cs
    obtain ⟨vs, rfl, hL⟩ := agg_iff.1 hk
    rw [Instr.checkKey, Sem.run_bind, run_underlying hu]
    simp only [Result.andThen_ok]
    rw [← Array.forIn_toList]
    rw [Sem.run_bind, run_forFields (fun f hf => ?_)]
    · rfl
    obtain ⟨kf, j, m, e1, e2⟩ := partsI_mem ho f hf
    obtain ⟨cu, hu', hur⟩ := partA_rel (w := w) hL e2
    by_cases hn : f.name = "_"
    · simp [hn]
    · cases hur
      simp [hn, hu', Instr.checkKey, run_underlying e1]
  · cases ho

theorem lookupA_rel {I : Inj} {Z : Zed} {h : AH} (hr : Rel I Z h w) {t : TypeId} {x ix r : AV} {v iv : Value} {ok : Bool} (hv : VRel I Z x v) (hi : VRel I Z ix iv) (e : lookupA P h t x ix ok = some r) :
    ∃ cv, (Instr.lookup t v iv ok).run P w = .ok cv w ∧ VRel I Z r cv := by
  unfold lookupA at e
  split at e
  · rename_i kt el hu
    split at e
    · rename_i kd z hk hz
      split at e
      · rename_i hko
        obtain ⟨zv, hzr, hzrel⟩ := zero_rel (I := I) (Z := Z) (w := w) hz
        have hck : ∀ b, (Instr.checkKey b 10000 kt iv).run P w = .ok () w := fun b => run_checkKey hk hi hko b 9998
        have hmiss : VRel I Z (if ok = true then .tup [z, .b false] else z) (if ok = true then .tuple #[zv, .bool false] else zv) := by
          cases ok
          · exact hzrel
          · exact tup_iff.2 ⟨[zv, .bool false], rfl, .cons hzrel (.cons (.b _) .nil)⟩
        split at e
        · cases e
          cases hv
          refine ⟨_, ?_, hmiss⟩
          have hf : (Instr.findKey kt iv []).run P w = .ok none w := by simp [Instr.findKey, run_underlying hk, Instr.findNow]
          simp [Instr.lookup, run_underlying hu, hck, hf, hzr]
        · rename_i id
          split at e
          · rename_i es bs cl hg
            obtain ⟨B, hB, ces, a1, a2, ab, a3⟩ := hr.map id _ hg
            cases hv with
            | m hm =>
              rw [hB] at hm; cases hm
              have hgo : (getObj B.blk).run P w = .ok (.map ces cl) w := by simp [getObj, Sem.run, a1]
              have hfr : ∀ r', findA P kt kd ix es 0 = some r' → _ := fun r' hr' => find_rel (w := w) hk hi (by rw [Array.length_toList]; exact a2) (fun i a c ha hc => a3 i a c ha (by simpa using hc)) hr'
              split at e
              · rename_i j a hf
                cases e
                obtain ⟨r', hfk, e2⟩ := hfr _ hf
                cases r' with
                | none => exact e2.elim
                | some p =>
                  obtain ⟨j', cv⟩ := p
                  obtain ⟨_, hav, _⟩ := e2
                  refine ⟨if ok = true then .tuple #[cv, .bool true] else cv, ?_, ?_⟩
                  · simp [Instr.lookup, run_underlying hu, hgo, hck, hfk]
                  · cases ok
                    · exact hav
                    · exact tup_iff.2 ⟨[cv, .bool true], rfl, .cons hav (.cons (.b _) .nil)⟩
              · rename_i hf
                cases e
                obtain ⟨r', hfk, e2⟩ := hfr _ hf
                cases r' with
                | some p => exact e2.elim
                | none =>
                  refine ⟨_, ?_, hmiss⟩
                  simp [Instr.lookup, run_underlying hu, hgo, hck, hfk, hzr]
              · cases e
          · cases e
        · cases e
      · cases e
    · cases e
  · cases e

theorem run_setObj {b : Nat} {o0 o : Obj} (h : w.heap[b]? = some o0) (hc : ∀ c e f, o0 ≠ .cells c e f := by intro _ _ _ h; cases h) :
    ∃ w', (setObj b o).run P w = .ok () w' ∧ w'.os = w.os ∧ w'.output = w.output ∧ w'.heap.size = w.heap.size ∧ w'.heap[b]? = some o ∧ ∀ b', b' ≠ b → w'.heap[b']? = w.heap[b']? := by
  have hb : b < w.heap.size := by
    rcases Nat.lt_or_ge b w.heap.size with x | x
    · exact x
    · rw [Array.getElem?_eq_none x] at h; cases h
  refine ⟨{ w with heap := w.heap.setIfInBounds b o }, (by cases o0 with
    | cells c e f => exact absurd rfl (hc c e f)
    | _ => simp [setObj, Sem.run, h]), rfl, rfl, by simp, by simp [hb], fun b' hne => ?_⟩
  simp only [Array.getElem?_setIfInBounds]
  rw [if_neg (fun e => hne e.symm)]

theorem sameInts_eq {I J : Inj} {Z Y : Zed} : ∀ {xs ys : List AV} {vs us : List Value}, LRel I Z xs vs → LRel J Y ys us → sameInts xs ys = true → us = vs ∧ ∀ n, (us.zip vs).all (fun x => Instr.sameBits n x.1 x.2) = true
  | [], [], vs, us, h1, h2, _ => by rw [h1.inv_nil, h2.inv_nil]; exact ⟨rfl, fun n => rfl⟩
  | .i k a :: r, .i k' c :: s, vs, us, h1, h2, e => by
    simp only [sameInts, Bool.and_eq_true, decide_eq_true_eq, beq_iff_eq] at e
    obtain ⟨⟨rfl, rfl⟩, e⟩ := e
    obtain ⟨v, vs', rfl, hv, hr⟩ := h1.inv_cons
    obtain ⟨u, us', rfl, hu, hs⟩ := h2.inv_cons
    cases hv; cases hu
    obtain ⟨rfl, e2⟩ := sameInts_eq hr hs e
    refine ⟨rfl, fun n => ?_⟩
    simp only [List.zip_cons_cons, List.all_cons, Bool.and_eq_true]
    exact ⟨by cases n <;> simp [Instr.sameBits], e2 n⟩
  | [], _ :: _, _, _, _, _, e => by cases e
  | x :: _, [], _, _, _, _, e => by cases x <;> cases e
  | .i _ _ :: _, .any :: _, _, _, _, _, e => by cases e
  | .i _ _ :: _, .b _ :: _, _, _, _, _, e => by cases e
  | .i _ _ :: _, .f _ _ :: _, _, _, _, _, e => by cases e
  | .i _ _ :: _, .s _ :: _, _, _, _, _, e => by cases e
  | .i _ _ :: _, .p _ :: _, _, _, _, _, e => by cases e
  | .i _ _ :: _, .ip _ _ :: _, _, _, _, _, e => by cases e
  | .i _ _ :: _, .nsl :: _, _, _, _, _, e => by cases e
  | .i _ _ :: _, .emp :: _, _, _, _, _, e => by cases e
  | .i _ _ :: _, .imm _ _ :: _, _, _, _, _, e => by cases e
  | .i _ _ :: _, .own _ _ _ _ :: _, _, _, _, _, e => by cases e
  | .i _ _ :: _, .m _ :: _, _, _, _, _, e => by cases e
  | .i _ _ :: _, .fn _ _ _ :: _, _, _, _, _, e => by cases e
  | .i _ _ :: _, .nfn :: _, _, _, _, _, e => by cases e
  | .i _ _ :: _, .ifc _ _ :: _, _, _, _, _, e => by cases e
  | .i _ _ :: _, .nif :: _, _, _, _, _, e => by cases e
  | .i _ _ :: _, .agg _ :: _, _, _, _, _, e => by cases e
  | .i _ _ :: _, .tup _ :: _, _, _, _, _, e => by cases e
  | .i _ _ :: _, .tok _ :: _, _, _, _, _, e => by cases e
  | .i _ _ :: _, .junk :: _, _, _, _, _, e => by cases e
  | .i _ _ :: _, .unkb :: _, _, _, _, _, e => by cases e
  | .i _ _ :: _, .ui _ :: _, _, _, _, _, e => by cases e
  | .i _ _ :: _, .uf _ :: _, _, _, _, _, e => by cases e
  | .i _ _ :: _, .ig _ _ :: _, _, _, _, _, e => by cases e
  | .any :: _, _ :: _, _, _, _, _, e => by cases e
  | .b _ :: _, _ :: _, _, _, _, _, e => by cases e
  | .f _ _ :: _, _ :: _, _, _, _, _, e => by cases e
  | .s _ :: _, _ :: _, _, _, _, _, e => by cases e
  | .p _ :: _, _ :: _, _, _, _, _, e => by cases e
  | .ip _ _ :: _, _ :: _, _, _, _, _, e => by cases e
  | .nsl :: _, _ :: _, _, _, _, _, e => by cases e
  | .emp :: _, _ :: _, _, _, _, _, e => by cases e
  | .imm _ _ :: _, _ :: _, _, _, _, _, e => by cases e
  | .own _ _ _ _ :: _, _ :: _, _, _, _, _, e => by cases e
  | .m _ :: _, _ :: _, _, _, _, _, e => by cases e
  | .fn _ _ _ :: _, _ :: _, _, _, _, _, e => by cases e
  | .nfn :: _, _ :: _, _, _, _, _, e => by cases e
  | .ifc _ _ :: _, _ :: _, _, _, _, _, e => by cases e
  | .nif :: _, _ :: _, _, _, _, _, e => by cases e
  | .agg _ :: _, _ :: _, _, _, _, _, e => by cases e
  | .tup _ :: _, _ :: _, _, _, _, _, e => by cases e
  | .tok _ :: _, _ :: _, _, _, _, _, e => by cases e
  | .junk :: _, _ :: _, _, _, _, _, e => by cases e
  | .unkb :: _, _ :: _, _, _, _, _, e => by cases e
  | .ui _ :: _, _ :: _, _, _, _, _, e => by cases e
  | .uf _ :: _, _ :: _, _, _, _, _, e => by cases e
  | .ig _ _ :: _, _ :: _, _, _, _, _, e => by cases e

theorem same_bits {kt : TypeId} {kd : TypeDesc} {k a : AV} {ck ca : Value} {I : Inj} {Z : Zed} (h1 : VRel I Z k ck) (h2 : VRel I Z a ca) (e : sameKeyT P kt kd k a = some true) : Instr.sameBits 10000 ca ck = true := by
  unfold sameKeyT at e
  split at e
  · unfold sameKeyS at e
    split at e
    · rename_i xs ys
      obtain ⟨vs, rfl, hL1⟩ := agg_iff.1 h1
      obtain ⟨us, rfl, hL2⟩ := agg_iff.1 h2
      split at e
      · split at e
        · rename_i hsi
          obtain ⟨rfl, hb⟩ := sameInts_eq hL1 hL2 hsi
          have := hb 9999
          simp only [Instr.sameBits, beq_self_eq_true, Bool.true_and]
          exact this
        · cases e
      · rename_i hne
        exact absurd e hne
    · cases e
  · unfold sameKey at e
    split at e
    · split at e
      · split at e
        · rename_i hk
          cases h1; cases h2
          subst hk
          simp only [Option.some.injEq, beq_iff_eq] at e
          subst e
          simp [Instr.sameBits]
        · cases e
      · cases e
    · split at e
      · cases h1; cases h2
        rw [Option.some.injEq, beq_toListBytes] at e
        have e' := eq_of_beq e
        simp [Instr.sameBits, beq_toListBytes, e']
      · cases e
    · cases e

theorem born_modify {ces : Array MapEntry} {j : Nat} {f : MapEntry → MapEntry} (hf : ∀ e, (f e).born = e.born) : ces.toList.map (·.born) = (ces.modify j f).toList.map (·.born) := by
  apply List.ext_getElem?
  intro i
  rw [List.getElem?_map, List.getElem?_map, Array.getElem?_toList, Array.getElem?_toList, Array.getElem?_modify]
  split
  · cases ces[i]? with
    | none => rfl
    | some e => simp [hf]
  · rfl
theorem map_erase {α β : Type} (f : α → β) : ∀ (l : List α) (j : Nat), (l.eraseIdx j).map f = (l.map f).eraseIdx j
  | [], _ => rfl
  | _ :: _, 0 => rfl
  | a :: l, j + 1 => by simp only [List.eraseIdx_cons_succ, List.map_cons, map_erase f l j]

theorem mapUpdateA_rel {I : Inj} {Z : Zed} {h h' : AH} (hr : Rel I Z h w) {t : TypeId} {m k x : AV} {vm vk vx : Value} (hm : VRel I Z m vm) (hk : VRel I Z k vk) (hx : VRel I Z x vx) (e : mapUpdateA P h t m k x = some h') :
    ∃ w', (Instr.mapUpdate t vm vk vx).run P w = .ok () w' ∧ Goes I Z h w I Z h' w' := by
  unfold mapUpdateA at e
  split at e
  · rename_i kt el hu
    split at e
    · rename_i kd hkd
      split at e
      · rename_i hko
        have hck : ∀ b, (Instr.checkKey b 10000 kt vk).run P w = .ok () w := fun b => run_checkKey hkd hk hko b 9998
        split at e
        · rename_i id
          split at e
          · rename_i es bs cl hg
            obtain ⟨B, hB, ces, a1, a2, ab, a3⟩ := hr.map id _ hg
            cases hm with
            | m hmm =>
              rw [hB] at hmm; cases hmm
              have hgo : (getObj B.blk).run P w = .ok (.map ces cl) w := by simp [getObj, Sem.run, a1]
              split at e
              · rename_i j a hf
                cases e
                obtain ⟨r', hfk, e2⟩ := find_rel (w := w) hkd hk (by rw [Array.length_toList]; exact a2) (fun i a c ha hc => a3 i a c ha (by simpa using hc)) hf
                cases r' with
                | none => exact e2.elim
                | some p =>
                  obtain ⟨j', cv⟩ := p
                  obtain ⟨rfl, hav, _, ee, cc, h4, h5, h6⟩ := e2
                  simp only [Nat.sub_zero] at h4 h5
                  have h5' : ces[j]? = some cc := by simpa using h5
                  have hkk := (a3 j ee cc h4 h5').1
                  have hsb := same_bits hk hkk h6
                  obtain ⟨w', s1, b1, b2, b3, b4, b5⟩ := run_setObj (P := P) (o := .map (ces.modify j fun e => { e with key := vk, val := vx }) cl) a1
                  refine ⟨w', ?_, Goes.writeMap hr hg hB b1 b2 b3 b5 ⟨_, b4, by simpa using a2, by rw [ab]; exact born_modify (fun e => rfl), fun i a c ha hc => ?_⟩⟩
                  · simp [Instr.mapUpdate, run_underlying hu, hgo, hck, hfk, h5', Instr.keyThatStays, hsb, s1]
                  · rw [List.getElem?_set] at ha
                    rw [Array.getElem?_modify] at hc
                    by_cases hji : j = i
                    · subst hji
                      rw [if_pos rfl] at ha hc
                      split at ha
                      · cases ha
                        rw [h5'] at hc
                        simp at hc
                        subst hc
                        exact ⟨hk, hx⟩
                      · cases ha
                    · rw [if_neg hji] at ha hc
                      exact a3 i a c ha hc
              · rename_i hf
                cases e
                obtain ⟨r', hfk, e2⟩ := find_rel (w := w) hkd hk (by rw [Array.length_toList]; exact a2) (fun i a c ha hc => a3 i a c ha (by simpa using hc)) hf
                cases r' with
                | some p => exact e2.elim
                | none =>
                  obtain ⟨w', s1, b1, b2, b3, b4, b5⟩ := run_setObj (P := P) (o := .map (ces.push { key := vk, val := vx, born := cl }) (cl + 1)) a1
                  refine ⟨w', ?_, Goes.writeMap hr hg hB b1 b2 b3 b5 ⟨_, b4, by simp [a2], by rw [ab]; simp, fun i a c ha hc => ?_⟩⟩
                  · simp [Instr.mapUpdate, run_underlying hu, hgo, hck, hfk, s1]
                  · rw [Array.getElem?_push] at hc
                    rw [List.getElem?_append] at ha
                    by_cases hi : i = ces.size
                    · rw [if_pos hi] at hc
                      rw [if_neg (by omega)] at ha
                      cases hc
                      rw [show i - es.length = 0 by omega] at ha
                      simp at ha; subst ha
                      exact ⟨hk, hx⟩
                    · rw [if_neg hi] at hc
                      have hil : i < ces.size := (Array.getElem?_eq_some_iff.1 hc).1
                      rw [if_pos (by omega)] at ha
                      exact a3 i a c ha hc
              · cases e
          · cases e
        · cases e
      · cases e
    · cases e
  · cases e

theorem deleteA_rel {I : Inj} {Z : Zed} {h h' : AH} (hr : Rel I Z h w) {t ty : TypeId} {ts : Array TypeId} (ht : ts[0]? = some t) {m k r : AV} {vm vk : Value} (hm : VRel I Z m vm) (hk : VRel I Z k vk) (e : deleteA P h t m k = some (r, h')) :
    ∃ cv w', (Builtin.delete_ ts ty #[vm, vk]).run P w = .ok cv w' ∧ Goes I Z h w I Z h' w' ∧ VRel I Z r cv := by
  have htup : VRel I Z (.tup []) (.tuple #[]) := .tup rfl (fun j a v h => by simp at h)
  unfold deleteA at e
  split at e
  · rename_i kt el hu
    split at e
    · rename_i kd hkd
      split at e
      · rename_i hko
        have hck : ∀ b, (Instr.checkKey b 10000 kt vk).run P w = .ok () w := fun b => run_checkKey hkd hk hko b 9998
        split at e
        · rename_i id
          split at e
          · rename_i es bs cl hg
            obtain ⟨B, hB, ces, a1, a2, ab, a3⟩ := hr.map id _ hg
            cases hm with
            | m hmm =>
              rw [hB] at hmm; cases hmm
              have hgo : (getObj B.blk).run P w = .ok (.map ces cl) w := by simp [getObj, Sem.run, a1]
              split at e
              · rename_i j a hf
                cases e
                obtain ⟨r', hfk, e2⟩ := find_rel (w := w) hkd hk (by rw [Array.length_toList]; exact a2) (fun i a c ha hc => a3 i a c ha (by simpa using hc)) hf
                cases r' with
                | none => exact e2.elim
                | some p =>
                  obtain ⟨j', cv⟩ := p
                  obtain ⟨rfl, hav, _, ee, cc, h4, h5, h6⟩ := e2
                  simp only [Nat.sub_zero] at h4 h5
                  obtain ⟨w', s1, b1, b2, b3, b4, b5⟩ := run_setObj (P := P) (o := .map (ces.eraseIdxIfInBounds j) cl) a1
                  have hjl : j < ces.size := by have := (List.getElem?_eq_some_iff.1 h5).1; simpa using this
                  have hel : (ces.eraseIdxIfInBounds j).toList = ces.toList.eraseIdx j := by
                    simp [Array.eraseIdxIfInBounds, hjl]
                  refine ⟨.tuple #[], w', ?_, Goes.writeMap hr hg hB b1 b2 b3 b5 ⟨_, b4, ?_, by rw [hel, map_erase, ab], fun i a c ha hc => ?_⟩, htup⟩
                  · simp [Builtin.delete_, ht, run_underlying hu, hgo, hck, hfk, s1]
                  · rw [← Array.length_toList, hel, List.length_eraseIdx, List.length_eraseIdx]; simp [a2]
                  · rw [← Array.getElem?_toList, hel] at hc
                    rw [List.getElem?_eraseIdx] at ha hc
                    split at ha <;> rename_i hlt
                    · rw [if_pos hlt] at hc; exact a3 i a c ha (by simpa using hc)
                    · rw [if_neg hlt] at hc; exact a3 (i + 1) a c ha (by simpa using hc)
              · rename_i hf
                cases e
                obtain ⟨r', hfk, e2⟩ := find_rel (w := w) hkd hk (by rw [Array.length_toList]; exact a2) (fun i a c ha hc => a3 i a c ha (by simpa using hc)) hf
                cases r' with
                | some p => exact e2.elim
                | none =>
                  obtain ⟨w', s1, b1, b2, b3, b4, b5⟩ := run_setObj (P := P) (o := .map ces cl) a1
                  refine ⟨.tuple #[], w', ?_, ?_, htup⟩
                  · simp [Builtin.delete_, ht, run_underlying hu, hgo, hck, hfk, s1]
                  · have hw : w'.heap = w.heap := by
                      apply Array.ext_getElem?
                      intro b
                      by_cases hbb : b = B.blk
                      · subst hbb; rw [b4, a1]
                      · exact b5 b hbb
                    exact Goes.same hr hw b1 b2
              · cases e
          · cases e
        · cases e
      · cases e
    · cases e
  · cases e

theorem rangeA_rel {I : Inj} {Z : Zed} {h h' : AH} (hr : Rel I Z h w) {t : TypeId} {x r : AV} {v : Value} (hv : VRel I Z x v) (e : rangeA P h t x = some (r, h')) :
    ∃ J cv w', (Instr.range t v).run P w = .ok cv w' ∧ Goes I Z h w J Z h' w' ∧ VRel J Z r cv := by
  have go : ∀ (mo : MO) (ob : Obj), MapOk I Z (w.alloc ob) ⟨w.heap.size, 0, 1, 0⟩ mo → (Instr.range t v).run P w = .ok (.pointer (some ⟨w.heap.size, 0, none⟩)) (w.alloc ob) → r = .p (some (h.next, 0)) → h' = h.new (.map mo) →
      ∃ J cv w', (Instr.range t v).run P w = .ok cv w' ∧ Goes I Z h w J Z h' w' ∧ VRel J Z r cv := fun mo ob hok hrun er eh => by
    have hal := Goes.alloc hr (o := .map mo) (ob := ob) (w' := w.alloc ob) (B := ⟨w.heap.size, 0, 1, 0⟩) rfl rfl rfl rfl (fun es cs e => by cases e) (fun es e => by cases e; exact hok)
    subst er; subst eh
    refine ⟨_, _, _, hrun, hal, ?_⟩
    have : VRel (I.put h.next ⟨w.heap.size, 0, 1, 0⟩) Z (.p (some (h.next, 0))) (.pointer (some ⟨(⟨w.heap.size, 0, 1, 0⟩ : BI).blk, (⟨w.heap.size, 0, 1, 0⟩ : BI).d + 0, none⟩)) := .p Inj.put_same
    exact this
  unfold rangeA at e
  split at e
  · rename_i kt el hu
    cases e
    cases hv
    refine go (.it none 0 [] 0) (.mapIter none 0 #[] 0) ⟨rfl, 0, #[], 0, ?_⟩ ?_ rfl rfl
    · show (w.heap.push _)[w.heap.size]? = _; simp
    · simp [Instr.range, run_underlying hu]
  · rename_i kt el m hu
    split at e
    · rename_i es bs c hg
      cases e
      obtain ⟨B, hB, ces, a1, _⟩ := hr.map m _ hg
      cases hv with
      | m hm =>
        rw [hB] at hm; cases hm
        have hgo : (getObj B.blk).run P w = .ok (.map ces c) w := by simp [getObj, Sem.run, a1]
        refine go (.it (some m) c [] c) (.mapIter (some B.blk) c #[] c) ⟨rfl, B, hB, ?_⟩ ?_ rfl rfl
        · show (w.heap.push _)[w.heap.size]? = _; simp
        · simp [Instr.range, run_underlying hu, hgo]
    · cases e
  · cases e

/-- Entries, one by one. -/
inductive ER (I : Inj) (Z : Zed) : List ((AV × AV) × Nat) → List MapEntry → Prop where
  | nil : ER I Z [] []
  | cons {a : (AV × AV) × Nat} {c : MapEntry} {l : List ((AV × AV) × Nat)} {cl : List MapEntry} (h1 : VRel I Z a.1.1 c.key) (h2 : VRel I Z a.1.2 c.val) (h3 : a.2 = c.born) (h : ER I Z l cl) : ER I Z (a :: l) (c :: cl)

theorem ER.of {I : Inj} {Z : Zed} : ∀ {es : List (AV × AV)} {cs : List MapEntry}, es.length = cs.length → (∀ (j : Nat) a c, es[j]? = some a → cs[j]? = some c → VRel I Z a.1 c.key ∧ VRel I Z a.2 c.val) → ER I Z (es.zip (cs.map (·.born))) cs
  | [], [], _, _ => .nil
  | [], _ :: _, h, _ => by cases h
  | _ :: _, [], h, _ => by cases h
  | a :: es, c :: cs, h, hr => by
    obtain ⟨h1, h2⟩ := hr 0 a c rfl rfl
    exact .cons h1 h2 rfl (ER.of (by simpa using h) (fun j a c e1 e2 => hr (j + 1) a c (by simpa using e1) (by simpa using e2)))
theorem ER.filter {I : Inj} {Z : Zed} {l : List ((AV × AV) × Nat)} {cs : List MapEntry} (h : ER I Z l cs) (p : Nat → Bool) : ER I Z (l.filter fun e => p e.2) (cs.filter fun e => p e.born) := by
  induction h with
  | nil => exact .nil
  | cons h1 h2 h3 _ ih =>
    rw [List.filter_cons, List.filter_cons, h3]
    split
    · exact .cons h1 h2 h3 ih
    · exact ih
theorem ER.empty {I : Inj} {Z : Zed} {l : List ((AV × AV) × Nat)} {cs : List MapEntry} (h : ER I Z l cs) : l.isEmpty = cs.isEmpty := by
  cases h <;> rfl
theorem ER.app {I : Inj} {Z : Zed} {l m : List ((AV × AV) × Nat)} {cs ds : List MapEntry} (h : ER I Z l cs) (g : ER I Z m ds) : ER I Z (l ++ m) (cs ++ ds) := by
  induction h with
  | nil => exact g
  | cons h1 h2 h3 _ ih => exact .cons h1 h2 h3 ih
theorem ER.mem {I : Inj} {Z : Zed} {l : List ((AV × AV) × Nat)} {cs : List MapEntry} (h : ER I Z l cs) {c : MapEntry} (hc : c ∈ cs) : ∃ a ∈ l, VRel I Z a.1.1 c.key ∧ VRel I Z a.1.2 c.val ∧ a.2 = c.born := by
  induction h with
  | nil => cases hc
  | cons h1 h2 h3 _ ih =>
    rcases List.mem_cons.1 hc with rfl | hc
    · exact ⟨_, List.mem_cons_self .., h1, h2, h3⟩
    · obtain ⟨a, ha, h⟩ := ih hc
      exact ⟨a, List.mem_cons_of_mem _ ha, h⟩

theorem run_mapNext {n : Nat} (hn : 0 < n) : ∃ i d, i < n ∧ (choose (.mapNext n)).run P w = .ok i { w with drawn := d } := by
  rw [run_choose]
  by_cases h : n ≤ 1
  · exact ⟨0, w.drawn, hn, by simp [Question.forced, h]⟩
  · exact ⟨_, w.drawn + 1, Nat.mod_lt _ hn, by simp [Question.forced, h, Question.cut]; try rfl⟩

/-- What an iterator tells next is one of what it may tell. -/
theorem nextA_rel {I : Inj} {Z : Zed} {h : AH} (hr : Rel I Z h w) {it : AV} {v : Value} {isS : Bool} {l : List (AV × AH)} (hv : VRel I Z it v) (e : nextA h it isS = some l) (ty : TypeId) :
    ∃ r ∈ l, ∃ cv w', (Instr.next v isS ty).run P w = .ok cv w' ∧ Goes I Z h w I Z r.2 w' ∧ VRel I Z r.1 cv := by
  have hover : VRel I Z (.tup [.b false]) (.tuple #[.bool false]) := tup_iff.2 ⟨[.bool false], rfl, .cons (.b _) .nil⟩
  unfold nextA at e
  split at e
  · rename_i k
    split at e
    · rename_i since seen last hg
      cases e
      obtain ⟨B, hB, h0, x, y, z, a1⟩ := hr.map k _ hg
      cases hv with
      | p hp =>
        rw [hB] at hp; cases hp
        have hgo : (getObj B.blk).run P w = .ok (.mapIter none x y z) w := by simp [getObj, Sem.run, a1]
        exact ⟨_, List.mem_singleton.2 rfl, _, w, by simp [Instr.next, h0, hgo], .refl hr, hover⟩
    · rename_i m since seen last hg
      split at e
      · rename_i es bs c hgm
        obtain ⟨B, hB, h0, Bm, hBm, a1⟩ := hr.map k _ hg
        obtain ⟨Bm', hBm', ces, b1, b2, b3, b4⟩ := hr.map m _ hgm
        rw [hBm] at hBm'; cases hBm'
        cases hv with
        | p hp =>
          rw [hB] at hp; cases hp
          have hgo : (getObj B.blk).run P w = .ok (.mapIter (some Bm.blk) since seen.toArray last) w := by simp [getObj, Sem.run, a1]
          have hgm' : (getObj Bm.blk).run P w = .ok (.map ces c) w := by simp [getObj, Sem.run, b1]
          have her : ER I Z (es.zip bs) ces.toList := by rw [b3]; exact ER.of (by simpa using b2) (fun j a c e1 e2 => b4 j a c e1 (by simpa using e2))
          split at e
          · cases e
          · rename_i hun
            have hun' : (!seen.toArray.isEmpty && !ces.isEmpty && ces.all fun x => decide (x.born ≥ last)) = false := by
              have h1 : seen.toArray.isEmpty = seen.isEmpty := by cases seen <;> rfl
              have h2 : ces.isEmpty = es.isEmpty := by
                cases es with
                | nil => have : ces.size = 0 := b2.symm; simp [Array.isEmpty, this]
                | cons a r => have : ces.size ≠ 0 := by rw [← b2]; simp
                              simp [Array.isEmpty, this]
              have h3 : (ces.all fun x => decide (x.born ≥ last)) = bs.all fun b => decide (b ≥ last) := by
                rw [b3, List.all_map, ← Array.all_toList]; rfl
              rw [h1, h2, h3]
              simpa using hun
            cases e
            have hl := her.filter (fun b => !seen.contains b)
            have ho := hl.filter (fun b => decide (b < since))
            have hn := hl.filter (fun b => decide (b ≥ since))
            obtain ⟨old, hold⟩ : ∃ old : Array MapEntry, old = (ces.filter fun e => !seen.toArray.contains e.born).filter fun e => decide (e.born < since) := ⟨_, rfl⟩
            obtain ⟨new, hnew⟩ : ∃ new : Array MapEntry, new = (ces.filter fun e => !seen.toArray.contains e.born).filter fun e => decide (e.born ≥ since) := ⟨_, rfl⟩
            have hcon : ∀ b, seen.toArray.contains b = seen.contains b := fun b => by simp
            have holdl : old.toList = (ces.toList.filter fun e => !seen.contains e.born).filter fun e => decide (e.born < since) := by rw [hold]; simp only [Array.toList_filter, hcon]
            have hnewl : new.toList = (ces.toList.filter fun e => !seen.contains e.born).filter fun e => decide (e.born ≥ since) := by rw [hnew]; simp only [Array.toList_filter, hcon]
            rw [← holdl] at ho
            rw [← hnewl] at hn
            have hoe : old.isEmpty = (((es.zip bs).filter fun e => !seen.contains e.2).filter fun e => decide (e.2 < since)).isEmpty := by rw [ho.empty]; simp
            obtain ⟨cand, hcand⟩ : ∃ cand : Array (Option MapEntry), cand = (if old.isEmpty then #[none] else #[]) ++ (old ++ new).map some := ⟨_, rfl⟩
            have hpos : 0 < cand.size := by
              rw [hcand]
              by_cases hz : old.isEmpty = true
              · rw [if_pos hz]; simp; omega
              · have : 0 < old.size := by
                  rcases Nat.eq_zero_or_pos old.size with h | h
                  · exact absurd (by simp [Array.isEmpty, h]) hz
                  · exact h
                rw [if_neg hz]; simp; omega
            obtain ⟨i, d, hi, hch⟩ := run_mapNext (P := P) (w := w) hpos
            have hrun : (Instr.next (.pointer (some ⟨B.blk, B.d + 0, none⟩)) false ty).run P w = (match cand[i]? with
                | some (some e) => (do setObj B.blk (.mapIter (some Bm.blk) since (seen.toArray.push e.born) c); pure (.tuple #[.bool true, e.key, e.val]) : Sem Value)
                | some none => pure (.tuple #[.bool false])
                | none => stuck "Next: no such candidate").run P { w with drawn := d } := by
              simp only [Instr.next, h0, Nat.zero_add, Sem.run_bind, hgo, Result.andThen_ok, hgm']
              rw [if_neg (by rw [hun']; simp)]
              simp only [Sem.run_bind, Result.andThen_ok, Sem.run_pure, ← hold, ← hnew, ← hcand, hch]
              cases cand[i]? with
              | none => rfl
              | some x => cases x <;> rfl
            have hci : ∃ x, cand[i]? = some x ∧ x ∈ cand := ⟨cand[i], Array.getElem?_eq_getElem hi, Array.getElem_mem hi⟩
            obtain ⟨x, hx, hxm⟩ := hci
            rw [hx] at hrun
            have hdr := Goes.drew hr d
            cases x with
            | none =>
              have hz : old.isEmpty = true := by
                rcases Bool.eq_false_or_eq_true old.isEmpty with h | h
                · exact h
                · exfalso
                  rw [hcand, h] at hxm
                  simp at hxm
              refine ⟨_, List.mem_append_left _ (by rw [if_pos (by rw [← hoe]; exact hz)]; exact List.mem_singleton.2 rfl), _, _, hrun, hdr, hover⟩
            | some e =>
              have hem : e ∈ old.toList ++ new.toList := by
                rw [hcand] at hxm
                rcases Array.mem_append.1 hxm with h | h
                · split at h <;> simp at h
                · simpa using h
              obtain ⟨a, ha, h1, h2, h3⟩ := (ho.app hn).mem hem
              have a1' : ({ w with drawn := d } : World).heap[B.blk]? = some (.mapIter (some Bm.blk) since seen.toArray last) := a1
              obtain ⟨w', s1, c1, c2, c3, c4, c5⟩ := run_setObj (P := P) (o := .mapIter (some Bm.blk) since (seen.toArray.push e.born) c) a1'
              refine ⟨(.tup [.b true, a.1.1, a.1.2], h.set k (.map (.it (some m) since (seen ++ [a.2]) c))), List.mem_append_right _ (List.mem_map.2 ⟨a, ha, rfl⟩), .tuple #[.bool true, e.key, e.val], w', ?_, ?_, ?_⟩
              · rw [hrun]
                simp only [Sem.run_bind, s1, Result.andThen_ok, Sem.run_pure]
              · refine hdr.trans hr (Goes.writeMap hdr.rel hg hB c1 c2 c3 c5 ⟨h0, Bm, hBm, ?_⟩)
                rw [c4, h3]; simp
              · exact tup_iff.2 ⟨[.bool true, e.key, e.val], rfl, .cons (.b _) (.cons h1 (.cons h2 .nil))⟩
      · cases e
    · cases e
  · cases e

theorem ER.find {I : Inj} {Z : Zed} {l : List ((AV × AV) × Nat)} {cs : List MapEntry} (h : ER I Z l cs) {b : Nat} {a : (AV × AV) × Nat} (e : l.find? (fun e => e.2 == b) = some a) : ∃ c, cs.find? (fun c => c.born == b) = some c ∧ VRel I Z a.1.1 c.key ∧ VRel I Z a.1.2 c.val := by
  induction h with
  | nil => cases e
  | cons h1 h2 h3 _ ih =>
    rw [List.find?_cons] at e ⊢
    rw [← h3]
    split at e
    · rename_i hb
      cases e
      exact ⟨_, rfl, h1, h2⟩
    · rename_i hb
      exact ih e

theorem entryA_rel {I : Inj} {Z : Zed} {h : AH} (hr : Rel I Z h w) {it r : AV} {v : Value} (hv : VRel I Z it v) (e : entryA h it = some r) : ∃ cv, (Instr.entry v).run P w = .ok cv w ∧ VRel I Z r cv := by
  unfold entryA at e
  split at e
  · rename_i k
    split at e
    · rename_i m since seen last hg
      split at e
      · rename_i es bs c hgm
        split at e
        · rename_i b hb
          split at e
          · rename_i hc
            subst hc
            split at e
            · rename_i x hx
              cases e
              obtain ⟨B, hB, h0, Bm, hBm, a1⟩ := hr.map k _ hg
              obtain ⟨Bm', hBm', ces, b1, b2, b3, b4⟩ := hr.map m _ hgm
              rw [hBm] at hBm'; cases hBm'
              cases hv with
              | p hp =>
                rw [hB] at hp; cases hp
                have hgo : (getObj B.blk).run P w = .ok (.mapIter (some Bm.blk) since seen.toArray c) w := by simp [getObj, Sem.run, a1]
                have hgm' : (getObj Bm.blk).run P w = .ok (.map ces c) w := by simp [getObj, Sem.run, b1]
                have her : ER I Z (es.zip bs) ces.toList := by rw [b3]; exact ER.of (by simpa using b2) (fun j a c e1 e2 => b4 j a c e1 (by simpa using e2))
                obtain ⟨ce, q1, q2, q3⟩ := her.find hx
                have hbk : seen.toArray.back? = some b := by rw [← Array.getLast?_toList]; exact hb
                have hfd : ces.find? (fun c => c.born == b) = some ce := by rw [← Array.find?_toList]; exact q1
                refine ⟨.tuple #[ce.key, ce.val], ?_, tup_iff.2 ⟨[ce.key, ce.val], rfl, .cons q2 (.cons q3 .nil)⟩⟩
                simp [Instr.entry, h0, hgo, hbk, hgm', hfd]
            · cases e
          · cases e
        · cases e
      · cases e
    · cases e
  · cases e

end run
end
end Go.Av
