/-
  copy, clear, conversions, maps, len, min and max: what the abstract machine says of them, the model does.
-/
import Derived.Test.YtejljkdkhokmoaaGreatDoorAv8
namespace Go.Av
noncomputable section
set_option linter.unusedSectionVars false
variable [Toks]
set_option linter.unusedSimpArgs false
set_option linter.unusedVariables false

section run
variable {P : Program} {w : World}

theorem lenA_rel {I : Inj} {Z : Zed} {h : AH} (hr : Rel I Z h w) {t ty : TypeId} {ts : Array TypeId} (ht : ts[0]? = some t) {x r : AV} {v : Value} (hv : VRel I Z x v) (e : lenA P h t x = some r) :
    ∃ cv, (Builtin.len_ ts ty #[v]).run P w = .ok cv w ∧ VRel I Z r cv := by
  unfold lenA at e
  split at e
  · rename_i hu; cases hv; cases e; exact ⟨_, by simp [Builtin.len_, ht, run_underlying hu]; rfl, .i _ _⟩
  · rename_i hu; cases hv; cases e; exact ⟨_, by simp [Builtin.len_, ht, run_underlying hu]; rfl, .i _ _⟩
  · rename_i hu; cases e; cases hv <;> exact ⟨_, by simp [Builtin.len_, ht, run_underlying hu]; rfl, .i _ _⟩
  · rename_i hu
    cases e
    cases hv with
    | imm hl hz hvv hc => exact ⟨_, by simp [Builtin.len_, ht, run_underlying hu]; rfl, .i _ _⟩
  · rename_i hu
    cases e
    cases hv with
    | own hk hn hc => exact ⟨_, by simp [Builtin.len_, ht, run_underlying hu]; rfl, .i _ _⟩
    | own0 hk hc => exact ⟨_, by simp [Builtin.len_, ht, run_underlying hu]; rfl, .i _ _⟩
  · rename_i hu; cases e; exact ⟨_, by simp [Builtin.len_, ht, run_underlying hu]; rfl, .i _ _⟩
  · rename_i hu; cases hv; cases e; exact ⟨_, by simp [Builtin.len_, ht, run_underlying hu]; rfl, .i _ _⟩
  · rename_i k hu
    split at e
    · rename_i es hg
      cases e
      obtain ⟨B, hB, ces, cl, a1, a2, a3⟩ := hr.map k es hg
      cases hv with
      | m hk =>
        rw [hB] at hk; cases hk
        refine ⟨_, ?_, .i _ _⟩
        rw [a2]
        have hgo : (getObj B.blk).run P w = .ok (.map ces cl) w := by simp [getObj, Sem.run, a1]
        simp [Builtin.len_, ht, run_underlying hu, hgo, goInt]
    · cases e
  · cases e

theorem min2A_rel {I : Inj} {Z : Zed} {x y r : AV} {v u : Value} (hv : VRel I Z x v) (hu : VRel I Z y u) (e : min2A x y = some r) : ∃ cv, (Builtin.min2 v u).run P w = .ok cv w ∧ VRel I Z r cv := by
  unfold min2A at e
  split at e
  · split at e
    · rename_i hk; cases e; cases hv; cases hu; exact ⟨_, by simp [Builtin.min2], .i _ _⟩
    · cases e
  · cases e

theorem max2A_rel {I : Inj} {Z : Zed} {x y r : AV} {v u : Value} (hv : VRel I Z x v) (hu : VRel I Z y u) (e : max2A x y = some r) : ∃ cv, (Builtin.max2 v u).run P w = .ok cv w ∧ VRel I Z r cv := by
  unfold max2A at e
  split at e
  · split at e
    · rename_i hk; cases e; cases hv; cases hu; exact ⟨_, by simp [Builtin.max2], .i _ _⟩
    · cases e
  · cases e

theorem foldA_rel {I : Inj} {Z : Zed} {f : AV → AV → Option AV} {g : Value → Value → Sem Value} (hf : ∀ x y r v u, VRel I Z x v → VRel I Z y u → f x y = some r → ∃ cv, (g v u).run P w = .ok cv w ∧ VRel I Z r cv) :
    ∀ (l : List AV) (vs : List Value) (x r : AV) (v : Value), LRel I Z l vs → VRel I Z x v → foldA f x l = some r → ∃ cv, (vs.foldlM g v).run P w = .ok cv w ∧ VRel I Z r cv := by
  intro l
  induction l with
  | nil => intro vs x r v hL hx e; rw [hL.inv_nil]; simp [foldA] at e; subst e; exact ⟨v, by simp, hx⟩
  | cons y l ih =>
    intro vs x r v hL hx e
    obtain ⟨u, us, rfl, hu, hL'⟩ := hL.inv_cons
    simp only [foldA] at e
    cases h : f x y with
    | none => simp [h] at e
    | some z =>
      simp [h] at e
      obtain ⟨cz, h1, h2⟩ := hf x y z v u hx hu h
      obtain ⟨cv, h3, h4⟩ := ih us z r cz hL' h2 e
      exact ⟨cv, by simp [h1, h3], h4⟩

theorem copyA_rel {I : Inj} {Z : Zed} {h h' : AH} (hr : Rel I Z h w) {ts tx ty : TypeId} {tys : Array TypeId} (h0 : tys[0]? = some ts) {d x r : AV} {v u : Value} (hv : VRel I Z d v) (hu : VRel I Z x u)
    (e : copyA P h ts tx d x = some (r, h')) : ∃ cv w', (Builtin.copy_ tys ty #[v, u]).run P w = .ok cv w' ∧ Goes I Z h w I Z h' w' ∧ VRel I Z r cv := by
  unfold copyA at e
  split at e
  · cases e
  · rename_i el hel
    have hue := elemA_some hel
    split at e
    · cases e
    · rename_i es hes
      obtain ⟨hsz, hpos⟩ := esA_some hes
      have hszr : ∀ w' : World, (sizeOf el).run P w' = .ok es w' := fun w' => run_szA hsz
      split at e
      · cases e
      · rename_i new k hm hnot
        -- what is copied
        have hsrc : ∃ vs, Builtin.lenOf u = (pure k : Sem Nat) ∧ new.length = k * es ∧ LRel I Z new vs ∧ (∀ m, m ≤ k → (Builtin.firstCells es m u).run P w = .ok (vs.take (m * es)).toArray w) := by
          unfold moreA at hm
          split at hm
          · rename_i ik hux
            exact absurd hux (by simpa using hnot ik)
          · rename_i hux
            split at hm
            · split at hm
              · rename_i s h1
                cases hm
                cases hu
                subst h1
                refine ⟨_, rfl, by rw [List.length_map, Nat.mul_one]; rfl, strCells_rel _, fun m hm => ?_⟩
                have hx : ((s.extract 0 m).data.map (fun c : UInt8 => Value.int .u8 c.toNat)) = ((s.data.toList.map fun c => Value.int .u8 c.toNat).take (m * 1)).toArray := by
                  obtain ⟨⟨l⟩⟩ := s
                  rw [ByteArray.extract_mk]
                  apply Array.ext'
                  simp [List.map_take]
                simp only [Builtin.firstCells, hx, Sem.run_pure]
              · cases hm
            · cases hm
          · rename_i el' hux
            split at hm
            · cases hm
              cases hu
              exact ⟨[], rfl, by simp, .nil, fun m _ => by simp [Builtin.firstCells]⟩
            · cases hm
              cases hu with
              | emp0 => exact ⟨[], rfl, by simp, .nil, fun m _ => by simp [Builtin.firstCells]⟩
              | emp1 b o => exact ⟨[], rfl, by simp, .nil, fun m hm => by
                  obtain rfl : m = 0 := by omega
                  simp [Builtin.firstCells, loadCells, loadCellsFrom]⟩
            · rename_i cs n
              split at hm
              · rename_i hl
                cases hm
                obtain ⟨n', vs, e1, e2, e3, e4, e5⟩ := sliceCells_rel (P := P) hr (es := es) hu (cs := new) (by simp [sliceCells, hl])
                have hnn : n' = k := Nat.eq_of_mul_eq_mul_right hpos (by omega)
                subst hnn
                exact ⟨vs, e1, e2, e3, fun m hm => e5 m hm w rfl⟩
              · cases hm
            · rename_i id o n cap
              by_cases hn0 : n = 0
              · subst hn0
                rw [if_pos rfl] at hm
                cases hm
                refine ⟨[], ?_, by simp, .nil, fun m hm => ?_⟩
                · cases hu <;> rfl
                · obtain rfl : m = 0 := by omega
                  cases hu <;> simp [Builtin.firstCells, loadCells, loadCellsFrom]
              rw [if_neg hn0] at hm
              cases hs : sliceCells h es (.own id o n cap) with
              | none => simp [hs] at hm
              | some cs =>
                simp [hs] at hm
                obtain ⟨rfl, rfl⟩ := hm
                obtain ⟨n', vs, e1, e2, e3, e4, e5⟩ := sliceCells_rel (P := P) hr (es := es) hu hs
                have hl2 : cs.length = n * es := by
                  unfold sliceCells at hs
                  dsimp only at hs
                  split at hs
                  · split at hs
                    · exact (takeN_get hs).1
                    · cases hs
                  · cases hs
                have hnn : n' = n := Nat.eq_of_mul_eq_mul_right hpos (by omega)
                subst hnn
                exact ⟨vs, e1, e2, e3, fun m hm => e5 m hm w rfl⟩
            · cases hm
          · cases hm
        obtain ⟨vs, s1, s2, s3, s4⟩ := hsrc
        dsimp only at e
        split at e
        · cases e
          cases hv
          refine ⟨.int .i64 0, w, ?_, .refl hr, .i _ _⟩
          have := s4 0 (Nat.zero_le _)
          simp at this
          simp [Builtin.copy_, h0, run_underlying hue, s1, hszr, this, goInt]
        · cases e
          have := s4 0 (Nat.zero_le _)
          simp at this
          cases hv with
          | emp0 => exact ⟨.int .i64 0, w, by simp [Builtin.copy_, h0, run_underlying hue, s1, hszr, this, goInt], .refl hr, .i _ _⟩
          | emp1 b o => exact ⟨.int .i64 0, w, by simp [Builtin.copy_, h0, run_underlying hue, s1, hszr, this, goInt, storeCells], .refl hr, .i _ _⟩
        · rename_i id o n cap
          cases hp : putCells h id o (new.take (min k n * es)) with
          | none => simp [hp] at e
          | some h2 =>
            simp only [hp, Option.map_some, Option.some.injEq, Prod.mk.injEq] at e
            obtain ⟨rfl, rfl⟩ := e
            have hf := s4 (min k n) (Nat.min_le_left _ _)
            cases hv with
            | @own _ _ _ capC _ B hk hn hc =>
              obtain ⟨w', e1, hg⟩ := putCells_rel (P := P) hr hp (s3.take _) hk
              refine ⟨.int .i64 (min k n : Nat), w', ?_, hg, .i _ _⟩
              simp [Builtin.copy_, h0, run_underlying hue, s1, hszr, hf, e1, goInt]
            | @own0 _ _ off _ B hk hc =>
              have hz : min k 0 * es = 0 := by simp
              rw [hz] at hp hf
              simp only [List.take_zero] at hp hf
              refine ⟨.int .i64 (min k 0 : Nat), w, ?_, putCells_empty hr hp, .i _ _⟩
              simp at hf
              simp [Builtin.copy_, h0, run_underlying hue, s1, hszr, hf, storeCells, goInt]
        · cases e
      · cases e

theorem clearA_rel {I : Inj} {Z : Zed} {h h' : AH} (hr : Rel I Z h w) {t ty : TypeId} {ts : Array TypeId} (ht : ts[0]? = some t) {x r : AV} {v : Value} (hv : VRel I Z x v) (e : clearA P h t x = some (r, h')) :
    ∃ cv w', (Builtin.clear_ ts ty #[v]).run P w = .ok cv w' ∧ Goes I Z h w I Z h' w' ∧ VRel I Z r cv := by
  have htup : VRel I Z (.tup []) (.tuple #[]) := .tup rfl (fun j a v h => by simp at h)
  unfold clearA at e
  split at e
  · rename_i hu
    cases e; cases hv
    exact ⟨.tuple #[], w, by simp [Builtin.clear_, ht, run_underlying hu], .refl hr, htup⟩
  · rename_i el id o n cap hu
    split at e
    · rename_i z es hz hes
      obtain ⟨hsz, hpos⟩ := esA_some hes
      split at e
      · rename_i h0
        cases e
        subst h0
        refine ⟨.tuple #[], w, ?_, .refl hr, htup⟩
        cases hv <;> simp [Builtin.clear_, ht, run_underlying hu]
      · rename_i hn0
        split at e
        · rename_i hc
          cases hp : putCells h id o (repZ z.cells n) with
          | none => simp [hp] at e
          | some h2 =>
            simp only [hp, Option.map_some, Option.some.injEq, Prod.mk.injEq] at e
            obtain ⟨rfl, rfl⟩ := e
            obtain ⟨zv, hzr, hzrel⟩ := zero_rel (I := I) (Z := Z) (w := w) hz
            have hzc := cells_rel hzrel hc.2
            have hzs : zv.cells.size = es := by have := hzc.1; simp at this; omega
            have hrow := zeroRow_rel hzc (by omega) n
            rw [hc.1] at hrow
            have hzz : Builtin.zeroCells zv.cells n = (Array.range (n * es)).map (zv.cells[· % zv.cells.size]!) := by simp only [Builtin.zeroCells, hzs]
            cases hv with
            | @own _ _ _ capC _ B hk hn hcc =>
              obtain ⟨w', e1, hg⟩ := putCells_rel (P := P) hr hp hrow hk
              refine ⟨.tuple #[], w', ?_, hg, htup⟩
              obtain ⟨n, rfl⟩ := Nat.exists_eq_succ_of_ne_zero hn0
              simp only [Builtin.clear_, ht]
              simp [run_underlying hu, hzr]
              rw [hzz, e1]; rfl
            | @own0 _ _ off _ B hk hcc => exact absurd rfl hn0
        · cases e
    · cases e
  · cases e


/-- Keys that are looked at at once. -/
theorem findA_rel {I : Inj} {Z : Zed} {kd : TypeDesc} {k : AV} {ck : Value} (hk : VRel I Z k ck) : ∀ (es : List (AV × AV)) (ces : List MapEntry) (j : Nat) (r : Option (Nat × AV)), es.length = ces.length →
    (∀ (i : Nat) a c, es[i]? = some a → ces[i]? = some c → VRel I Z a.1 c.key ∧ VRel I Z a.2 c.val) → findA kd k es j = some r →
    ∃ r', Instr.findNow kd ck ces j = some r' ∧ match r, r' with
      | none, none => True
      | some (i, a), some (i', v) => i = i' ∧ VRel I Z a v ∧ j ≤ i ∧ ∃ e c, es[i - j]? = some e ∧ ces[i - j]? = some c ∧ sameKey kd k e.1 = some true
      | _, _ => False := by
  intro es
  induction es with
  | nil =>
    intro ces j r hl _ e
    cases ces with
    | nil => simp [findA] at e; subst e; exact ⟨none, rfl, trivial⟩
    | cons _ _ => simp at hl
  | cons x es ih =>
    intro ces j r hl hr e
    cases ces with
    | nil => simp at hl
    | cons c ces =>
      obtain ⟨hxk, hxv⟩ := hr 0 x c rfl rfl
      simp only [findA] at e
      have hsame : ∀ b, sameKey kd k x.1 = some b → Instr.sameNow kd ck c.key = some b := by
        intro b hb
        unfold sameKey at hb
        split at hb
        · rename_i k1 a1 k2 a2 hx1
          split at hb
          · split at hb
            · rename_i hkk
              cases hb
              cases hk
              rw [hx1] at hxk
              cases hcv : c.key <;> rw [hcv] at hxk <;> cases hxk
              simp [Instr.sameNow, hkk]
            · cases hb
          · cases hb
        · rename_i a1 a2 hx1
          split at hb
          · cases hb
            cases hk
            rw [hx1] at hxk
            cases hcv : c.key <;> rw [hcv] at hxk <;> cases hxk
            simp [Instr.sameNow]
          · cases hb
        · cases hb
      split at e
      · rename_i h1
        cases e
        refine ⟨some (j, c.val), by simp [Instr.findNow, hsame _ h1], rfl, hxv, Nat.le_refl _, x, c, by simp, by simp, h1⟩
      · rename_i h1
        obtain ⟨r', e1, e2⟩ := ih ces (j + 1) r (by simpa using hl) (fun i a b ha hb => hr (i + 1) a b (by simpa using ha) (by simpa using hb)) e
        refine ⟨r', by simp [Instr.findNow, hsame _ h1, e1], ?_⟩
        cases r with
        | none => cases r' <;> first | trivial | exact e2.elim
        | some p =>
          obtain ⟨i, a⟩ := p
          cases r' with
          | none => exact e2
          | some p' =>
            obtain ⟨i', v⟩ := p'
            obtain ⟨a1, a2, a3, e', c', a4, a5, a6⟩ := e2
            refine ⟨a1, a2, by omega, e', c', ?_, ?_, a6⟩
            · rw [show i - j = (i - (j + 1)) + 1 by omega, List.getElem?_cons_succ]; exact a4
            · rw [show i - j = (i - (j + 1)) + 1 by omega, List.getElem?_cons_succ]; exact a5
      · cases e

theorem run_checkKey {kt : TypeId} {kd : TypeDesc} (hu : P.underlying kt = some kd) {I : Inj} {Z : Zed} {k : AV} {ck : Value} (hk : VRel I Z k ck) (ho : keyOk kd k = true) (b : Bool) (n : Nat) : (Instr.checkKey b (n + 1) kt ck).run P w = .ok () w := by
  unfold keyOk at ho
  split at ho
  · cases hk; simp [Instr.checkKey, run_underlying hu]
  · cases hk; simp [Instr.checkKey, run_underlying hu]
  · cases ho

theorem run_findKey {kt : TypeId} {kd : TypeDesc} (hu : P.underlying kt = some kd) {ck : Value} {ces : List MapEntry} {r : Option (Nat × Value)} (h : Instr.findNow kd ck ces 0 = some r) : (Instr.findKey kt ck ces).run P w = .ok r w := by
  simp [Instr.findKey, run_underlying hu, h]

theorem lookupA_rel {I : Inj} {Z : Zed} {h : AH} (hr : Rel I Z h w) {t : TypeId} {x ix r : AV} {v iv : Value} {ok : Bool} (hv : VRel I Z x v) (hi : VRel I Z ix iv) (e : lookupA P h t x ix ok = some r) :
    ∃ cv, (Instr.lookup t v iv ok).run P w = .ok cv w ∧ VRel I Z r cv := by
  unfold lookupA at e
  split at e
  · rename_i kt el hu
    split at e
    · rename_i kd z hk hz
      split at e
      · rename_i hko
        obtain ⟨zv, hzr, hzrel⟩ := zero_rel (I := I) (Z := Z) (w := w) hz
        have hck : ∀ b, (Instr.checkKey b 10000 kt iv).run P w = .ok () w := fun b => run_checkKey hk hi hko b 9999
        have hmiss : VRel I Z (if ok = true then .tup [z, .b false] else z) (if ok = true then .tuple #[zv, .bool false] else zv) := by
          cases ok
          · exact hzrel
          · exact tup_iff.2 ⟨[zv, .bool false], rfl, .cons hzrel (.cons (.b _) .nil)⟩
        split at e
        · cases e
          cases hv
          refine ⟨_, ?_, hmiss⟩
          have hf : (Instr.findKey kt iv []).run P w = .ok none w := run_findKey hk rfl
          simp [Instr.lookup, run_underlying hu, hck, hf, hzr]
        · rename_i id
          split at e
          · rename_i es hg
            obtain ⟨B, hB, ces, cl, a1, a2, a3⟩ := hr.map id es hg
            cases hv with
            | m hm =>
              rw [hB] at hm; cases hm
              have hgo : (getObj B.blk).run P w = .ok (.map ces cl) w := by simp [getObj, Sem.run, a1]
              have hfr : ∀ r', findA kd ix es 0 = some r' → _ := fun r' hr' => findA_rel hi es ces.toList 0 r' (by simpa using a2) (fun i a c ha hc => a3 i a c ha (by simpa using hc)) hr'
              split at e
              · rename_i j a hf
                cases e
                obtain ⟨r', e1, e2⟩ := hfr _ hf
                cases r' with
                | none => exact e2.elim
                | some p =>
                  obtain ⟨j', cv⟩ := p
                  obtain ⟨_, hav, _⟩ := e2
                  refine ⟨if ok = true then .tuple #[cv, .bool true] else cv, ?_, ?_⟩
                  · have hfk := run_findKey (w := w) hk e1
                    simp [Instr.lookup, run_underlying hu, hgo, hck, hfk]
                  · cases ok
                    · exact hav
                    · exact tup_iff.2 ⟨[cv, .bool true], rfl, .cons hav (.cons (.b _) .nil)⟩
              · rename_i hf
                cases e
                obtain ⟨r', e1, e2⟩ := hfr _ hf
                cases r' with
                | some p => exact e2.elim
                | none =>
                  refine ⟨_, ?_, hmiss⟩
                  have hfk := run_findKey (w := w) hk e1
                  simp [Instr.lookup, run_underlying hu, hgo, hck, hfk, hzr]
              · cases e
          · cases e
        · cases e
      · cases e
    · cases e
  · cases e

theorem run_setObj {b : Nat} {ces : Array MapEntry} {cl : Nat} {o : Obj} (h : w.heap[b]? = some (.map ces cl)) :
    ∃ w', (setObj b o).run P w = .ok () w' ∧ w'.os = w.os ∧ w'.output = w.output ∧ w'.heap.size = w.heap.size ∧ w'.heap[b]? = some o ∧ ∀ b', b' ≠ b → w'.heap[b']? = w.heap[b']? := by
  have hb : b < w.heap.size := by
    rcases Nat.lt_or_ge b w.heap.size with x | x
    · exact x
    · rw [Array.getElem?_eq_none x] at h; cases h
  refine ⟨{ w with heap := w.heap.setIfInBounds b o }, by simp [setObj, Sem.run, h], rfl, rfl, by simp, by simp [hb], fun b' hne => ?_⟩
  simp only [Array.getElem?_setIfInBounds]
  rw [if_neg (fun e => hne e.symm)]

theorem same_bits {kd : TypeDesc} {k a : AV} {ck ca : Value} {I : Inj} {Z : Zed} (h1 : VRel I Z k ck) (h2 : VRel I Z a ca) (e : sameKey kd k a = some true) : Instr.sameBits 10000 ca ck = true := by
  unfold sameKey at e
  split at e
  · split at e
    · split at e
      · rename_i hk
        cases h1; cases h2
        subst hk
        simp only [Option.some.injEq, beq_iff_eq] at e
        subst e
        simp [Instr.sameBits]
      · cases e
    · cases e
  · split at e
    · cases h1; cases h2
      rw [Option.some.injEq, beq_toListBytes] at e
      have e' := eq_of_beq e
      simp [Instr.sameBits, beq_toListBytes, e']
    · cases e
  · cases e

theorem mapUpdateA_rel {I : Inj} {Z : Zed} {h h' : AH} (hr : Rel I Z h w) {t : TypeId} {m k x : AV} {vm vk vx : Value} (hm : VRel I Z m vm) (hk : VRel I Z k vk) (hx : VRel I Z x vx) (e : mapUpdateA P h t m k x = some h') :
    ∃ w', (Instr.mapUpdate t vm vk vx).run P w = .ok () w' ∧ Goes I Z h w I Z h' w' := by
  unfold mapUpdateA at e
  split at e
  · rename_i kt el hu
    split at e
    · rename_i kd hkd
      split at e
      · rename_i hko
        have hck : ∀ b, (Instr.checkKey b 10000 kt vk).run P w = .ok () w := fun b => run_checkKey hkd hk hko b 9999
        split at e
        · rename_i id
          split at e
          · rename_i es hg
            obtain ⟨B, hB, ces, cl, a1, a2, a3⟩ := hr.map id es hg
            cases hm with
            | m hmm =>
              rw [hB] at hmm; cases hmm
              have hgo : (getObj B.blk).run P w = .ok (.map ces cl) w := by simp [getObj, Sem.run, a1]
              split at e
              · rename_i j a hf
                cases e
                obtain ⟨r', e1, e2⟩ := findA_rel hk es ces.toList 0 _ (by simpa using a2) (fun i a c ha hc => a3 i a c ha (by simpa using hc)) hf
                cases r' with
                | none => exact e2.elim
                | some p =>
                  obtain ⟨j', cv⟩ := p
                  obtain ⟨rfl, hav, _, ee, cc, h4, h5, h6⟩ := e2
                  simp only [Nat.sub_zero] at h4 h5
                  have h5' : ces[j]? = some cc := by simpa using h5
                  have hkk := (a3 j ee cc h4 h5').1
                  have hsb := same_bits hk hkk h6
                  obtain ⟨w', s1, b1, b2, b3, b4, b5⟩ := run_setObj (P := P) (o := .map (ces.modify j fun e => { e with key := vk, val := vx }) cl) a1
                  refine ⟨w', ?_, Goes.writeMap hr hg hB b1 b2 b3 b5 ⟨_, cl, b4, by simpa using a2, fun i a c ha hc => ?_⟩⟩
                  · have hfk := run_findKey (w := w) hkd e1
                    simp [Instr.mapUpdate, run_underlying hu, hgo, hck, hfk, h5', Instr.keyThatStays, hsb, s1]
                  · rw [List.getElem?_set] at ha
                    rw [Array.getElem?_modify] at hc
                    by_cases hji : j = i
                    · subst hji
                      rw [if_pos rfl] at ha hc
                      split at ha
                      · cases ha
                        rw [h5'] at hc
                        simp at hc
                        subst hc
                        exact ⟨hk, hx⟩
                      · cases ha
                    · rw [if_neg hji] at ha hc
                      exact a3 i a c ha hc
              · rename_i hf
                cases e
                obtain ⟨r', e1, e2⟩ := findA_rel hk es ces.toList 0 _ (by simpa using a2) (fun i a c ha hc => a3 i a c ha (by simpa using hc)) hf
                cases r' with
                | some p => exact e2.elim
                | none =>
                  obtain ⟨w', s1, b1, b2, b3, b4, b5⟩ := run_setObj (P := P) (o := .map (ces.push { key := vk, val := vx, born := cl }) (cl + 1)) a1
                  refine ⟨w', ?_, Goes.writeMap hr hg hB b1 b2 b3 b5 ⟨_, cl + 1, b4, by simp [a2], fun i a c ha hc => ?_⟩⟩
                  · have hfk := run_findKey (w := w) hkd e1
                    simp [Instr.mapUpdate, run_underlying hu, hgo, hck, hfk, s1]
                  · rw [Array.getElem?_push] at hc
                    rw [List.getElem?_append] at ha
                    by_cases hi : i = ces.size
                    · rw [if_pos hi] at hc
                      rw [if_neg (by omega)] at ha
                      cases hc
                      rw [show i - es.length = 0 by omega] at ha
                      simp at ha; subst ha
                      exact ⟨hk, hx⟩
                    · rw [if_neg hi] at hc
                      have hil : i < ces.size := (Array.getElem?_eq_some_iff.1 hc).1
                      rw [if_pos (by omega)] at ha
                      exact a3 i a c ha hc
              · cases e
          · cases e
        · cases e
      · cases e
    · cases e
  · cases e

theorem deleteA_rel {I : Inj} {Z : Zed} {h h' : AH} (hr : Rel I Z h w) {t ty : TypeId} {ts : Array TypeId} (ht : ts[0]? = some t) {m k r : AV} {vm vk : Value} (hm : VRel I Z m vm) (hk : VRel I Z k vk) (e : deleteA P h t m k = some (r, h')) :
    ∃ cv w', (Builtin.delete_ ts ty #[vm, vk]).run P w = .ok cv w' ∧ Goes I Z h w I Z h' w' ∧ VRel I Z r cv := by
  have htup : VRel I Z (.tup []) (.tuple #[]) := .tup rfl (fun j a v h => by simp at h)
  unfold deleteA at e
  split at e
  · rename_i kt el hu
    split at e
    · rename_i kd hkd
      split at e
      · rename_i hko
        have hck : ∀ b, (Instr.checkKey b 10000 kt vk).run P w = .ok () w := fun b => run_checkKey hkd hk hko b 9999
        split at e
        · rename_i id
          split at e
          · rename_i es hg
            obtain ⟨B, hB, ces, cl, a1, a2, a3⟩ := hr.map id es hg
            cases hm with
            | m hmm =>
              rw [hB] at hmm; cases hmm
              have hgo : (getObj B.blk).run P w = .ok (.map ces cl) w := by simp [getObj, Sem.run, a1]
              split at e
              · rename_i j a hf
                cases e
                obtain ⟨r', e1, e2⟩ := findA_rel hk es ces.toList 0 _ (by simpa using a2) (fun i a c ha hc => a3 i a c ha (by simpa using hc)) hf
                cases r' with
                | none => exact e2.elim
                | some p =>
                  obtain ⟨j', cv⟩ := p
                  obtain ⟨rfl, hav, _, ee, cc, h4, h5, h6⟩ := e2
                  simp only [Nat.sub_zero] at h4 h5
                  obtain ⟨w', s1, b1, b2, b3, b4, b5⟩ := run_setObj (P := P) (o := .map (ces.eraseIdxIfInBounds j) cl) a1
                  have hjl : j < ces.size := by have := (List.getElem?_eq_some_iff.1 h5).1; simpa using this
                  have hel : (ces.eraseIdxIfInBounds j).toList = ces.toList.eraseIdx j := by
                    simp [Array.eraseIdxIfInBounds, hjl]
                  refine ⟨.tuple #[], w', ?_, Goes.writeMap hr hg hB b1 b2 b3 b5 ⟨_, cl, b4, ?_, fun i a c ha hc => ?_⟩, htup⟩
                  · have hfk := run_findKey (w := w) hkd e1
                    simp [Builtin.delete_, ht, run_underlying hu, hgo, hck, hfk, s1]
                  · rw [← Array.length_toList, hel, List.length_eraseIdx, List.length_eraseIdx]; simp [a2]
                  · rw [← Array.getElem?_toList, hel] at hc
                    rw [List.getElem?_eraseIdx] at ha hc
                    split at ha <;> rename_i hlt
                    · rw [if_pos hlt] at hc; exact a3 i a c ha (by simpa using hc)
                    · rw [if_neg hlt] at hc; exact a3 (i + 1) a c ha (by simpa using hc)
              · rename_i hf
                cases e
                obtain ⟨r', e1, e2⟩ := findA_rel hk es ces.toList 0 _ (by simpa using a2) (fun i a c ha hc => a3 i a c ha (by simpa using hc)) hf
                cases r' with
                | some p => exact e2.elim
                | none =>
                  obtain ⟨w', s1, b1, b2, b3, b4, b5⟩ := run_setObj (P := P) (o := .map ces cl) a1
                  have hsame := Goes.writeMap hr hg hB b1 b2 b3 b5 ⟨_, cl, b4, a2, a3⟩
                  have hset : h.set id (.map es) = h ∨ True := .inr trivial
                  refine ⟨.tuple #[], w', ?_, ?_, htup⟩
                  · have hfk := run_findKey (w := w) hkd e1
                    simp [Builtin.delete_, ht, run_underlying hu, hgo, hck, hfk, s1]
                  · have hw : w'.heap = w.heap := by
                      apply Array.ext_getElem?
                      intro b
                      by_cases hbb : b = B.blk
                      · subst hbb; rw [b4, a1]
                      · exact b5 b hbb
                    exact Goes.same hr hw b1 b2
              · cases e
          · cases e
        · cases e
      · cases e
    · cases e
  · cases e

end run
end
end Go.Av
