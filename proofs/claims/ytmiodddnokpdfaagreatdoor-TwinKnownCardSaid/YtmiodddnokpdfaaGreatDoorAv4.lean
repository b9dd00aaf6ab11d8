/-
  The operations that change no memory: what the abstract machine says of them, the model does.
-/
import Derived.Test.YtmiodddnokpdfaaGreatDoorAv3
import Derived.Laws.Cells
import Derived.Laws.Append
namespace Go.Av
noncomputable section
set_option linter.unusedSectionVars false
variable [Toks]

mutual
theorem ofV_rel (I : Inj) (Z : Zed) : (v : Value) → VRel I Z (ofV v) v
  | .bool b => .b b
  | .int k n => .i k n
  | .float k x => .f k x x (.inl rfl)
  | .complex _ _ _ => .any _
  | .string s => .s s
  | .pointer none => .pn
  | .pointer (some _) => .any _
  | .slice none 0 0 => .nsl
  | .slice none 0 (_ + 1) => .any _
  | .slice none (_ + 1) _ => .any _
  | .slice (some _) _ _ => .any _
  | .map none => .mn
  | .map (some _) => .any _
  | .chan _ => .any _
  | .nilFunc => .nfn
  | .nilIface => .nif
  | .agg cs => by
    have := ofVA_rel I Z cs
    unfold ofV
    exact .agg (by simpa using this.1) fun j a v e1 e2 => this.2 j a v e1 (by simpa using e2)
  | .tuple cs => by
    have := ofVA_rel I Z cs
    unfold ofV
    exact .tup (by simpa using this.1) fun j a v e1 e2 => this.2 j a v e1 (by simpa using e2)
  | .func g x c => by
    have h1 := ofVA_rel I Z x
    have h2 := ofVA_rel I Z c
    unfold ofV
    exact .fn (by simpa using h1.1) (fun j a v e1 e2 => h1.2 j a v e1 (by simpa using e2)) (by simpa using h2.1) (fun j a v e1 e2 => h2.2 j a v e1 (by simpa using e2))
  | .iface t v => by
    unfold ofV
    exact .ifc (ofV_rel I Z v)
theorem ofVA_rel (I : Inj) (Z : Zed) : (cs : Array Value) → LRel I Z (ofVA cs) cs.toList
  | ⟨l⟩ => by unfold ofVA; exact ofVL_rel I Z l
theorem ofVL_rel (I : Inj) (Z : Zed) : (l : List Value) → LRel I Z (ofVL l) l
  | [] => by unfold ofVL; exact .nil
  | v :: r => by unfold ofVL; exact .cons (ofV_rel I Z v) (ofVL_rel I Z r)
end

/-- The known package variables lie where they are said to. -/
def Glob (I : Inj) (Z : Zed) (E : Env) : Prop := ∀ g cs, E.glob g = some cs → ∃ vs : List Value, LRel I Z cs vs ∧ ∀ (j : Nat) v, vs[j]? = some v → Z g j = some v

theorem Glob.mono {I J : Inj} {Z Y : Zed} {E : Env} (hI : I.le J) (hZ : Z.le Y) (h : Glob I Z E) : Glob J Y E := fun g cs e =>
  let ⟨vs, a, b⟩ := h g cs e; ⟨vs, a.mono hI hZ, fun j v e => hZ _ _ _ (b j v e)⟩

theorem evA_rel {I : Inj} {Z : Zed} {E : Env} (hg : Glob I Z E) {t : List AV} {a : Act} (ht : LRel I Z t a.tmps.toList) (o : Operand) : VRel I Z (evA E t o) (a.eval o) := by
  cases o with
  | tmp i =>
    simp only [evA, Act.eval]
    cases e : t[i]? with
    | none =>
      have hl : t.length ≤ i := List.getElem?_eq_none_iff.1 e
      have h2 : a.tmps.size ≤ i := by have := ht.1; simp at this; omega
      simp only [List.getD_eq_getElem?_getD, e, Option.getD_none, Array.getD, undefA]
      rw [dif_neg (by omega)]
      exact .tup rfl (fun j a v h => by simp at h)
    | some x =>
      obtain ⟨y, hy, hr⟩ := ht.get e
      have hi : i < a.tmps.size := by
        have := (List.getElem?_eq_some_iff.1 hy).1; simpa using this
      simp only [List.getD_eq_getElem?_getD, e, Option.getD_some, Array.getD]
      rw [dif_pos hi]
      have : y = a.tmps[i] := by
        have h := (List.getElem?_eq_some_iff.1 hy).2; simpa using h.symm
      simpa [this] using hr
  | const v => exact ofV_rel I Z v
  | global g =>
    simp only [evA, Act.eval]
    cases e : E.glob g with
    | none => exact .any _
    | some cs =>
      obtain ⟨vs, h1, h2⟩ := hg g cs e
      have := VRel.ip (I := I) (Z := Z) (o := 0) (blk := g) (base := 0) h1.1.symm (fun j v e => by simpa using h2 j v e) h1.2
      simpa using this
  | func f => exact .fn rfl (fun j a v h => by simp at h) rfl (fun j a v h => by simp at h)

/-- A value's cells. -/
theorem cells_rel {I : Inj} {Z : Zed} {a : AV} {v : Value} (h : VRel I Z a v) (hn : a.cells.all AV.one = true) : LRel I Z a.cells v.cells.toList := by
  have one : ∀ (a : AV) (v : Value), VRel I Z a v → LRel I Z [a] [v] := fun a v h => .cons h .nil
  cases h with
  | agg hl hv => exact ⟨by simpa [AV.cells, Value.cells] using hl, fun j x y e1 e2 => hv j x y (by simpa [AV.cells] using e1) (by simpa [Value.cells] using e2)⟩
  | any v => simp [AV.cells, AV.one] at hn
  | b x => exact one _ _ (.b x)
  | i k n => exact one _ _ (.i k n)
  | f k x y h => exact one _ _ (.f k x y h)
  | s x => exact one _ _ (.s x)
  | pn => exact one _ _ .pn
  | p h => exact one _ _ (.p h)
  | ip hl hz hv => exact one _ _ (.ip hl hz hv)
  | nsl => exact one _ _ .nsl
  | emp0 => exact one _ _ .emp0
  | emp1 b o => exact one _ _ (.emp1 b o)
  | imm hl hz hv hc => exact one _ _ (.imm hl hz hv hc)
  | own h hn2 hc => exact one _ _ (.own h hn2 hc)
  | own0 h hc => exact one _ _ (.own0 h hc)
  | mn => exact one _ _ .mn
  | m h => exact one _ _ (.m h)
  | fn hx hxv hc hcv => exact one _ _ (.fn hx hxv hc hcv)
  | nfn => exact one _ _ .nfn
  | ifc h => exact one _ _ (.ifc h)
  | nif => exact one _ _ .nif
  | tup hl hv => simp [AV.cells, AV.one] at hn
  | unkb b => exact one _ _ (.unkb b)
  | ui k n => exact one _ _ (.ui k n)
  | uf k n => exact one _ _ (.uf k n)
  | ig k m n h => exact one _ _ (.ig k m n h)
  | junk v h =>
    have : v.cells.toList = [v] := by cases v <;> first | rfl | cases h
    rw [this]; exact one _ _ (.junk v h)
  | tok n v h => rcases Toks.scalar n with ⟨k, m, e⟩ | ⟨k, b, e⟩ | ⟨b, e⟩ <;> (rw [e] at h; subst h; exact one _ _ (.tok n _ e))

/-- What may lie in one cell does so in the model too. -/
theorem one_rel {I : Inj} {Z : Zed} {a : AV} {v : Value} (h : VRel I Z a v) (hn : a.one = true) : v.oneCell' = true := by
  cases h <;> first | rfl | assumption | (simp [AV.one] at hn; done) | (rename_i n h; rcases Toks.scalar n with ⟨k, m, e⟩ | ⟨k, b, e⟩ | ⟨b, e⟩ <;> (rw [e] at h; subst h; rfl))

section run
variable {P : Program} {w : World}

theorem run_szA {t : TypeId} {n : Nat} (h : szA P t = some n) : (sizeOf t).run P w = .ok n w := by
  unfold szA at h
  cases e : P.info? t with
  | none => simp [e] at h
  | some i => simp [e] at h; simp [sizeOf, typeInfo, e, h]

theorem run_bytesA {t : TypeId} {n : Nat} (h : bytesA P t = some n) : ∃ i, (typeInfo t).run P w = .ok i w ∧ i.bytes = n := by
  unfold bytesA at h
  cases e : P.info? t with
  | none => simp [e] at h
  | some i => simp [e] at h; exact ⟨i, by simp [typeInfo, e], h⟩

theorem run_zeroA {t : TypeId} {z : AV} (h : zeroA P t = some z) : ∃ v, (zeroValue t).run P w = .ok v w ∧ z = ofV v := by
  unfold zeroA at h
  cases e : P.info? t with
  | none => simp [e] at h
  | some i =>
    simp only [e, Option.bind_some] at h
    cases e2 : i.zero with
    | none => simp [e2] at h
    | some v => simp [e2] at h; exact ⟨v, by simp [zeroValue, typeInfo, e, e2], h.symm⟩

theorem run_isAggA {t : TypeId} {b : Bool} (h : isAggA P t = some b) : (isAgg t).run P w = .ok b w := by
  unfold isAggA at h
  cases e : P.underlying t with
  | none => simp [e] at h
  | some d =>
    simp only [e, Option.map_some, Option.some.injEq] at h
    simp only [isAgg, Sem.run_bind, run_underlying e, Result.andThen_ok]
    subst h
    cases d <;> rfl

theorem takeN_some {α : Type} {cs r : List α} {o n : Nat} (h : takeN cs o n = some r) : r = (cs.drop o).take n ∧ r.length = n ∧ o + n ≤ cs.length ∨ (n = 0 ∧ r = []) := by
  unfold takeN at h
  dsimp only at h
  split at h
  · cases h
    rename_i hl
    by_cases h0 : n = 0
    · right; subst h0; simp
    · left
      refine ⟨rfl, hl, ?_⟩
      simp at hl; omega
  · cases h

theorem takeN_get {α : Type} {cs r : List α} {o n : Nat} (h : takeN cs o n = some r) : r.length = n ∧ ∀ j, j < n → r[j]? = cs[o + j]? := by
  unfold takeN at h
  dsimp only at h
  split at h
  · cases h
    rename_i hl
    refine ⟨hl, fun j hj => ?_⟩
    rw [List.getElem?_take, if_pos hj, List.getElem?_drop]
  · cases h

theorem addr_add (b o j : Nat) : (⟨b, o, none⟩ : Addr).add j = ⟨b, o + j, none⟩ := by
  unfold Addr.add; split <;> simp_all

/-- Cells at an address. -/
theorem cellsAt_rel {I : Inj} {Z : Zed} {h : AH} (hr : Rel I Z h w) {a : AV} {v : Value} (hv : VRel I Z a v) {n : Nat} {cs : List AV} (e : cellsAt h a n = some cs) :
    ∃ b o vs, v = .pointer (some ⟨b, o, none⟩) ∧ cs.length = n ∧ LRel I Z cs vs ∧ ∀ (j : Nat) x, vs[j]? = some x → w.cell? ⟨b, o + j, none⟩ = some x := by
  unfold cellsAt at e
  split at e
  · rename_i k o
    cases hv with
    | p hk =>
      rename_i B
      split at e
      · rename_i es cs0 hg
        obtain ⟨B', hB', _, arr, t, fr, h1, h2, h3, h4, h5⟩ := hr.cells k es cs0 hg
        rw [hk] at hB'; cases hB'
        obtain ⟨hl, hget⟩ := takeN_get e
        have hex : ∀ j, j < n → ∃ v, arr[B.d + o + j]? = some v := fun j hj => by
          have := hget j hj
          rw [List.getElem?_eq_getElem (by omega)] at this
          obtain ⟨_, v, hv, _⟩ := h4 (o + j) _ this.symm
          exact ⟨v, by rw [show B.d + o + j = B.d + (o + j) by omega]; exact hv⟩
        refine ⟨B.blk, B.d + o, (List.range n).map fun j => (arr[B.d + o + j]?).getD undef, rfl, hl, ⟨by simp [hl], fun j a v ea ev => ?_⟩, fun j x ex => ?_⟩
        · have hj : j < n := by have := (List.getElem?_eq_some_iff.1 ea).1; omega
          have := hget j hj
          rw [ea] at this
          obtain ⟨_, v', hv', hrel⟩ := h4 (o + j) a this.symm
          simp [List.getElem?_map, List.getElem?_range hj] at ev
          rw [show B.d + o + j = B.d + (o + j) by omega, hv'] at ev
          simp at ev; subst ev; exact hrel
        · have hj : j < n := by have := (List.getElem?_eq_some_iff.1 ex).1; simpa using this
          obtain ⟨v, hv⟩ := hex j hj
          simp [List.getElem?_map, List.getElem?_range hj, hv] at ex
          subst ex
          simp [World.cell?, h1, hv]
      · cases e
  · rename_i cs0 o
    cases hv with
    | ip hl hz hv =>
      rename_i vs blk base
      obtain ⟨hl', hget⟩ := takeN_get e
      have hLR : LRel I Z cs0 vs := ⟨hl.symm, hv⟩
      unfold takeN at e; dsimp only at e; split at e
      · cases e
        refine ⟨blk, base + o, (vs.drop o).take n, rfl, hl', (hLR.drop o).take n, fun j x ex => ?_⟩
        rw [List.getElem?_take] at ex
        split at ex
        · rw [List.getElem?_drop] at ex
          have := (hr.zed _ _ _ (hz (o + j) x ex)).1
          rwa [show base + o + j = base + (o + j) by omega]
        · cases ex
      · cases e
  · cases e

theorem cell_load {b o : Nat} {v : Value} (h : w.cell? ⟨b, o, none⟩ = some v) : (load ⟨b, o, none⟩).run P w = .ok v w := by simp [h]

theorem loadA_rel {I : Inj} {Z : Zed} {h : AH} (hr : Rel I Z h w) {a : AV} {v : Value} (hv : VRel I Z a v) {t : TypeId} {r : AV} (e : loadA P h t a = some r) :
    ∃ cv, (Instr.loadAt t v).run P w = .ok cv w ∧ VRel I Z r cv := by
  unfold loadA at e
  split at e
  · rename_i n ha hn
    cases e1 : cellsAt h a n with
    | none => simp [e1] at e
    | some cs =>
      simp [e1] at e; subst e
      obtain ⟨b, o, vs, rfl, hl, hL, hc⟩ := cellsAt_rel hr hv e1
      refine ⟨.agg vs.toArray, ?_, agg_iff.2 ⟨vs, rfl, hL⟩⟩
      have hlen : n = vs.length := by rw [← hl]; exact hL.1
      have hlc := run_loadCells_list (P := P) w ⟨b, o, none⟩ vs (fun j x ex => by rw [addr_add]; exact hc j x ex)
      simp only [Instr.loadAt, Instr.sureAddr, loadVar, Sem.run_bind, Sem.run_pure, Result.andThen_ok, run_isAggA ha, if_true, run_szA hn]
      rw [hlen, hlc]; rfl
  · rename_i n ha hn
    split at e
    · rename_i x e1
      cases e
      obtain ⟨b, o, vs, rfl, hl, hL, hc⟩ := cellsAt_rel hr hv e1
      obtain ⟨y, r', rfl, hy, hr'⟩ := hL.inv_cons
      refine ⟨y, ?_, hy⟩
      have := hc 0 y rfl
      simp only [Nat.add_zero] at this
      simp only [Instr.loadAt, Instr.sureAddr, loadVar, Sem.run_bind, Sem.run_pure, Result.andThen_ok, run_isAggA ha, Bool.false_eq_true, if_false]
      exact cell_load this
    · cases e
  · cases e

theorem partA_rel {I : Inj} {Z : Zed} {cs : List AV} {vs : List Value} (hL : LRel I Z cs vs) {t : TypeId} {off : Nat} {r : AV} (e : partA P t cs off = some r) :
    ∃ cv, (part t vs.toArray off).run P w = .ok cv w ∧ VRel I Z r cv := by
  unfold partA at e
  split at e
  · rename_i n ha hn
    cases e1 : takeN cs off n with
    | none => simp [e1] at e
    | some x =>
      simp [e1] at e; subst e
      have : x = (cs.drop off).take n := by
        unfold takeN at e1; dsimp only at e1; split at e1
        · cases e1; rfl
        · cases e1
      refine ⟨.agg ((vs.drop off).take n).toArray, ?_, agg_iff.2 ⟨_, rfl, this ▸ (hL.drop off).take n⟩⟩
      simp only [part, Sem.run_bind, run_isAggA ha, Result.andThen_ok, if_true, run_szA hn, Sem.run_pure, Result.ok.injEq, Value.agg.injEq, and_true]
      apply Array.ext'
      simp [List.extract_eq_take_drop]
  · rename_i n ha hn
    obtain ⟨y, hy, hyr⟩ := hL.get e
    exact ⟨y, by simp [part, run_isAggA ha, hy], hyr⟩
  · cases e

theorem fieldA_rel {I : Inj} {Z : Zed} {x : AV} {v : Value} (hv : VRel I Z x v) {t : TypeId} {j : Nat} {r : AV} (e : fieldA P t x j = some r) :
    ∃ cv, (Instr.field t v j).run P w = .ok cv w ∧ VRel I Z r cv := by
  unfold fieldA at e
  split at e
  · rename_i fs cs hu
    cases hf : fs[j]? with
    | none => simp [hf] at e
    | some f =>
      simp [hf] at e
      obtain ⟨vs, rfl, hL⟩ := agg_iff.1 hv
      obtain ⟨cv, h1, h2⟩ := partA_rel (w := w) hL e
      exact ⟨cv, by simp [Instr.field, run_underlying hu, hf, asAgg, h1], h2⟩
  · cases e

theorem intA_rel {I : Inj} {Z : Zed} {x : AV} {v : Value} (hv : VRel I Z x v) {n : Int} (e : intA x = some n) : ∃ k, v = .int k n ∧ x = .i k n := by
  unfold intA at e
  split at e
  · cases e; cases hv; exact ⟨_, rfl, rfl⟩
  · cases e

theorem fieldAddrA_rel {I : Inj} {Z : Zed} {x : AV} {v : Value} (hv : VRel I Z x v) {t : TypeId} {j : Nat} {r : AV} (e : fieldAddrA P t x j = some r) :
    ∃ cv, (Instr.fieldAt t v j).run P w = .ok cv w ∧ VRel I Z r cv := by
  unfold fieldAddrA at e
  split at e
  · rename_i fs hu
    split at e
    · rename_i f hf
      split at e
      · cases e
      · rename_i hsz
        have hsz' : ∃ n, szA P f.type = some n ∧ n ≠ 0 := by
          cases e3 : szA P f.type with
          | none => simp [e3] at hsz
          | some n => exact ⟨n, rfl, fun h0 => hsz (.inl (by rw [e3, h0]))⟩
        obtain ⟨n, hn, hn0⟩ := hsz'
        have hplace : ∀ b o, (fieldPlace ⟨b, o, none⟩ f).run P w = .ok ⟨b, o + f.offset, none⟩ w := fun b o => by
          simp [fieldPlace, run_szA hn, hn0, addr_add]
        split at e
        · cases e
          cases hv with
          | p hk =>
            rename_i B
            refine ⟨.pointer (some ⟨B.blk, B.d + _ + f.offset, none⟩), ?_, by rw [Nat.add_assoc]; exact .p hk⟩
            simp [Instr.fieldAt, run_underlying hu, hf, Instr.sureAddr, hplace]
        · cases e
          cases hv with
          | ip hl hz hvv =>
            rename_i vs blk base
            refine ⟨.pointer (some ⟨blk, base + _ + f.offset, none⟩), ?_, by rw [Nat.add_assoc]; exact .ip hl hz hvv⟩
            simp [Instr.fieldAt, run_underlying hu, hf, Instr.sureAddr, hplace]
        · cases e
    · cases e
  · cases e

theorem indexAddrA_rel {I : Inj} {Z : Zed} {x ix : AV} {v iv : Value} (hv : VRel I Z x v) (hi : VRel I Z ix iv) {t : TypeId} {r : AV} (e : indexAddrA P t x ix = some r) :
    ∃ cv, (Instr.indexAt t v iv).run P w = .ok cv w ∧ VRel I Z r cv := by
  unfold indexAddrA at e
  split at e
  · rename_i el j hu hj
    obtain ⟨k, rfl, rfl⟩ := intA_rel hi hj
    split at e
    · rename_i es cs n hes
      split at e
      · rename_i hb
        cases e
        cases hv with
        | imm hl hz hvv hc =>
          rename_i vs blk base cap
          refine ⟨.pointer (some ⟨blk, base + j.toNat * es, none⟩), ?_, .ip hl hz hvv⟩
          simp [Instr.indexAt, asIntOf, run_underlying hu, hb, run_szA hes, addr_add]
      · cases e
    · rename_i es k' o n cap hes
      split at e
      · rename_i hb
        cases e
        cases hv with
        | own hk hn hc =>
          rename_i capC B
          refine ⟨.pointer (some ⟨B.blk, B.d + o + j.toNat * es, none⟩), ?_, by rw [Nat.add_assoc]; exact .p hk⟩
          simp [Instr.indexAt, asIntOf, run_underlying hu, hb, run_szA hes, addr_add]
        | own0 hk hc => exact absurd hb.2 (by have := hb.1; simp at *; omega)
      · cases e
    · cases e
  · rename_i m el j hu hj
    obtain ⟨k, rfl, rfl⟩ := intA_rel hi hj
    split at e
    · rename_i es k' o hes
      split at e
      · rename_i hb
        cases e
        cases hv with
        | p hk =>
          rename_i B
          refine ⟨.pointer (some ⟨B.blk, B.d + o + j.toNat * es, none⟩), ?_, by rw [Nat.add_assoc]; exact .p hk⟩
          simp [Instr.indexAt, asIntOf, run_underlying hu, Instr.sureAddr, hb, run_szA hes, addr_add]
      · cases e
    · rename_i es cs o hes
      split at e
      · rename_i hb
        cases e
        cases hv with
        | ip hl hz hvv =>
          rename_i vs blk base
          refine ⟨.pointer (some ⟨blk, base + o + j.toNat * es, none⟩), ?_, by rw [Nat.add_assoc]; exact .ip hl hz hvv⟩
          simp [Instr.indexAt, asIntOf, run_underlying hu, Instr.sureAddr, hb, run_szA hes, addr_add]
      · cases e
    · cases e
  · cases e

theorem indexA_rel {I : Inj} {Z : Zed} {x ix : AV} {v iv : Value} (hv : VRel I Z x v) (hi : VRel I Z ix iv) {t : TypeId} {r : AV} (e : indexA P t x ix = some r) :
    ∃ cv, (Instr.index t v iv).run P w = .ok cv w ∧ VRel I Z r cv := by
  unfold indexA at e
  split at e
  · rename_i n el cs j hu hj
    obtain ⟨k, rfl, rfl⟩ := intA_rel hi hj
    split at e
    · rename_i hb
      cases hes : szA P el with
      | none => simp [hes] at e
      | some es =>
        simp [hes] at e
        obtain ⟨vs, rfl, hL⟩ := agg_iff.1 hv
        obtain ⟨cv, h1, h2⟩ := partA_rel (w := w) hL e
        exact ⟨cv, by simp [Instr.index, asIntOf, run_underlying hu, hb, run_szA hes, h1], h2⟩
    · cases e
  · rename_i s j hu hj
    obtain ⟨k, rfl, rfl⟩ := intA_rel hi hj
    split at e
    · rename_i hb
      cases hc : s[j.toNat]? with
      | none => simp [hc] at e
      | some c =>
        simp [hc] at e; subst e
        cases hv
        exact ⟨.int .u8 c.toNat, by simp [Instr.index, asIntOf, run_underlying hu, hb, hc], .i _ _⟩
    · cases e
  · cases e

end run
end
end Go.Av
