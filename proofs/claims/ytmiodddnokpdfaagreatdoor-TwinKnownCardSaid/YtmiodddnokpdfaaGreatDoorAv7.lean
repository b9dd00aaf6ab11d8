/-
  The operations that make or write memory: what the abstract machine says of them, the model does.
-/
import Derived.Test.YtmiodddnokpdfaaGreatDoorAv6
import Derived.Laws.Tables
namespace Go.Av
noncomputable section
set_option linter.unusedSectionVars false
variable [Toks]
set_option linter.unusedSimpArgs false

/-- An array with a row of cells written from a place on. -/
def setAt (arr : Array Value) (o : Nat) : List Value → Array Value
  | [] => arr
  | v :: r => setAt (arr.setIfInBounds o v) (o + 1) r

@[simp] theorem size_setAt (vs : List Value) : ∀ (arr : Array Value) (o : Nat), (setAt arr o vs).size = arr.size := by
  induction vs with
  | nil => intro arr o; rfl
  | cons v r ih => intro arr o; simp [setAt, ih]

theorem setAt_get (vs : List Value) : ∀ (arr : Array Value) (o j : Nat), o + vs.length ≤ arr.size →
    (setAt arr o vs)[j]? = if o ≤ j ∧ j < o + vs.length then vs[j - o]? else arr[j]? := by
  induction vs with
  | nil => intro arr o j h; simp [setAt]; intro h1 h2; omega
  | cons v r ih =>
    intro arr o j h
    simp only [List.length_cons] at h
    simp only [setAt]
    rw [ih _ _ _ (by simp; omega)]
    by_cases h1 : o + 1 ≤ j ∧ j < o + 1 + r.length
    · rw [if_pos h1, if_pos (by simp; omega)]
      rw [show j - o = (j - (o + 1)) + 1 by omega, List.getElem?_cons_succ]
    · rw [if_neg h1]
      by_cases h2 : o = j
      · subst h2
        rw [if_pos (by simp), Array.getElem?_setIfInBounds_self]
        simp
        omega
      · rw [if_neg (by simp; omega), Array.getElem?_setIfInBounds_ne h2]

section run
variable {P : Program} {w : World}

theorem run_store_cell {b o : Nat} {arr : Array Value} {elem : TypeId} {fr : Nat × Nat} {v : Value} (h0 : w.heap[b]? = some (.cells arr elem fr)) (ho : o < arr.size) (hf : ¬(fr.1 ≤ o ∧ o < fr.2)) (hv : v.oneCell' = true) :
    ∃ w', (store ⟨b, o, none⟩ v).run P w = .ok () w' ∧ w'.os = w.os ∧ w'.output = w.output ∧ w'.heap.size = w.heap.size ∧ w'.heap[b]? = some (.cells (arr.setIfInBounds o v) elem fr) ∧ ∀ b', b' ≠ b → w'.heap[b']? = w.heap[b']? := by
  refine ⟨w.setCell ⟨b, o, none⟩ v, ?_, rfl, rfl, by simp, ?_, fun b' hb => ?_⟩
  · rw [run_store P w _ v _ hv]
    have hc : w.cell? ⟨b, o, none⟩ = some arr[o] := by simp [World.cell?, h0, ho]
    have hfz : w.frozen? ⟨b, o, none⟩ = false := by simp [World.frozen?, h0]; intro h1; omega
    simp [hc, hfz]
  · simp [World.setCell, Array.getElem?_modify, h0]
  · simp only [World.setCell, Array.getElem?_modify]
    rw [if_neg (fun h => hb h.symm)]

theorem run_storeCells (vs : List Value) : ∀ (w : World) (b o i : Nat) (arr : Array Value) (elem : TypeId) (fr : Nat × Nat), w.heap[b]? = some (.cells arr elem fr) → o + i + vs.length ≤ arr.size →
    (∀ x, o + i ≤ x → x < o + i + vs.length → ¬(fr.1 ≤ x ∧ x < fr.2)) → (∀ v ∈ vs, v.oneCell' = true) →
    ∃ w', (storeCells ⟨b, o, none⟩ vs i).run P w = .ok () w' ∧ w'.os = w.os ∧ w'.output = w.output ∧ w'.heap.size = w.heap.size ∧ w'.heap[b]? = some (.cells (setAt arr (o + i) vs) elem fr) ∧ ∀ b', b' ≠ b → w'.heap[b']? = w.heap[b']? := by
  induction vs with
  | nil => intro w b o i arr elem fr h0 _ _ _; exact ⟨w, by simp [storeCells], rfl, rfl, rfl, h0, fun _ _ => rfl⟩
  | cons v r ih =>
    intro w b o i arr elem fr h0 hl hf hv
    simp only [List.length_cons] at hl hf
    obtain ⟨w1, e1, a1, a2, a3, a4, a5⟩ := run_store_cell (P := P) (v := v) h0 (o := o + i) (by omega) (hf _ (Nat.le_refl _) (by omega)) (hv v (by simp))
    obtain ⟨w2, e2, b1, b2, b3, b4, b5⟩ := ih w1 b o (i + 1) _ elem fr a4 (by simp; omega) (fun x h1 h2 => hf x (by omega) (by omega)) (fun u hu => hv u (by simp [hu]))
    refine ⟨w2, ?_, by rw [b1, a1], by rw [b2, a2], by rw [b3, a3], ?_, fun b' hb => by rw [b5 b' hb, a5 b' hb]⟩
    · simp only [storeCells, addr_add, Sem.run_bind, e1, Result.andThen_ok, e2]
    · rw [b4]; rfl

theorem splice_get {α : Type} (cs vs : List α) (o j : Nat) (h : o + vs.length ≤ cs.length) : (splice cs o vs)[j]? = if o ≤ j ∧ j < o + vs.length then vs[j - o]? else cs[j]? := by
  unfold splice
  rw [List.append_assoc, List.getElem?_append]
  simp only [List.length_take]
  rw [Nat.min_eq_left (by omega)]
  by_cases h1 : j < o
  · rw [if_pos h1, List.getElem?_take, if_pos h1, if_neg (by omega)]
  · rw [if_neg h1, List.getElem?_append]
    by_cases h2 : j - o < vs.length
    · rw [if_pos h2, if_pos (by omega)]
    · rw [if_neg h2, if_neg (by omega), List.getElem?_drop]
      congr 1; omega

theorem splice_length {α : Type} (cs vs : List α) (o : Nat) (h : o + vs.length ≤ cs.length) : (splice cs o vs).length = cs.length := by
  unfold splice; simp; omega

/-- Cells written into a block that the abstract heap holds. -/
theorem putCells_rel {I : Inj} {Z : Zed} {h h' : AH} (hr : Rel I Z h w) {k o : Nat} {as : List AV} {vs : List Value} (e : putCells h k o as = some h') (hL : LRel I Z as vs) {B : BI} (hB : I k = some B) :
    ∃ w', (storeCells ⟨B.blk, B.d + o, none⟩ vs).run P w = .ok () w' ∧ Goes I Z h w I Z h' w' := by
  unfold putCells at e
  split at e
  · rename_i es cs hk
    split at e
    · rename_i hc
      cases e
      simp only [Bool.and_eq_true, List.all_eq_true, decide_eq_true_eq] at hc
      obtain ⟨B', hB', hes, arr, elem, fr, a1, a2, a3, a4, a5⟩ := hr.cells k es cs hk
      rw [hB] at hB'; cases hB'
      have hlen : vs.length = as.length := hL.1.symm
      have hone : ∀ v ∈ vs, v.oneCell' = true := fun v hv => by
        obtain ⟨j, hj, hjv⟩ := List.getElem_of_mem hv
        have hja : j < as.length := by omega
        exact one_rel (hL.2 j as[j] v (List.getElem?_eq_getElem hja) (by rw [List.getElem?_eq_getElem hj, hjv])) (hc.1 _ (List.getElem_mem _))
      obtain ⟨w', e1, b1, b2, b3, b4, b5⟩ := run_storeCells (P := P) vs w B.blk (B.d + o) 0 arr elem fr a1 (by omega) (fun x h1 h2 => free_of a5.1 (by omega)) hone
      refine ⟨w', e1, Goes.write hr hk hB b1 b2 b3 b5 a1 b4 (by simp) (fun x hx => ?_) ?_ (fun j a hj => ?_) (fun x v hv => ?_)⟩
      · rw [setAt_get _ _ _ _ (by omega), if_neg (by omega)]
      · rw [splice_length _ _ _ (by omega)]; exact a3
      · rw [splice_get _ _ _ _ (by omega)] at hj
        rw [setAt_get _ _ _ _ (by omega)]
        by_cases hin : o ≤ j ∧ j < o + as.length
        · rw [if_pos hin] at hj
          rw [if_pos (by omega)]
          obtain ⟨v, hv, hvr⟩ := hL.get hj
          refine ⟨hc.1 a (List.mem_of_getElem? hj), v, ?_, hvr⟩
          rw [show B.d + j - (B.d + o + 0) = j - o by omega]; exact hv
        · rw [if_neg hin] at hj
          rw [if_neg (by omega)]
          exact a4 j a hj
      · rw [setAt_get _ _ _ _ (by omega)] at hv
        split at hv
        · exact .inr (hone v (List.mem_of_getElem? hv))
        · exact .inl hv
    · cases e
  · cases e

theorem putCells_empty {I : Inj} {Z : Zed} {h h' : AH} (hr : Rel I Z h w) {k o : Nat} (e : putCells h k o [] = some h') : Goes I Z h w I Z h' w := by
  unfold putCells at e
  split at e
  · rename_i es cs hk
    split at e
    · cases e
      obtain ⟨B, hB, hes, arr, elem, fr, a1, a2, a3, a4, a5⟩ := hr.cells k es cs hk
      exact Goes.write hr hk hB rfl rfl rfl (fun _ _ => rfl) a1 a1 rfl (fun _ _ => rfl) (by simp [splice]; exact a3) (fun j a hj => a4 j a (by simpa [splice] using hj)) (fun _ _ hv => .inl hv)
    · cases e
  · cases e

theorem storeA_rel {I : Inj} {Z : Zed} {h h' : AH} (hr : Rel I Z h w) {t : TypeId} {a x : AV} {v u : Value} (e : storeA P h t a x = some h') (hv : VRel I Z a v) (hu : VRel I Z x u) :
    ∃ w', (Instr.storeAt t v u).run P w = .ok () w' ∧ Goes I Z h w I Z h' w' := by
  unfold storeA at e
  split at e
  · rename_i k o n hn
    split at e
    · rename_i hl
      cases hv with
      | p hB =>
        rename_i B
        have hall : x.cells.all AV.one = true := by
          unfold putCells at e
          split at e
          · split at e
            · rename_i hc; simp only [Bool.and_eq_true] at hc; exact hc.1
            · cases e
          · cases e
        have hL := cells_rel hu hall
        obtain ⟨w', e1, hg⟩ := putCells_rel (P := P) hr e hL hB
        refine ⟨w', ?_, hg⟩
        have hsz : u.cells.size = n := by rw [← hl, hL.1]; simp
        simp [Instr.storeAt, Instr.sureAddr, storeVar, run_szA hn, hsz, e1]
    · cases e
  · cases e

theorem LRel.ones {I : Inj} {Z : Zed} {cs : List AV} {vs : List Value} (hL : LRel I Z cs vs) (hone : cs.all AV.one = true) : ∀ v ∈ vs, v.oneCell' = true := fun v hv => by
  obtain ⟨j, hj, hjv⟩ := List.getElem_of_mem hv
  have hja : j < cs.length := by have := hL.1; omega
  exact one_rel (hL.2 j cs[j] v (List.getElem?_eq_getElem hja) (by rw [List.getElem?_eq_getElem hj, hjv])) (List.all_eq_true.1 hone _ (List.getElem_mem _))

/-- A new row of cells. -/
theorem newRow_rel {I : Inj} {Z : Zed} {h : AH} (hr : Rel I Z h w) {elem : TypeId} {cells : Array Value} {es : Nat} {cs : List AV} {vs : List Value} (hc : ∃ r, cells.toList = vs ++ r ∧ ∀ v ∈ r, v.oneCell' = true) (hL : LRel I Z cs vs) (hone : cs.all AV.one = true) :
    (newRow elem cells).run P w = .ok ⟨w.heap.size, 0, none⟩ (w.alloc (.cells cells elem)) ∧
      Goes I Z h w (I.put h.next ⟨w.heap.size, 0, es, cells.size⟩) Z (h.new (.cells es cs)) (w.alloc (.cells cells elem)) := by
  refine ⟨by simp [newRow, run_newObj], ?_⟩
  obtain ⟨r, hc, hrone⟩ := hc
  have h1c : ∀ v ∈ cells.toList, v.oneCell' = true := fun v hv => by
    rw [hc, List.mem_append] at hv
    exact hv.elim (hL.ones hone v) (hrone v)
  have hsz : cells.size = vs.length + r.length := by rw [← Array.length_toList, hc]; simp
  refine Goes.alloc hr (B := ⟨w.heap.size, 0, es, cells.size⟩) (ob := .cells cells elem) rfl rfl rfl rfl (fun es' cs' e => ?_) (fun es' e => by cases e)
  cases e
  refine ⟨rfl, cells, elem, (0, 0), by rw [show (w.alloc (Obj.cells cells elem)).heap = w.heap.push (.cells cells elem) from rfl]; simp, rfl, by have := hL.1; simp; omega, fun j a hj => ?_, .inl rfl, fun j v hj => h1c v (by rw [← Array.getElem?_toList] at hj; exact List.mem_of_getElem? hj)⟩
  obtain ⟨v, hv, hvr⟩ := hL.get hj
  refine ⟨List.all_eq_true.1 hone a (List.mem_of_getElem? hj), v, ?_, hvr⟩
  have hj' : j < vs.length := (List.getElem?_eq_some_iff.1 hv).1
  rw [Nat.zero_add, ← Array.getElem?_toList, hc, List.getElem?_append_left hj', hv]

theorem newVar_rel {I : Inj} {Z : Zed} {h : AH} (hr : Rel I Z h w) {elem : TypeId} {x : AV} {v : Value} (hv : VRel I Z x v) (hone : x.cells.all AV.one = true) {es : Nat} :
    ∃ J w', (newVar elem v).run P w = .ok ⟨w.heap.size, 0, none⟩ w' ∧ Goes I Z h w J Z (h.new (.cells es x.cells)) w' ∧ VRel J Z (.p (some (h.next, 0))) (.pointer (some ⟨w.heap.size, 0, none⟩)) := by
  have := newRow_rel (P := P) hr (elem := elem) (cells := v.cells) (es := es) ⟨[], by simp, by simp⟩ (cells_rel hv hone) hone
  refine ⟨_, _, this.1, this.2, ?_⟩
  have hp : VRel (I.put h.next ⟨w.heap.size, 0, es, v.cells.size⟩) Z (.p (some (h.next, 0))) (.pointer (some ⟨w.heap.size, 0 + 0, none⟩)) := VRel.p Inj.put_same
  exact hp

theorem zero_rel {I : Inj} {Z : Zed} {t : TypeId} {z : AV} (e : zeroA P t = some z) : ∃ v, (zeroValue t).run P w = .ok v w ∧ VRel I Z z v := by
  obtain ⟨v, h1, rfl⟩ := run_zeroA (w := w) e
  exact ⟨v, h1, ofV_rel _ _ v⟩


theorem foldl_zipIdx (off : Nat) (l : List Value) : ∀ (k : Nat) (arr : Array Value), (l.zipIdx k).foldl (fun cs (x : Value × Nat) => cs.setIfInBounds (off + x.2) x.1) arr = setAt arr (off + k) l := by
  induction l with
  | nil => intro k arr; rfl
  | cons v r ih => intro k arr; simp only [List.zipIdx_cons, List.foldl_cons, setAt]; rw [ih]; rfl

theorem fill_step (off : Nat) (cells arr : Array Value) : cells.zipIdx.foldl (fun cs (c, j) => cs.setIfInBounds (off + j) c) arr = setAt arr off cells.toList := by
  rw [← Array.foldl_toList, Array.toList_zipIdx]
  exact foldl_zipIdx off cells.toList 0 arr

theorem splice_rel {I : Inj} {Z : Zed} {cs as : List AV} {arr : Array Value} {vs : List Value} (h : LRel I Z cs arr.toList) (h' : LRel I Z as vs) (o : Nat) (hl : o + as.length ≤ cs.length) :
    LRel I Z (splice cs o as) (setAt arr o vs).toList := by
  have hs : cs.length = arr.size := by simpa using h.1
  have hv := h'.1
  refine ⟨by rw [splice_length _ _ _ hl]; simpa using hs, fun j a v ha hv' => ?_⟩
  rw [splice_get _ _ _ _ hl] at ha
  rw [Array.getElem?_toList, setAt_get _ _ _ _ (by omega)] at hv'
  by_cases hin : o ≤ j ∧ j < o + as.length
  · rw [if_pos hin] at ha; rw [if_pos (by omega)] at hv'; exact h'.2 _ a v ha hv'
  · rw [if_neg hin] at ha; rw [if_neg (by omega)] at hv'; exact h.2 j a v ha (by simpa using hv')

/-- The parts of a literal, one by one. -/
def PRel (I : Inj) (Z : Zed) : List (Nat × AV) → List (Nat × Value) → Prop
  | [], [] => True
  | (i, a) :: r, (j, v) :: s => i = j ∧ VRel I Z a v ∧ PRel I Z r s
  | _, _ => False

theorem PRel.map {I : Inj} {Z : Zed} {α : Type} (l : List (Nat × α)) {f : α → AV} {g : α → Value} (h : ∀ x, VRel I Z (f x) (g x)) : PRel I Z (l.map fun x => (x.1, f x.2)) (l.map fun x => (x.1, g x.2)) := by
  induction l with
  | nil => trivial
  | cons x r ih => exact ⟨rfl, h _, ih⟩

theorem fillA_rel {I : Inj} {Z : Zed} {pl : Nat → Option (Nat × Nat)} : ∀ (parts : List (Nat × AV)) (cparts : List (Nat × Value)) (cs r : List AV) (arr : Array Value), fillA pl cs parts = some r →
    parts.all (fun x => x.2.cells.all AV.one) = true → PRel I Z parts cparts → LRel I Z cs arr.toList → ∃ rv, Instr.fill pl arr cparts = some rv ∧ LRel I Z r rv.toList := by
  intro parts
  induction parts with
  | nil =>
    intro cparts cs r arr e _ hp hL
    cases cparts with
    | nil => simp [fillA] at e; subst e; exact ⟨arr, rfl, hL⟩
    | cons _ _ => exact hp.elim
  | cons x rest ih =>
    intro cparts cs r arr e ha hp hL
    obtain ⟨i, a⟩ := x
    cases cparts with
    | nil => exact hp.elim
    | cons y s =>
      obtain ⟨j, v⟩ := y
      obtain ⟨rfl, hv, hp⟩ := hp
      simp only [List.all_cons, Bool.and_eq_true] at ha
      simp only [fillA] at e
      simp only [Instr.fill]
      split at e
      · cases e
      · rename_i off size hpl
        split at e
        · rename_i hc
          have hcl := cells_rel hv ha.1
          have hsz : v.cells.size = a.cells.length := by have := hcl.1; simpa using this.symm
          have hal : arr.size = cs.length := by have := hL.1; simpa using this.symm
          rw [hpl]
          dsimp only
          rw [if_neg (by simp; omega)]
          obtain ⟨rv, h1, h2⟩ := ih s _ r _ e ha.2 hp (splice_rel hL hcl off hc.2)
          refine ⟨rv, ?_, h2⟩
          rw [fill_step]; exact h1
        · cases e

theorem buildA_rel {I : Inj} {Z : Zed} {t : TypeId} {parts : List (Nat × AV)} {cparts : List (Nat × Value)} {r : AV} (e : buildA P t parts = some r) (hp : PRel I Z parts cparts) :
    ∃ cv, (Instr.build t cparts.toArray).run P w = .ok cv w ∧ VRel I Z r cv := by
  unfold buildA at e
  split at e
  · rename_i pl z hpl hz
    split at e
    · rename_i ha
      cases hf : fillA pl z.cells parts with
      | none => simp [hf] at e
      | some cs =>
        simp [hf] at e; subst e
        unfold zeroA at hz
        cases hi : P.info? t with
        | none => simp [hi] at hz
        | some it =>
          simp only [hi, Option.bind_some] at hz
          cases hzz : it.zero with
          | none => simp [hzz] at hz
          | some zv =>
            simp [hzz] at hz
            unfold placesA at hpl
            have hzagg : ∀ cs, zv = .agg cs → LRel I Z z.cells zv.cells.toList := by
              rintro ⟨cs⟩ rfl
              subst hz
              have := ofV_rel I Z (.agg ⟨cs⟩)
              unfold ofV at this ⊢
              obtain ⟨vs, h1, h2⟩ := agg_iff.1 this
              cases h1
              simpa [AV.cells, Value.cells] using h2
            have hzr : LRel I Z z.cells zv.cells.toList := by
              by_cases hag : ∃ cs, zv = .agg cs
              · obtain ⟨cs, hcs⟩ := hag; exact hzagg cs hcs
              · have h1 : zv.cells = #[zv] := by cases zv <;> first | rfl | exact absurd ⟨_, rfl⟩ hag
                have h2 : z.cells = [z] := by
                  subst hz
                  cases zv with
                  | agg cs => exact absurd ⟨_, rfl⟩ hag
                  | slice a n c => cases a <;> cases n <;> cases c <;> rfl
                  | pointer a => cases a <;> rfl
                  | map a => cases a <;> rfl
                  | _ => rfl
                rw [h1, h2]
                exact .cons (hz ▸ ofV_rel I Z zv) .nil
            obtain ⟨rv, h1, h2⟩ := fillA_rel parts cparts z.cells cs zv.cells hf ha hp hzr
            refine ⟨.agg rv, run_build w t _ rv ?_, agg_iff.2 ⟨rv.toList, by simp, h2⟩⟩
            unfold Program.built
            split at hpl
            · rename_i fs hu
              cases hm : fs.toList.mapM (fun f => (P.info? f.type).map fun i => (f.offset, i.size)) with
              | none => simp [hm] at hpl
              | some places =>
                simp [hm] at hpl
                subst hpl
                simp only [hi, hu, hzz, hm]
                simpa using h1
            · rename_i n el hu
              cases hs : szA P el with
              | none => simp [hs] at hpl
              | some es =>
                simp [hs] at hpl
                subst hpl
                unfold szA at hs
                cases hie : P.info? el with
                | none => simp [hie] at hs
                | some ie =>
                  simp [hie] at hs
                  simp only [hi, hu, hzz, hie, hs]
                  exact h1
            · cases hpl
    · cases e
  · cases e

theorem repZ_length (z : List AV) : ∀ n, (repZ z n).length = n * z.length
  | 0 => by simp [repZ]
  | n + 1 => by simp [repZ, repZ_length z n, Nat.add_mul]; omega

theorem repZ_get (z : List AV) (hz : 0 < z.length) : ∀ n j, (repZ z n)[j]? = if j < n * z.length then z[j % z.length]? else none
  | 0, j => by simp [repZ]
  | n + 1, j => by
    simp only [repZ]
    by_cases h : j < z.length
    · rw [List.getElem?_append_left h, if_pos (by rw [Nat.add_mul]; omega), Nat.mod_eq_of_lt h]
    · rw [List.getElem?_append_right (by omega), repZ_get z hz n]
      have hm : j % z.length = (j - z.length) % z.length := Nat.mod_eq_sub_mod (by omega)
      by_cases h2 : j - z.length < n * z.length
      · rw [if_pos h2, if_pos (by rw [Nat.add_mul]; omega), hm]
      · rw [if_neg h2, if_neg (by rw [Nat.add_mul]; omega)]

theorem zeroRow_rel {I : Inj} {Z : Zed} {z : List AV} {zv : Array Value} (h : LRel I Z z zv.toList) (hz : 0 < z.length) (n : Nat) :
    LRel I Z (repZ z n) ((Array.range (n * z.length)).map (zv[· % zv.size]!)).toList := by
  have hs : zv.size = z.length := by have := h.1; simpa using this.symm
  refine ⟨by simp [repZ_length], fun j a v ha hv => ?_⟩
  rw [repZ_get z hz] at ha
  split at ha
  · rename_i hj
    have hm : j % z.length < z.length := Nat.mod_lt _ hz
    simp [hj, hs] at hv
    obtain ⟨y, hy, hyr⟩ := h.get ha
    rw [Array.getElem?_toList] at hy
    rw [getElem!_pos _ _ (by omega)] at hv
    rw [Array.getElem?_eq_getElem (by omega)] at hy
    cases hy; subst hv; exact hyr
  · cases ha

theorem repZ_one {z : List AV} (h : z.all AV.one = true) : ∀ n, (repZ z n).all AV.one = true
  | 0 => rfl
  | n + 1 => by simp [repZ, h, repZ_one h n]

theorem newSlice_rel {I : Inj} {Z : Zed} {h : AH} (hr : Rel I Z h w) {elem : TypeId} {cells : Array Value} {es n c : Nat} {cs : List AV} {vs : List Value} (hc : ∃ r, cells.toList = vs ++ r ∧ ∀ v ∈ r, v.oneCell' = true) (hL : LRel I Z cs vs)
    (hone : cs.all AV.one = true) (hn : n ≤ c) (hcc : c * es = cells.size) :
    ∃ J w', (newRow elem cells).run P w = .ok ⟨w.heap.size, 0, none⟩ w' ∧ Goes I Z h w J Z (newSlice h es n cs).2 w' ∧ VRel J Z (newSlice h es n cs).1 (.slice (some ⟨w.heap.size, 0, none⟩) n c) := by
  have := newRow_rel (P := P) hr (elem := elem) (cells := cells) (es := es) hc hL hone
  refine ⟨_, _, this.1, this.2, ?_⟩
  have hp : VRel (I.put h.next ⟨w.heap.size, 0, es, cells.size⟩) Z (.own h.next 0 n none) (.slice (some ⟨w.heap.size, 0 + 0, none⟩) n c) :=
    VRel.own Inj.put_same hn (by simp [capOk, hcc])
  exact hp

theorem elemA_some {t e : TypeId} (h : elemA P t = some e) : P.underlying t = some (.slice e) := by
  unfold elemA at h
  split at h
  · cases h; assumption
  · cases h

theorem buildSliceA_rel {I : Inj} {Z : Zed} {h h' : AH} (hr : Rel I Z h w) {t : TypeId} {len : Nat} {parts : List (Nat × AV)} {cparts : List (Nat × Value)} {r : AV} (e : buildSliceA P h t len parts = some (r, h'))
    (hp : PRel I Z parts cparts) : ∃ J cv w', (Instr.buildSlice t len cparts.toArray).run P w = .ok cv w' ∧ Goes I Z h w J Z h' w' ∧ VRel J Z r cv := by
  unfold buildSliceA at e
  split at e
  · cases e
  · rename_i el hel
    split at e
    · rename_i es z hes hz
      obtain ⟨hsz, hpos⟩ := esA_some hes
      split at e
      · rename_i hc
        obtain ⟨hzl, hlen, hzo, hpo⟩ := hc
        cases hf : fillA (fun j => some (j * es, es)) (repZ z.cells len) parts with
        | none => simp [hf] at e
        | some cs =>
          simp only [hf, Option.map_some, Option.some.injEq] at e
          obtain ⟨zv, hzr, hzrel⟩ := zero_rel (I := I) (Z := Z) (w := w) hz
          have hzc := cells_rel hzrel hzo
          have hzs : zv.cells.size = es := by have := hzc.1; simp at this; omega
          have hrow := zeroRow_rel hzc (by omega) len
          rw [hzl] at hrow
          obtain ⟨rv, h1, h2⟩ := fillA_rel parts cparts _ cs _ hf hpo hp hrow
          have hone : cs.all AV.one = true := by
            have H : ∀ (parts : List (Nat × AV)) (cs0 cs : List AV), fillA (fun j => some (j * es, es)) cs0 parts = some cs → cs0.all AV.one = true → parts.all (fun x => x.2.cells.all AV.one) = true → cs.all AV.one = true := by
              intro parts
              induction parts with
              | nil => intro cs0 cs e h0 _; simp [fillA] at e; subst e; exact h0
              | cons x r ih =>
                intro cs0 cs e h0 ha
                simp only [List.all_cons, Bool.and_eq_true] at ha
                simp only [fillA] at e
                split at e
                · refine ih _ _ e ?_ ha.2
                  unfold splice
                  simp only [List.all_append, Bool.and_eq_true]
                  refine ⟨⟨?_, ha.1⟩, ?_⟩
                  · rw [List.all_eq_true] at h0 ⊢; exact fun a h => h0 a (List.mem_of_mem_take h)
                  · rw [List.all_eq_true] at h0 ⊢; exact fun a h => h0 a (List.mem_of_mem_drop h)
                · cases e
            exact H parts _ cs hf (repZ_one hzo len) hpo
          have hrl : rv.size = len * es := by
            have a1 := h2.1
            have a2 : cs.length = (repZ z.cells len).length := by
              have H : ∀ (parts : List (Nat × AV)) (cs0 cs : List AV), fillA (fun j => some (j * es, es)) cs0 parts = some cs → cs.length = cs0.length := by
                intro parts
                induction parts with
                | nil => intro cs0 cs e; simp [fillA] at e; subst e; rfl
                | cons x r ih =>
                  intro cs0 cs e
                  simp only [fillA] at e
                  split at e
                  · rename_i hc; rw [ih _ _ e, splice_length _ _ _ hc.2]
                  · cases e
              exact H _ _ _ hf
            rw [repZ_length, hzl] at a2
            simp at a1; omega
          obtain ⟨J, w', e1, hg, hv⟩ := newSlice_rel (P := P) hr (elem := el) (es := es) (n := len) (c := len) ⟨[], by simp, by simp⟩ h2 hone (Nat.le_refl _) hrl.symm
          rw [e] at hg hv
          refine ⟨J, _, w', ?_, hg, hv⟩
          have hu := elemA_some hel
          have hnot : ¬ (len * es > 2 ^ 24) := by
            have : (2:Nat) ^ 20 ≤ 2 ^ 24 := by decide
            omega
          by_cases h0 : len * es = 0
          · have hl0 : len = 0 := by rcases Nat.mul_eq_zero.1 h0 with h | h <;> omega
            subst hl0
            have hrow0 : ((Array.range (0 * es)).map (zv.cells[· % zv.cells.size]!)) = #[] := by simp
            rw [hrow0] at h1
            simp only [Instr.buildSlice, Sem.run_bind, run_underlying hu, Result.andThen_ok, run_szA hsz]
            have hz0 : Array.range 0 = #[] := rfl
            simp [h1, e1, hz0]
          · simp only [Instr.buildSlice, Sem.run_bind, run_underlying hu, Result.andThen_ok, run_szA hsz]
            rw [if_neg hnot]
            simp only [h0, if_false, Sem.run_bind, hzr, Result.andThen_ok, Sem.run_pure]
            simp only [h1, Sem.run_bind, e1, Result.andThen_ok, Sem.run_pure]
      · cases e
    · cases e

theorem litSliceA_rel {I : Inj} {Z : Zed} {h : AH} (hr : Rel I Z h w) {t : TypeId} {len : Nat} {parts : List (Nat × AV)} {cparts : List (Nat × Value)} {r : AV} (e : litSliceA P t len parts = some r)
    (hp : PRel I Z parts cparts) : ∃ Y cv w', (Instr.buildSlice t len cparts.toArray).run P w = .ok cv w' ∧ Goes I Z h w I Y h w' ∧ VRel I Y r cv := by
  unfold litSliceA at e
  split at e
  · cases e
  · rename_i el hel
    split at e
    · rename_i es z hes hz
      obtain ⟨hsz, hpos⟩ := esA_some hes
      split at e
      · rename_i hc
        obtain ⟨hzl, hlen, hzo, hpo⟩ := hc
        cases hf : fillA (fun j => some (j * es, es)) (repZ z.cells len) parts with
        | none => simp [hf] at e
        | some cs =>
          simp only [hf, Option.map_some, Option.some.injEq] at e
          obtain ⟨zv, hzr, hzrel⟩ := zero_rel (I := I) (Z := Z) (w := w) hz
          have hzc := cells_rel hzrel hzo
          have hzs : zv.cells.size = es := by have := hzc.1; simp at this; omega
          have hrow := zeroRow_rel hzc (by omega) len
          rw [hzl] at hrow
          obtain ⟨rv, h1, h2⟩ := fillA_rel parts cparts _ cs _ hf hpo hp hrow
          have hone : cs.all AV.one = true := by
            have H : ∀ (parts : List (Nat × AV)) (cs0 cs : List AV), fillA (fun j => some (j * es, es)) cs0 parts = some cs → cs0.all AV.one = true → parts.all (fun x => x.2.cells.all AV.one) = true → cs.all AV.one = true := by
              intro parts
              induction parts with
              | nil => intro cs0 cs e h0 _; simp [fillA] at e; subst e; exact h0
              | cons x r ih =>
                intro cs0 cs e h0 ha
                simp only [List.all_cons, Bool.and_eq_true] at ha
                simp only [fillA] at e
                split at e
                · refine ih _ _ e ?_ ha.2
                  unfold splice
                  simp only [List.all_append, Bool.and_eq_true]
                  refine ⟨⟨?_, ha.1⟩, ?_⟩
                  · rw [List.all_eq_true] at h0 ⊢; exact fun a h => h0 a (List.mem_of_mem_take h)
                  · rw [List.all_eq_true] at h0 ⊢; exact fun a h => h0 a (List.mem_of_mem_drop h)
                · cases e
            exact H parts _ cs hf (repZ_one hzo len) hpo
          have hrl : rv.size = len * es := by
            have a1 := h2.1
            have a2 : cs.length = (repZ z.cells len).length := by
              have H : ∀ (parts : List (Nat × AV)) (cs0 cs : List AV), fillA (fun j => some (j * es, es)) cs0 parts = some cs → cs.length = cs0.length := by
                intro parts
                induction parts with
                | nil => intro cs0 cs e; simp [fillA] at e; subst e; rfl
                | cons x r ih =>
                  intro cs0 cs e
                  simp only [fillA] at e
                  split at e
                  · rename_i hc; rw [ih _ _ e, splice_length _ _ _ hc.2]
                  · cases e
              exact H _ _ _ hf
            rw [repZ_length, hzl] at a2
            simp at a1; omega
          have e1 : (newRow el rv).run P w = .ok ⟨w.heap.size, 0, none⟩ (w.alloc (.cells rv el)) := by simp [newRow, run_newObj]
          have hg := Goes.fix hr (w' := w.alloc (.cells rv el)) (arr := rv) (elem := el) (fr := (0, 0)) rfl rfl rfl
          subst e
          refine ⟨_, .slice (some ⟨w.heap.size, 0, none⟩) len len, w.alloc (.cells rv el), ?_, hg, ?_⟩
          rotate_left
          · have h2' := h2.mono hg.le hg.lez
            refine .imm (vs := rv.toList) h2.1.symm (fun j v hj => ?_) h2'.2 (Nat.le_refl _)
            have hj' : j < rv.size := by have := (List.getElem?_eq_some_iff.1 hj).1; simpa using this
            unfold Zed.put
            rw [Nat.zero_add, if_pos ⟨rfl, Nat.zero_le _, hj'⟩]
            simpa using hj
          have hu := elemA_some hel
          have hnot : ¬ (len * es > 2 ^ 24) := by
            have : (2:Nat) ^ 20 ≤ 2 ^ 24 := by decide
            omega
          by_cases h0 : len * es = 0
          · have hl0 : len = 0 := by rcases Nat.mul_eq_zero.1 h0 with h | h <;> omega
            subst hl0
            have hrow0 : ((Array.range (0 * es)).map (zv.cells[· % zv.cells.size]!)) = #[] := by simp
            rw [hrow0] at h1
            simp only [Instr.buildSlice, Sem.run_bind, run_underlying hu, Result.andThen_ok, run_szA hsz]
            have hz0 : Array.range 0 = #[] := rfl
            simp [h1, e1, hz0]
          · simp only [Instr.buildSlice, Sem.run_bind, run_underlying hu, Result.andThen_ok, run_szA hsz]
            rw [if_neg hnot]
            simp only [h0, if_false, Sem.run_bind, hzr, Result.andThen_ok, Sem.run_pure]
            simp only [h1, Sem.run_bind, e1, Result.andThen_ok, Sem.run_pure]
      · cases e
    · cases e

end run
end
end Go.Av
