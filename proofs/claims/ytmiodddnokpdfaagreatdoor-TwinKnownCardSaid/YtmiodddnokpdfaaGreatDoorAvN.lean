/-
  A call among few blocks is a call among many: names are changed, all other blocks stay as they are. What a heap says in other words.
-/
import Derived.Test.YtmiodddnokpdfaaGreatDoorAvM
import Derived.Test.YtmiodddnokpdfaaGreatDoorAvI
namespace Go.Av
noncomputable section
set_option linter.unusedSectionVars false
variable [Toks]
set_option linter.unusedSimpArgs false
set_option linter.unusedVariables false

mutual
/-- A value under other names. -/
def AV.ren (r : Nat → Nat) : AV → AV
  | .p (some (k, o)) => .p (some (r k, o))
  | .own k o n c => .own (r k) o n c
  | .m (some k) => .m (some (r k))
  | .ip cs o => .ip (renL r cs) o
  | .imm cs n => .imm (renL r cs) n
  | .agg cs => .agg (renL r cs)
  | .tup cs => .tup (renL r cs)
  | .fn g x c => .fn g (renL r x) (renL r c)
  | .ifc t v => .ifc t (AV.ren r v)
  | v => v
def renL (r : Nat → Nat) : List AV → List AV
  | [] => []
  | a :: l => AV.ren r a :: renL r l
end

theorem renL_map (r : Nat → Nat) : ∀ l, renL r l = l.map (AV.ren r)
  | [] => rfl
  | a :: l => by rw [renL, renL_map r l]; rfl

theorem renL_get {r : Nat → Nat} {l : List AV} {j : Nat} {a : AV} (h : (renL r l)[j]? = some a) : ∃ b, l[j]? = some b ∧ a = b.ren r := by
  rw [renL_map, List.getElem?_map] at h
  obtain ⟨b, h1, h2⟩ := Option.map_eq_some_iff.1 h
  exact ⟨b, h1, h2.symm⟩
theorem renL_len {r : Nat → Nat} {l : List AV} : (renL r l).length = l.length := by rw [renL_map, List.length_map]

theorem renL_nil {r : Nat → Nat} : renL r [] = [] := rfl
theorem AV.ren_one {r : Nat → Nat} {a : AV} : (a.ren r).one = a.one := by
  cases a with
  | p x => cases x <;> rfl
  | m x => cases x <;> rfl
  | _ => rfl

theorem VRel.ren {I J : Inj} {Z : Zed} {r : Nat → Nat} (hr : ∀ k B, I k = some B → J (r k) = some B) {a : AV} {v : Value} (h : VRel I Z a v) : VRel J Z (a.ren r) v := by
  induction h with
  | any v => exact .any v
  | b x => exact .b x
  | i k n => exact .i k n
  | f k x y h => exact .f k x y h
  | s x => exact .s x
  | pn => exact .pn
  | p h => exact .p (hr _ _ h)
  | ip hl hz _ ih => exact .ip (by rw [renL_len]; exact hl) hz (fun j a v e1 e2 => by obtain ⟨b, h1, rfl⟩ := renL_get e1; exact ih j b v h1 e2)
  | nsl => exact .nsl
  | emp0 => exact .emp0
  | emp1 b o => exact .emp1 b o
  | imm hl hz _ hc ih => exact .imm (by rw [renL_len]; exact hl) hz (fun j a v e1 e2 => by obtain ⟨b, h1, rfl⟩ := renL_get e1; exact ih j b v h1 e2) hc
  | own h hn hc => exact .own (hr _ _ h) hn hc
  | own0 h hc => exact .own0 (hr _ _ h) hc
  | mn => exact .mn
  | m h => exact .m (hr _ _ h)
  | fn hx _ hc _ ih1 ih2 => exact .fn (by rw [renL_len]; exact hx) (fun j a v e1 e2 => by obtain ⟨b, h1, rfl⟩ := renL_get e1; exact ih1 j b v h1 e2) (by rw [renL_len]; exact hc) (fun j a v e1 e2 => by obtain ⟨b, h1, rfl⟩ := renL_get e1; exact ih2 j b v h1 e2)
  | nfn => exact .nfn
  | ifc _ ih => exact .ifc ih
  | nif => exact .nif
  | agg hl _ ih => exact .agg (by rw [renL_len]; exact hl) (fun j a v e1 e2 => by obtain ⟨b, h1, rfl⟩ := renL_get e1; exact ih j b v h1 e2)
  | tup hl _ ih => exact .tup (by rw [renL_len]; exact hl) (fun j a v e1 e2 => by obtain ⟨b, h1, rfl⟩ := renL_get e1; exact ih j b v h1 e2)
  | tok n v h => exact .tok n v h
  | junk v h => exact .junk v h
  | unkb b => exact .unkb b
  | ui k n => exact .ui k n
  | uf k n => exact .uf k n
  | ig k m n h => exact .ig k m n h

mutual
theorem ren_ren {r s : Nat → Nat} (h : ∀ k, s (r k) = k) : ∀ a : AV, (a.ren r).ren s = a
  | .p none => rfl
  | .p (some (k, o)) => by simp only [AV.ren, h]
  | .own k o n c => by simp only [AV.ren, h]
  | .m none => rfl
  | .m (some k) => by simp only [AV.ren, h]
  | .ip cs o => by simp only [AV.ren, ren_renL h cs]
  | .imm cs n => by simp only [AV.ren, ren_renL h cs]
  | .agg cs => by simp only [AV.ren, ren_renL h cs]
  | .tup cs => by simp only [AV.ren, ren_renL h cs]
  | .fn g x c => by simp only [AV.ren, ren_renL h x, ren_renL h c]
  | .ifc t v => by simp only [AV.ren, ren_ren h v]
  | .any => rfl
  | .b _ => rfl
  | .i _ _ => rfl
  | .f _ _ => rfl
  | .s _ => rfl
  | .nsl => rfl
  | .emp => rfl
  | .nfn => rfl
  | .nif => rfl
  | .tok _ => rfl
  | .junk => rfl
  | .unkb => rfl
  | .ui _ => rfl
  | .uf _ => rfl
  | .ig _ _ => rfl
theorem ren_renL {r s : Nat → Nat} (h : ∀ k, s (r k) = k) : ∀ l : List AV, renL s (renL r l) = l
  | [] => rfl
  | a :: l => by simp only [renL, ren_ren h a, ren_renL h l]
end

def MO.ren (r : Nat → Nat) : MO → MO
  | .es l bs c => .es (l.map fun e => (e.1.ren r, e.2.ren r)) bs c
  | .it m since seen last => .it (m.map r) since seen last

def renO (r : Nat → Nat) : AO → AO
  | .cells es cs => .cells es (renL r cs)
  | .map mo => .map (mo.ren r)

theorem CellsOk.ren {I J : Inj} {Z : Zed} {w : World} {B : BI} {cs : List AV} {r : Nat → Nat} (hr : ∀ k B, I k = some B → J (r k) = some B) (h : CellsOk I Z w B cs) : CellsOk J Z w B (renL r cs) := by
  obtain ⟨arr, el, fr, a1, a2, a3, a4, a5⟩ := h
  refine ⟨arr, el, fr, a1, a2, by rw [renL_len]; exact a3, fun j a e => ?_, a5⟩
  obtain ⟨b, h1, rfl⟩ := renL_get e
  obtain ⟨q1, v, q2, q3⟩ := a4 j b h1
  exact ⟨by rw [AV.ren_one]; exact q1, v, q2, q3.ren hr⟩
theorem renO_map {r : Nat → Nat} {mo : MO} : renO r (.map mo) = .map (mo.ren r) := rfl

theorem MapOk.ren {I J : Inj} {Z : Zed} {w : World} {B : BI} {mo : MO} {r : Nat → Nat} (hr : ∀ k B, I k = some B → J (r k) = some B) (h : MapOk I Z w B mo) : MapOk J Z w B (mo.ren r) := by
  cases mo with
  | es es bs c =>
    obtain ⟨ces, a1, a2, ab, a3⟩ := h
    refine ⟨ces, a1, by rw [List.length_map]; exact a2, ab, fun j a c e1 e2 => ?_⟩
    rw [List.getElem?_map] at e1
    obtain ⟨b, h1, rfl⟩ := Option.map_eq_some_iff.1 e1
    obtain ⟨q1, q2⟩ := a3 j b c h1 e2
    exact ⟨q1.ren hr, q2.ren hr⟩
  | it m since seen last =>
    cases m with
    | none => exact h
    | some m => obtain ⟨h0, Bm, h1, h2⟩ := h; exact ⟨h0, Bm, hr _ _ h1, h2⟩

theorem CellsOk.world {I J : Inj} {Z Y : Zed} {w w' : World} {B : BI} {cs : List AV} (hI : I.le J) (hZ : Z.le Y) (hw : w'.heap[B.blk]? = w.heap[B.blk]?) (h : CellsOk I Z w B cs) : CellsOk J Y w' B cs := by
  obtain ⟨arr, el, fr, a1, a2, a3, a4, a5⟩ := h
  refine ⟨arr, el, fr, by rw [hw]; exact a1, a2, a3, fun j a e => ?_, a5⟩
  obtain ⟨q1, v, q2, q3⟩ := a4 j a e
  exact ⟨q1, v, q2, q3.mono hI hZ⟩
theorem MapOk.world {I J : Inj} {Z Y : Zed} {w w' : World} {B : BI} {es : MO} (hI : I.le J) (hZ : Z.le Y) (hw : w'.heap[B.blk]? = w.heap[B.blk]?) (h : MapOk I Z w B es) : MapOk J Y w' B es := h.mono hI hZ hw

/-- Names, and what they are called among more. -/
structure Ren (r : Nat → Nat) (s : Nat → Option Nat) : Prop where
  back : ∀ j, s (r j) = some j
  fore : ∀ k j, s k = some j → r j = k


mutual
/-- What is said of a value under new names is said of it under its own. -/
theorem down {I : Inj} {Z : Zed} {r : Nat → Nat} : ∀ (a : AV) (v : Value), VRel I Z (a.ren r) v → VRel (fun j => I (r j)) Z a v
  | .p none, v, h => by simp only [AV.ren] at h; cases h; exact .pn
  | .p (some (k, o)), v, h => by
    simp only [AV.ren] at h
    cases h with
    | p h1 => exact .p (I := fun j => I (r j)) h1
  | .own k o n c, v, h => by
    simp only [AV.ren] at h
    cases h with
    | own h1 h2 h3 => exact .own (I := fun j => I (r j)) h1 h2 h3
    | own0 h1 h2 => exact .own0 (I := fun j => I (r j)) h1 h2
  | .m none, v, h => by simp only [AV.ren] at h; cases h; exact .mn
  | .m (some k), v, h => by
    simp only [AV.ren] at h
    cases h with
    | m h1 => exact .m (I := fun j => I (r j)) h1
  | .ip cs o, v, h => by
    simp only [AV.ren] at h
    cases h with
    | ip hl hz hv => rw [renL_len] at hl; exact .ip hl hz (downL cs _ hv)
  | .imm cs n, v, h => by
    simp only [AV.ren] at h
    cases h with
    | imm hl hz hv hc => rw [renL_len] at hl; exact .imm hl hz (downL cs _ hv) hc
  | .agg cs, v, h => by
    simp only [AV.ren] at h
    cases h with
    | agg hl hv => rw [renL_len] at hl; exact .agg hl (downL cs _ hv)
  | .tup cs, v, h => by
    simp only [AV.ren] at h
    cases h with
    | tup hl hv => rw [renL_len] at hl; exact .tup hl (downL cs _ hv)
  | .fn g x c, v, h => by
    simp only [AV.ren] at h
    cases h with
    | fn h1 h2 h3 h4 => rw [renL_len] at h1 h3; exact .fn h1 (downL x _ h2) h3 (downL c _ h4)
  | .ifc t a, v, h => by
    simp only [AV.ren] at h
    cases h with
    | ifc h1 => exact .ifc (down a _ h1)
  | .any, v, h => .any v
  | .b _, v, h => by simp only [AV.ren] at h; cases h; exact .b _
  | .i _ _, v, h => by simp only [AV.ren] at h; cases h; exact .i _ _
  | .f _ _, v, h => by
    simp only [AV.ren] at h
    cases h with
    | f _ _ _ h1 => exact .f _ _ _ h1
  | .s _, v, h => by simp only [AV.ren] at h; cases h; exact .s _
  | .nsl, v, h => by simp only [AV.ren] at h; cases h; exact .nsl
  | .emp, v, h => by
    simp only [AV.ren] at h
    cases h with
    | emp0 => exact .emp0
    | emp1 => exact .emp1 _ _
  | .nfn, v, h => by simp only [AV.ren] at h; cases h; exact .nfn
  | .nif, v, h => by simp only [AV.ren] at h; cases h; exact .nif
  | .tok _, v, h => by
    simp only [AV.ren] at h
    cases h with
    | tok _ _ h1 => exact .tok _ _ h1
  | .junk, v, h => by
    simp only [AV.ren] at h
    cases h with
    | junk _ h1 => exact .junk _ h1
  | .unkb, v, h => by simp only [AV.ren] at h; cases h; exact .unkb _
  | .ui _, v, h => by simp only [AV.ren] at h; cases h; exact .ui _ _
  | .uf _, v, h => by simp only [AV.ren] at h; cases h; exact .uf _ _
  | .ig _ _, v, h => by
    simp only [AV.ren] at h
    cases h with
    | ig _ _ _ h1 => exact .ig _ _ _ h1
theorem downL {I : Inj} {Z : Zed} {r : Nat → Nat} : ∀ (l : List AV) (g : Nat → Option Value), (∀ (j : Nat) a v, (renL r l)[j]? = some a → g j = some v → VRel I Z a v) → ∀ (j : Nat) a v, l[j]? = some a → g j = some v → VRel (fun j => I (r j)) Z a v
  | [], g, h, j, a, v, e1, e2 => by simp at e1
  | x :: l, g, h, 0, a, v, e1, e2 => by
    have e1' : x = a := by simpa using e1
    subst e1'
    exact down x v (h 0 (x.ren r) v rfl e2)
  | x :: l, g, h, j + 1, a, v, e1, e2 => by
    exact downL l (fun i => g (i + 1)) (fun i b u h1 h2 => h (i + 1) b u (by simpa [renL] using h1) h2) j a v (by simpa using e1) e2
end

theorem downs {I : Inj} {Z : Zed} {r : Nat → Nat} {as : List AV} {vs : List Value} (h : LRel I Z (renL r as) vs) : LRel (fun j => I (r j)) Z as vs :=
  ⟨by rw [← h.1, renL_len], downL as (fun j => vs[j]?) (fun j a v e1 e2 => h.2 j a v e1 e2)⟩

theorem CellsOk.down {I : Inj} {Z : Zed} {w : World} {B : BI} {cs : List AV} {r : Nat → Nat} (h : CellsOk I Z w B (renL r cs)) : CellsOk (fun j => I (r j)) Z w B cs := by
  obtain ⟨arr, el, fr, a1, a2, a3, a4, a5⟩ := h
  refine ⟨arr, el, fr, a1, a2, by rw [renL_len] at a3; exact a3, fun j a e => ?_, a5⟩
  have e' : (renL r cs)[j]? = some (a.ren r) := by rw [renL_map, List.getElem?_map, e]; rfl
  obtain ⟨q1, v, q2, q3⟩ := a4 j _ e'
  exact ⟨by rw [AV.ren_one] at q1; exact q1, v, q2, Go.Av.down a v q3⟩
theorem MapOk.down {I : Inj} {Z : Zed} {w : World} {B : BI} {mo : MO} {r : Nat → Nat} (h : MapOk I Z w B (mo.ren r)) : MapOk (fun j => I (r j)) Z w B mo := by
  cases mo with
  | es es bs c =>
    obtain ⟨ces, a1, a2, ab, a3⟩ := h
    refine ⟨ces, a1, by rw [List.length_map] at a2; exact a2, ab, fun j a c e1 e2 => ?_⟩
    obtain ⟨q1, q2⟩ := a3 j (a.1.ren r, a.2.ren r) c (by rw [List.getElem?_map, e1]; rfl) e2
    exact ⟨Go.Av.down _ _ q1, Go.Av.down _ _ q2⟩
  | it m since seen last =>
    cases m with
    | none => exact h
    | some m => obtain ⟨h0, Bm, h1, h2⟩ := h; exact ⟨h0, Bm, h1, h2⟩

/-- A call among few blocks is one among many. -/
theorem callok_frame {E : Env} {f : FuncId} {args : List AV} {g g' H H' : AH} {v : AV} {r : Nat → Nat} {s : Nat → Option Nat} (hc : CallOk E f args g v g') (hrs : Ren r s)
    (hnew : ∀ j, g.next ≤ j → r j = H.next + (j - g.next)) (hold : ∀ j, j < g.next → r j < H.next) (hfew : ∀ j, g.next ≤ j → g.get j = none) (hget : ∀ j, j < g.next → H.get (r j) = (g.get j).map (renO r))
    (hnext : H'.next = H.next + (g'.next - g.next)) (hget' : ∀ k, H'.get k = match s k with | some j => (g'.get j).map (renO r) | none => H.get k) (hgl : ∀ x cs, E.glob x = some cs → pureL cs = true) :
    CallOk E f (renL r args) H (v.ren r) H' := by
  intro I Z w vs hg hL hr
  have hIr : ∀ j, g.next ≤ j → I (r j) = none := fun j hj => by
    cases e : I (r j) with
    | none => rfl
    | some B =>
      have := hr.fresh (r j) (.inr (by rw [e]; simp))
      rw [hnew j hj] at this; omega
  have hlt : ∀ j, g.live j → j < g.next := fun j hl => by
    rcases Nat.lt_or_ge j g.next with h | h
    · exact h
    · exact absurd (hfew j h) hl
  have hlive : ∀ j, g.live j → H.live (r j) := fun j hl => by
    have := hget j (hlt j hl)
    unfold AH.live at *
    rw [this]
    cases e : g.get j with
    | none => exact absurd e hl
    | some o => simp
  have hliveb : ∀ j, H.live (r j) → j < g.next → g.live j := fun j hl hj => by
    unfold AH.live at *
    rw [hget j hj] at hl
    intro e
    rw [e] at hl
    exact hl rfl
  have rel0 : Rel (fun j => I (r j)) Z g w := {
    cells := fun k es cs e => by
      have h1 := hget k (hlt k (by simp [AH.live, e]))
      rw [e] at h1
      obtain ⟨B, hB, he, hc⟩ := hr.cells (r k) es (renL r cs) h1
      exact ⟨B, hB, he, hc.down⟩
    map := fun k es e => by
      have h1 := hget k (hlt k (by simp [AH.live, e]))
      rw [e, Option.map_some, renO_map] at h1
      obtain ⟨B, hB, hc⟩ := hr.map (r k) _ h1
      exact ⟨B, hB, hc.down⟩
    inj := fun k k' B B' h1 h2 h3 h4 h5 => by
      have := hr.inj (r k) (r k') B B' (hlive k h1) (hlive k' h2) h3 h4 h5
      have q1 := hrs.back k
      rw [this, hrs.back] at q1
      exact (Option.some.inj q1).symm
    zed := fun b o v e => ⟨(hr.zed b o v e).1, fun k B h1 h2 h3 => (hr.zed b o v e).2 (r k) B (hlive k h1) h2 h3⟩
    fresh := fun k h => by
      rcases Nat.lt_or_ge k g.next with hk | hk
      · exact hk
      · rcases h with h | h
        · exact absurd (hfew k hk) h
        · exact absurd (hIr k hk) h
    size := fun k B e => hr.size (r k) B e }
  have hg0 : Glob (fun j => I (r j)) Z E := fun x cs e => by
    obtain ⟨us, h1, h2⟩ := hg x cs e
    exact ⟨us, pureL_rel h1 (hgl x cs e), h2⟩
  refine (hc (fun j => I (r j)) Z w vs hg0 (downs hL) rel0).mono ?_
  rintro e w' ⟨J0, Y, cv, rfl, hgo, hcv⟩
  obtain ⟨J, hJ⟩ : ∃ J : Inj, J = fun k => match s k with | some j => J0 j | none => I k := ⟨_, rfl⟩
  have hJr : ∀ j, J (r j) = J0 j := fun j => by rw [hJ]; simp only [hrs.back]
  have hJo : ∀ k, s k = none → J k = I k := fun k e => by rw [hJ]; simp only [e]
  have hup : ∀ k B, J0 k = some B → J (r k) = some B := fun k B e => by rw [hJr]; exact e
  have hIJ : I.le J := fun k B e => by
    cases hs : s k with
    | none => rw [hJo k hs]; exact e
    | some j =>
      have := hrs.fore k j hs
      subst this
      rw [hJr]
      exact hgo.le j B e
  -- what lies outside
  have hout : ∀ k B, H.live k → I k = some B → s k = none → ∀ j0 B0, g.live j0 → I (r j0) = some B0 → B0.blk ≠ B.blk := fun k B h1 h2 h3 j0 B0 h4 h5 h6 => by
    have := hr.inj (r j0) k B0 B (hlive j0 h4) h1 h5 h2 h6
    rw [← this, hrs.back] at h3; cases h3
  have hst : ∀ k B, H.live k → I k = some B → s k = none → w'.heap[B.blk]? = w.heap[B.blk]? := fun k B h1 h2 h3 =>
    hgo.fr.other B.blk (hr.size k B h2) (fun j0 B0 h4 h5 => hout k B h1 h2 h3 j0 B0 h4 h5)
  have hnx : g.next ≤ g'.next := hgo.fr.next
  have hlive' : ∀ k j, s k = some j → H'.live k → g'.live j := fun k j hs hl => by
    have h1 := hget' k
    simp only [hs] at h1
    unfold AH.live at *
    rw [h1] at hl
    intro e
    rw [e] at hl
    exact hl rfl
  have hliveo : ∀ k, s k = none → H'.live k → H.live k := fun k hs hl => by
    have h1 := hget' k
    simp only [hs] at h1
    unfold AH.live at *
    rw [← h1]; exact hl
  refine ⟨J, Y, cv, rfl, ⟨hIJ, hgo.lez, fun b o u hu => ?_, ?_, ?_⟩, hcv.ren hup⟩
  · rcases hgo.newz b o u hu with h | h | ⟨k, B, h1, h2, h3, h4⟩
    · exact .inl h
    · exact .inr (.inl h)
    · exact .inr (.inr ⟨r k, B, hlive k h1, h2, h3, h4⟩)
  · exact {
      cells := fun k es cs e => by
        have h1 := hget' k
        cases hs : s k with
        | some j =>
          simp only [hs] at h1
          rw [e] at h1
          cases eg : g'.get j with
          | none => rw [eg] at h1; cases h1
          | some o =>
            rw [eg] at h1
            cases o with
            | map es' => rw [Option.map_some, renO_map] at h1; cases h1
            | cells es' cs' =>
              cases h1
              obtain ⟨B, hB, he, hc'⟩ := hgo.rel.cells j es cs' eg
              have := hrs.fore k j hs
              subst this
              exact ⟨B, by rw [hJr]; exact hB, he, hc'.ren hup⟩
        | none =>
          simp only [hs] at h1
          rw [e] at h1
          obtain ⟨B, hB, he, hc'⟩ := hr.cells k es cs h1.symm
          exact ⟨B, by rw [hJo k hs]; exact hB, he, hc'.world hIJ hgo.lez (hst k B (by simp [AH.live, ← h1]) hB hs)⟩
      map := fun k es e => by
        have h1 := hget' k
        cases hs : s k with
        | some j =>
          simp only [hs] at h1
          rw [e] at h1
          cases eg : g'.get j with
          | none => rw [eg] at h1; cases h1
          | some o =>
            rw [eg] at h1
            cases o with
            | cells es' cs' => cases h1
            | map es' =>
              rw [Option.map_some, renO_map] at h1
              cases h1
              obtain ⟨B, hB, hc'⟩ := hgo.rel.map j es' eg
              have := hrs.fore k j hs
              subst this
              exact ⟨B, by rw [hJr]; exact hB, hc'.ren hup⟩
        | none =>
          simp only [hs] at h1
          rw [e] at h1
          obtain ⟨B, hB, hc'⟩ := hr.map k es h1.symm
          exact ⟨B, by rw [hJo k hs]; exact hB, hc'.world hIJ hgo.lez (hst k B (by simp [AH.live, ← h1]) hB hs)⟩
      inj := fun k k' B B' h1 h2 h3 h4 h5 => by
        have mixed : ∀ k k' B B' j, H'.live k → H'.live k' → J k = some B → J k' = some B' → B.blk = B'.blk → s k = some j → s k' = none → False := fun k k' B B' j h1 h2 h3 h4 h5 hs hs' => by
          have hk := hrs.fore k j hs
          subst hk
          rw [hJr] at h3
          rw [hJo k' hs'] at h4
          have hB' := hr.size k' B' h4
          obtain ⟨j0, B0, q1, q2, q3, _⟩ := hgo.fr.live j B (hlive' _ j hs h1) h3 (by omega)
          exact hout k' B' (hliveo k' hs' h2) h4 hs' j0 B0 q1 q2 (by omega)
        cases hs : s k with
        | some j =>
          cases hs' : s k' with
          | some j' =>
            have hk := hrs.fore k j hs
            have hk' := hrs.fore k' j' hs'
            subst hk; subst hk'
            rw [hJr] at h3 h4
            rw [hgo.rel.inj j j' B B' (hlive' _ j hs h1) (hlive' _ j' hs' h2) h3 h4 h5]
          | none => exact (mixed k k' B B' j h1 h2 h3 h4 h5 hs hs').elim
        | none =>
          cases hs' : s k' with
          | some j' => exact (mixed k' k B' B j' h2 h1 h4 h3 h5.symm hs' hs).elim
          | none =>
            rw [hJo k hs] at h3
            rw [hJo k' hs'] at h4
            exact hr.inj k k' B B' (hliveo k hs h1) (hliveo k' hs' h2) h3 h4 h5
      zed := fun b o u hu => by
        obtain ⟨z1, z2⟩ := hgo.rel.zed b o u hu
        refine ⟨z1, fun k B h1 h2 h3 => ?_⟩
        cases hs : s k with
        | some j =>
          have hk := hrs.fore k j hs
          subst hk
          rw [hJr] at h2
          exact z2 j B (hlive' _ j hs h1) h2 h3
        | none =>
          rw [hJo k hs] at h2
          rcases hgo.newz b o u hu with h | h | ⟨j0, B0, q1, q2, q3, q4⟩
          · exact (hr.zed b o u h).2 k B (hliveo k hs h1) h2 h3
          · have := hr.size k B h2; omega
          · exact (hout k B (hliveo k hs h1) h2 hs j0 B0 q1 q2 (by omega)).elim
      fresh := fun k h => by
        cases hs : s k with
        | some j =>
          have hk := hrs.fore k j hs
          subst hk
          have hj : j < g'.next := by
            refine hgo.rel.fresh j ?_
            rcases h with h | h
            · exact .inl (hlive' _ j hs h)
            · rw [hJr] at h; exact .inr h
          rcases Nat.lt_or_ge j g.next with hlt' | hge
          · have := hold j hlt'; omega
          · rw [hnew j hge]; omega
        | none =>
          have : k < H.next := by
            refine hr.fresh k ?_
            rcases h with h | h
            · exact .inl (hliveo k hs h)
            · rw [hJo k hs] at h; exact .inr h
          omega
      size := fun k B e => by
        cases hs : s k with
        | some j =>
          have hk := hrs.fore k j hs
          subst hk
          rw [hJr] at e
          exact hgo.rel.size j B e
        | none =>
          rw [hJo k hs] at e
          exact Nat.lt_of_lt_of_le (hr.size k B e) hgo.fr.size }
  · exact {
      os := hgo.fr.os
      out := hgo.fr.out
      size := hgo.fr.size
      next := by omega
      other := fun b hb h => hgo.fr.other b hb (fun j0 B0 h1 h2 => h (r j0) B0 (hlive j0 h1) h2)
      below := fun k B h1 h2 o ho => by
        cases hs : s k with
        | some j =>
          have hk := hrs.fore k j hs
          subst hk
          have hj : j < g.next := by
            rcases Nat.lt_or_ge j g.next with h | h
            · exact h
            · rw [hIr j h] at h2; cases h2
          exact hgo.fr.below j B (hliveb j h1 hj) h2 o ho
        | none =>
          have := hst k B h1 h2 hs
          simp only [World.cell?, this]
      live := fun k B h1 h2 h3 => by
        cases hs : s k with
        | some j =>
          have hk := hrs.fore k j hs
          subst hk
          rw [hJr] at h2
          obtain ⟨j0, B0, q1, q2, q3, q4⟩ := hgo.fr.live j B (hlive' _ j hs h1) h2 h3
          exact ⟨r j0, B0, hlive j0 q1, q2, q3, q4⟩
        | none =>
          rw [hJo k hs] at h2
          exact ⟨k, B, hliveo k hs h1, h2, rfl, Nat.le_refl _⟩ }

/-- Outcomes in an empty heap, all of which one scalar covers, are the answer in any heap. -/
theorem callok_pureM {E : Env} (hE : EnvGood E) {f : FuncId} {args as : List AV} {l : List Res} {t : AV} (hM : CallOkM E f as emptyH l) (hL : ∀ I Z vs, LRel I Z args vs → LRel noI Z as vs)
    (ht : ∀ v1 h1, Res.ret v1 h1 ∈ l → ∀ I J Z Y cv, VRel I Z v1 cv → VRel J Y t cv) (h : AH) : CallOk E f args h t h := by
  intro I Z w vs hg hLa hr
  refine (hM noI Z w vs (hg.noI hE) (hL I Z vs hLa) (empty_rel hr.le_all)).mono ?_
  rintro e w' ⟨v1, h1, hm, J, Y, cv, rfl, hgo, hv⟩
  exact ⟨I, _, cv, rfl, Rel.back_keep hr hgo, ht v1 h1 hm _ _ _ _ cv hv⟩

/-- A heap that says less, with a parameter for what may be said less of a value. -/
def covLP (p : AV → AV → Bool) : List AV → List AV → Bool
  | [], [] => true
  | a :: r, b :: s => (covV a b || p a b) && covLP p r s
  | _, _ => false
def covOP (p : AV → AV → Bool) : AO → AO → Bool
  | .cells n cs, .cells m ds => n == m && covLP p cs ds
  | .map es, .map fs => MO.beq es fs
  | _, _ => false
def AH.covP (p : AV → AV → Bool) (g h : AH) : Bool := Nat.ble h.next g.next && Tr.sub (covOP p) g.objs h.objs

def Less (p : AV → AV → Bool) : Prop := ∀ a b, p a b = true → a.one = true ∧ ∀ I Z v, VRel I Z b v → VRel I Z a v

theorem covLP_get {p : AV → AV → Bool} : ∀ (cs ds : List AV), covLP p cs ds = true → cs.length = ds.length ∧ ∀ (j : Nat) a, cs[j]? = some a → ∃ b, ds[j]? = some b ∧ (covV a b || p a b) = true
  | [], [], _ => ⟨rfl, fun j a h => by simp at h⟩
  | [], _ :: _, h => by simp [covLP] at h
  | _ :: _, [], h => by simp [covLP] at h
  | a :: r, b :: s, h => by
    simp only [covLP, Bool.and_eq_true] at h
    obtain ⟨h1, h2⟩ := covLP_get r s h.2
    refine ⟨by simp [h1], fun j x hj => ?_⟩
    cases j with
    | zero => simp at hj; subst hj; exact ⟨b, rfl, h.1⟩
    | succ j => simp at hj; simpa using h2 j x hj

theorem Goes.covP {I : Inj} {Z : Zed} {p : AV → AV → Bool} (hp : Less p) {g h : AH} {w : World} (hr : Rel I Z h w) (hc : AH.covP p g h = true) : Goes I Z h w I Z g w := by
  simp only [AH.covP, Bool.and_eq_true] at hc
  obtain ⟨hn, hs⟩ := hc
  have hn : h.next ≤ g.next := Nat.le_of_ble_eq_true hn
  have hget : ∀ k o, g.get k = some o → ∃ o', h.get k = some o' ∧ covOP p o o' = true := fun k o e => sub_get' (covOP p) _ _ hs k o e
  have hlive : ∀ k, g.live k → h.live k := fun k hl => by
    unfold AH.live at *
    cases e : g.get k with
    | none => exact absurd e hl
    | some o => obtain ⟨o', h1, _⟩ := hget k o e; rw [h1]; simp
  refine ⟨.refl _, .refl _, fun _ _ _ h => .inl h, ⟨fun k es cs e => ?_, fun k es e => ?_, fun k k' B B' h1 h2 => hr.inj k k' B B' (hlive k h1) (hlive k' h2), fun b o v hz => ⟨(hr.zed b o v hz).1, fun k B hl => (hr.zed b o v hz).2 k B (hlive k hl)⟩, fun k hk => Nat.lt_of_lt_of_le (hr.fresh k (hk.imp (hlive k) id)) hn, hr.size⟩,
    ⟨rfl, rfl, Nat.le_refl _, hn, fun _ _ _ => rfl, fun _ _ _ _ _ _ => rfl, fun k B hl hB _ => ⟨k, B, hlive k hl, hB, rfl, Nat.le_refl _⟩⟩⟩
  · obtain ⟨o', h1, h2⟩ := hget k _ e
    cases o' with
    | map fs => simp [covOP] at h2
    | cells m ds =>
      simp only [covOP, Bool.and_eq_true, beq_iff_eq] at h2
      obtain ⟨rfl, h2⟩ := h2
      obtain ⟨hl, hj⟩ := covLP_get cs ds h2
      obtain ⟨B, hB, he, arr, el, fr, a1, a2, a3, a4, a5, a6⟩ := hr.cells k es ds h1
      refine ⟨B, hB, he, arr, el, fr, a1, a2, by rw [hl]; exact a3, fun j a ha => ?_, a5, a6⟩
      obtain ⟨b, hb, hab⟩ := hj j a ha
      obtain ⟨o1, v, h3, h4⟩ := a4 j b hb
      rcases Bool.or_eq_true_iff.1 hab with hab | hab
      · exact ⟨covV_one hab o1, v, h3, covV_rel hab (a6 _ _ h3) h4⟩
      · obtain ⟨q1, q2⟩ := hp a b hab
        exact ⟨q1, v, h3, q2 _ _ _ h4⟩
  · obtain ⟨o', h1, h2⟩ := hget k _ e
    cases o' with
    | cells m ds => simp [covOP] at h2
    | map fs =>
      simp only [covOP] at h2
      rw [MO.beq_eq es fs h2]
      exact hr.map k fs h1
end
end Go.Av
