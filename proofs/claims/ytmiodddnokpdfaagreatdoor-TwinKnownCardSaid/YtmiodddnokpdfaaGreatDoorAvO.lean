/-
  What slices.overlaps answers of a slice that nobody writes and one on a block whose elements are wider than a byte: false. Surroundings for a function that asks it.
-/
import Derived.Test.YtmiodddnokpdfaaGreatDoorAvJ
import Derived.Laws.Externs
namespace Go.Av
noncomputable section
set_option linter.unusedSectionVars false
variable [Toks]
set_option linter.unusedSimpArgs false
set_option linter.unusedVariables false

def Says (P : Program) (w : World) (S : Sem Value) (x : Bool) : Prop := S.run P w = .ok (.bool x) w
theorem Says.bind {P : Program} {w : World} {α : Type} {A : Sem α} {f : α → Sem Value} {v : α} {x : Bool} (h : A.run P w = .ok v w) (g : Says P w (f v) x) : Says P w (A >>= f) x := by
  unfold Says at g ⊢
  rw [Sem.run_bind, h]; exact g
theorem Says.one {P : Program} {w : World} {x y : Bool} (h : y = x) : Says P w (pure (.bool y)) x := by rw [h]; rfl
theorem Says.ite {P : Program} {w : World} {c : Prop} [Decidable c] {A B : Sem Value} {x : Bool} (h : c → Says P w A x) (g : ¬c → Says P w B x) : Says P w (if c then A else B) x := by
  by_cases hc : c
  · rw [if_pos hc]; exact h hc
  · rw [if_neg hc]; exact g hc

theorem not_overlaps {P : Program} (w : World) (tS tR e : TypeId) (ht : P.underlying tS = some (.slice e)) (size : Nat) (hz : (Go.sizeOf e).run P w = .ok size w)
    (a b : Addr) (la ca lb cb na nb : Nat) (ta tb : TypeId) (ha : w.shape? a.block = some (ta, na)) (hna : na ≠ 0) (hb : w.shape? b.block = some (tb, nb)) (hf : w.frozen? b = false) (hfe : w.frozen? { block := b.block, off := nb } = false)
    (hs : a.block = b.block → a.off + la * size ≤ b.off) :
    Says P w (Extern.SlicesOverlaps.overlaps #[tS, tS] #[tR] #[.slice (some a) la ca, .slice (some b) lb cb]) false := by
  refine Says.bind (v := .slice e) (by exact run_underlying ht w) ?_
  refine Says.bind (v := size) (by exact hz) ?_
  refine Says.ite (fun _ => Says.one rfl) (fun h0 => ?_)
  refine Says.bind (run_frozen P w _) ?_
  refine Says.bind (run_frozen P w _) ?_
  refine Says.ite (fun h => ?_) (fun _ => ?_)
  · rw [hf] at h; simp at h
  refine Says.ite (fun h => ?_) (fun h => Says.one ?_)
  · refine Says.bind (v := ()) (by simp [noView, viewAt, ha]) ?_
    refine Says.bind (v := ()) (by simp [noView, viewAt, hb]) ?_
    obtain ⟨sa, ea⟩ : ∃ m, (stringish a).run P w = .ok m w := by
      unfold stringish
      cases h : w.frozen? a
      · simp [h, ha]
      · simp [h]
    have eb : (stringish b).run P w = .ok false w := by
      unfold stringish
      simp [hf, hb, hfe]
    refine Says.bind (v := false) ?_ ?_
    · unfold mayBeOne
      cases na with
      | zero => exact absurd rfl hna
      | succ na => cases sa <;> simp [ea, eb, ha, hb]
    · refine Says.ite (fun h => by cases h) (fun _ => Says.one ?_)
      have : (a.block == b.block) = false := by simpa using h
      simp [this]
  · have : a.block = b.block := by simpa using h
    have := hs this
    simp only [Bool.and_eq_false_iff, decide_eq_false_iff_not]
    right; omega

/-- A slice that nobody writes, and one on a live block. -/
def ovX (es0 : Nat) (args : List AV) (h : AH) : Option AV :=
  match args with
  | [.imm cs n, .own k o m _] => match h.get k with
    | some (.cells es ds) => if es = es0 ∧ es0 ≠ 1 ∧ es0 ≠ 0 ∧ cs ≠ [] ∧ cs.length = n * es0 ∧ m ≠ 0 ∧ o < ds.length then some (.b false) else none
    | _ => none
  | _ => none

theorem ovX_ok {P : Program} {f : FuncId} {es0 : Nat} {tS tR e : TypeId} (ht : P.underlying tS = some (.slice e)) (hz : ∀ w : World, (Go.sizeOf e).run P w = .ok es0 w) (hx : ExtIs P f (Extern.SlicesOverlaps.overlaps #[tS, tS] #[tR]))
    (args : List AV) (h : AH) (v : AV) (he : ovX es0 args h = some v) (I : Inj) (Z : Zed) (w : World) (vs : List Value) (hL : LRel I Z args vs) (hr : Rel I Z h w) :
    ∃ cv d, (callFunc f vs.toArray).run P w = .ok (.value cv) { w with drawn := d } ∧ VRel I Z v cv := by
  unfold ovX at he
  split at he
  · rename_i cs n k o m cap
    split at he
    · rename_i es ds hk
      split at he
      · rename_i hc
        obtain ⟨rfl, h1, h0, hne, hlen, hm, ho⟩ := hc
        cases he
        obtain ⟨v1, l1, rfl, hv1, hL1⟩ := hL.inv_cons
        obtain ⟨v2, l2, rfl, hv2, hL2⟩ := hL1.inv_cons
        obtain rfl := hL2.inv_nil
        obtain ⟨B, hB, hes, arr, elem, fr, a1, a2, a3, a4, a5⟩ := hr.cells k es ds hk
        have hlk : h.live k := by simp [AH.live, hk]
        cases hv1 with
        | @imm _ vs' _ blk base ca hl hzz hvv hca =>
        cases hv2 with
        | own0 _ _ => exact absurd rfl hm
        | @own _ _ _ capC _ B' hB' hn hcap =>
        rw [hB] at hB'; cases hB'
        have hpos : 0 < cs.length := List.length_pos_iff.2 hne
        have hfr : fr = (0, 0) := by
          rcases a5.1 with h | ⟨_, h⟩
          · exact h
          · exact absurd (hes.symm.trans h) h1
        subst hfr
        have cell : ∀ j, j < cs.length → w.cell? ⟨blk, base + j, none⟩ ≠ none ∧ (B.blk = blk → base + j < B.d) := fun j hj => by
          have hj' : j < vs'.length := by omega
          have := hr.zed _ _ _ (hzz j vs'[j] (List.getElem?_eq_getElem hj'))
          exact ⟨by rw [this.1]; simp, fun e => this.2 k B hlk hB e⟩
        obtain ⟨ta, na, hsa, hna⟩ : ∃ ta na, w.shape? blk = some (ta, na) ∧ na ≠ 0 := by
          have := (cell 0 hpos).1
          unfold World.cell? at this
          split at this
          · rename_i c el fr' hh
            refine ⟨el, c.size, by simp [World.shape?, hh], fun hs => ?_⟩
            apply this
            simp only [Option.isSome_none, Bool.false_eq_true, if_false]
            exact Array.getElem?_eq_none (by omega)
          · exact absurd rfl this
        have hsb : w.shape? B.blk = some (elem, arr.size) := by simp [World.shape?, a1]
        have key := not_overlaps (P := P) w tS tR e ht es (hz w) ⟨blk, base, none⟩ ⟨B.blk, B.d + o, none⟩ n ca m capC na arr.size ta elem hsa hna hsb (by simp [World.frozen?, a1]) (by simp [World.frozen?, a1]) (fun e => by
          have := (cell (cs.length - 1) (by omega)).2 e.symm
          show base + n * es ≤ B.d + o
          omega)
        exact ⟨.bool false, w.drawn, hx.run key, .b false⟩
      · cases he
    · cases he
  · cases he

/-- Bare surroundings with slices.overlaps. -/
def envO (P : Program) (ov es0 : Nat) (win : List (FuncId × List (Nat × List (Nat × Nat × Nat)))) : Env where
  P := P
  glob := fun _ => none
  fun_ := fun f => P.funcs[f]?
  mode := fun f => if f = ov then 5 else 0
  hook := fun _ => none
  phook := fun _ => none
  ext := fun _ => none
  ownLit := fun _ _ => false
  jn := fun _ => none
  xh := fun f => if f = ov then some (ovX es0) else none
  tb := fun _ _ _ _ => none
  tu := fun _ _ => none
  tc := fun _ _ _ => none
  win := fun f id => (lookupL f win).bind (lookupL id)

theorem envO_good {P : Program} {ov es0 : Nat} {tS tR e : TypeId} {win : List (FuncId × List (Nat × List (Nat × Nat × Nat)))} (ht : P.underlying tS = some (.slice e)) (hz : ∀ w : World, (Go.sizeOf e).run P w = .ok es0 w) (hx : ExtIs P ov (Extern.SlicesOverlaps.overlaps #[tS, tS] #[tR]))
    (hmix : P.follows .mixedOrders = true) (hd : ((win.map (·.1)).all fun f => drawCheck (envO P ov es0 win) f) = true) : EnvGood (envO P ov es0 win) where
  funs := fun f fn h => h
  xhs := fun f g hg args h v hv I Z w vs hL hr => by
    simp only [envO] at hg
    split at hg
    · rename_i hf
      cases hg; subst hf
      exact ovX_ok ht hz hx args h v hv I Z w vs hL hr
    · cases hg
  tbs := fun _ _ _ _ _ h => by cases h
  tus := fun _ _ _ h => by cases h
  jns := fun _ _ h => by cases h
  tcs := fun _ _ _ _ h => by cases h
  exts := fun f g hg => by cases hg
  pures := fun g cs h => by cases h
  hookfree := fun _ _ => rfl
  hookfree4 := fun _ _ => rfl
  mixed := hmix
  hooks := fun f g h => by cases h
  phooks := fun f g h => by cases h
  draws := fun f fn c hfn hc x hx W hW => by
    have hW' : (lookupL f win).bind (lookupL x.1) = some W := hW
    obtain ⟨l, h1, _⟩ := Option.bind_eq_some_iff.1 hW'
    have := List.all_eq_true.1 hd f (lookupL_mem h1)
    unfold drawCheck at this
    simp only [hfn, hc] at this
    have := List.all_eq_true.1 this x hx
    rw [hW] at this
    simpa using this
end
end Go.Av
