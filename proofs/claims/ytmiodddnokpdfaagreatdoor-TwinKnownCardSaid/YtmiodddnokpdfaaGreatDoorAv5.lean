/-
  Slicing, comparing, reckoning, looking into a map: what the abstract machine says of them, the model does.
-/
import Derived.Test.YtmiodddnokpdfaaGreatDoorAv4
import Derived.Laws.StructEq
namespace Go.Av
noncomputable section
set_option linter.unusedSectionVars false
variable [Toks]
set_option linter.unusedSimpArgs false

/-- An operand that may be missing. -/
def ORel (I : Inj) (Z : Zed) : Option AV → Option Value → Prop
  | none, none => True
  | some a, some v => VRel I Z a v
  | _, _ => False

theorem ORel.map {I : Inj} {Z : Zed} {α : Type} (o : Option α) {f : α → AV} {g : α → Value} (h : ∀ x, VRel I Z (f x) (g x)) : ORel I Z (o.map f) (o.map g) := by
  cases o with
  | none => trivial
  | some x => exact h x

theorem esA_some {P : Program} {t : TypeId} {n : Nat} (h : esA P t = some n) : szA P t = some n ∧ 0 < n := by
  unfold esA at h
  split at h
  · cases h
  · rename_i hne
    refine ⟨h, ?_⟩
    rcases Nat.eq_zero_or_pos n with e | e
    · subst e; exact absurd h (by simpa using hne)
    · exact e

theorem cap_bound {u c es x N : Nat} (hes : 0 < es) (hc : x + c * es = N) (h2 : x + u * es ≤ N) : u ≤ c := by
  rcases Nat.lt_or_ge c u with h | h
  · have := Nat.mul_lt_mul_of_pos_right h hes; omega
  · exact h

section run
variable {P : Program} {w : World}

theorem optIntA_rel {I : Inj} {Z : Zed} {d l : Int} {o : Option AV} {c : Option Value} (h : ORel I Z o c) (e : optIntA d o = some l) :
    (c = none ∧ o = none ∧ l = d) ∨ ∃ k, c = some (.int k l) := by
  cases o with
  | none =>
    cases c with
    | none => simp [optIntA] at e; exact .inl ⟨rfl, rfl, e.symm⟩
    | some v => exact h.elim
  | some a =>
    cases c with
    | none => exact h.elim
    | some v =>
      obtain ⟨k, rfl, _⟩ := intA_rel h e
      exact .inr ⟨k, rfl⟩

theorem run_bound {k : IntKind} {l : Int} {y : Nat} {c : BoundsCode} (h0 : 0 ≤ l) (h1 : l ≤ y) : (Instr.sliceBound (.int k l) y c).run P w = .ok l.toNat w := by
  simp [Instr.sliceBound, asIntOf, h0, h1]

theorem run_bounds {I : Inj} {Z : Zed} {lo hi : Option AV} {clo chi : Option Value} (hlo : ORel I Z lo clo) (hhi : ORel I Z hi chi) {b : Bool} {n cap : Nat} {l u : Int}
    (el : optIntA 0 lo = some l) (eu : optIntA n hi = some u) (h0 : 0 ≤ l) (h1 : l ≤ u) (h2 : u ≤ cap) :
    (Instr.sliceBounds b n cap clo chi none).run P w = .ok (l.toNat, u.toNat, cap) w := by
  have hl := optIntA_rel hlo el
  have hu := optIntA_rel hhi eu
  have hb : ∀ (k : IntKind) (c : BoundsCode), (Instr.sliceBound (.int k u) cap c).run P w = .ok u.toNat w := fun k c => run_bound (by omega) h2
  have ha : ∀ (k : IntKind) (c : BoundsCode), (Instr.sliceBound (.int k l) u.toNat c).run P w = .ok l.toNat w := fun k c => run_bound h0 (by omega)
  rcases hl with ⟨rfl, _, rfl⟩ | ⟨k1, rfl⟩ <;> rcases hu with ⟨rfl, _, rfl⟩ | ⟨k2, rfl⟩
  · simp [Instr.sliceBounds]
  · simp [Instr.sliceBounds, hb]
  · simp only [Instr.sliceBounds, Sem.run_bind, Sem.run_pure, Result.andThen_ok]
    rw [show (n : Nat) = (n : Int).toNat by simp, ha]; simp
  · simp [Instr.sliceBounds, hb, ha]

theorem run_bounds3 {I : Inj} {Z : Zed} {lo hi : Option AV} {clo chi : Option Value} (hlo : ORel I Z lo clo) (hhi : ORel I Z hi chi) (hne : hi ≠ none) {b : Bool} {n cap : Nat} {l u c : Int} {k : IntKind}
    (el : optIntA 0 lo = some l) (eu : optIntA n hi = some u) (h0 : 0 ≤ l) (h1 : l ≤ u) (h2 : u ≤ c) (h3 : c ≤ cap) :
    (Instr.sliceBounds b n cap clo chi (some (.int k c))).run P w = .ok (l.toNat, u.toNat, c.toNat) w := by
  have hl := optIntA_rel hlo el
  have hu := optIntA_rel hhi eu
  have hc : ∀ (k : IntKind) (x : BoundsCode), (Instr.sliceBound (.int k c) cap x).run P w = .ok c.toNat w := fun k x => run_bound (by omega) h3
  have hb : ∀ (k : IntKind) (x : BoundsCode), (Instr.sliceBound (.int k u) c.toNat x).run P w = .ok u.toNat w := fun k x => run_bound (by omega) (by omega)
  have ha : ∀ (k : IntKind) (x : BoundsCode), (Instr.sliceBound (.int k l) u.toNat x).run P w = .ok l.toNat w := fun k x => run_bound h0 (by omega)
  rcases hl with ⟨rfl, _, rfl⟩ | ⟨k1, rfl⟩ <;> rcases hu with ⟨rfl, hx, rfl⟩ | ⟨k2, rfl⟩
  · exact absurd hx hne
  · simp [Instr.sliceBounds, hb, hc]
  · exact absurd hx hne
  · simp [Instr.sliceBounds, hb, ha, hc]

theorem sliceAt_slice {t e : TypeId} (hu : P.underlying t = some (.slice e)) (v : Value) (lo hi mx : Option Value) : (Instr.sliceAt t v lo hi mx).run P w = (Instr.slice t v lo hi mx).run P w := by
  simp [Instr.sliceAt, run_underlying hu]

theorem sliceAt_string {t : TypeId} (hu : P.underlying t = some .string) (v : Value) (lo hi mx : Option Value) : (Instr.sliceAt t v lo hi mx).run P w = (Instr.slice t v lo hi mx).run P w := by
  simp [Instr.sliceAt, run_underlying hu]

theorem sliceA_rel {I : Inj} {Z : Zed} {h : AH} (hr : Rel I Z h w) {x : AV} {v : Value} (hv : VRel I Z x v) {lo hi mx : Option AV} {clo chi cmx : Option Value}
    (hlo : ORel I Z lo clo) (hhi : ORel I Z hi chi) (hmx : ORel I Z mx cmx) {t : TypeId} {r : AV} (e : sliceA P h t x lo hi mx = some r) :
    ∃ cv, (Instr.sliceAt t v clo chi cmx).run P w = .ok cv w ∧ VRel I Z r cv := by
  unfold sliceA at e
  split at e
  · -- a string
    rename_i s hu
    cases hv
    split at e
    · rename_i l u el eu
      split at e
      · rename_i hb
        cases e
        cases cmx with
        | some m => exact hmx.elim
        | none =>
          refine ⟨.string (s.extract l.toNat u.toNat), ?_, .s _⟩
          rw [sliceAt_string hu]
          simp [Instr.slice, run_underlying hu, run_bounds hlo hhi el eu hb.1 hb.2.1 hb.2.2]
      · cases e
    · cases e
  · -- nil
    rename_i el hu
    cases hv
    split at e
    · rename_i n hn e1 e2
      cases e
      cases cmx with
      | some m => exact hmx.elim
      | none =>
        refine ⟨.slice none 0 0, ?_, .nsl⟩
        rw [sliceAt_slice hu]
        simp [Instr.slice, run_underlying hu, run_szA hn, run_bounds (cap := 0) hlo hhi e1 e2 (Int.le_refl _) (Int.le_refl _) (Int.le_refl _)]
    · rename_i n m hn e1 e2
      split at e
      · rename_i hb
        cases e
        cases cmx with
        | none => exact hmx.elim
        | some mv =>
          obtain ⟨k, rfl, _⟩ := intA_rel hmx hb.2
          refine ⟨.slice none 0 0, ?_, .nsl⟩
          rw [sliceAt_slice hu]
          have hne : hi ≠ none := by intro hh; simp [hh] at hb
          have := run_bounds3 (P := P) (w := w) (b := true) (cap := 0) (k := k) hlo hhi hne e1 e2 (Int.le_refl _) (Int.le_refl _) (Int.le_refl 0) (Int.le_refl _)
          simp [Instr.slice, run_underlying hu, run_szA hn, this]
      · cases e
    · cases e
  · -- nothing
    rename_i el hu
    split at e
    · rename_i n hn e1 e2
      cases e
      cases cmx with
      | some m => exact hmx.elim
      | none =>
        cases hv with
        | emp0 =>
          refine ⟨.slice none 0 0, ?_, .emp0⟩
          rw [sliceAt_slice hu]
          simp [Instr.slice, run_underlying hu, run_szA hn, run_bounds (cap := 0) hlo hhi e1 e2 (Int.le_refl _) (Int.le_refl _) (Int.le_refl _)]
        | emp1 b o =>
          refine ⟨.slice (some ⟨b, o, none⟩) 0 0, ?_, .emp1 b o⟩
          rw [sliceAt_slice hu]
          simp [Instr.slice, run_underlying hu, run_szA hn, run_bounds (cap := 0) hlo hhi e1 e2 (Int.le_refl _) (Int.le_refl _) (Int.le_refl _)]
    · rename_i n m hn e1 e2
      split at e
      · rename_i hb
        cases e
        cases cmx with
        | none => exact hmx.elim
        | some mv =>
          obtain ⟨k, rfl, _⟩ := intA_rel hmx hb.2
          have hne : hi ≠ none := by intro hh; simp [hh] at hb
          have := run_bounds3 (P := P) (w := w) (b := true) (cap := 0) (k := k) hlo hhi hne e1 e2 (Int.le_refl _) (Int.le_refl _) (Int.le_refl 0) (Int.le_refl _)
          cases hv with
          | emp0 =>
            refine ⟨.slice none 0 0, ?_, .emp0⟩
            rw [sliceAt_slice hu]
            simp [Instr.slice, run_underlying hu, run_szA hn, this]
          | emp1 b o =>
            refine ⟨.slice (some ⟨b, o, none⟩) 0 0, ?_, .emp1 b o⟩
            rw [sliceAt_slice hu]
            simp [Instr.slice, run_underlying hu, run_szA hn, this]
      · cases e
    · cases e
  · -- a slice that stays
    rename_i el cs n hu
    split at e
    · rename_i es0 m hes e1 e2
      split at e
      · rename_i hb
        cases e
        cases cmx with
        | none => exact hmx.elim
        | some mv =>
          obtain ⟨k, rfl, _⟩ := intA_rel hmx hb.2
          have hne : hi ≠ none := by intro hh; simp [hh] at hb
          cases hv with
          | imm hl hz hvv hc =>
            rename_i vs blk base cap
            have := run_bounds3 (P := P) (w := w) (b := true) (cap := cap) (k := k) hlo hhi hne e1 e2 (Int.le_refl _) (Int.le_refl _) (Int.le_refl 0) (by omega)
            refine ⟨.slice (some ⟨blk, base, none⟩) 0 0, ?_, .emp1 blk base⟩
            rw [sliceAt_slice hu]
            simp [Instr.slice, run_underlying hu, run_szA hes, this]
      · cases e
    · rename_i es l u hes e1 e2
      split at e
      · rename_i hb
        cases e
        cases cmx with
        | some m => exact hmx.elim
        | none =>
          cases hv with
          | imm hl hz hvv hc =>
            rename_i vs blk base cap
            have hrun := run_bounds (P := P) (w := w) (b := true) (cap := cap) hlo hhi e1 e2 hb.1 hb.2.1 (by have := hb.2.2; omega)
            have hL : LRel I Z cs vs := ⟨hl.symm, hvv⟩
            by_cases hm : cap = l.toNat
            · have hul : u.toNat - l.toNat = 0 := by have := hb.1; have := hb.2.1; have := hb.2.2; omega
              refine ⟨.slice (some ⟨blk, base, none⟩) (u.toNat - l.toNat) (cap - l.toNat), ?_, ?_⟩
              · rw [sliceAt_slice hu]
                simp [Instr.slice, run_underlying hu, run_szA hes, hrun]; simp [hm]
              · rw [hul]
                exact .imm (vs := []) (by simp) (fun j v e => by simp at e) (fun j a v e => by simp at e) (Nat.zero_le _)
            · refine ⟨.slice (some ⟨blk, base + l.toNat * es, none⟩) (u.toNat - l.toNat) (cap - l.toNat), ?_, ?_⟩
              · rw [sliceAt_slice hu]
                simp [Instr.slice, run_underlying hu, run_szA hes, hrun, hm, addr_add]
              · have hL' := (hL.drop (l.toNat * es)).take ((u.toNat - l.toNat) * es)
                refine .imm hL'.1.symm (fun j v ev => ?_) hL'.2 (by have := hb.2.2; omega)
                rw [List.getElem?_take] at ev
                split at ev
                · rw [List.getElem?_drop] at ev
                  rw [Nat.add_assoc]; exact hz _ v ev
                · cases ev
      · cases e
    · cases e
  · -- a slice of a block
    rename_i el k o n cap hu
    split at e
    · rename_i es cs hg
      obtain ⟨B, hB, hBes, arr, tt, fr, a1, a2, a3, a4, a5⟩ := hr.cells k es cs hg
      split at e
      · rename_i es' l u hes0 e1 e2
        obtain ⟨hes, hpos⟩ := esA_some hes0
        split at e
        · rename_i hb
          obtain ⟨rfl, h0, h1, h2, h3⟩ := hb
          cases e
          cases cmx with
          | some m => exact hmx.elim
          | none =>
            cases hv with
            | own hk hn hc =>
              rename_i capC B'
              rw [hB] at hk; cases hk
              have hucap : u ≤ capC := by
                cases cap with
                | some c => simp [capOk] at hc; simp [capLe] at h3; omega
                | none =>
                  simp only [capOk] at hc
                  rw [hBes] at hc
                  have := cap_bound (u := u.toNat) hpos hc (by omega)
                  omega
              have hrun := run_bounds (P := P) (w := w) (b := true) (cap := capC) hlo hhi e1 e2 h0 h1 hucap
              by_cases hm : capC = l.toNat
              · have hul : u.toNat - l.toNat = 0 := by omega
                refine ⟨.slice (some ⟨B.blk, B.d + o, none⟩) (u.toNat - l.toNat) (capC - l.toNat), ?_, ?_⟩
                · rw [sliceAt_slice hu]
                  simp [Instr.slice, run_underlying hu, run_szA hes, hrun]; simp [hm]
                · rw [hul, hm, Nat.sub_self]
                  refine .own0 hB ?_
                  cases cap with
                  | some c => simp [capOk] at hc ⊢; omega
                  | none => simp only [capOk, Option.map_none] at hc ⊢; rw [hBes] at hc ⊢; rw [hm] at hc; omega
              · refine ⟨.slice (some ⟨B.blk, B.d + (o + l.toNat * es'), none⟩) (u.toNat - l.toNat) (capC - l.toNat), ?_, ?_⟩
                · rw [sliceAt_slice hu]
                  simp [Instr.slice, run_underlying hu, run_szA hes, hrun, hm, addr_add, Nat.add_assoc]
                · refine .own hB (by omega) ?_
                  cases cap with
                  | some c => simp [capOk] at hc ⊢; omega
                  | none =>
                    simp only [capOk, Option.map_none] at hc ⊢
                    rw [hBes] at hc ⊢
                    have : capC * es' = l.toNat * es' + (capC - l.toNat) * es' := by rw [← Nat.add_mul]; congr 1; omega
                    omega
            | own0 hk hc =>
              rename_i off B'
              rw [hB] at hk; cases hk
              have hu0 : u = 0 ∧ l = 0 := by
                cases cap with
                | some c => simp [capOk] at hc; simp [capLe] at h3; omega
                | none =>
                  simp only [capOk] at hc
                  rw [hBes] at hc
                  have := cap_bound (u := u.toNat) hpos hc (by omega)
                  omega
              obtain ⟨rfl, rfl⟩ := hu0
              refine ⟨.slice (some ⟨B.blk, off, none⟩) 0 0, ?_, ?_⟩
              · rw [sliceAt_slice hu]
                simp [Instr.slice, run_underlying hu, run_szA hes, run_bounds (cap := 0) hlo hhi e1 e2 (Int.le_refl _) (Int.le_refl _) (Int.le_refl _)]
              · refine .own0 hB ?_
                cases cap with
                | some c => simp [capOk] at hc ⊢; omega
                | none => simpa [capOk] using hc
        · cases e
      · rename_i es' l u mv hes0 e1 e2
        obtain ⟨hes, hpos⟩ := esA_some hes0
        split at e
        · rename_i c hcv
          split at e
          · rename_i hb
            obtain ⟨rfl, hne, h0, h1, h2, h3, h4⟩ := hb
            cases e
            cases cmx with
            | none => exact hmx.elim
            | some mvv =>
              obtain ⟨kk, rfl, _⟩ := intA_rel hmx hcv
              have hne' : hi ≠ none := by intro hh; simp [hh] at hne
              cases hv with
              | own hk hn hc =>
                rename_i capC B'
                rw [hB] at hk; cases hk
                have hucap : c ≤ capC := by
                  cases cap with
                  | some c' => simp [capOk] at hc; simp [capLe] at h4; omega
                  | none =>
                    simp only [capOk] at hc
                    rw [hBes] at hc
                    have := cap_bound (u := c.toNat) hpos hc (by omega)
                    omega
                have hrun := run_bounds3 (P := P) (w := w) (b := true) (cap := capC) (k := kk) hlo hhi hne' e1 e2 h0 h1 h2 hucap
                by_cases hm : c.toNat = l.toNat
                · have hul : u.toNat - l.toNat = 0 := by omega
                  refine ⟨.slice (some ⟨B.blk, B.d + o, none⟩) (u.toNat - l.toNat) (c.toNat - l.toNat), ?_, ?_⟩
                  · rw [sliceAt_slice hu]
                    simp [Instr.slice, run_underlying hu, run_szA hes, hrun]; simp [hm]
                  · rw [hul, hm, Nat.sub_self]
                    exact .own0 hB (by simp [capOk])
                · refine ⟨.slice (some ⟨B.blk, B.d + (o + l.toNat * es'), none⟩) (u.toNat - l.toNat) (c.toNat - l.toNat), ?_, ?_⟩
                  · rw [sliceAt_slice hu]
                    simp [Instr.slice, run_underlying hu, run_szA hes, hrun, hm, addr_add, Nat.add_assoc]
                  · exact .own hB (by omega) (by simp [capOk])
              | own0 hk hc =>
                rename_i off B'
                rw [hB] at hk; cases hk
                have hu0 : c = 0 ∧ u = 0 ∧ l = 0 := by
                  cases cap with
                  | some c => simp [capOk] at hc; simp [capLe] at h4; omega
                  | none =>
                    simp only [capOk] at hc
                    rw [hBes] at hc
                    have := cap_bound (u := c.toNat) hpos hc (by omega)
                    omega
                obtain ⟨rfl, rfl, rfl⟩ := hu0
                refine ⟨.slice (some ⟨B.blk, off, none⟩) 0 0, ?_, ?_⟩
                · rw [sliceAt_slice hu]
                  have := run_bounds3 (P := P) (w := w) (b := true) (cap := 0) (k := kk) hlo hhi hne' e1 e2 (Int.le_refl _) (Int.le_refl _) (Int.le_refl 0) (Int.le_refl _)
                  simp [Instr.slice, run_underlying hu, run_szA hes, this]
                · exact .own0 hB (by simp [capOk])
          · cases e
        · cases e
      · cases e
    · cases e
  · cases e

end run
end
end Go.Av
