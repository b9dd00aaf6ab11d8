/-
  A function that puts elements into a slice, whatever the slice's capacity.
-/
import Derived.Test.YtmiodddnokpdfaaGreatDoorAvI
namespace Go.Av
noncomputable section
set_option linter.unusedSectionVars false
variable [Toks]
set_option linter.unusedSimpArgs false
set_option linter.unusedVariables false

/-- The heap in which the block is known to its end. -/
def padH (h : AH) (k es c : Nat) (cs : List AV) : AH := h.set k (.cells es (cs ++ List.replicate (c * es - cs.length) .junk))

theorem put_ok {E : Env} (hE : EnvGood E) {f : FuncId} {N n n' k es : Nat} {args : List AV} {h : AH} {cs content : List AV} (hn : 0 < n) (hn' : 0 < n') (hk : h.get k = some (.cells es cs)) (hlen : content.length = n' * es)
    (hA : ∀ c, n ≤ c → cs.length ≤ c * es → c < n' → ∃ hA, run E N (.call f (.own k 0 n (some c) :: args) (padH h k es c cs)) = some (.ret (.own h.next 0 n' none) hA) ∧ hA.Alike ((padH h k es c cs).new (.cells es content)))
    (hB : ∀ c, n ≤ c → cs.length ≤ c * es → n' ≤ c → ∃ hB rest, run E N (.call f (.own k 0 n (some c) :: args) (padH h k es c cs)) = some (.ret (.own k 0 n' (some c)) hB) ∧ hB.Alike (h.set k (.cells es (content ++ rest)))) :
    CallOk E f (.own k 0 n none :: args) h (.own h.next 0 n' none) ((h.del k).new (.cells es content)) := by
  intro I Z w vs hg hL hr
  obtain ⟨v0, vs0, rfl, hv0, hL0⟩ := hL.inv_cons
  obtain ⟨B, c, hB1, hnc, hBN, rfl, hv1⟩ := hv0.capOf hn
  obtain ⟨B', hB2, hes, arr, el, fr, a1, a2, a3, a4, a5⟩ := hr.cells k es cs hk
  rw [hB1] at hB2; cases hB2
  rw [hes] at hBN
  have hcl : cs.length ≤ c * es := by omega
  have hp : Goes I Z h w I Z (padH h k es c cs) w := Goes.pad hr hk hB1 (by omega)
  have hL1 : LRel I Z (.own k 0 n (some c) :: args) (.slice (some ⟨B.blk, B.d + 0, none⟩) n c :: vs0) := .cons hv1 hL0
  by_cases hcn : c < n'
  · obtain ⟨h2, e, al⟩ := hA c hnc hcl hcn
    refine (call_ok hE e I Z w _ hg hL1 hp.rel).mono ?_
    rintro e' w' ⟨J, Y, cv, rfl, hgo, hv⟩
    have hd := Goes.del hgo.rel k
    have al2 : (h2.del k).Alike ((h.del k).new (.cells es content)) := by
      refine ⟨by rw [AH.next_del, al.next]; rfl, fun j => ?_⟩
      rw [AH.get_del, al.get, AH.get_new, AH.get_new, AH.get_del, AH.next_del]
      have hkn : k < h.next := hr.fresh k (.inl (by simp [AH.live, hk]))
      have e1 : (padH h k es c cs).next = h.next := rfl
      rw [e1]
      by_cases hj : j = k
      · subst hj; rw [if_pos rfl, if_neg (by omega), if_pos rfl]
      · rw [if_neg hj, if_neg hj]
        by_cases hj2 : j = h.next
        · rw [if_pos hj2, if_pos hj2]
        · rw [if_neg hj2, if_neg hj2]
          unfold padH
          rw [AH.get_set, if_neg hj]
    exact ⟨J, Y, cv, rfl, (hp.trans hr (hgo.trans hp.rel hd)).alike al2, hv⟩
  · obtain ⟨h2, rest, e, al⟩ := hB c hnc hcl (by omega)
    refine (call_ok hE e I Z w _ hg hL1 hp.rel).mono ?_
    rintro e' w' ⟨J, Y, cv, rfl, hgo, hv⟩
    have hJ : J k = some B := hgo.le k B hB1
    have hk2 : h2.get k = some (.cells es (content ++ rest)) := by rw [al.get, AH.get_set, if_pos rfl]
    have hren := Goes.rename (o := 0) (n := n' * es) hgo.rel hk2 hJ (by simp; omega)
    have hnx : h2.next = h.next := al.next
    have hct : ((content ++ rest).drop 0).take (n' * es) = content := by rw [List.drop_zero, ← hlen]; exact List.take_left' rfl
    rw [hct, hnx] at hren
    have al2 : ((h2.del k).new (.cells es content)).Alike ((h.del k).new (.cells es content)) := by
      refine ⟨by rw [AH.next_new, AH.next_new, AH.next_del, AH.next_del, hnx], fun j => ?_⟩
      rw [AH.get_new, AH.get_new, AH.next_del, AH.next_del, hnx, AH.get_del, AH.get_del, al.get, AH.get_set]
      by_cases hj2 : j = h.next
      · rw [if_pos hj2, if_pos hj2]
      · rw [if_neg hj2, if_neg hj2]
        by_cases hj : j = k
        · rw [if_pos hj, if_pos hj]
        · rw [if_neg hj, if_neg hj, if_neg hj]
    refine ⟨_, Y, cv, rfl, (hp.trans hr (hgo.trans hp.rel hren)).alike al2, ?_⟩
    cases hv with
    | @own _ _ _ capC _ B2 h3 h4 h5 =>
      rw [hJ] at h3; cases h3
      have h5' : capC = c := h5
      subst h5'
      have : VRel (J.put h.next { B with d := B.d + 0 }) Y (.own h.next 0 n' none) (.slice (some ⟨B.blk, B.d + 0 + 0, none⟩) n' capC) :=
        VRel.own Inj.put_same h4 (by simp only [capOk]; rw [hes]; omega)
      exact this
    | own0 => omega
end
end Go.Av
