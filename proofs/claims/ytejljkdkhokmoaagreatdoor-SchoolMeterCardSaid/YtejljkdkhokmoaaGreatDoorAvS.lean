/-
  A meter's Add in any heap: a hook, out of what it does in a small one.
-/
import Derived.Test.YtejljkdkhokmoaaGreatDoorAvQ
namespace Go.Av
noncomputable section
set_option linter.unusedSectionVars false
set_option linter.unusedSimpArgs false
set_option linter.unusedVariables false
set_option maxRecDepth 20000
variable [Toks]

theorem Goes.weak {I : Inj} {Z : Zed} {p : AV → AV → Bool} (hp : Less p) {h : AH} {w : World} (hr : Rel I Z h w) {k es : Nat} {cs ds : List AV} (hk : h.get k = some (.cells es ds)) (hc : covLP p cs ds = true) : Goes I Z h w I Z (h.set k (.cells es cs)) w := by
  obtain ⟨hl, hj⟩ := covLP_get cs ds hc
  obtain ⟨B, hB, he, arr, el, fr, a1, a2, a3, a4, a5, a6⟩ := hr.cells k es ds hk
  refine Goes.write hr hk hB rfl rfl rfl (fun _ _ => rfl) a1 a1 rfl (fun _ _ => rfl) (by rw [hl]; exact a3) (fun j a ha => ?_) (fun _ _ h => .inl h)
  obtain ⟨b, hb, hab⟩ := hj j a ha
  obtain ⟨o1, v, h3, h4⟩ := a4 j b hb
  rcases Bool.or_eq_true_iff.1 hab with hab | hab
  · exact ⟨covV_one hab o1, v, h3, covV_rel hab (a6 _ _ h3) h4⟩
  · obtain ⟨q1, q2⟩ := hp a b hab
    exact ⟨q1, v, h3, q2 _ _ _ h4⟩

def pE (a b : AV) : Bool := match a, b with
  | .tok x, .i .i64 (.ofNat y) => Nat.beq x 99 && Nat.beq y 0
  | .uf .f64, .tok y => tfG y
  | _, _ => false

def addOut (h : AH) (p k m : Nat) : AH := ⟨h.next + 2, (((h.objs.set p (some (.cells 7 (row (.own (h.next + 1) 0 (m + 1) none) (100 * (m + 1) + 99))))).set k none).set (h.next + 1) (some (.cells 1 (uis (m + 1)))))⟩
def addOut0 (h : AH) (p : Nat) : AH := ⟨h.next + 2, ((h.objs.set p (some (.cells 7 (row (.own (h.next + 1) 0 1 none) 199)))).set (h.next + 1) (some (.cells 1 (uis 1))))⟩

def addH (lim : Nat) (args : List AV) (h : AH) : Option (AV × AH) :=
  match args with
  | [.p (some (p, 0)), .tok x] => match h.get p with
    | some (.cells 7 (k0 :: rest)) => if (Nat.beq (x % 100) 6 && (Nat.blt (x / 100) lim && covLP pE [.tok (100 * (x / 100) + 99), .ui .i64, .uf .f64, .uf .f64, .uf .f64, .uf .f64] rest)) = true then
        (match k0 with
        | .nsl => if x / 100 = 0 then some (.tup [], addOut0 h p) else none
        | .own k 0 n none => if n = x / 100 ∧ 0 < n ∧ k ≠ p then (match h.get k with
          | some (.cells 1 cs) => if covLP pE (uis n) cs = true then some (.tup [], addOut h p k n) else none
          | _ => none) else none
        | _ => none) else none
    | _ => none
  | _ => none

theorem uis_ren (r : Nat → Nat) (n : Nat) : renL r (uis n) = uis n := by
  rw [renL_map]; unfold uis; rw [List.map_replicate]; rfl
theorem row_ren (r : Nat → Nat) (k : AV) (a : Nat) : renL r (row k a) = row (k.ren r) a := rfl

theorem gOut_get (K m a j : Nat) : (gOut K m a).get j = if j = K then some (.cells 1 (uis m)) else if j = 0 then some (.cells 7 (row (.own K 0 m none) a)) else none := by
  unfold gOut
  rw [AH.get_set, AH.get_set]
  split
  · rfl
  · split
    · rfl
    · exact Tr.get_lf j
theorem g0_get (a j : Nat) : (g0 a).get j = if j = 0 then some (.cells 7 (row .nsl a)) else none := by
  unfold g0
  rw [AH.get_set]
  split
  · rfl
  · exact Tr.get_lf j

theorem addOut_get (h : AH) (p k m j : Nat) : (addOut h p k m).get j = if j = h.next + 1 then some (.cells 1 (uis (m + 1))) else if j = k then none else if j = p then some (.cells 7 (row (.own (h.next + 1) 0 (m + 1) none) (100 * (m + 1) + 99))) else h.get j := by
  unfold addOut
  show Tr.get _ j = _
  rw [Tr.get_set, Tr.get_set, Tr.get_set]; rfl
theorem addOut0_get (h : AH) (p j : Nat) : (addOut0 h p).get j = if j = h.next + 1 then some (.cells 1 (uis 1)) else if j = p then some (.cells 7 (row (.own (h.next + 1) 0 1 none) 199)) else h.get j := by
  unfold addOut0
  show Tr.get _ j = _
  rw [Tr.get_set, Tr.get_set]; rfl

def rTo (p k nx j : Nat) : Nat := if j = 0 then p else if j = 1 then k else nx + (j - 2)
def rOf (p k nx j : Nat) : Option Nat := if j = p then some 0 else if j = k then some 1 else if nx ≤ j then some (j - nx + 2) else none
theorem ren_2 {p k nx : Nat} (hp : p < nx) (hk : k < nx) (hpk : k ≠ p) : Ren (rTo p k nx) (rOf p k nx) where
  back := fun j => by
    unfold rTo rOf
    by_cases h0 : j = 0
    · subst h0; simp
    · by_cases h1 : j = 1
      · subst h1; simp [hpk]
      · rw [if_neg h0, if_neg h1, if_neg (by omega), if_neg (by omega), if_pos (by omega)]
        congr 1; omega
  fore := fun j i h => by
    unfold rOf at h
    unfold rTo
    split at h
    · cases h; simp; omega
    · split at h
      · cases h; simp; omega
      · split at h
        · cases h; rw [if_neg (by omega), if_neg (by omega)]; omega
        · cases h

def qTo (p nx j : Nat) : Nat := if j = 0 then p else nx + (j - 1)
def qOf (p nx j : Nat) : Option Nat := if j = p then some 0 else if nx ≤ j then some (j - nx + 1) else none
theorem ren_1 {p nx : Nat} (hp : p < nx) : Ren (qTo p nx) (qOf p nx) where
  back := fun j => by
    unfold qTo qOf
    by_cases h0 : j = 0
    · subst h0; simp
    · rw [if_neg h0, if_neg (by omega), if_pos (by omega)]
      congr 1; omega
  fore := fun j i h => by
    unfold qOf at h
    unfold qTo
    split at h
    · cases h; simp; omega
    · split at h
      · cases h; rw [if_neg (by omega)]; omega
      · cases h

theorem addH_ok {E : Env} (hgl : ∀ g, E.glob g = none) (hless : Less pE) {f : FuncId} {lim : Nat} (h0 : CallOk E f [.p (some (0, 0)), .tok 6] (g0 99) (.tup []) (gOut 2 1 199))
    (hN : ∀ i, 0 < i → i < lim → CallOk E f [.p (some (0, 0)), .tok (100 * i + 6)] (gN i (100 * i + 99)) (.tup []) (gOut 3 (i + 1) (100 * (i + 1) + 99))) {args : List AV} {h h' : AH} {v : AV} (e : addH lim args h = some (v, h')) : CallOk E f args h v h' := by
  unfold addH at e
  split at e
  · rename_i p x
    split at e
    · rename_i k0 rest hgp
      split at e
      · rename_i hc
        simp only [Bool.and_eq_true] at hc
        obtain ⟨c1, c2, c3⟩ := hc
        have c1 : x % 100 = 6 := Nat.eq_of_beq_eq_true c1
        have hlim : x / 100 < lim := by simpa [Nat.blt_eq] using c2
        clear c2
        obtain ⟨i, hi⟩ : ∃ i, i = x / 100 := ⟨_, rfl⟩
        have hx : x = 100 * i + 6 := by omega
        rw [← hi] at hlim c3
        intro I Z w vs hg hL hr
        have hpn : p < h.next := hr.fresh p (.inl (by simp [AH.live, hgp]))
        have hfree : ∀ j, h.next ≤ j → h.get j = none := fun j hj => by
          cases e : h.get j with
          | none => rfl
          | some o => have := hr.fresh j (.inl (by simp [AH.live, e])); omega
        have covk : ∀ k0, covV k0 k0 = true → covLP pE (row k0 (100 * i + 99)) (k0 :: rest) = true := fun k0 hk0 => by
          simp only [row, covLP, Bool.and_eq_true]
          refine ⟨?_, by simpa [covLP, Bool.and_eq_true] using c3⟩
          rw [Bool.or_eq_true]
          exact .inl hk0
        split at e
        · -- nil
          split at e
          · rename_i hi0
            rw [← hi] at hi0
            subst hi0
            cases e
            rw [show x = 6 by omega] at hL
            have w1 := Goes.weak hless hr hgp (covk .nsl rfl)
            have hfr := callok_frame (g := g0 99) (g' := gOut 2 1 199) (H := h.set p (.cells 7 (row .nsl 99))) (H' := addOut0 h p) (r := qTo p h.next) (s := qOf p h.next) h0 (ren_1 hpn)
              (fun j hj => by
                have hj : 1 ≤ j := hj
                unfold qTo; rw [if_neg (by omega)]; rfl)
              (fun j hj => by
                have hj : j < 1 := hj
                have : j = 0 := by omega
                subst this; exact hpn)
              (fun j hj => by
                have hj : 1 ≤ j := hj
                rw [g0_get, if_neg (by omega)])
              (fun j hj => by
                have hj : j < 1 := hj
                have : j = 0 := by omega
                subst this
                rw [g0_get, if_pos rfl, AH.get_set, if_pos (by simp [qTo])]; rfl)
              rfl
              (fun j => by
                rw [addOut0_get, AH.get_set]
                unfold qOf
                by_cases hj : j = p
                · subst hj
                  rw [if_neg (by omega), if_pos rfl, if_pos rfl]
                  simp only [gOut_get, if_neg (show ¬ (0 = 2) by decide), if_true, Option.map_some, renO, row_ren, AV.ren]
                  rw [show qTo j h.next 2 = h.next + 1 by simp [qTo]]
                · rw [if_neg hj, if_neg hj, if_neg hj]
                  by_cases hn : h.next ≤ j
                  · rw [if_pos hn]
                    simp only [gOut_get]
                    by_cases h1 : j = h.next + 1
                    · rw [if_pos h1, if_pos (by omega)]; simp [renO, uis_ren]
                    · rw [if_neg h1, if_neg (by omega), if_neg (by omega), hfree j hn]; rfl
                  · rw [if_neg hn, if_neg (by omega)])
              (fun x cs h => by rw [hgl] at h; cases h)
            refine (hfr I Z w vs hg hL w1.rel).mono ?_
            rintro e' w' ⟨J, Y, cv, rfl, hgo, hv⟩
            exact ⟨J, Y, cv, rfl, w1.trans hr hgo, hv⟩
          · cases e
        · -- some
          rename_i k n
          split at e
          · rename_i hc2
            obtain ⟨n1, n2, n3⟩ := hc2
            rw [← hi] at n1
            subst n1
            split at e
            · rename_i cs hgk
              split at e
              · rename_i hcs
                cases e
                subst hx
                have hkn : k < h.next := hr.fresh k (.inl (by simp [AH.live, hgk]))
                have w1 := Goes.weak hless hr hgp (covk (.own k 0 n none) (by simp [covV, AV.beq]))
                have w2 := Goes.weak hless w1.rel (k := k) (by rw [AH.get_set, if_neg n3]; exact hgk) hcs
                have hfr := callok_frame (g := gN n (100 * n + 99)) (g' := gOut 3 (n + 1) (100 * (n + 1) + 99)) (H := (h.set p (.cells 7 (row (.own k 0 n none) (100 * n + 99)))).set k (.cells 1 (uis n))) (H' := addOut h p k n) (r := rTo p k h.next) (s := rOf p k h.next) (hN n n2 hlim) (ren_2 hpn hkn n3)
                  (fun j hj => by
                    have hj : 2 ≤ j := hj
                    unfold rTo; rw [if_neg (by omega), if_neg (by omega)]; rfl)
                  (fun j hj => by
                    have hj : j < 2 := hj
                    unfold rTo
                    split
                    · exact hpn
                    · split
                      · exact hkn
                      · omega)
                  (fun j hj => by
                    have hj : 2 ≤ j := hj
                    unfold gN
                    rw [hp2_get, if_neg (by omega), if_neg (by omega)])
                  (fun j hj => by
                    have hj : j < 2 := hj
                    unfold gN
                    rw [hp2_get, AH.get_set, AH.get_set]
                    by_cases h1 : j = 1
                    · subst h1
                      rw [if_pos rfl, if_pos (by simp [rTo])]
                      simp [renO, uis_ren]
                    · have : j = 0 := by omega
                      subst this
                      rw [if_neg (show ¬ ((0 : Nat) = 1) by decide), if_pos rfl, if_neg (show ¬ (rTo p k h.next 0 = k) from fun e => n3 (by rw [show rTo p k h.next 0 = p by simp [rTo]] at e; exact e.symm)), if_pos (show rTo p k h.next 0 = p by simp [rTo])]
                      simp only [Option.map_some, renO, row_ren, AV.ren]
                      rw [show rTo p k h.next 1 = k by simp [rTo]])
                  rfl
                  (fun j => by
                    rw [addOut_get, AH.get_set, AH.get_set]
                    unfold rOf
                    by_cases hj : j = p
                    · subst hj
                      rw [if_neg (by omega), if_neg (fun e => n3 e.symm), if_pos rfl, if_pos rfl]
                      simp only [gOut_get, if_neg (show ¬ (0 = 3) by decide), if_true, Option.map_some, renO, row_ren, AV.ren]
                      rw [show rTo j k h.next 3 = h.next + 1 by simp [rTo]]
                    · rw [if_neg hj, if_neg hj, if_neg hj]
                      by_cases hjk : j = k
                      · subst hjk
                        rw [if_neg (by omega), if_pos rfl, if_pos rfl]
                        simp only [gOut_get]
                        rfl
                      · rw [if_neg hjk, if_neg hjk, if_neg hjk]
                        by_cases hn : h.next ≤ j
                        · rw [if_pos hn]
                          simp only [gOut_get]
                          by_cases h1 : j = h.next + 1
                          · rw [if_pos h1, if_pos (by omega)]; simp [renO, uis_ren]
                          · rw [if_neg h1, if_neg (by omega), if_neg (by omega), hfree j hn]; rfl
                        · rw [if_neg hn, if_neg (by omega)])
                  (fun x cs h => by rw [hgl] at h; cases h)
                refine (hfr I Z w vs hg hL w2.rel).mono ?_
                rintro e' w' ⟨J, Y, cv, rfl, hgo, hv⟩
                exact ⟨J, Y, cv, rfl, w1.trans hr (w2.trans w1.rel hgo), hv⟩
              · cases e
            · cases e
          · cases e
        · cases e
      · cases e
    · cases e
  · cases e

/-- Names for what was there at first. -/
theorem pE_less (fl : Nat → Fl) (hV : (fl 0).V = 0) : @Less (toks fl) pE := by
  letI := toks fl
  intro a b h
  unfold pE at h
  split at h
  · rename_i x y
    rw [Bool.and_eq_true] at h
    have h1 : x = 99 := Nat.eq_of_beq_eq_true h.1
    have h2 : y = 0 := Nat.eq_of_beq_eq_true h.2
    subst h1; subst h2
    refine ⟨rfl, fun I Z v hv => ?_⟩
    cases hv
    refine .tok _ _ ?_
    show flVal (fl (99 / 100)) (99 % 100) = .int .i64 0
    show flVal (fl 0) 99 = .int .i64 0
    rw [flVal_v, hV]
  · rename_i y
    refine ⟨rfl, fun I Z v hv => ?_⟩
    obtain ⟨b, hb⟩ := tfG_ok fl y h
    cases hv with
    | tok _ _ e => rw [← e, hb]; exact .uf _ _
  · cases h
end
end Go.Av
