/-
  A call that leaves nothing new: names laid meanwhile are free again.
-/
import Derived.Test.YtjddbeecnnbebaaGreatDoorAvC
namespace Go.Av
noncomputable section
set_option linter.unusedSectionVars false
variable [Toks]
set_option linter.unusedSimpArgs false
set_option linter.unusedVariables false

mutual
/-- It names blocks below n alone. -/
def AV.lt (n : Nat) : AV → Bool
  | .p (some (k, _)) => Nat.blt k n
  | .own k _ _ _ => Nat.blt k n
  | .m (some k) => Nat.blt k n
  | .ip cs _ | .imm cs _ | .agg cs | .tup cs => ltL n cs
  | .fn _ x c => ltL n x && ltL n c
  | .ifc _ v => AV.lt n v
  | _ => true
def ltL (n : Nat) : List AV → Bool
  | [] => true
  | a :: r => AV.lt n a && ltL n r
end

theorem ltL_mem {n : Nat} : ∀ {cs : List AV}, ltL n cs = true → ∀ {j : Nat} {a : AV}, cs[j]? = some a → a.lt n = true
  | [], _, j, a, h => by simp at h
  | c :: cs, hl, 0, a, h => by
    simp only [ltL, Bool.and_eq_true] at hl
    simp at h; subst h; exact hl.1
  | c :: cs, hl, j + 1, a, h => by
    simp only [ltL, Bool.and_eq_true] at hl
    simp at h; exact ltL_mem hl.2 h

def Inj.upto (I : Inj) (n : Nat) : Inj := fun k => if k < n then I k else none

theorem upto_some {I : Inj} {n k : Nat} {B : BI} (h : Nat.blt k n = true) (hk : I k = some B) : I.upto n k = some B := by
  unfold Inj.upto
  rw [if_pos (by simpa using h)]; exact hk

theorem VRel.upto {I : Inj} {Z : Zed} {n : Nat} {a : AV} {v : Value} (h : VRel I Z a v) : a.lt n = true → VRel (I.upto n) Z a v := by
  induction h with
  | any v => exact fun _ => .any v
  | b x => exact fun _ => .b x
  | i k n => exact fun _ => .i k n
  | f k x y h => exact fun _ => .f k x y h
  | s x => exact fun _ => .s x
  | pn => exact fun _ => .pn
  | p h => exact fun hl => .p (upto_some (by simpa only [AV.lt] using hl) h)
  | ip hl hz _ ih => exact fun h => .ip hl hz (fun j a v e1 e2 => ih j a v e1 e2 (ltL_mem (by simpa only [AV.lt] using h) e1))
  | nsl => exact fun _ => .nsl
  | emp0 => exact fun _ => .emp0
  | emp1 b o => exact fun _ => .emp1 b o
  | imm hl hz _ hc ih => exact fun h => .imm hl hz (fun j a v e1 e2 => ih j a v e1 e2 (ltL_mem (by simpa only [AV.lt] using h) e1)) hc
  | own h hn hc => exact fun hl => .own (upto_some (by simpa only [AV.lt] using hl) h) hn hc
  | own0 h hc => exact fun hl => .own0 (upto_some (by simpa only [AV.lt] using hl) h) hc
  | mn => exact fun _ => .mn
  | m h => exact fun hl => .m (upto_some (by simpa only [AV.lt] using hl) h)
  | fn hx _ hc _ ih1 ih2 =>
    intro h
    simp only [AV.lt, Bool.and_eq_true] at h
    exact .fn hx (fun j a v e1 e2 => ih1 j a v e1 e2 (ltL_mem h.1 e1)) hc (fun j a v e1 e2 => ih2 j a v e1 e2 (ltL_mem h.2 e1))
  | nfn => exact fun _ => .nfn
  | ifc _ ih => exact fun h => .ifc (ih (by simpa only [AV.lt] using h))
  | nif => exact fun _ => .nif
  | agg hl _ ih => exact fun h => .agg hl (fun j a v e1 e2 => ih j a v e1 e2 (ltL_mem (by simpa only [AV.lt] using h) e1))
  | tup hl _ ih => exact fun h => .tup hl (fun j a v e1 e2 => ih j a v e1 e2 (ltL_mem (by simpa only [AV.lt] using h) e1))
  | tok n v h => exact fun _ => .tok n v h
  | junk v h => exact fun _ => .junk v h
  | unkb b => exact fun _ => .unkb b

def ltP (n : Nat) : List (AV × AV) → Bool
  | [] => true
  | e :: r => e.1.lt n && (e.2.lt n && ltP n r)
theorem ltP_mem {n : Nat} : ∀ {cs : List (AV × AV)}, ltP n cs = true → ∀ {j : Nat} {a : AV × AV}, cs[j]? = some a → a.1.lt n = true ∧ a.2.lt n = true
  | [], _, j, a, h => by simp at h
  | c :: cs, hl, 0, a, h => by
    simp only [ltP, Bool.and_eq_true] at hl
    simp at h; subst h; exact ⟨hl.1, hl.2.1⟩
  | c :: cs, hl, j + 1, a, h => by
    simp only [ltP, Bool.and_eq_true] at hl
    simp at h; exact ltP_mem hl.2.2 h
def ltO (n : Nat) : AO → Bool
  | .cells _ cs => ltL n cs
  | .map es => ltP n es

/-- The first says no more than the second, block by block, and names below n alone. -/
def covN (n : Nat) (o o' : AO) : Bool := covO o o' && ltO n o

/-- All keys of a table are below n. -/
def Tr.allk {α : Type} (n : Nat) (t : Tr α) : Prop := ∀ k x, t.get k = some x → k < n

/-- The heap of before, as it was, lies in the heap behind. -/
def AH.back (g h : AH) : Bool := Nat.ble g.next h.next && Tr.sub (covN g.next) g.objs h.objs

theorem goes_back {I J : Inj} {Z Y : Zed} {g h' : AH} {w w' : World} (hr : Rel I Z g w) (hgo : Goes I Z g w J Y h' w') (hb : AH.back g h' = true) : Goes I Z g w (J.upto g.next) Y g w' := by
  simp only [AH.back, Bool.and_eq_true] at hb
  obtain ⟨_, hs⟩ := hb
  have hget : ∀ k o, g.get k = some o → ∃ o', h'.get k = some o' ∧ covN g.next o o' = true := fun k o e => sub_get' (covN g.next) _ _ hs k o e
  have hlive : ∀ k, g.live k → h'.live k := fun k hl => by
    unfold AH.live at *
    cases e : g.get k with
    | none => exact absurd e hl
    | some o => obtain ⟨o', h1, _⟩ := hget k o e; rw [h1]; simp
  have hlt : ∀ k, g.live k → k < g.next := fun k hl => hr.fresh k (.inl hl)
  have hup : ∀ k B, J.upto g.next k = some B → J k = some B := fun k B e => by
    unfold Inj.upto at e
    split at e
    · exact e
    · cases e
  have hmk : ∀ k B, g.live k → J k = some B → J.upto g.next k = some B := fun k B hl e => upto_some (by simpa using hlt k hl) e
  refine ⟨fun k B e => upto_some (by simpa using hr.fresh k (.inr (by rw [e]; simp))) (hgo.le k B e), hgo.lez, hgo.newz, ⟨fun k es cs e => ?_, fun k es e => ?_, fun k k' B B' h1 h2 e1 e2 => hgo.rel.inj k k' B B' (hlive k h1) (hlive k' h2) (hup _ _ e1) (hup _ _ e2), fun b o v hz => ⟨(hgo.rel.zed b o v hz).1, fun k B hl e => (hgo.rel.zed b o v hz).2 k B (hlive k hl) (hup _ _ e)⟩, fun k hk => ?_, fun k B e => hgo.rel.size k B (hup _ _ e)⟩,
    ⟨hgo.fr.os, hgo.fr.out, hgo.fr.size, Nat.le_refl _, hgo.fr.other, hgo.fr.below, fun k B hl hB hlt' => hgo.fr.live k B (hlive k hl) (hup _ _ hB) hlt'⟩⟩
  · obtain ⟨o', h1, h2⟩ := hget k _ e
    have hlk : g.live k := by simp [AH.live, e]
    cases o' with
    | map fs => simp [covN, covO] at h2
    | cells m ds =>
      simp only [covN, covO, ltO, Bool.and_eq_true, beq_iff_eq] at h2
      obtain ⟨⟨rfl, h2⟩, h3⟩ := h2
      obtain ⟨hl, hj⟩ := covL_get cs ds h2
      obtain ⟨B, hB, he, arr, el, fr, a1, a2, a3, a4, a5, a6⟩ := hgo.rel.cells k es ds h1
      refine ⟨B, hmk k B hlk hB, he, arr, el, fr, a1, a2, by rw [hl]; exact a3, fun j a ha => ?_, a5, a6⟩
      obtain ⟨b, hb, hab⟩ := hj j a ha
      obtain ⟨o1, v, h5, h4⟩ := a4 j b hb
      refine ⟨covV_one hab o1, v, h5, ?_⟩
      have hla := ltL_mem h3 ha
      unfold covV at hab
      split at hab
      · exact .junk _ (a6 _ _ h5)
      · have e2 := beq_eq a b hab
        subst e2
        exact h4.upto hla
  · obtain ⟨o', h1, h2⟩ := hget k _ e
    have hlk : g.live k := by simp [AH.live, e]
    cases o' with
    | cells m ds => simp [covN, covO] at h2
    | map fs =>
      simp only [covN, covO, ltO, Bool.and_eq_true] at h2
      obtain ⟨h2, h3⟩ := h2
      have e2 := beqP_eq es fs h2
      subst e2
      obtain ⟨B, hB, ces, cl, b1, b2, b3⟩ := hgo.rel.map k es h1
      refine ⟨B, hmk k B hlk hB, ces, cl, b1, b2, fun j a c ha hc => ?_⟩
      obtain ⟨q1, q2⟩ := b3 j a c ha hc
      obtain ⟨l1, l2⟩ := ltP_mem h3 ha
      exact ⟨q1.upto l1, q2.upto l2⟩
  · rcases hk with hk | hk
    · exact hlt k hk
    · unfold Inj.upto at hk
      split at hk
      · assumption
      · exact absurd rfl hk

/-- A call that leaves the heap as it was. -/
def Entry.same (E : Env) (e : Entry) : Bool :=
  match runF E 4000 (.call e.f e.args e.h) with
  | some (.ret v h) => AV.beq v e.v && (AH.back e.h h && e.v.lt e.h.next)
  | _ => false

theorem Entry.good_same {E : Env} (hE : EnvGood E) {f : FuncId} {args : List AV} {h : AH} {v : AV} (hs : Entry.same E ⟨f, args, h, v, h⟩ = true) : Entry.good E ⟨f, args, h, v, h⟩ := by
  unfold Entry.same at hs
  dsimp only at hs
  split at hs
  · rename_i v' h1 hr
    simp only [Bool.and_eq_true] at hs
    obtain ⟨hv, hb, hl⟩ := hs
    rw [beq_eq _ _ hv] at hr
    intro I Z w vs hg hL hrel
    refine (call_ok hE (runF_ret hr) I Z w vs hg hL hrel).mono ?_
    rintro e' w' ⟨J, Y, cv, rfl, hgo, hcv⟩
    exact ⟨J.upto h.next, Y, cv, rfl, goes_back hrel hgo hb, hcv.upto hl⟩
  · cases hs
end
end Go.Av
