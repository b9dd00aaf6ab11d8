/-
  What the abstract machine comes to, the model comes to: operations, statements, code (but for statements that draw their order).
-/
import Derived.Test.YtmiodddnokpdfaaGreatDoorAv11
import Derived.LoopN
namespace Go.Av
noncomputable section
set_option linter.unusedSectionVars false
variable [Toks]
set_option linter.unusedSimpArgs false
set_option linter.unusedVariables false

def exOf : Ex → Exit
  | .normal => .normal
  | .exit id => .exit id
  | .ret => .ret

def CallOk (E : Env) (f : FuncId) (args : List AV) (h : AH) (v : AV) (h' : AH) : Prop :=
  ∀ I Z (w : World) (vs : List Value), Glob I Z E → LRel I Z args vs → Rel I Z h w →
    Calls E.P f vs.toArray w fun e w' => ∃ J Y cv, e = .returned cv ∧ Goes I Z h w J Y h' w' ∧ VRel J Y v cv

/-- What the frame's deferred calls are meanwhile. -/
class Dfs where
  l : List Deferred

/-- Where code is left so, in such a state. -/
def Left [Dfs] (E : Env) (I : Inj) (Z : Zed) (h : AH) (w : World) (e : Ex) (s' : S) (Q : Exit → Act → World → Prop) : Prop :=
  ∀ J Y w' a', Goes I Z h w J Y s'.h w' → LRel J Y s'.t a'.tmps.toList → a'.defers = Dfs.l → Q (exOf e) a' w'

def CodeOk [Dfs] (E : Env) (c : Code) (s : S) (e : Ex) (s' : S) : Prop :=
  ∀ I Z (w : World) (a : Act), Glob I Z E → LRel I Z s.t a.tmps.toList → a.defers = Dfs.l → Rel I Z s.h w → ∀ Q, Left E I Z s.h w e s' Q → c.wp E.P Q a w

def LoopOk [Dfs] (E : Env) (n : Nat) (c : Code) (s : S) (e : Ex) (s' : S) : Prop :=
  ∀ I Z (w : World) (a : Act), Glob I Z E → LRel I Z s.t a.tmps.toList → a.defers = Dfs.l → Rel I Z s.h w → ∀ Q, Left E I Z s.h w e s' Q → Code.rounds E.P c Q n a w

def DrawGood (E : Env) (f : FuncId) (x : Nat × Array Oper) : Prop := ∀ W, E.win f x.1 = some W → drawOk E x.2 = true ∧ W = windows E x.2

def CallsOk (E : Env) (rec : Rec) : Prop := ∀ f args h v h', rec (.call f args h) = some (.ret v h') → CallOk E f args h v h'

theorem put_rel {I : Inj} {Z : Zed} {t : List AV} {a : Act} (ht : LRel I Z t a.tmps.toList) (d : Option Tmp) {v : AV} {cv : Value} (hv : VRel I Z v cv) : LRel I Z (putA t d v) (a.put d cv).tmps.toList := by
  cases d with
  | none => exact ht
  | some j =>
    have := ht.set j hv
    simpa [putA, Act.put, Array.toList_setIfInBounds] using this

theorem put_defers (a : Act) (d : Option Tmp) (v : Value) : (a.put d v).defers = a.defers := by cases d <;> rfl

theorem und_rel {I : Inj} {Z : Zed} : VRel I Z undefA undef := .tup rfl (fun j a v h => by simp at h)

theorem wanted_rel {I : Inj} {Z : Zed} {ops : Array Oper} {t : List AV} {a : Act} (ht : LRel I Z t a.tmps.toList) {o : Oper} {b : Bool} (e : wantedA ops t o = some b) : Region.wanted o (yielded ops a.tmps) = b := by
  unfold wantedA at e
  unfold Region.wanted
  split at e
  · rename_i hg; cases e; simp [hg]
  · rename_i j want hg
    simp only [hg]
    split at e
    · cases e
    · rename_i d hd
      split at e
      · rename_i x hx
        cases e
        obtain ⟨y, hy, hr⟩ := ht.get hx
        cases hr
        have : yielded ops a.tmps j = some x := by
          unfold yielded
          rw [hd, Option.bind_some]
          have : a.tmps[d]? = some (.bool x) := by simpa using hy
          rw [this]
        rw [this]
        cases x <;> cases want <;> rfl
      · rename_i hx
        cases e
        obtain ⟨y, hy, hr⟩ := ht.get hx
        obtain ⟨vs, rfl, _⟩ := tup_iff.1 hr
        have : yielded ops a.tmps j = none := by
          unfold yielded
          rw [hd, Option.bind_some]
          have : a.tmps[d]? = some (.tuple vs.toArray) := by simpa using hy
          rw [this]
        rw [this]; rfl
      · cases e

/-- One operation. -/
theorem stepOp_ok {E : Env} (hE : EnvOk E) {rec : Rec} (hrec : CallsOk E rec) {o : Oper} {s s' : S} (e : stepOp E rec o s = some s') :
    ∃ v, s'.t = putA s.t o.dst v ∧ ∀ I Z (w : World) (a : Act), Glob I Z E → LRel I Z s.t a.tmps.toList → Rel I Z s.h w → ∀ next Q,
      (∀ J Y w' cv, Goes I Z s.h w J Y s'.h w' → VRel J Y v cv → next (a.put o.dst cv) w') → o.wp E.P a w next Q := by
  unfold stepOp at e
  split at e
  · rename_i v h1 hx
    cases e
    refine ⟨v, rfl, fun I Z w a hg ht hr next Q hn => ?_⟩
    obtain ⟨J, Y, w', cv, h1, h2, h3⟩ := execA_val hE hg ht hr hx
    unfold Oper.wp
    rcases h3 with h3 | ⟨h3, rfl⟩
    · rw [h3]; exact hn J Y w' cv h1 h2
    · rw [h3]; exact hn J Y w' _ h1 h2
  · rename_i f args hx
    split at e
    · rename_i v h1 hc
      cases e
      refine ⟨v, rfl, fun I Z w a hg ht hr next Q hn => ?_⟩
      obtain ⟨vs, h2, h3⟩ := execA_enter (w := w) hE hg ht hx
      unfold Oper.wp
      rw [h3]
      refine (hrec f args s.h v h1 hc I Z w vs hg h2 hr).mono ?_
      rintro e w' ⟨J, Y, cv, rfl, h4, h5⟩
      exact hn J Y w' cv h4 h5
    · cases e
  · cases e

theorem step1_ok {E : Env} (hE : EnvOk E) {rec : Rec} (hrec : CallsOk E rec) {ops : Array Oper} {j : Nat} {s s' : S} (e : step1 E rec ops j s = some s') :
    ∃ o, ops[j]? = some o ∧ ∃ v, s'.t = putA s.t o.dst v ∧ ∀ I Z (w : World) (a : Act), Glob I Z E → LRel I Z s.t a.tmps.toList → Rel I Z s.h w → ∀ (K : Act → World → Prop) Q,
      (∀ J Y w' cv, Goes I Z s.h w J Y s'.h w' → VRel J Y v cv → K (a.put o.dst cv) w') → wpOp E.P ops Q j K a w := by
  unfold step1 at e
  split at e
  · cases e
  · rename_i o ho
    refine ⟨o, ho, ?_⟩
    split at e
    · rename_i hw
      obtain ⟨v, h1, h2⟩ := stepOp_ok hE hrec e
      refine ⟨v, h1, fun I Z w a hg ht hr K Q hn => ?_⟩
      unfold wpOp
      simp only [ho]
      rw [if_pos (wanted_rel ht hw)]
      exact .inl (h2 I Z w a hg ht hr K Q hn)
    · rename_i hw
      cases e
      refine ⟨undefA, rfl, fun I Z w a hg ht hr K Q hn => ?_⟩
      unfold wpOp
      simp only [ho]
      have := wanted_rel ht hw
      rw [if_neg (by rw [this]; simp)]
      exact hn I Z w undef (.refl hr) und_rel
    · cases e

theorem stepOps_ok [Dfs] {E : Env} (hE : EnvOk E) {rec : Rec} (hrec : CallsOk E rec) {ops : Array Oper} : ∀ (l : List Nat) {s s' : S}, stepOps E rec ops l s = some s' →
    ∀ I Z (w : World) (a : Act), Glob I Z E → LRel I Z s.t a.tmps.toList → a.defers = Dfs.l → Rel I Z s.h w → ∀ Q, Left E I Z s.h w .normal s' Q → wpOps E.P ops Q l a w
  | [], s, s', e, I, Z, w, a, hg, ht, hd, hr, Q, hq => by
    cases e
    exact hq I Z w a (.refl hr) ht hd
  | j :: rest, s, s', e, I, Z, w, a, hg, ht, hd, hr, Q, hq => by
    simp only [stepOps] at e
    split at e
    · rename_i s1 h1
      obtain ⟨o, ho, v, h2, h3⟩ := step1_ok hE hrec h1
      rw [wpOps_cons]
      refine h3 I Z w a hg ht hr _ Q (fun J Y w' cv hgo hv => ?_)
      refine stepOps_ok hE hrec rest e J Y w' (a.put o.dst cv) (hg.mono hgo.le hgo.lez) ?_ (by rw [put_defers]; exact hd) hgo.rel Q (fun J' Y' w'' a' hgo' ht' hd' => hq J' Y' w'' a' (hgo.trans hr hgo') ht' hd')
      rw [h2]
      exact put_rel (ht.mono hgo.le hgo.lez) _ hv
    · cases e

def DrawsOk [Dfs] (E : Env) (rec : Rec) : Prop := ∀ f id ops s s', DrawGood E f (id, ops) → stepDraw E rec f id ops s = some s' → CodeOk E (.region id ops true) s .normal s'

theorem joinL_left {f : AV → AV → Option AV} {I : Inj} {Z : Zed} (hf : ∀ x y r, f x y = some r → ∀ v, VRel I Z x v → VRel I Z r v) : ∀ (a b : List AV) (vs : List Value), a.length = b.length → LRel I Z a vs → LRel I Z (joinL f a b) vs
  | [], [], vs, _, h => h
  | x :: a, y :: b, vs, hl, h => by
    obtain ⟨v, r, rfl, h1, h2⟩ := h.inv_cons
    refine .cons ?_ (joinL_left hf a b r (by simpa using hl) h2)
    split
    · exact h1
    · split
      · rename_i e; exact hf _ _ _ e _ h1
      · exact .any _
  | [], _ :: _, _, hl, _ => by simp at hl
  | _ :: _, [], _, hl, _ => by simp at hl
theorem joinL_right {f : AV → AV → Option AV} {I : Inj} {Z : Zed} (hf : ∀ x y r, f x y = some r → ∀ v, VRel I Z y v → VRel I Z r v) : ∀ (a b : List AV) (vs : List Value), a.length = b.length → LRel I Z b vs → LRel I Z (joinL f a b) vs
  | [], [], vs, _, h => h
  | x :: a, y :: b, vs, hl, h => by
    obtain ⟨v, r, rfl, h1, h2⟩ := h.inv_cons
    refine .cons ?_ (joinL_right hf a b r (by simpa using hl) h2)
    split
    · rename_i e; rw [beq_eq _ _ e]; exact h1
    · split
      · rename_i e; exact hf _ _ _ e _ h1
      · exact .any _
  | [], _ :: _, _, hl, _ => by simp at hl
  | _ :: _, [], _, hl, _ => by simp at hl
theorem joinX_some {f : AV → AV → Option AV} {p q : Option (Ex × S)} {e : Ex} {s : S} (h : joinX f p q = some (e, s)) : ∃ s1 s2, p = some (e, s1) ∧ q = some (e, s2) ∧ s1.t.length = s2.t.length ∧ s2.h = s1.h ∧ s = ⟨joinL f s1.t s2.t, s1.h⟩ := by
  unfold joinX at h
  split at h
  · rename_i e1 s1 e2 s2
    split at h
    · rename_i hc
      obtain ⟨rfl, h2, h3⟩ := hc
      cases h
      exact ⟨s1, s2, rfl, rfl, h2, (AH.same_eq h3).symm, rfl⟩
    · cases h
  · cases h


theorem stepCode_ok [Dfs] {E : Env} (hE : EnvOk E) {n : Nat} (hrec : CallsOk E (run E n)) (hloop : ∀ f c s e s', run E n (.loop f c s) = some (.code e s') → (∀ x ∈ drawsIn c, DrawGood E f x) → LoopOk E n c s e s')
    (hdraw : DrawsOk E (run E n)) (f : FuncId) : ∀ (c : Code) (s : S) (e : Ex) (s' : S), (∀ x ∈ drawsIn c, DrawGood E f x) → stepCode E (run E n) f c s = some (e, s') → CodeOk E c s e s'
  | .skip, s, e, s', hdg, h, I, Z, w, a, hg, ht, hd, hr, Q, hq => by
    cases h; exact wp_skip (hq I Z w a (.refl hr) ht hd)
  | .seq x y, s, e, s', hdg, h, I, Z, w, a, hg, ht, hd, hr, Q, hq => by
    simp only [stepCode] at h
    cases h1 : stepCode E (run E n) f x s with
    | none => simp [h1] at h
    | some r =>
      obtain ⟨ex, s1⟩ := r
      rw [h1] at h
      refine wp_seq ?_
      refine stepCode_ok hE hrec hloop hdraw f x s ex s1 (fun z hz => hdg z (by simp [drawsIn, hz])) h1 I Z w a hg ht hd hr _ (fun J Y w' a' hgo ht' hd' => ?_)
      cases ex with
      | normal =>
        exact stepCode_ok hE hrec hloop hdraw f y s1 e s' (fun z hz => hdg z (by simp [drawsIn, hz])) h J Y w' a' (hg.mono hgo.le hgo.lez) ht' hd' hgo.rel Q (fun J' Y' w'' a'' hgo' ht'' hd'' => hq J' Y' w'' a'' (hgo.trans hr hgo') ht'' hd'')
      | exit j => cases h; exact hq J Y w' a' hgo ht' hd'
      | ret => cases h; exact hq J Y w' a' hgo ht' hd'
  | .cond c x y, s, e, s', hdg, h, I, Z, w, a, hg, ht, hd, hr, Q, hq => by
    simp only [stepCode] at h
    have hc := evA_rel hg ht c
    split at h
    · rename_i hb
      rw [hb] at hc
      cases hcv : a.eval c <;> rw [hcv] at hc <;> cases hc
      exact wp_cond_true hcv (stepCode_ok hE hrec hloop hdraw f x s e s' (fun z hz => hdg z (by simp [drawsIn, hz])) h I Z w a hg ht hd hr Q hq)
    · rename_i hb
      rw [hb] at hc
      cases hcv : a.eval c <;> rw [hcv] at hc <;> cases hc
      exact wp_cond_false hcv (stepCode_ok hE hrec hloop hdraw f y s e s' (fun z hz => hdg z (by simp [drawsIn, hz])) h I Z w a hg ht hd hr Q hq)
    · rename_i hb
      rw [hb] at hc
      obtain ⟨s1, s2, h1, h2, hl, hh, rfl⟩ := joinX_some h
      cases hcv : a.eval c <;> rw [hcv] at hc <;> cases hc
      rename_i b
      cases b with
      | true =>
        exact wp_cond_true hcv (stepCode_ok hE hrec hloop hdraw f x s e s1 (fun z hz => hdg z (by simp [drawsIn, hz])) h1 I Z w a hg ht hd hr Q (fun J Y w' a' hgo ht' hd' => hq J Y w' a' hgo (joinL_left (fun _ _ _ h => by cases h) _ _ _ hl ht') hd'))
      | false =>
        exact wp_cond_false hcv (stepCode_ok hE hrec hloop hdraw f y s e s2 (fun z hz => hdg z (by simp [drawsIn, hz])) h2 I Z w a hg ht hd hr Q (fun J Y w' a' hgo ht' hd' => hq J Y w' a' (by rw [hh] at hgo; exact hgo) (joinL_right (fun _ _ _ h => by cases h) _ _ _ hl ht') hd'))
    · rename_i n hb
      rw [hb] at hc
      split at h
      · rename_i g hg'
        obtain ⟨b, hbv, hj⟩ := hE.jns n g hg'
        obtain ⟨s1, s2, h1, h2, hl, hh, rfl⟩ := joinX_some h
        have hcv : a.eval c = .bool b := by
          cases hc with
          | tok _ _ h => exact h.symm.trans hbv
        cases b with
        | true =>
          exact wp_cond_true hcv (stepCode_ok hE hrec hloop hdraw f x s e s1 (fun z hz => hdg z (by simp [drawsIn, hz])) h1 I Z w a hg ht hd hr Q (fun J Y w' a' hgo ht' hd' => hq J Y w' a' hgo (joinL_left (fun x y r e v hv => (hj x y r e J Y v).1 rfl hv) _ _ _ hl ht') hd'))
        | false =>
          exact wp_cond_false hcv (stepCode_ok hE hrec hloop hdraw f y s e s2 (fun z hz => hdg z (by simp [drawsIn, hz])) h2 I Z w a hg ht hd hr Q (fun J Y w' a' hgo ht' hd' => hq J Y w' a' (by rw [hh] at hgo; exact hgo) (joinL_right (fun x y r e v hv => (hj x y r e J Y v).2 rfl hv) _ _ _ hl ht') hd'))
      · cases h
    · cases h
  | .block id x, s, e, s', hdg, h, I, Z, w, a, hg, ht, hd, hr, Q, hq => by
    simp only [stepCode] at h
    cases h1 : stepCode E (run E n) f x s with
    | none => simp [h1] at h
    | some r =>
      obtain ⟨ex, s1⟩ := r
      rw [h1] at h
      refine wp_block ?_
      refine stepCode_ok hE hrec hloop hdraw f x s ex s1 (fun z hz => hdg z (by simpa [drawsIn] using hz)) h1 I Z w a hg ht hd hr _ (fun J Y w' a' hgo ht' hd' => ?_)
      cases ex with
      | normal => cases h; exact hq J Y w' a' hgo ht' hd'
      | exit j =>
        simp only at h
        split at h
        · rename_i hj
          cases h
          simp only [exOf, Exit.inBlock, if_pos hj]
          exact hq J Y w' a' hgo ht' hd'
        · rename_i hj
          cases h
          simp only [exOf, Exit.inBlock, if_neg hj]
          exact hq J Y w' a' hgo ht' hd'
      | ret => cases h; exact hq J Y w' a' hgo ht' hd'
  | .loop x, s, e, s', hdg, h, I, Z, w, a, hg, ht, hd, hr, Q, hq => by
    simp only [stepCode] at h
    split at h
    · rename_i e1 s1 h1
      cases h
      exact wp_loop_rounds n (hloop f x s e s' h1 (fun z hz => hdg z (by simpa [drawsIn] using hz)) I Z w a hg ht hd hr Q hq)
    · cases h
  | .exit id, s, e, s', hdg, h, I, Z, w, a, hg, ht, hd, hr, Q, hq => by
    cases h; exact wp_exit (hq I Z w a (.refl hr) ht hd)
  | .ret, s, e, s', hdg, h, I, Z, w, a, hg, ht, hd, hr, Q, hq => by
    cases h; exact wp_ret (hq I Z w a (.refl hr) ht hd)
  | .region id ops draw, s, e, s', hdg, h, I, Z, w, a, hg, ht, hd, hr, Q, hq => by
    simp only [stepCode] at h
    split at h
    · rename_i hdr
      subst hdr
      obtain ⟨s1, h1, h2⟩ := Option.map_eq_some_iff.1 h
      cases h2
      exact hdraw f id ops s s' (hdg (id, ops) (by simp [drawsIn])) h1 I Z w a hg ht hd hr Q hq
    · rename_i hdr
      have hdr : draw = false := by simpa using hdr
      subst hdr
      obtain ⟨s1, h1, h2⟩ := Option.map_eq_some_iff.1 h
      cases h2
      exact wp_region (stepOps_ok hE hrec _ h1 I Z w a hg ht hd hr Q hq)
  | .rangeFunc .., s, e, s', hdg, h, I, Z, w, a, hg, ht, hd, hr, Q, hq => by cases h
  | .scope _, s, e, s', hdg, h, I, Z, w, a, hg, ht, hd, hr, Q, hq => by cases h
  | .label _, s, e, s', hdg, h, I, Z, w, a, hg, ht, hd, hr, Q, hq => by cases h
  | .goto _, s, e, s', hdg, h, I, Z, w, a, hg, ht, hd, hr, Q, hq => by cases h
  | .refuse _, s, e, s', hdg, h, I, Z, w, a, hg, ht, hd, hr, Q, hq => by cases h

end
end Go.Av
