/-
  An evaluator with several outcomes: where a bool is not known both ways are gone; whatever the model comes to is one of them.
-/
import Derived.Test.YtmiodddnokpdfaaGreatDoorAvC
namespace Go.Av
noncomputable section
set_option linter.unusedSectionVars false
variable [Toks]
set_option linter.unusedSimpArgs false
set_option linter.unusedVariables false

def bindO {α β : Type} (f : α → Option (List β)) : List α → Option (List β)
  | [] => some []
  | a :: r => match f a with
    | none => none
    | some x => match bindO f r with
      | none => none
      | some y => some (x ++ y)

theorem bindO_mem {α β : Type} {f : α → Option (List β)} : ∀ {l : List α} {m : List β}, bindO f l = some m → ∀ a ∈ l, ∃ x, f a = some x ∧ ∀ b ∈ x, b ∈ m
  | [], m, _, a, ha => by cases ha
  | c :: r, m, e, a, ha => by
    simp only [bindO] at e
    split at e
    · cases e
    · rename_i x hx
      split at e
      · cases e
      · rename_i y hy
        cases e
        rcases List.mem_cons.1 ha with rfl | ha
        · exact ⟨x, hx, fun b hb => List.mem_append_left _ hb⟩
        · obtain ⟨z, h1, h2⟩ := bindO_mem hy a ha
          exact ⟨z, h1, fun b hb => List.mem_append_right _ (h2 b hb)⟩

abbrev RecM := Task → Option (List Res)

/-- A bool that is not known is either. -/
def splitV (v : AV) : List AV := match v with | .unkb => [.b true, .b false] | v => [v]

theorem splitV_rel {I : Inj} {Z : Zed} {v : AV} {cv : Value} (h : VRel I Z v cv) : ∃ u ∈ splitV v, VRel I Z u cv := by
  unfold splitV
  split
  · cases h with
    | unkb b => cases b
                · exact ⟨.b false, by simp, .b _⟩
                · exact ⟨.b true, by simp, .b _⟩
  · exact ⟨v, by simp, h⟩

/-- Values that are handed on are not split yet. -/
def splits (o : Op) : Bool := match o with
  | .move _ => false
  | .assign _ => false
  | .extract _ _ => false
  | _ => true

def splitB (sp : Bool) (v : AV) : List AV := if sp = true then splitV v else [v]

theorem splitB_rel {I : Inj} {Z : Zed} {sp : Bool} {v : AV} {cv : Value} (h : VRel I Z v cv) : ∃ u ∈ splitB sp v, VRel I Z u cv := by
  unfold splitB
  split
  · exact splitV_rel h
  · exact ⟨v, by simp, h⟩

def putM (sp : Bool) (s : S) (d : Option Tmp) (v : AV) (h : AH) : List S := (splitB sp v).map fun u => ⟨putA s.t d u, h⟩

/-- A bool in an answer, no more known. -/
def weakB (v : AV) : AV := match v with | .b _ => .unkb | v => v
def weakT (v : AV) : AV := match v with | .tup l => .tup (l.map weakB) | v => v

theorem weakB_rel {I : Inj} {Z : Zed} {v : AV} {cv : Value} (h : VRel I Z v cv) : VRel I Z (weakB v) cv := by
  unfold weakB
  split
  · cases h; exact .unkb _
  · exact h
theorem weakT_rel {I : Inj} {Z : Zed} {v : AV} {cv : Value} (h : VRel I Z v cv) : VRel I Z (weakT v) cv := by
  unfold weakT
  split
  · obtain ⟨vs, rfl, hL⟩ := tup_iff.1 h
    refine tup_iff.2 ⟨vs, rfl, by rw [List.length_map]; exact hL.1, fun j a v e1 e2 => ?_⟩
    rw [List.getElem?_map] at e1
    obtain ⟨b, h1, rfl⟩ := Option.map_eq_some_iff.1 e1
    exact weakB_rel (hL.2 j b v h1 e2)
  · exact h
def weakR (wk : Bool) (r : AV × AH) : AV × AH := if wk = true then (weakT r.1, r.2) else r
theorem weakR_rel {I : Inj} {Z : Zed} {wk : Bool} {r : AV × AH} {cv : Value} (h : VRel I Z r.1 cv) : VRel I Z (weakR wk r).1 cv ∧ (weakR wk r).2 = r.2 := by
  unfold weakR
  split
  · exact ⟨weakT_rel h, rfl⟩
  · exact ⟨h, rfl⟩

def retM (s : S) (d : Option Tmp) (r : Res) : Option (List S) := match r with
  | .ret v h => some (putM true s d v h)
  | _ => none

def stepOpM (E : Env) (rec : RecM) (o : Oper) (s : S) : Option (List S) :=
  match o.op with
  | .next it isS => (nextA s.h (evA E s.t it) isS).map fun l => (l.map fun r => putM true s o.dst r.1 r.2).flatten
  | _ => match execA E s.t s.h o with
    | some (.val v h) => some (putM (splits o.op) s o.dst v h)
    | some (.enter f args) => match rec (.call f args s.h) with
      | some l => bindO (retM s o.dst) l
      | none => none
    | none => none

def step1M (E : Env) (rec : RecM) (ops : Array Oper) (j : Nat) (s : S) : Option (List S) :=
  match ops[j]? with
  | none => none
  | some o => match wantedA ops s.t o with
    | some true => stepOpM E rec o s
    | some false => some [⟨putA s.t o.dst undefA, s.h⟩]
    | none => none

def stepOpsM (E : Env) (rec : RecM) (ops : Array Oper) : List Nat → S → Option (List S)
  | [], s => some [s]
  | j :: rest, s => match step1M E rec ops j s with
    | some l => bindO (stepOpsM E rec ops rest) l
    | none => none

/-- A statement that draws its order, in every order: what is done so far, the state. -/
abbrev DS := Array Bool × S
def sameDS (x y : DS) : Bool := x.1.toList == y.1.toList && (beqL x.2.t y.2.t && AH.same x.2.h y.2.h)
def dedupD : List DS → List DS
  | [] => []
  | x :: l => let l' := dedupD l; if l'.any (sameDS x) = true then l' else x :: l'

theorem sameDS_eq {x y : DS} (h : sameDS x y = true) : x = y := by
  obtain ⟨⟨l⟩, t, g⟩ := x
  obtain ⟨⟨l'⟩, t', g'⟩ := y
  simp only [sameDS, Bool.and_eq_true, beq_iff_eq] at h
  obtain ⟨rfl, h2, h3⟩ := h
  rw [beqL_eq _ _ h2, AH.same_eq h3]
theorem dedupD_mem : ∀ {l : List DS} {r : DS}, r ∈ l → r ∈ dedupD l
  | [], r, h => by cases h
  | a :: l, r, h => by
    simp only [dedupD]
    rcases List.mem_cons.1 h with rfl | h
    · split
      · rename_i hm
        obtain ⟨y, h1, h2⟩ := List.any_eq_true.1 hm
        rw [sameDS_eq h2]; exact h1
      · exact List.mem_cons_self ..
    · split
      · exact dedupD_mem h
      · exact List.mem_cons_of_mem _ (dedupD_mem h)

def doneD (x : DS) (i : Nat) (l : List S) : List DS := l.map fun s => (x.1.setIfInBounds i true, s)

def expandD (E : Env) (rec : RecM) (ops : Array Oper) (x : DS) : Option (List DS) :=
  match Region.ready .any ops x.1 with
  | [] => some [x]
  | r => bindO (fun i => (step1M E rec ops i x.2).map (doneD x i)) r

def levelsM (E : Env) (rec : RecM) (ops : Array Oper) : Nat → List DS → Option (List S)
  | 0, F => if (F.all fun x => (Region.ready .any ops x.1).isEmpty) = true then some (F.map (·.2)) else none
  | n + 1, F => match bindO (expandD E rec ops) F with
    | some G => levelsM E rec ops n (dedupD G)
    | none => none

def normX (s : S) : Ex × S := (.normal, s)

def codeM (r : Res) : Option (List (Ex × S)) := match r with
  | .code e s => some [(e, s)]
  | _ => none

def seqM (k : S → Option (List (Ex × S))) (r : Ex × S) : Option (List (Ex × S)) := match r with
  | (.normal, s) => k s
  | (e, s) => some [(e, s)]

def blockM (id : Nat) (r : Ex × S) : Ex × S := match r with
  | (.exit j, s) => if j = id then (.normal, s) else (.exit j, s)
  | r => r

def appO {α : Type} : Option (List α) → Option (List α) → Option (List α)
  | some x, some y => some (x ++ y)
  | _, _ => none

def stepCodeM (E : Env) (det : Rec) (rec : RecM) (f : FuncId) : Code → S → Option (List (Ex × S))
  | .skip, s => some [(.normal, s)]
  | .seq a b, s => match stepCodeM E det rec f a s with
    | some l => bindO (seqM (stepCodeM E det rec f b)) l
    | none => none
  | .cond c x y, s => match evA E s.t c with
    | .b true => stepCodeM E det rec f x s
    | .b false => stepCodeM E det rec f y s
    | .unkb => appO (stepCodeM E det rec f x s) (stepCodeM E det rec f y s)
    | _ => none
  | .block id c, s => (stepCodeM E det rec f c s).map (List.map (blockM id))
  | .loop c, s => match rec (.loop f c s) with
    | some l => bindO codeM l
    | none => none
  | .exit id, s => some [(.exit id, s)]
  | .ret, s => some [(.ret, s)]
  | .region id ops draw, s =>
    if draw = true then (match stepDraw E det f id ops s with
      | some s' => some [(.normal, s')]
      | none => (levelsM E rec ops ops.size [(Array.replicate ops.size false, s)]).map (List.map normX))
    else (stepOpsM E rec ops (List.range ops.size) s).map (List.map fun s' => (.normal, s'))
  | _, _ => none

/-- Outcomes alike are one. -/
def memR (v : AV) (h : AH) : List (AV × AH) → Bool
  | [] => false
  | r :: l => (AV.beq v r.1 && AH.same h r.2) || memR v h l
def dedup : List (AV × AH) → List (AV × AH)
  | [] => []
  | r :: l => let l' := dedup l; if memR r.1 r.2 l' = true then l' else r :: l'

theorem memR_mem {v : AV} {h : AH} : ∀ {l : List (AV × AH)}, memR v h l = true → (v, h) ∈ l
  | [], e => by cases e
  | r :: l, e => by
    simp only [memR, Bool.or_eq_true, Bool.and_eq_true] at e
    rcases e with ⟨h1, h2⟩ | e
    · rw [beq_eq _ _ h1, AH.same_eq h2]; exact List.mem_cons_self ..
    · exact List.mem_cons_of_mem _ (memR_mem e)
theorem dedup_mem : ∀ {l : List (AV × AH)} {r : AV × AH}, r ∈ l → r ∈ dedup l
  | [], r, h => by cases h
  | a :: l, r, h => by
    simp only [dedup]
    rcases List.mem_cons.1 h with rfl | h
    · split
      · rename_i hm; exact memR_mem hm
      · exact List.mem_cons_self ..
    · split
      · exact dedup_mem h
      · exact List.mem_cons_of_mem _ (dedup_mem h)

def endM (E : Env) (fn : Func) (r : Ex × S) : Option (List (AV × AH)) := match r with
  | (.normal, s) => (resultsA E.P fn s).map fun v => [(v, s.h)]
  | (.ret, s) => (resultsA E.P fn s).map fun v => [(v, s.h)]
  | _ => none

def toRet (r : AV × AH) : Res := .ret r.1 r.2

def bodyM (wk : Bool) (E : Env) (det : Rec) (rec : RecM) (f : FuncId) (fn : Func) (args : List AV) (h : AH) : Option (List Res) :=
  match fn.body with
  | none => none
  | some c => match stepCodeM E det rec f c ⟨args ++ List.replicate (fn.ntmps - args.length) undefA, h⟩ with
    | none => none
    | some l => match bindO (endM E fn) l with
      | some m => some ((dedup (m.map (weakR wk))).map toRet)
      | none => none

def loopM (rec : RecM) (f : FuncId) (c : Code) (r : Ex × S) : Option (List Res) := match r with
  | (.normal, s) => rec (.loop f c s)
  | (e, s) => some [.code e s]

/-- Functions of 'm' are walked so, all others as before. -/
def stepTaskM (E : Env) (m wk : FuncId → Bool) (d : Nat) (rec : RecM) : Task → Option (List Res)
  | .loop f c s => match stepCodeM E (run E d) rec f c s with
    | some l => bindO (loopM rec f c) l
    | none => none
  | .call f args h => if m f = true then (match E.fun_ f with
      | some fn => bodyM (wk f) E (run E d) rec f fn args h
      | none => none)
    else match runF E d (.call f args h) with
      | some (.ret v h') => some [.ret v h']
      | _ => none

def runM (E : Env) (m wk : FuncId → Bool) (d : Nat) (n : Nat) : RecM := Nat.rec (motive := fun _ => RecM) (fun _ => none) (fun _ ih => stepTaskM E m wk d ih) n

def CodeOkM [Dfs] (E : Env) (c : Code) (s : S) (l : List (Ex × S)) : Prop :=
  ∀ I Z (w : World) (a : Act), Glob I Z E → LRel I Z s.t a.tmps.toList → a.defers = Dfs.l → Rel I Z s.h w → ∀ Q, (∀ r ∈ l, Left E I Z s.h w r.1 r.2 Q) → c.wp E.P Q a w
def LoopOkM [Dfs] (E : Env) (n : Nat) (c : Code) (s : S) (l : List Res) : Prop :=
  ∀ I Z (w : World) (a : Act), Glob I Z E → LRel I Z s.t a.tmps.toList → a.defers = Dfs.l → Rel I Z s.h w → ∀ Q, (∀ e s', Res.code e s' ∈ l → Left E I Z s.h w e s' Q) → Code.rounds E.P c Q n a w
def CallOkM (E : Env) (f : FuncId) (args : List AV) (h : AH) (l : List Res) : Prop :=
  ∀ I Z (w : World) (vs : List Value), Glob I Z E → LRel I Z args vs → Rel I Z h w →
    Calls E.P f vs.toArray w fun e w' => ∃ v h', Res.ret v h' ∈ l ∧ ∃ J Y cv, e = .returned cv ∧ Goes I Z h w J Y h' w' ∧ VRel J Y v cv

def CallsOkM (E : Env) (rec : RecM) : Prop := ∀ f args h l, rec (.call f args h) = some l → CallOkM E f args h l

theorem putM_rel {E : Env} {sp : Bool} {I : Inj} {Z : Zed} {w : World} {s : S} {h0 : AH} {d : Option Tmp} {v : AV} {h : AH} {a : Act} {cv : Value} {J : Inj} {Y : Zed} {w' : World} {next : Act → World → Prop}
    (ht : LRel I Z s.t a.tmps.toList) (hgo : Goes I Z h0 w J Y h w') (hv : VRel J Y v cv)
    (hn : ∀ s' ∈ putM sp s d v h, ∀ J Y w' a', Goes I Z h0 w J Y s'.h w' → LRel J Y s'.t a'.tmps.toList → a'.defers = a.defers → next a' w') : next (a.put d cv) w' := by
  obtain ⟨u, hu, hur⟩ := splitB_rel (sp := sp) hv
  exact hn ⟨putA s.t d u, h⟩ (List.mem_map.2 ⟨u, hu, rfl⟩) J Y w' _ hgo (put_rel (ht.mono hgo.le hgo.lez) _ hur) (put_defers ..)

theorem stepOpM_ok {E : Env} (hE : EnvOk E) {rec : RecM} (hrec : CallsOkM E rec) {o : Oper} {s : S} {l : List S} (e : stepOpM E rec o s = some l) :
    ∀ I Z (w : World) (a : Act), Glob I Z E → LRel I Z s.t a.tmps.toList → Rel I Z s.h w → ∀ next Q,
      (∀ s' ∈ l, ∀ J Y w' a', Goes I Z s.h w J Y s'.h w' → LRel J Y s'.t a'.tmps.toList → a'.defers = a.defers → next a' w') → o.wp E.P a w next Q := by
  intro I Z w a hg ht hr next Q hn
  unfold stepOpM at e
  split at e
  · rename_i it isS ho
    obtain ⟨l1, h1, rfl⟩ := Option.map_eq_some_iff.1 e
    obtain ⟨r, hm, cv, w', s1, s2, s3⟩ := nextA_rel (P := E.P) hr (evA_rel hg ht it) h1 o.type
    unfold Oper.wp
    have hx : (execOp a.eval o).run E.P w = .ok (.value cv) w' := by simp only [execOp, ho, Sem.run_bind, s1, Result.andThen_ok]; rfl
    rw [hx]
    exact putM_rel (E := E) ht s2 s3 (fun s' hs' => hn s' (List.mem_flatten.2 ⟨_, List.mem_map.2 ⟨r, hm, rfl⟩, hs'⟩))
  split at e
  · rename_i v h1 hx
    cases e
    obtain ⟨J, Y, w', cv, h1, h2, h3⟩ := execA_val hE hg ht hr hx
    unfold Oper.wp
    rcases h3 with h3 | ⟨h3, rfl⟩
    · rw [h3]; exact putM_rel (E := E) ht h1 h2 hn
    · rw [h3]; exact putM_rel (E := E) ht h1 h2 hn
  · rename_i f args hx
    split at e
    · rename_i l' hc
      obtain ⟨vs, h2, h3⟩ := execA_enter (w := w) hE hg ht hx
      unfold Oper.wp
      rw [h3]
      refine (hrec f args s.h l' hc I Z w vs hg h2 hr).mono ?_
      rintro e' w' ⟨v, h', hmem, J, Y, cv, rfl, h4, h5⟩
      obtain ⟨x, hx1, hx2⟩ := bindO_mem e _ hmem
      cases hx1
      exact putM_rel (E := E) ht h4 h5 (fun s' hs' => hn s' (hx2 s' hs'))
    · cases e
  · cases e

theorem step1M_ok {E : Env} (hE : EnvOk E) {rec : RecM} (hrec : CallsOkM E rec) {ops : Array Oper} {j : Nat} {s : S} {l : List S} (e : step1M E rec ops j s = some l) :
    ∀ I Z (w : World) (a : Act), Glob I Z E → LRel I Z s.t a.tmps.toList → Rel I Z s.h w → ∀ (K : Act → World → Prop) Q,
      (∀ s' ∈ l, ∀ J Y w' a', Goes I Z s.h w J Y s'.h w' → LRel J Y s'.t a'.tmps.toList → a'.defers = a.defers → K a' w') → wpOp E.P ops Q j K a w := by
  intro I Z w a hg ht hr K Q hn
  unfold step1M at e
  split at e
  · cases e
  · rename_i o ho
    split at e
    · rename_i hw
      unfold wpOp
      simp only [ho]
      rw [if_pos (wanted_rel ht hw)]
      exact .inl (stepOpM_ok hE hrec e I Z w a hg ht hr K Q hn)
    · rename_i hw
      cases e
      unfold wpOp
      simp only [ho]
      have := wanted_rel ht hw
      rw [if_neg (by rw [this]; simp)]
      exact hn _ (List.mem_singleton.2 rfl) I Z w _ (.refl hr) (put_rel ht _ und_rel) (put_defers ..)
    · cases e

theorem stepOpsM_ok [Dfs] {E : Env} (hE : EnvOk E) {rec : RecM} (hrec : CallsOkM E rec) {ops : Array Oper} : ∀ (js : List Nat) {s : S} {l : List S}, stepOpsM E rec ops js s = some l →
    ∀ I Z (w : World) (a : Act), Glob I Z E → LRel I Z s.t a.tmps.toList → a.defers = Dfs.l → Rel I Z s.h w → ∀ Q, (∀ s' ∈ l, Left E I Z s.h w .normal s' Q) → wpOps E.P ops Q js a w
  | [], s, l, e, I, Z, w, a, hg, ht, hd, hr, Q, hq => by
    cases e
    exact hq s (List.mem_singleton.2 rfl) I Z w a (.refl hr) ht hd
  | j :: rest, s, l, e, I, Z, w, a, hg, ht, hd, hr, Q, hq => by
    simp only [stepOpsM] at e
    split at e
    · rename_i l1 h1
      rw [wpOps_cons]
      refine step1M_ok hE hrec h1 I Z w a hg ht hr _ Q (fun s1 hs1 J Y w' a' hgo ht' hd' => ?_)
      obtain ⟨x, hx1, hx2⟩ := bindO_mem e s1 hs1
      refine stepOpsM_ok hE hrec rest hx1 J Y w' a' (hg.mono hgo.le hgo.lez) ht' (hd'.trans hd) hgo.rel Q (fun s' hs' J' Y' w'' a'' hgo' ht'' hd'' => hq s' (hx2 s' hs') J' Y' w'' a'' (hgo.trans hr hgo') ht'' hd'')
    · cases e

theorem expandD_step {E : Env} {rec : RecM} {ops : Array Oper} {x : DS} {G : List DS} (e : expandD E rec ops x = some G) :
    (Region.ready .any ops x.1 = [] ∧ x ∈ G) ∨ (Region.ready .any ops x.1 ≠ [] ∧ ∀ i ∈ Region.ready .any ops x.1, ∃ l, step1M E rec ops i x.2 = some l ∧ ∀ s ∈ l, (x.1.setIfInBounds i true, s) ∈ G) := by
  unfold expandD at e
  split at e
  · rename_i h; cases e; exact .inl ⟨h, List.mem_singleton.2 rfl⟩
  · rename_i h
    refine .inr ⟨h, fun i hi => ?_⟩
    obtain ⟨y, h1, h2⟩ := bindO_mem e i hi
    obtain ⟨l, h3, rfl⟩ := Option.map_eq_some_iff.1 h1
    exact ⟨l, h3, fun s hs => h2 _ (List.mem_map.2 ⟨s, hs, rfl⟩)⟩

theorem wpAny_nil {P : Program} {ops : Array Oper} {Q : Exit → Act → World → Prop} {l : Array Bool} {a : Act} {w : World} (h : Region.ready .any ops l = []) : ∀ n, wpAny P .any ops Q n l a w → Q .normal a w
  | 0, h1 => h1.2
  | _ + 1, h1 => h1.1 h

theorem levelsM_ok [Dfs] {E : Env} (hE : EnvOk E) {rec : RecM} (hrec : CallsOkM E rec) {ops : Array Oper} : ∀ (n : Nat) (F : List DS) {out : List S}, levelsM E rec ops n F = some out →
    ∀ x ∈ F, ∀ I Z (w : World) (a : Act), Glob I Z E → LRel I Z x.2.t a.tmps.toList → a.defers = Dfs.l → Rel I Z x.2.h w → ∀ Q, (∀ s' ∈ out, Left E I Z x.2.h w .normal s' Q) → wpAny E.P .any ops Q n x.1 a w
  | 0, F, out, e, x, hx, I, Z, w, a, hg, ht, hd, hr, Q, hq => by
    simp only [levelsM] at e
    split at e
    · rename_i hall
      cases e
      have := List.all_eq_true.1 hall x hx
      refine ⟨by simpa using this, hq x.2 (List.mem_map.2 ⟨x, hx, rfl⟩) I Z w a (.refl hr) ht hd⟩
    · cases e
  | n + 1, F, out, e, x, hx, I, Z, w, a, hg, ht, hd, hr, Q, hq => by
    simp only [levelsM] at e
    split at e
    · rename_i G hG
      obtain ⟨Gx, h1, h2⟩ := bindO_mem hG x hx
      rcases expandD_step h1 with ⟨hn, hin⟩ | ⟨hn, hstep⟩
      · have hw := levelsM_ok hE hrec n _ e x (dedupD_mem (h2 x hin)) I Z w a hg ht hd hr Q hq
        exact ⟨fun _ => wpAny_nil hn n hw, fun i hi => by rw [hn] at hi; cases hi⟩
      · refine ⟨fun h => absurd h hn, fun i hi => ?_⟩
        obtain ⟨l, h3, h4⟩ := hstep i hi
        refine step1M_ok hE hrec h3 I Z w a hg ht hr _ Q (fun s' hs' J Y w' a' hgo ht' hd' => ?_)
        exact levelsM_ok hE hrec n _ e (x.1.setIfInBounds i true, s') (dedupD_mem (h2 _ (h4 s' hs'))) J Y w' a' (hg.mono hgo.le hgo.lez) ht' (hd'.trans hd) hgo.rel Q
          (fun s'' hs'' J' Y' w'' a'' hgo' ht'' hd'' => hq s'' hs'' J' Y' w'' a'' (hgo.trans hr hgo') ht'' hd'')
    · cases e

theorem appO_some {α : Type} {p q : Option (List α)} {l : List α} (h : appO p q = some l) : ∃ x y, p = some x ∧ q = some y ∧ l = x ++ y := by
  unfold appO at h
  split at h
  · cases h; exact ⟨_, _, rfl, rfl, rfl⟩
  · cases h

theorem stepCodeM_ok [Dfs] {E : Env} (hE : EnvOk E) (hmix : E.P.follows .mixedOrders = true) {d n : Nat} {rec : RecM} (hrec : CallsOkM E rec) (hloop : ∀ f c s l, rec (.loop f c s) = some l → (∀ x ∈ drawsIn c, DrawGood E f x) → LoopOkM E n c s l)
    (hdraw : DrawsOk E (run E d)) (f : FuncId) : ∀ (c : Code) (s : S) (l : List (Ex × S)), (∀ x ∈ drawsIn c, DrawGood E f x) → stepCodeM E (run E d) rec f c s = some l → CodeOkM E c s l
  | .skip, s, l, hdg, h, I, Z, w, a, hg, ht, hd, hr, Q, hq => by
    cases h; exact wp_skip (hq _ (List.mem_singleton.2 rfl) I Z w a (.refl hr) ht hd)
  | .seq x y, s, l, hdg, h, I, Z, w, a, hg, ht, hd, hr, Q, hq => by
    simp only [stepCodeM] at h
    split at h
    · rename_i l1 h1
      refine wp_seq ?_
      refine stepCodeM_ok hE hmix hrec hloop hdraw f x s l1 (fun z hz => hdg z (by simp [drawsIn, hz])) h1 I Z w a hg ht hd hr _ (fun r1 hr1 J Y w' a' hgo ht' hd' => ?_)
      obtain ⟨l2, h2, h3⟩ := bindO_mem h r1 hr1
      obtain ⟨ex, s1⟩ := r1
      cases ex with
      | normal =>
        exact stepCodeM_ok hE hmix hrec hloop hdraw f y s1 l2 (fun z hz => hdg z (by simp [drawsIn, hz])) h2 J Y w' a' (hg.mono hgo.le hgo.lez) ht' hd' hgo.rel Q (fun r hr2 J' Y' w'' a'' hgo' ht'' hd'' => hq r (h3 r hr2) J' Y' w'' a'' (hgo.trans hr hgo') ht'' hd'')
      | exit j => cases h2; exact hq _ (h3 _ (List.mem_singleton.2 rfl)) J Y w' a' hgo ht' hd'
      | ret => cases h2; exact hq _ (h3 _ (List.mem_singleton.2 rfl)) J Y w' a' hgo ht' hd'
    · cases h
  | .cond c x y, s, l, hdg, h, I, Z, w, a, hg, ht, hd, hr, Q, hq => by
    simp only [stepCodeM] at h
    have hc := evA_rel hg ht c
    split at h
    · rename_i hb
      rw [hb] at hc
      cases hcv : a.eval c <;> rw [hcv] at hc <;> cases hc
      exact wp_cond_true hcv (stepCodeM_ok hE hmix hrec hloop hdraw f x s l (fun z hz => hdg z (by simp [drawsIn, hz])) h I Z w a hg ht hd hr Q hq)
    · rename_i hb
      rw [hb] at hc
      cases hcv : a.eval c <;> rw [hcv] at hc <;> cases hc
      exact wp_cond_false hcv (stepCodeM_ok hE hmix hrec hloop hdraw f y s l (fun z hz => hdg z (by simp [drawsIn, hz])) h I Z w a hg ht hd hr Q hq)
    · rename_i hb
      rw [hb] at hc
      obtain ⟨l1, l2, h1, h2, rfl⟩ := appO_some h
      cases hcv : a.eval c <;> rw [hcv] at hc <;> cases hc
      rename_i b
      cases b with
      | true =>
        exact wp_cond_true hcv (stepCodeM_ok hE hmix hrec hloop hdraw f x s l1 (fun z hz => hdg z (by simp [drawsIn, hz])) h1 I Z w a hg ht hd hr Q (fun r hr' => hq r (List.mem_append_left _ hr')))
      | false =>
        exact wp_cond_false hcv (stepCodeM_ok hE hmix hrec hloop hdraw f y s l2 (fun z hz => hdg z (by simp [drawsIn, hz])) h2 I Z w a hg ht hd hr Q (fun r hr' => hq r (List.mem_append_right _ hr')))
    · cases h
  | .block id x, s, l, hdg, h, I, Z, w, a, hg, ht, hd, hr, Q, hq => by
    simp only [stepCodeM] at h
    obtain ⟨l1, h1, rfl⟩ := Option.map_eq_some_iff.1 h
    refine wp_block ?_
    refine stepCodeM_ok hE hmix hrec hloop hdraw f x s l1 (fun z hz => hdg z (by simpa [drawsIn] using hz)) h1 I Z w a hg ht hd hr _ (fun r hr1 J Y w' a' hgo ht' hd' => ?_)
    have hm := List.mem_map_of_mem (f := blockM id) hr1
    obtain ⟨ex, s1⟩ := r
    cases ex with
    | normal => exact hq _ hm J Y w' a' hgo ht' hd'
    | exit j =>
      simp only [blockM] at hm
      by_cases hj : j = id
      · rw [if_pos hj] at hm
        simp only [exOf, Exit.inBlock, if_pos hj]
        exact hq _ hm J Y w' a' hgo ht' hd'
      · rw [if_neg hj] at hm
        simp only [exOf, Exit.inBlock, if_neg hj]
        exact hq _ hm J Y w' a' hgo ht' hd'
    | ret => exact hq _ hm J Y w' a' hgo ht' hd'
  | .loop x, s, l, hdg, h, I, Z, w, a, hg, ht, hd, hr, Q, hq => by
    simp only [stepCodeM] at h
    split at h
    · rename_i l1 h1
      refine wp_loop_rounds n (hloop f x s l1 h1 (fun z hz => hdg z (by simpa [drawsIn] using hz)) I Z w a hg ht hd hr Q (fun e s' hm => ?_))
      obtain ⟨y, h2, h3⟩ := bindO_mem h _ hm
      cases h2
      exact hq (e, s') (h3 _ (List.mem_singleton.2 rfl))
    · cases h
  | .exit id, s, l, hdg, h, I, Z, w, a, hg, ht, hd, hr, Q, hq => by
    cases h; exact wp_exit (hq _ (List.mem_singleton.2 rfl) I Z w a (.refl hr) ht hd)
  | .ret, s, l, hdg, h, I, Z, w, a, hg, ht, hd, hr, Q, hq => by
    cases h; exact wp_ret (hq _ (List.mem_singleton.2 rfl) I Z w a (.refl hr) ht hd)
  | .region id ops draw, s, l, hdg, h, I, Z, w, a, hg, ht, hd, hr, Q, hq => by
    simp only [stepCodeM] at h
    split at h
    · rename_i hdr
      subst hdr
      split at h
      · rename_i s1 h1
        cases h
        exact hdraw f id ops s s1 (hdg (id, ops) (by simp [drawsIn])) h1 I Z w a hg ht hd hr Q (hq _ (List.mem_singleton.2 rfl))
      · obtain ⟨l1, h1, rfl⟩ := Option.map_eq_some_iff.1 h
        have hdr := Goes.drew hr (w.drawn + 1)
        refine wp_region_any hmix (levelsM_ok hE hrec _ _ h1 _ (List.mem_singleton.2 rfl) I Z _ a hg ht hd hdr.rel Q (fun s' hs' J Y w' a' hgo ht' hd' => ?_))
        exact hq (.normal, s') (List.mem_map.2 ⟨s', hs', rfl⟩) J Y w' a' (hdr.trans hr hgo) ht' hd'
    · rename_i hdr
      have hdr : draw = false := by simpa using hdr
      subst hdr
      obtain ⟨l1, h1, rfl⟩ := Option.map_eq_some_iff.1 h
      exact wp_region (stepOpsM_ok hE hrec _ h1 I Z w a hg ht hd hr Q (fun s' hs' => hq (.normal, s') (List.mem_map.2 ⟨s', hs', rfl⟩)))
  | .rangeFunc .., s, l, hdg, h, I, Z, w, a, hg, ht, hd, hr, Q, hq => by cases h
  | .scope _, s, l, hdg, h, I, Z, w, a, hg, ht, hd, hr, Q, hq => by cases h
  | .label _, s, l, hdg, h, I, Z, w, a, hg, ht, hd, hr, Q, hq => by cases h
  | .goto _, s, l, hdg, h, I, Z, w, a, hg, ht, hd, hr, Q, hq => by cases h
  | .refuse _, s, l, hdg, h, I, Z, w, a, hg, ht, hd, hr, Q, hq => by cases h

theorem runM_ok {E : Env} (hE : EnvGood E) (m wk : FuncId → Bool) (d : Nat) : ∀ n, CallsOkM E (runM E m wk d n) ∧ ∀ [Dfs], ∀ f c s l, runM E m wk d n (.loop f c s) = some l → (∀ x ∈ drawsIn c, DrawGood E f x) → LoopOkM E n c s l
  | 0 => ⟨fun f args h l e => by (cases e), fun {_} f c s l h => by (cases h)⟩
  | n + 1 => by
    obtain ⟨h1, h2⟩ := runM_ok hE m wk d n
    have hd : ∀ [Dfs], DrawsOk E (run E d) := draws_ok hE (run_ok hE d).1
    refine ⟨fun f args h l e => ?_, fun {_} f c s l h hdg => ?_⟩
    · have e : stepTaskM E m wk d (runM E m wk d n) (.call f args h) = some l := e
      simp only [stepTaskM] at e
      split at e
      · split at e
        · rename_i fn hf
          unfold bodyM at e
          split at e
          · cases e
          · rename_i c hc
            split at e
            · cases e
            · rename_i lc hlc
              split at e
              · rename_i mm hmm
                cases e
                intro I Z w vs hg hL hr
                refine calls_of_wp (hE.funs f fn hf) hc ?_
                have ht : LRel I Z (args ++ List.replicate (fn.ntmps - args.length) undefA) (vs.toArray ++ Array.replicate (fn.ntmps - vs.toArray.size) undef).toList := by
                  have := hL.append (rep_rel (I := I) (Z := Z) (fn.ntmps - args.length))
                  rw [hL.1] at this
                  simpa using (hL.1 ▸ this)
                refine @stepCodeM_ok _ ⟨[]⟩ _ hE.toEnvOk hE.mixed d n _ h1 (@h2 ⟨[]⟩) (@hd ⟨[]⟩) f c _ lc (fun x hx => hE.draws f fn _ hf hc x hx) hlc I Z w _ hg ht rfl hr _ (fun r hr1 J Y w' a' hgo ht' hd' => ?_)
                obtain ⟨y, hy1, hy2⟩ := bindO_mem hmm r hr1
                have fin : ∀ v, resultsA E.P fn r.2 = some v → y = [(v, r.2.h)] → ∃ cv, (results fn a'.tmps).run E.P w' = .ok cv w' ∧ ∃ v h', Res.ret v h' ∈ (dedup (mm.map (weakR (wk f)))).map toRet ∧ ∃ J Y cv', Ending.returned cv = .returned cv' ∧ Goes I Z h w J Y h' w' ∧ VRel J Y v cv' := fun v hv hyv => by
                  obtain ⟨cv, h5, h6⟩ := results_ok hv ht' hgo.rel
                  obtain ⟨w1, w2⟩ := weakR_rel (wk := wk f) (r := (v, r.2.h)) h6
                  exact ⟨cv, h5, (weakR (wk f) (v, r.2.h)).1, r.2.h, List.mem_map.2 ⟨weakR (wk f) (v, r.2.h), dedup_mem (List.mem_map_of_mem (hy2 _ (by rw [hyv]; exact List.mem_singleton.2 rfl))), by unfold toRet; rw [w2]⟩, J, Y, cv, rfl, hgo, w1⟩
                obtain ⟨ex, s1⟩ := r
                cases ex with
                | normal =>
                  obtain ⟨v, hv, he⟩ := Option.map_eq_some_iff.1 hy1
                  exact ⟨hd', fin v hv he.symm⟩
                | exit j => cases hy1
                | ret =>
                  obtain ⟨v, hv, he⟩ := Option.map_eq_some_iff.1 hy1
                  exact ⟨hd', fin v hv he.symm⟩
              · cases e
        · cases e
      · split at e
        · rename_i v h' hc
          cases e
          intro I Z w vs hg hL hr
          refine (call_ok hE (runF_ret hc) I Z w vs hg hL hr).mono ?_
          rintro e' w' ⟨J, Y, cv, rfl, h4, h5⟩
          exact ⟨v, h', List.mem_singleton.2 rfl, J, Y, cv, rfl, h4, h5⟩
        · cases e
    · have h : stepTaskM E m wk d (runM E m wk d n) (.loop f c s) = some l := h
      simp only [stepTaskM] at h
      split at h
      · rename_i l1 hl1
        intro I Z w a hg ht hde hr Q hq
        rw [rounds_succ]
        refine stepCodeM_ok hE.toEnvOk hE.mixed h1 h2 hd f c s l1 hdg hl1 I Z w a hg ht hde hr _ (fun r hr1 J Y w' a' hgo ht' hd' => ?_)
        obtain ⟨y, hy1, hy2⟩ := bindO_mem h r hr1
        obtain ⟨ex, s1⟩ := r
        cases ex with
        | normal =>
          exact h2 f c s1 y hy1 hdg J Y w' a' (hg.mono hgo.le hgo.lez) ht' hd' hgo.rel Q (fun e s' hm J' Y' w'' a'' hgo' ht'' hd'' => hq e s' (hy2 _ hm) J' Y' w'' a'' (hgo.trans hr hgo') ht'' hd'')
        | exit j => cases hy1; exact hq _ _ (hy2 _ (List.mem_singleton.2 rfl)) J Y w' a' hgo ht' hd'
        | ret => cases hy1; exact hq _ _ (hy2 _ (List.mem_singleton.2 rfl)) J Y w' a' hgo ht' hd'
      · cases h

/-- All outcomes say no less than one. -/
theorem callok_ofM {E : Env} {f : FuncId} {args : List AV} {h : AH} {l : List Res} (hM : CallOkM E f args h l) {v : AV} {h' : AH}
    (hc : ∀ v1 h1, Res.ret v1 h1 ∈ l → (∀ I Z cv, VRel I Z v1 cv → VRel I Z v cv) ∧ ∀ I Z w, Rel I Z h1 w → Goes I Z h1 w I Z h' w) : CallOk E f args h v h' := by
  intro I Z w vs hg hL hr
  refine (hM I Z w vs hg hL hr).mono ?_
  rintro e w' ⟨v1, h1, hm, J, Y, cv, rfl, hgo, hv⟩
  obtain ⟨c1, c2⟩ := hc v1 h1 hm
  exact ⟨J, Y, cv, rfl, hgo.trans hr (c2 J Y w' hgo.rel), c1 J Y cv hv⟩
end
end Go.Av
