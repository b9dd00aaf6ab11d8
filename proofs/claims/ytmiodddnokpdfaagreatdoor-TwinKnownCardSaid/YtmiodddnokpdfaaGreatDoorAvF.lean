/-
  The abstract machine once more, its temporaries in a tree: what the kernel reduces; it answers as the first does.
-/
import Derived.Test.YtmiodddnokpdfaaGreatDoorAv18
namespace Go.Av
noncomputable section
set_option linter.unusedSectionVars false
variable [Toks]
set_option linter.unusedSimpArgs false
set_option linter.unusedVariables false

def execB (E : Env) (ρ : Operand → AV) (h : AH) (o : Oper) : Option ON :=
  let P := E.P
  let v (r : Option AV) : Option ON := r.map fun x => .val x h
  let vh (r : Option (AV × AH)) : Option ON := r.map fun x => .val x.1 x.2
  let u (r : Option AH) : Option ON := r.map fun h' => .val undefA h'
  match o.op with
  | .move x | .assign x => some (.val (ρ x) h)
  | .pick c a b => match ρ c with
    | .b true => some (.val (ρ a) h)
    | .b false => some (.val (ρ b) h)
    | _ => none
  | .alloc e => match zeroA P e with
    | some z => if z.cells.all AV.one && !z.cells.isEmpty then some (.val (.p (some (h.next, 0))) (h.new (.cells z.cells.length z.cells))) else none
    | none => none
  | .box _ x => let cs := (ρ x).cells
    if cs.all AV.one && !cs.isEmpty then some (.val (.p (some (h.next, 0))) (h.new (.cells cs.length cs))) else none
  | .build ty parts => v (buildA P ty (parts.toList.map fun x => (x.1, ρ x.2)))
  | .buildSlice ty len parts =>
    if len = 0 ∨ E.ownLit ty (constLit parts) = true then vh (buildSliceA P h ty len (parts.toList.map fun x => (x.1, ρ x.2)))
    else v (litSliceA P ty len (parts.toList.map fun x => (x.1, ρ x.2)))
  | .load ty a => v (loadA P h ty (ρ a))
  | .store ty a x => u (storeA P h ty (ρ a) (ρ x))
  | .nilCheck x => match ρ x with
    | .p (some a) => some (.val (.p (some a)) h)
    | .ip cs o => some (.val (.ip cs o) h)
    | _ => none
  | .binOp op ty x y _ => v (binE E op ty (ρ x) (ρ y))
  | .unOp op _ x => v (unE E op (ρ x))
  | .convert src dst x => vh (convE E h src dst (ρ x))
  | .makeInterface ty x => match P.underlying ty with
    | some (.interface _) | none => none
    | some _ => some (.val (.ifc ty (ρ x)) h)
  | .makeFunc g first captured => some (.val (.fn g (first.toList.map ρ) (captured.toList.map ρ)) h)
  | .makeMap _ none => some (.val (.m (some h.next)) (h.new (.map (.es [] [] 0))))
  | .makeSlice ty l c => vh (makeSliceA P h ty (ρ l) (ρ c))
  | .slice ty x lo hi mx => v (sliceA P h ty (ρ x) (lo.map ρ) (hi.map ρ) (mx.map ρ))
  | .fieldAddr ty x j => v (fieldAddrA P ty (ρ x) j)
  | .field ty x j => v (fieldA P ty (ρ x) j)
  | .indexAddr ty x ix => v (indexAddrA P ty (ρ x) (ρ ix))
  | .index ty x ix => v (indexA P ty (ρ x) (ρ ix))
  | .lookup ty x ix ok => v (lookupA P h ty (ρ x) (ρ ix) ok)
  | .mapUpdate ty m k x => u (mapUpdateA P h ty (ρ m) (ρ k) (ρ x))
  | .insert ty m k x => u (mapUpdateA P h ty (ρ m) (ρ k) (ρ x))
  | .extract x j => match ρ x with
    | .tup vs => v vs[j]?
    | _ => none
  | .range ty x => vh (rangeA P h ty (ρ x))
  | .entry it => v (entryA h (ρ it))
  | .next it isS => match nextA h (ρ it) isS with
    | some [r] => some (.val r.1 r.2)
    | _ => none
  | .call c =>
    let args := c.args.toList.map ρ
    match c.callee with
    | .builtin b => vh (builtinA P h b c.argTypes args)
    | .value f => match ρ f with
      | .fn (.func g) first captured => callFnA E h g (first ++ args ++ captured)
      | _ => none
    | .invoke r name => match ρ r with
      | .ifc ty v => match methodA P ty name with
        | some g => callFnA E h g (v :: args)
        | none => none
      | _ => none
  | _ => none

def gNil (h : AH) (a : AV) : Option ON := match a with
  | .p (some a) => some (.val (.p (some a)) h)
  | .ip cs o => some (.val (.ip cs o) h)
  | _ => none
def gPick (ρ : Operand → AV) (h : AH) (c : AV) (a b : Operand) : Option ON := match c with
  | .b true => some (.val (ρ a) h)
  | .b false => some (.val (ρ b) h)
  | _ => none
def gVal (h : AH) (r : Option AV) : Option ON := r.map fun x => .val x h
def gHeap (r : Option AH) : Option ON := r.map fun h' => .val undefA h'
def gBoth (r : Option (AV × AH)) : Option ON := r.map fun x => .val x.1 x.2
def gExt (h : AH) (a : AV) (j : Nat) : Option ON := match a with
  | .tup vs => gVal h vs[j]?
  | _ => none
def gCall (E : Env) (ρ : Operand → AV) (h : AH) (c : Call) : Option ON :=
  let args := c.args.toList.map ρ
  match c.callee with
  | .builtin b => gBoth (builtinA E.P h b c.argTypes args)
  | .value f => match ρ f with
    | .fn (.func g) first captured => callFnA E h g (first ++ args ++ captured)
    | _ => none
  | .invoke r name => match ρ r with
    | .ifc ty v => match methodA E.P ty name with
      | some g => callFnA E h g (v :: args)
      | none => none
    | _ => none
/-- The common ones first, each by a definition of its own: the kernel then carries little along. -/
def execF (E : Env) (ρ : Operand → AV) (h : AH) (o : Oper) : Option ON :=
  match o.op with
  | .move x => some (.val (ρ x) h)
  | .assign x => some (.val (ρ x) h)
  | .pick c a b => gPick ρ h (ρ c) a b
  | .load ty a => gVal h (loadA E.P h ty (ρ a))
  | .store ty a x => gHeap (storeA E.P h ty (ρ a) (ρ x))
  | .nilCheck x => gNil h (ρ x)
  | .binOp op ty x y _ => gVal h (binE E op ty (ρ x) (ρ y))
  | .unOp op _ x => gVal h (unE E op (ρ x))
  | .convert src dst x => gBoth (convE E h src dst (ρ x))
  | .slice ty x lo hi mx => gVal h (sliceA E.P h ty (ρ x) (lo.map ρ) (hi.map ρ) (mx.map ρ))
  | .fieldAddr ty x j => gVal h (fieldAddrA E.P ty (ρ x) j)
  | .indexAddr ty x ix => gVal h (indexAddrA E.P ty (ρ x) (ρ ix))
  | .extract x j => gExt h (ρ x) j
  | .call c => gCall E ρ h c
  | _ => execB E ρ h o
theorem execF_eq (E : Env) (ρ : Operand → AV) (h : AH) (o : Oper) : execF E ρ h o = execB E ρ h o := by
  obtain ⟨dst, op, type, pos, after, guard⟩ := o
  cases op <;> rfl
theorem execA_eq (E : Env) (t : List AV) (h : AH) (o : Oper) : execA E t h o = execF E (evA E t) h o := by rw [execF_eq]; rfl

structure SF where
  t : Tr AV
  n : Nat
  h : AH

def toL (t : Tr AV) (n : Nat) : List AV := (List.range n).map fun i => (t.get i).getD undefA
def toS (s : SF) : S := ⟨toL s.t s.n, s.h⟩

theorem blt_true {i n : Nat} (h : i < n) : Nat.blt i n = true := by simpa using h
theorem blt_false {i n : Nat} (h : ¬ i < n) : Nat.blt i n = false := by
  cases e : Nat.blt i n with
  | false => rfl
  | true => exact absurd (by simpa using e) h

theorem toL_get (t : Tr AV) (n i : Nat) : (toL t n)[i]? = if i < n then some ((t.get i).getD undefA) else none := by
  unfold toL
  rw [List.getElem?_map]
  split
  · rw [List.getElem?_range (by assumption)]; rfl
  · rw [List.getElem?_eq_none (by simp; omega)]; rfl
theorem toL_length (t : Tr AV) (n : Nat) : (toL t n).length = n := by simp [toL]

def tmpF (t : Tr AV) (n i : Nat) : AV := bif Nat.blt i n then (t.get i).getD undefA else undefA
theorem tmpF_eq (t : Tr AV) (n i : Nat) : tmpF t n i = (toL t n).getD i undefA := by
  rw [List.getD_eq_getElem?_getD, toL_get]
  unfold tmpF
  by_cases h : i < n
  · rw [if_pos h]; have : Nat.blt i n = true := by simpa using h
    rw [this]; rfl
  · rw [if_neg h]; have : Nat.blt i n = false := blt_false h
    rw [this]; rfl

def evF (E : Env) (t : Tr AV) (n : Nat) : Operand → AV
  | .tmp i => tmpF t n i
  | .const v => ofV v
  | .global g => match E.glob g with | some cs => .ip cs 0 | none => .any
  | .func f => .fn (.func f) [] []
theorem evF_eq (E : Env) (t : Tr AV) (n : Nat) : evF E t n = evA E (toL t n) := by
  funext o
  cases o with
  | tmp i => exact tmpF_eq t n i
  | _ => rfl

def putF (s : SF) (d : Option Tmp) (v : AV) (h : AH) : SF :=
  match d with
  | some j => bif Nat.blt j s.n then ⟨s.t.set j (some v), s.n, h⟩ else ⟨s.t, s.n, h⟩
  | none => ⟨s.t, s.n, h⟩
theorem putF_eq (s : SF) (d : Option Tmp) (v : AV) (h : AH) : toS (putF s d v h) = ⟨putA (toS s).t d v, h⟩ := by
  cases d with
  | none => rfl
  | some j =>
    unfold putF putA toS
    simp only
    by_cases hj : j < s.n
    · have e : Nat.blt j s.n = true := by simpa using hj
      simp only [e, cond_true]
      congr 1
      apply List.ext_getElem?
      intro i
      rw [toL_get, List.getElem?_set, toL_get, toL_length, Tr.get_set]
      by_cases h1 : j = i
      · subst h1; simp [hj]
      · rw [if_neg (show ¬ (i = j) from fun e => h1 e.symm), if_neg (show ¬ (j = i) from h1)]
    · have e : Nat.blt j s.n = false := blt_false hj
      simp only [e, cond_false]
      congr 1
      rw [List.set_eq_of_length_le (by rw [toL_length]; exact Nat.le_of_not_lt hj)]

inductive TaskF where
  | loop (f : FuncId) (c : Code) (s : SF)
  | call (f : FuncId) (args : List AV) (h : AH)
inductive ResF where
  | code (e : Ex) (s : SF)
  | ret (v : AV) (h : AH)
abbrev RecF := TaskF → Option ResF
def toTask : TaskF → Task
  | .loop f c s => .loop f c (toS s)
  | .call f args h => .call f args h
def toRes : ResF → Res
  | .code e s => .code e (toS s)
  | .ret v h => .ret v h

/-- They answer alike. -/
def Like (recF : RecF) (rec : Rec) : Prop := ∀ t, (recF t).map toRes = rec (toTask t)

def stepOpF (E : Env) (rec : RecF) (o : Oper) (s : SF) : Option SF :=
  match execF E (evF E s.t s.n) s.h o with
  | some (.val v h) => some (putF s o.dst v h)
  | some (.enter f args) => match rec (.call f args s.h) with
    | some (.ret v h) => some (putF s o.dst v h)
    | _ => none
  | none => none
theorem stepOpF_eq {E : Env} {recF : RecF} {rec : Rec} (hr : Like recF rec) (o : Oper) (s : SF) : (stepOpF E recF o s).map toS = stepOp E rec o (toS s) := by
  unfold stepOpF stepOp
  rw [execA_eq, evF_eq]
  show _ = (match execF E (evA E (toL s.t s.n)) s.h o with
    | some (.val v h) => some (⟨putA (toS s).t o.dst v, h⟩ : S)
    | some (.enter f args) => match rec (.call f args s.h) with
      | some (.ret v h) => some ⟨putA (toS s).t o.dst v, h⟩
      | _ => none
    | none => none)
  cases execF E (evA E (toL s.t s.n)) s.h o with
  | none => rfl
  | some x =>
    cases x with
    | val v h => simp [putF_eq]
    | enter f args =>
      have := hr (.call f args s.h)
      simp only [toTask] at this
      simp only
      rw [← this]
      cases recF (.call f args s.h) with
      | none => rfl
      | some y => cases y <;> simp [toRes, putF_eq]

def wantedF (ops : Array Oper) (t : Tr AV) (n : Nat) (o : Oper) : Option Bool :=
  match o.guard with
  | none => some true
  | some (j, want) =>
    match (ops[j]?).bind (·.dst) with
    | none => none
    | some d => bif Nat.blt d n then (match (t.get d).getD undefA with
      | .b x => some (x == want)
      | .tup [] => some false
      | _ => none) else none
theorem wantedF_eq (ops : Array Oper) (t : Tr AV) (n : Nat) (o : Oper) : wantedF ops t n o = wantedA ops (toL t n) o := by
  unfold wantedF wantedA
  cases o.guard with
  | none => rfl
  | some x =>
    obtain ⟨j, want⟩ := x
    simp only
    cases (ops[j]?).bind (·.dst) with
    | none => rfl
    | some d =>
      simp only [toL_get]
      by_cases h : d < n
      · have e : Nat.blt d n = true := by simpa using h
        rw [if_pos h, e, cond_true]
        generalize (t.get d).getD undefA = v
        cases v with
        | tup l => cases l <;> rfl
        | _ => rfl
      · have e : Nat.blt d n = false := blt_false h
        rw [if_neg h, e, cond_false]

def step1F (E : Env) (rec : RecF) (ops : Array Oper) (o : Oper) (s : SF) : Option SF :=
  match wantedF ops s.t s.n o with
  | some true => stepOpF E rec o s
  | some false => some (putF s o.dst undefA s.h)
  | none => none
theorem step1F_eq {E : Env} {recF : RecF} {rec : Rec} (hr : Like recF rec) {ops : Array Oper} {j : Nat} {o : Oper} (ho : ops[j]? = some o) (s : SF) : (step1F E recF ops o s).map toS = step1 E rec ops j (toS s) := by
  unfold step1F step1
  rw [ho, wantedF_eq]
  show _ = (match wantedA ops (toL s.t s.n) o with
    | some true => stepOp E rec o (toS s)
    | some false => some ⟨putA (toS s).t o.dst undefA, (toS s).h⟩
    | none => none)
  cases wantedA ops (toL s.t s.n) o with
  | none => rfl
  | some b => cases b with
    | true => exact stepOpF_eq hr o s
    | false => simp [putF_eq]; rfl

def stepOpsF (E : Env) (rec : RecF) (ops : Array Oper) (l : List Oper) : SF → Option SF :=
  List.rec (motive := fun _ => SF → Option SF) (fun s => some s) (fun o _ ih s => Option.rec (motive := fun _ => Option SF) none ih (step1F E rec ops o s)) l
theorem stepOpsF_nil (E : Env) (rec : RecF) (ops : Array Oper) (s : SF) : stepOpsF E rec ops [] s = some s := rfl
theorem stepOpsF_cons (E : Env) (rec : RecF) (ops : Array Oper) (o : Oper) (rest : List Oper) (s : SF) : stepOpsF E rec ops (o :: rest) s = match step1F E rec ops o s with
    | some s' => stepOpsF E rec ops rest s'
    | none => none := by
  show Option.rec (motive := fun _ => Option SF) none (stepOpsF E rec ops rest) (step1F E rec ops o s) = _
  cases step1F E rec ops o s <;> rfl
theorem stepOpsF_eq {E : Env} {recF : RecF} {rec : Rec} (hr : Like recF rec) (ops : Array Oper) : ∀ (l : List Oper) (k : Nat) (s : SF), (∀ j, l[j]? = ops[k + j]?) → k + l.length = ops.size →
    (stepOpsF E recF ops l s).map toS = stepOps E rec ops (List.range' k l.length) (toS s)
  | [], k, s, _, _ => rfl
  | o :: l, k, s, hl, hk => by
    have ho : ops[k]? = some o := by have := hl 0; simpa using this.symm
    have e := step1F_eq (ops := ops) (j := k) (E := E) hr ho s
    rw [List.length_cons, List.range'_succ]
    simp only [stepOpsF_cons, stepOps]
    rw [← e]
    cases step1F E recF ops o s with
    | none => rfl
    | some s' =>
      simp only [Option.map_some]
      exact stepOpsF_eq hr ops l (k + 1) s' (fun j => by have := hl (j + 1); rw [show k + 1 + j = k + (j + 1) by omega]; simpa using this) (by simp at hk; omega)

def runDF (E : Env) (rec : RecF) (ops : Array Oper) (W : List (Nat × Nat × Nat)) : List Oper → Nat → SF → List AH → List (Oper × (Tr AV × Nat) × Nat × Nat) → Option (SF × List AH × List (Oper × (Tr AV × Nat) × Nat × Nat))
  | [], _, s, gs, rs => some (s, gs, rs)
  | o :: rest, j, s, gs, rs =>
      match step1F E rec ops o s with
      | none => none
      | some s' =>
        let gs' := if kindA E o = 2 then gs ++ [s'.h] else gs
        let rs' := match nthW j W with
          | some (lo, hi) => if wantedF ops s.t s.n o = some true then (o, (s.t, s.n), lo, hi) :: rs else rs
          | none => rs
        runDF E rec ops W rest (j + 1) s' gs' rs'
def toR (r : Oper × (Tr AV × Nat) × Nat × Nat) : Oper × List AV × Nat × Nat := (r.1, toL r.2.1.1 r.2.1.2, r.2.2.1, r.2.2.2)
def toD (x : SF × List AH × List (Oper × (Tr AV × Nat) × Nat × Nat)) : S × List AH × List (Oper × List AV × Nat × Nat) := (toS x.1, x.2.1, x.2.2.map toR)
theorem runDF_eq {E : Env} {recF : RecF} {rec : Rec} (hr : Like recF rec) (ops : Array Oper) (W : List (Nat × Nat × Nat)) : ∀ (l : List Oper) (k : Nat) (s : SF) (gs : List AH) (rs : List (Oper × (Tr AV × Nat) × Nat × Nat)), (∀ j, l[j]? = ops[k + j]?) → k + l.length = ops.size →
    (runDF E recF ops W l k s gs rs).map toD = runD E rec ops W (List.range' k l.length) (toS s) gs (rs.map toR)
  | [], k, s, gs, rs, _, _ => rfl
  | o :: l, k, s, gs, rs, hl, hk => by
    have ho : ops[k]? = some o := by have := hl 0; simpa using this.symm
    have e := step1F_eq (ops := ops) (j := k) (E := E) hr ho s
    rw [List.length_cons, List.range'_succ]
    simp only [runDF, runD]
    rw [ho]
    simp only
    rw [← e]
    cases step1F E recF ops o s with
    | none => rfl
    | some s' =>
      simp only [Option.map_some]
      rw [runDF_eq hr ops W l (k + 1) s' _ _ (fun j => by have := hl (j + 1); rw [show k + 1 + j = k + (j + 1) by omega]; simpa using this) (by simp at hk; omega)]
      congr 1
      rw [wantedF_eq]
      cases nthW k W with
      | none => rfl
      | some x =>
        obtain ⟨lo, hi⟩ := x
        simp only
        show List.map toR (if wantedA ops (toS s).t o = some true then _ else _) = _
        split <;> rfl

def readF (E : Env) (rec : RecF) (t : Tr AV) (n : Nat) (g : AH) (o : Oper) : Option AV :=
  match execF E (evF E t n) g o with
  | some (.val v _) => some v
  | some (.enter f args) => match rec (.call f args g) with
    | some (.ret v _) => some v
    | _ => none
  | none => none
theorem readF_eq {E : Env} {recF : RecF} {rec : Rec} (hr : Like recF rec) (t : Tr AV) (n : Nat) (g : AH) (o : Oper) : readF E recF t n g o = readV E rec (toL t n) g o := by
  unfold readF readV
  rw [execA_eq, evF_eq]
  cases execF E (evA E (toL t n)) g o with
  | none => rfl
  | some x =>
    cases x with
    | val v h => rfl
    | enter f args =>
      have := hr (.call f args g)
      simp only [toTask] at this
      simp only
      rw [← this]
      cases recF (.call f args g) with
      | none => rfl
      | some y => cases y <;> rfl

def stableF (E : Env) (rec : RecF) (gs : List AH) (r : Oper × (Tr AV × Nat) × Nat × Nat) : Bool :=
  match gs[r.2.2.1]? with
  | none => false
  | some g => match readF E rec r.2.1.1 r.2.1.2 g r.1 with
    | none => false
    | some v => (List.range (r.2.2.2 + 1)).all fun k => decide (k < r.2.2.1) || (match gs[k]? with
      | none => false
      | some g' => match readF E rec r.2.1.1 r.2.1.2 g' r.1 with
        | none => false
        | some v' => AV.beq v v')
theorem stableF_eq {E : Env} {recF : RecF} {rec : Rec} (hr : Like recF rec) (gs : List AH) (r : Oper × (Tr AV × Nat) × Nat × Nat) : stableF E recF gs r = stable E rec gs (toR r) := by
  unfold stableF stable toR
  simp only [readF_eq hr]
  rfl

def stepDrawF (E : Env) (rec : RecF) (f : FuncId) (id : Nat) (ops : Array Oper) (s : SF) : Option SF :=
  match E.win f id with
  | none => none
  | some W => match runDF E rec ops W ops.toList 0 s [s.h] [] with
    | some (s', gs, rs) => if rs.all (stableF E rec gs) then some s' else none
    | none => none
theorem stepDrawF_eq {E : Env} {recF : RecF} {rec : Rec} (hr : Like recF rec) (f : FuncId) (id : Nat) (ops : Array Oper) (s : SF) : (stepDrawF E recF f id ops s).map toS = stepDraw E rec f id ops (toS s) := by
  unfold stepDrawF stepDraw
  cases E.win f id with
  | none => rfl
  | some W =>
    simp only
    have e := runDF_eq (E := E) hr ops W ops.toList 0 s [s.h] [] (fun j => by simp) (by simp)
    rw [Array.length_toList, ← List.range_eq_range'] at e
    show _ = (match runD E rec ops W (List.range ops.size) (toS s) [s.h] [] with
      | some (s', gs, rs) => if rs.all (stable E rec gs) then some s' else none
      | none => none)
    rw [List.map_nil] at e
    rw [← e]
    cases runDF E recF ops W ops.toList 0 s [s.h] [] with
    | none => rfl
    | some x =>
      obtain ⟨s', gs, rs⟩ := x
      simp only [Option.map_some, toD]
      have : (rs.map toR).all (stable E rec gs) = rs.all (stableF E recF gs) := by
        rw [List.all_map]
        congr 1
        funext r
        exact (stableF_eq hr gs r).symm
      rw [this]
      split <;> rfl

def ofArgs : List AV → Nat → Tr AV → Tr AV
  | [], _, t => t
  | a :: r, i, t => ofArgs r (i + 1) (t.set i (some a))
theorem ofArgs_get : ∀ (l : List AV) (i : Nat) (t : Tr AV) (j : Nat), (ofArgs l i t).get j = if i ≤ j ∧ j < i + l.length then l[j - i]? else t.get j
  | [], i, t, j => by rw [if_neg (show ¬ (i ≤ j ∧ j < i + ([] : List AV).length) by simp)]; rfl
  | a :: r, i, t, j => by
    rw [ofArgs, ofArgs_get r (i + 1), Tr.get_set]
    by_cases h : i + 1 ≤ j ∧ j < i + 1 + r.length
    · rw [if_pos h, if_pos (by simp; omega), show j - i = (j - (i + 1)) + 1 by omega]; rfl
    · rw [if_neg h]
      by_cases e : j = i
      · subst e; rw [if_pos rfl, if_pos (by simp)]; simp
      · rw [if_neg e, if_neg (by simp at h ⊢; omega)]
theorem ofArgs_toL (args : List AV) (n : Nat) : toL (ofArgs args 0 .lf) (args.length + (n - args.length)) = args ++ List.replicate (n - args.length) undefA := by
  apply List.ext_getElem?
  intro i
  rw [toL_get, ofArgs_get]
  by_cases h : i < args.length
  · rw [if_pos (by omega), if_pos (by omega), List.getElem?_append_left h, Nat.sub_zero, List.getElem?_eq_getElem h]; rfl
  · rw [if_neg (show ¬ (0 ≤ i ∧ i < 0 + args.length) by omega), List.getElem?_append_right (by omega), List.getElem?_replicate]
    by_cases h2 : i < args.length + (n - args.length)
    · rw [if_pos h2, if_pos (by omega)]; rfl
    · rw [if_neg h2, if_neg (by omega)]

theorem joinL_length {f : AV → AV → Option AV} : ∀ (a b : List AV), a.length = b.length → (joinL f a b).length = a.length
  | [], [], _ => rfl
  | x :: a, y :: b, h => by simp only [joinL, List.length_cons]; rw [joinL_length a b (by simpa using h)]
  | [], _ :: _, h => by simp at h
  | _ :: _, [], h => by simp at h
def joinT (f : AV → AV → Option AV) (n : Nat) (t u : Tr AV) : Tr AV := ofArgs (joinL f (toL t n) (toL u n)) 0 .lf
def joinF (f : AV → AV → Option AV) : Option (Ex × SF) → Option (Ex × SF) → Option (Ex × SF)
  | some (e, s), some (e', s') => if e = e' ∧ s.n = s'.n ∧ AH.same s.h s'.h = true then some (e, ⟨joinT f s.n s.t s'.t, s.n, s.h⟩) else none
  | _, _ => none

def toX (x : Ex × SF) : Ex × S := (x.1, toS x.2)
theorem joinF_eq (f : AV → AV → Option AV) (p q : Option (Ex × SF)) : (joinF f p q).map toX = joinX f (p.map toX) (q.map toX) := by
  cases p with
  | none => rfl
  | some x =>
    cases q with
    | none => rfl
    | some y =>
      obtain ⟨e, s⟩ := x
      obtain ⟨e', s'⟩ := y
      simp only [joinF, joinX, Option.map_some, toX, toS, toL_length]
      split
      · rename_i hc
        simp only [Option.map_some, toX, toS, Option.some.injEq, Prod.mk.injEq, true_and]
        congr 1
        obtain ⟨_, hn, _⟩ := hc
        have hl : (joinL f (toL s.t s.n) (toL s'.t s.n)).length = s.n := by rw [joinL_length _ _ (by rw [toL_length, toL_length]), toL_length]
        have := ofArgs_toL (joinL f (toL s.t s.n) (toL s'.t s.n)) s.n
        rw [hl, Nat.sub_self, Nat.add_zero, List.replicate_zero, List.append_nil] at this
        rw [← hn]
        exact this
      · rfl

def stepCodeF (E : Env) (rec : RecF) (f : FuncId) : Code → SF → Option (Ex × SF)
  | .skip, s => some (.normal, s)
  | .seq a b, s => match stepCodeF E rec f a s with
    | some (.normal, s') => stepCodeF E rec f b s'
    | r => r
  | .cond c x y, s => match evF E s.t s.n c with
    | .b true => stepCodeF E rec f x s
    | .b false => stepCodeF E rec f y s
    | .unkb => joinF (fun _ _ => none) (stepCodeF E rec f x s) (stepCodeF E rec f y s)
    | .tok n => match E.jn n with
      | some g => joinF g (stepCodeF E rec f x s) (stepCodeF E rec f y s)
      | none => none
    | _ => none
  | .block id c, s => match stepCodeF E rec f c s with
    | some (.exit j, s') => if j = id then some (.normal, s') else some (.exit j, s')
    | r => r
  | .loop c, s => match rec (.loop f c s) with
    | some (.code e s') => some (e, s')
    | _ => none
  | .exit id, s => some (.exit id, s)
  | .ret, s => some (.ret, s)
  | .region id ops draw, s =>
    if draw = true then (stepDrawF E rec f id ops s).map fun s' => (.normal, s')
    else (stepOpsF E rec ops ops.toList s).map fun s' => (.normal, s')
  | _, _ => none
theorem stepCodeF_eq {E : Env} {recF : RecF} {rec : Rec} (hr : Like recF rec) (f : FuncId) : ∀ (c : Code) (s : SF), (stepCodeF E recF f c s).map toX = stepCode E rec f c (toS s) := by
  intro c
  induction c with
  | skip => intro s; rfl
  | seq a b iha ihb =>
    intro s
    simp only [stepCodeF, stepCode]
    rw [← iha s]
    cases stepCodeF E recF f a s with
    | none => rfl
    | some x =>
      obtain ⟨e, s'⟩ := x
      cases e with
      | normal => exact ihb s'
      | _ => rfl
  | cond c a b iha ihb =>
    intro s
    simp only [stepCodeF, stepCode]
    rw [evF_eq]
    show _ = (match evA E (toL s.t s.n) c with
      | .b true => stepCode E rec f a (toS s)
      | .b false => stepCode E rec f b (toS s)
      | .unkb => joinX (fun _ _ => none) (stepCode E rec f a (toS s)) (stepCode E rec f b (toS s))
      | .tok n => match E.jn n with
        | some g => joinX g (stepCode E rec f a (toS s)) (stepCode E rec f b (toS s))
        | none => none
      | _ => none)
    split
    · exact iha s
    · exact ihb s
    · rw [← iha s, ← ihb s]
      exact joinF_eq _ _ _
    · split
      · rw [← iha s, ← ihb s]
        exact joinF_eq _ _ _
      · rfl
    · rfl
  | block id a iha =>
    intro s
    simp only [stepCodeF, stepCode]
    rw [← iha s]
    cases stepCodeF E recF f a s with
    | none => rfl
    | some x =>
      obtain ⟨e, s'⟩ := x
      cases e with
      | exit j => simp only [Option.map_some, toX]; split <;> rfl
      | _ => rfl
  | loop a iha =>
    intro s
    simp only [stepCodeF, stepCode]
    have := hr (.loop f a s)
    simp only [toTask] at this
    rw [← this]
    cases recF (.loop f a s) with
    | none => rfl
    | some x => cases x <;> rfl
  | exit id => intro s; rfl
  | ret => intro s; rfl
  | region id ops draw =>
    intro s
    simp only [stepCodeF, stepCode]
    split
    · rw [← stepDrawF_eq hr]
      cases stepDrawF E recF f id ops s <;> rfl
    · have e := stepOpsF_eq (E := E) hr ops ops.toList 0 s (fun j => by simp) (by simp)
      rw [Array.length_toList, ← List.range_eq_range'] at e
      rw [← e]
      cases stepOpsF E recF ops ops.toList s <;> rfl
  | _ => intro s; rfl

def resTF (P : Program) (s : SF) : ResultVar → Option AV
  | .tmp t => some (tmpF s.t s.n t)
  | .cell a ty => loadA P s.h ty (tmpF s.t s.n a)
def resultsF (P : Program) (fn : Func) (s : SF) : Option AV :=
  match fn.results.toList.mapM (resTF P s) with
  | some [v] => some v
  | some vs => some (.tup vs)
  | none => none
theorem resultsF_eq (P : Program) (fn : Func) (s : SF) : resultsF P fn s = resultsA P fn (toS s) := by
  have : resTF P s = resA P (toS s) := by
    funext r
    cases r with
    | tmp t => simp only [resTF, resA, tmpF_eq, toS]
    | cell a ty => simp only [resTF, resA, tmpF_eq, toS]
  unfold resultsF resultsA
  rw [this]
  rfl

def bodyF (E : Env) (rec : RecF) (f : FuncId) (fn : Func) (args : List AV) (h : AH) : Option (AV × AH) :=
  match fn.body with
  | none => none
  | some c =>
    match stepCodeF E rec f c ⟨ofArgs args 0 .lf, args.length + (fn.ntmps - args.length), h⟩ with
    | some (.normal, s) | some (.ret, s) => (resultsF E.P fn s).map fun v => (v, s.h)
    | _ => none
theorem bodyF_eq {E : Env} {recF : RecF} {rec : Rec} (hr : Like recF rec) (f : FuncId) (fn : Func) (args : List AV) (h : AH) : bodyF E recF f fn args h = bodyA E rec f fn args h := by
  unfold bodyF bodyA
  cases fn.body with
  | none => rfl
  | some c =>
    simp only
    have e := stepCodeF_eq (E := E) hr f c ⟨ofArgs args 0 .lf, args.length + (fn.ntmps - args.length), h⟩
    rw [show toS ⟨ofArgs args 0 .lf, args.length + (fn.ntmps - args.length), h⟩ = ⟨args ++ List.replicate (fn.ntmps - args.length) undefA, h⟩ by unfold toS; rw [ofArgs_toL]] at e
    rw [← e]
    cases stepCodeF E recF f c ⟨ofArgs args 0 .lf, args.length + (fn.ntmps - args.length), h⟩ with
    | none => rfl
    | some x =>
      obtain ⟨e, s'⟩ := x
      cases e <;> simp only [Option.map_some, toX, resultsF_eq] <;> rfl

def stepCallF (E : Env) (rec : RecF) (f : FuncId) (args : List AV) (h : AH) : Option (AV × AH) :=
  match E.phook f with
  | some g => match args.mapM (deepR emptyH deep) with
    | some as => if pureL as then match g as with
        | some v => if v.pure then some (v, h) else none
        | none => none
      else none
    | none => none
  | none => match E.hook f with
    | some g => g args h
    | none => match E.fun_ f with
      | none => none
      | some fn =>
        if E.mode f = 2 then
          match args.mapM (deepR emptyH deep) with
          | some as => if pureL as then match bodyF E rec f fn as emptyH with
              | some (v, h') => match deepR h' deep v with
                | some v' => if v'.pure then some (v', h) else none
                | none => none
              | none => none
            else none
          | none => none
        else if E.mode f = 3 then
          match args.mapM (deepR h deep) with
          | some as => if pureL as then match bodyF E rec f fn as emptyH with
              | some (v, h') => match deepR h' deep v with
                | some v' => if v'.flat then some (v', h) else none
                | none => none
              | none => none
            else none
          | none => none
        else if E.mode f = 4 then
          match bodyF E rec f fn args h with
          | some (v, h') => if v.pure = true ∧ AH.sub h h' = true then some (v, h) else none
          | none => none
        else if E.mode f = 1 then
          match bodyF E rec f fn args h with
          | some (v, h') => match deepR h' deep v with
            | some v' => some (v', delAll h' (idsOf h' deep v))
            | none => none
          | none => none
        else bodyF E rec f fn args h
theorem stepCallF_eq {E : Env} {recF : RecF} {rec : Rec} (hr : Like recF rec) (f : FuncId) (args : List AV) (h : AH) : stepCallF E recF f args h = stepCall E rec f args h := by
  unfold stepCallF stepCall
  simp only [bodyF_eq hr]
  rfl

def stepTaskF (E : Env) (rec : RecF) : TaskF → Option ResF
  | .loop f c s => match stepCodeF E rec f c s with
    | some (.normal, s') => rec (.loop f c s')
    | some (e, s') => some (.code e s')
    | none => none
  | .call f args h => (stepCallF E rec f args h).map fun r => .ret r.1 r.2
theorem stepTaskF_eq {E : Env} {recF : RecF} {rec : Rec} (hr : Like recF rec) : Like (stepTaskF E recF) (stepTask E rec) := by
  intro t
  cases t with
  | call f args h =>
    simp only [stepTaskF, stepTask, toTask, stepCallF_eq hr]
    cases stepCall E rec f args h <;> rfl
  | loop f c s =>
    simp only [stepTaskF, stepTask, toTask]
    rw [← stepCodeF_eq hr f c s]
    cases stepCodeF E recF f c s with
    | none => rfl
    | some x =>
      obtain ⟨e, s'⟩ := x
      cases e with
      | normal => exact hr (.loop f c s')
      | _ => rfl

def runF (E : Env) (n : Nat) : RecF := Nat.rec (motive := fun _ => RecF) (fun _ => none) (fun _ ih => stepTaskF E ih) n
theorem runF_like (E : Env) : ∀ n, Like (runF E n) (run E n)
  | 0 => fun t => rfl
  | n + 1 => stepTaskF_eq (runF_like E n)

/-- What the second answers the first does. -/
theorem runF_ret {E : Env} {n : Nat} {f : FuncId} {args : List AV} {h h' : AH} {v : AV} (e : runF E n (.call f args h) = some (.ret v h')) : run E n (.call f args h) = some (.ret v h') := by
  have := runF_like E n (.call f args h)
  rw [e] at this
  exact this.symm

/-- Is the answer 'true'? -/
def trueF (r : Option ResF) : Bool :=
  match r with
  | some (.ret (.b true) _) => true
  | _ => false
end
end Go.Av
