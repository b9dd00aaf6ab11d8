/-
  The abstract machine: code, loops, calls, statements that draw their order; with enough rounds, and as such. Definitions, and that more rounds answer the same.
-/
import Derived.Test.YtmiodddnokpdfaaGreatDoorAv10
import Derived.Orders
namespace Go.Av
noncomputable section
set_option linter.unusedSectionVars false
variable [Toks]

mutual
/-- A value that names no block. -/
def AV.pure : AV → Bool
  | .p (some _) | .own _ _ _ _ | .m (some _) => false
  | .ip cs _ | .imm cs _ | .agg cs | .tup cs => pureL cs
  | .fn _ x c => pureL x && pureL c
  | .ifc _ v => AV.pure v
  | _ => true
def pureL : List AV → Bool
  | [] => true
  | a :: r => AV.pure a && pureL r
end

mutual
/-- A value that bears no cells of a slice. -/
def AV.flat : AV → Bool
  | .p (some _) | .own _ _ _ _ | .m (some _) | .ip _ _ => false
  | .imm cs _ => cs.isEmpty
  | .agg cs | .tup cs => flatL cs
  | .fn _ x c => flatL x && flatL c
  | .ifc _ v => AV.flat v
  | _ => true
def flatL : List AV → Bool
  | [] => true
  | a :: r => AV.flat a && flatL r
end

mutual
/-- Alike. -/
def AV.beq : AV → AV → Bool
  | .any, .any => true
  | .b x, .b y => x == y
  | .i k n, .i j m => k == j && n == m
  | .f k n, .f j m => k == j && n == m
  | .s x, .s y => x.data.toList == y.data.toList
  | .p a, .p b => a == b
  | .ip cs o, .ip ds p => o == p && beqL cs ds
  | .nsl, .nsl => true
  | .emp, .emp => true
  | .imm cs n, .imm ds m => n == m && beqL cs ds
  | .own k o n c, .own k' o' n' c' => k == k' && o == o' && n == n' && c == c'
  | .m a, .m b => a == b
  | .fn g x c, .fn g' x' c' => g == g' && beqL x x' && beqL c c'
  | .nfn, .nfn => true
  | .ifc t v, .ifc t' v' => t == t' && AV.beq v v'
  | .nif, .nif => true
  | .agg cs, .agg ds => beqL cs ds
  | .tup cs, .tup ds => beqL cs ds
  | .tok n, .tok m => n == m
  | .junk, .junk => true
  | .unkb, .unkb => true
  | .ui k, .ui j => k == j
  | .uf k, .uf j => k == j
  | .ig k n, .ig j m => k == j && n == m
  | _, _ => false
def beqL : List AV → List AV → Bool
  | [], [] => true
  | a :: r, b :: s => AV.beq a b && beqL r s
  | _, _ => false
end

def beqP : List (AV × AV) → List (AV × AV) → Bool
  | [], [] => true
  | (a, c) :: r, (b, d) :: s => AV.beq a b && AV.beq c d && beqP r s
  | _, _ => false
def MO.beq : MO → MO → Bool
  | .es l b c, .es m d e => beqP l m && (b == d && c == e)
  | .it m s l t, .it n u k v => m == n && (s == u && (l == k && t == v))
  | _, _ => false
def AO.beq : AO → AO → Bool
  | .cells n cs, .cells m ds => n == m && beqL cs ds
  | .map es, .map fs => MO.beq es fs
  | _, _ => false
def Tr.same {α : Type} (p : α → α → Bool) : Tr α → Tr α → Bool
  | .lf, .lf => true
  | .nd v l r, .nd w a b => (match v, w with | none, none => true | some x, some y => p x y | _, _ => false) && Tr.same p l a && Tr.same p r b
  | _, _ => false
/-- Are the first one's entries the second one's? -/
def Tr.sub {α : Type} (p : α → α → Bool) : Tr α → Tr α → Bool
  | .lf, _ => true
  | .nd v l r, .nd w a b => (match v, w with | none, _ => true | some x, some y => p x y | _, _ => false) && Tr.sub p l a && Tr.sub p r b
  | .nd _ _ _, .lf => false
/-- Does the second heap have the first one's blocks as they are? -/
def AH.sub (h g : AH) : Bool := Tr.sub AO.beq h.objs g.objs
/-- The same heap? -/
def AH.same (h g : AH) : Bool := h.next == g.next && Tr.same AO.beq h.objs g.objs

/-- How a piece of code is left. -/
inductive Ex where
  | normal
  | exit (id : Nat)
  | ret
  deriving DecidableEq

structure S where
  t : List AV
  h : AH

inductive Task where
  | loop (f : FuncId) (c : Code) (s : S)
  | call (f : FuncId) (args : List AV) (h : AH)

inductive Res where
  | code (e : Ex) (s : S)
  | ret (v : AV) (h : AH)

abbrev Rec := Task → Option Res

def stepOp (E : Env) (rec : Rec) (o : Oper) (s : S) : Option S :=
  match execA E s.t s.h o with
  | some (.val v h) => some ⟨putA s.t o.dst v, h⟩
  | some (.enter f args) => match rec (.call f args s.h) with
    | some (.ret v h) => some ⟨putA s.t o.dst v, h⟩
    | _ => none
  | none => none

/-- One operation of a statement, or none if its guard says so. -/
def step1 (E : Env) (rec : Rec) (ops : Array Oper) (j : Nat) (s : S) : Option S :=
  match ops[j]? with
  | none => none
  | some o =>
    match wantedA ops s.t o with
    | some true => stepOp E rec o s
    | some false => some ⟨putA s.t o.dst undefA, s.h⟩
    | none => none

def stepOps (E : Env) (rec : Rec) (ops : Array Oper) : List Nat → S → Option S
  | [], s => some s
  | j :: rest, s => match step1 E rec ops j s with
    | some s' => stepOps E rec ops rest s'
    | none => none

/-- What an operation asks of memory: 0 nothing, 1 it reads, 2 it may write. -/
def kindA (E : Env) (o : Oper) : Nat :=
  match o.op with
  | .move _ | .assign _ | .pick _ _ _ | .build _ _ | .nilCheck _ | .binOp _ _ _ _ _ | .unOp _ _ _ | .makeInterface _ _ | .makeFunc _ _ _ | .fieldAddr _ _ _ | .field _ _ _
  | .indexAddr _ _ _ | .index _ _ _ | .extract _ _ => 0
  | .buildSlice ty len parts => if len = 0 ∨ E.ownLit ty (constLit parts) = true then 2 else 0
  | .convert src dst _ => match E.P.underlying src, E.P.underlying dst with
    | some (.slice _), some (.slice _) => 2
    | some (.slice _), _ => 1
    | _, some (.slice _) => 2
    | some _, some _ => 0
    | _, _ => 2
  | .load _ _ | .slice _ _ _ _ _ | .lookup _ _ _ _ => 1
  | .call c => match c.callee with
    | .builtin .len => 1
    | .builtin .min | .builtin .max => 0
    | .value (.func f) => if E.mode f = 2 ∨ (E.phook f).isSome = true ∨ (E.ext f).isSome = true then 0 else if E.mode f = 4 then 1 else 2
    | _ => 2
  | _ => 2

def isBefore (b : Array Nat) (i j : Nat) : Bool := (b.getD j 0).testBit i

/-- The writing operations, in their order. -/
def heavies (E : Env) (ops : Array Oper) : List Nat := (List.range ops.size).filter fun i => (ops[i]?).any fun o => kindA E o == 2

/-- Which reads may meet which states of the heap: from the 'lo'th on to the 'hi'th. -/
def windows (E : Env) (ops : Array Oper) : List (Nat × Nat × Nat) :=
  let b := Region.before ops
  let hs := heavies E ops
  (List.range ops.size).filterMap fun i =>
    if (ops[i]?).any (fun o => kindA E o == 1) then
      let lo := (hs.filter fun e => isBefore b e i).length
      let hi := (hs.filter fun e => !isBefore b i e).length
      if lo = hi then none else some (i, lo, hi)
    else none

/-- May the operations of a statement be looked at in the text's own order? -/
def drawOk (E : Env) (ops : Array Oper) : Bool :=
  let b := Region.before ops
  let hs := heavies E ops
  let is := List.range ops.size
  (is.all fun i => (ops[i]?).all fun o => o.after.all fun e => !Region.binds .any e || decide (e.on < i)) &&
  (is.all fun i => is.all fun j => !decide (i < j) || (match (ops[i]?).bind (·.dst), (ops[j]?).bind (·.dst) with | some d, some d' => d != d' | _, _ => true)) &&
  (is.all fun i => match (ops[i]?).bind (·.dst) with
    | none => true
    | some d => is.all fun j => i == j || (match ops[j]? with
      | some o => !(o.looksAt ops).contains d || (if i < j then isBefore b i j else isBefore b j i)
      | none => true)) &&
  (hs.all fun i => hs.all fun j => !decide (i < j) || isBefore b i j)

/-- The regions of a piece of code that draw their order. -/
def drawsIn : Code → List (Nat × Array Oper)
  | .region id ops true => [(id, ops)]
  | .seq a b | .cond _ a b => drawsIn a ++ drawsIn b
  | .block _ a | .loop a | .scope a => drawsIn a
  | _ => []

def nthW (i : Nat) : List (Nat × Nat × Nat) → Option (Nat × Nat)
  | [] => none
  | (j, lo, hi) :: r => if i = j then some (lo, hi) else nthW i r

/-- A statement that draws its order, in the text's own; it tells the states of the heap, and what the reads that may meet several of them were told. -/
def runD (E : Env) (rec : Rec) (ops : Array Oper) (W : List (Nat × Nat × Nat)) : List Nat → S → List AH → List (Oper × List AV × Nat × Nat) → Option (S × List AH × List (Oper × List AV × Nat × Nat))
  | [], s, gs, rs => some (s, gs, rs)
  | j :: rest, s, gs, rs =>
    match ops[j]? with
    | none => none
    | some o =>
      match step1 E rec ops j s with
      | none => none
      | some s' =>
        let gs' := if kindA E o = 2 then gs ++ [s'.h] else gs
        let rs' := match nthW j W with
          | some (lo, hi) => if wantedA ops s.t o = some true then (o, s.t, lo, hi) :: rs else rs
          | none => rs
        runD E rec ops W rest s' gs' rs'

def readV (E : Env) (rec : Rec) (t : List AV) (g : AH) (o : Oper) : Option AV :=
  match execA E t g o with
  | some (.val v _) => some v
  | some (.enter f args) => match rec (.call f args g) with
    | some (.ret v _) => some v
    | _ => none
  | none => none

/-- Is a read told the same in these states of the heap? -/
def stable (E : Env) (rec : Rec) (gs : List AH) (r : Oper × List AV × Nat × Nat) : Bool :=
  match gs[r.2.2.1]? with
  | none => false
  | some g => match readV E rec r.2.1 g r.1 with
    | none => false
    | some v => (List.range (r.2.2.2 + 1)).all fun k => decide (k < r.2.2.1) || (match gs[k]? with
      | none => false
      | some g' => match readV E rec r.2.1 g' r.1 with
        | none => false
        | some v' => AV.beq v v')

def stepDraw (E : Env) (rec : Rec) (f : FuncId) (id : Nat) (ops : Array Oper) (s : S) : Option S :=
  match E.win f id with
  | none => none
  | some W => match runD E rec ops W (List.range ops.size) s [s.h] [] with
    | some (s', gs, rs) => if rs.all (stable E rec gs) then some s' else none
    | none => none

/-- Two ways that come to the same: what differs in the temporaries is forgotten. -/
def joinL (f : AV → AV → Option AV) : List AV → List AV → List AV
  | a :: r, b :: s => (if AV.beq a b = true then a else match f a b with | some x => x | none => .any) :: joinL f r s
  | _, _ => []
def joinX (f : AV → AV → Option AV) : Option (Ex × S) → Option (Ex × S) → Option (Ex × S)
  | some (e, s), some (e', s') => if e = e' ∧ s.t.length = s'.t.length ∧ AH.same s.h s'.h = true then some (e, ⟨joinL f s.t s'.t, s.h⟩) else none
  | _, _ => none

def stepCode (E : Env) (rec : Rec) (f : FuncId) : Code → S → Option (Ex × S)
  | .skip, s => some (.normal, s)
  | .seq a b, s => match stepCode E rec f a s with
    | some (.normal, s') => stepCode E rec f b s'
    | r => r
  | .cond c x y, s => match evA E s.t c with
    | .b true => stepCode E rec f x s
    | .b false => stepCode E rec f y s
    | .unkb => joinX (fun _ _ => none) (stepCode E rec f x s) (stepCode E rec f y s)
    | .tok n => match E.jn n with
      | some g => joinX g (stepCode E rec f x s) (stepCode E rec f y s)
      | none => none
    | _ => none
  | .block id c, s => match stepCode E rec f c s with
    | some (.exit j, s') => if j = id then some (.normal, s') else some (.exit j, s')
    | r => r
  | .loop c, s => match rec (.loop f c s) with
    | some (.code e s') => some (e, s')
    | _ => none
  | .exit id, s => some (.exit id, s)
  | .ret, s => some (.ret, s)
  | .region id ops draw, s =>
    if draw = true then (stepDraw E rec f id ops s).map fun s' => (.normal, s')
    else (stepOps E rec ops (List.range ops.size) s).map fun s' => (.normal, s')
  | _, _ => none

def resA (P : Program) (s : S) : ResultVar → Option AV
  | .tmp t => some (s.t.getD t undefA)
  | .cell a ty => loadA P s.h ty (s.t.getD a undefA)

def resultsA (P : Program) (fn : Func) (s : S) : Option AV :=
  match fn.results.toList.mapM (resA P s) with
  | some [v] => some v
  | some vs => some (.tup vs)
  | none => none

/-- A value with what its slices hold. -/
def deepR (h : AH) : Nat → AV → Option AV
  | 0, _ => none
  | n + 1, .own k o len _ => match h.get k with
    | some (.cells es cs) => match takeN cs o (len * es) with
      | some r => (r.mapM (deepR h n)).map fun r' => .imm r' len
      | none => none
    | _ => none
  | n + 1, .imm cs len => if pureL cs then some (.imm cs len) else (cs.mapM (deepR h n)).map fun r' => .imm r' len
  | n + 1, .agg cs => (cs.mapM (deepR h n)).map .agg
  | n + 1, .tup cs => (cs.mapM (deepR h n)).map .tup
  | n + 1, .ifc t v => (deepR h n v).map (.ifc t)
  | _ + 1, v => some v

def deep : Nat := 12

/-- The blocks that a value's slices lie in. -/
def idsOf (h : AH) : Nat → AV → List Nat
  | 0, _ => []
  | n + 1, .own k _ _ _ => k :: (match h.get k with
    | some (.cells _ cs) => cs.flatMap (idsOf h n)
    | _ => [])
  | n + 1, .imm cs _ => if pureL cs then [] else cs.flatMap (idsOf h n)
  | n + 1, .agg cs => cs.flatMap (idsOf h n)
  | n + 1, .tup cs => cs.flatMap (idsOf h n)
  | n + 1, .ifc _ v => idsOf h n v
  | _ + 1, _ => []

def delAll (h : AH) : List Nat → AH
  | [] => h
  | k :: r => delAll (h.del k) r

def emptyH : AH := ⟨0, .lf⟩

def bodyA (E : Env) (rec : Rec) (f : FuncId) (fn : Func) (args : List AV) (h : AH) : Option (AV × AH) :=
  match fn.body with
  | none => none
  | some c =>
    match stepCode E rec f c ⟨args ++ List.replicate (fn.ntmps - args.length) undefA, h⟩ with
    | some (.normal, s) | some (.ret, s) => (resultsA E.P fn s).map fun v => (v, s.h)
    | _ => none

def stepCall (E : Env) (rec : Rec) (f : FuncId) (args : List AV) (h : AH) : Option (AV × AH) :=
  match E.phook f with
  | some g => match args.mapM (deepR emptyH deep) with
    | some as => if pureL as then match g as with
        | some v => if v.pure then some (v, h) else none
        | none => none
      else none
    | none => none
  | none => match E.hook f with
    | some g => g args h
    | none => match E.fun_ f with
      | none => none
      | some fn =>
        if E.mode f = 2 then
          match args.mapM (deepR emptyH deep) with
          | some as => if pureL as then match bodyA E rec f fn as emptyH with
              | some (v, h') => match deepR h' deep v with
                | some v' => if v'.pure then some (v', h) else none
                | none => none
              | none => none
            else none
          | none => none
        else if E.mode f = 3 then
          match args.mapM (deepR h deep) with
          | some as => if pureL as then match bodyA E rec f fn as emptyH with
              | some (v, h') => match deepR h' deep v with
                | some v' => if v'.flat then some (v', h) else none
                | none => none
              | none => none
            else none
          | none => none
        else if E.mode f = 4 then
          match bodyA E rec f fn args h with
          | some (v, h') => if v.pure = true ∧ AH.sub h h' = true then some (v, h) else none
          | none => none
        else if E.mode f = 1 then
          match bodyA E rec f fn args h with
          | some (v, h') => match deepR h' deep v with
            | some v' => some (v', delAll h' (idsOf h' deep v))
            | none => none
          | none => none
        else bodyA E rec f fn args h

def stepTask (E : Env) (rec : Rec) : Task → Option Res
  | .loop f c s => match stepCode E rec f c s with
    | some (.normal, s') => rec (.loop f c s')
    | some (e, s') => some (.code e s')
    | none => none
  | .call f args h => (stepCall E rec f args h).map fun r => .ret r.1 r.2

/-- So many rounds deep. -/
def run (E : Env) : Nat → Rec
  | 0 => fun _ => none
  | n + 1 => fun t => stepTask E (run E n) t

/-- Says one of the other's: whatever the first answers the second does. -/
def Rec.le (r r' : Rec) : Prop := ∀ t x, r t = some x → r' t = some x

section mono
variable {E : Env} {r r' : Rec} (hr : r.le r')
include hr

theorem stepOp_mono {o : Oper} {s x : S} (e : stepOp E r o s = some x) : stepOp E r' o s = some x := by
  unfold stepOp at *
  split at e
  · exact e
  · split at e
    · rename_i h1; rw [hr _ _ h1]; exact e
    · cases e
  · cases e

theorem step1_mono {ops : Array Oper} {j : Nat} {s x : S} (e : step1 E r ops j s = some x) : step1 E r' ops j s = some x := by
  unfold step1 at *
  split at e
  · cases e
  · split at e
    · exact stepOp_mono hr e
    · exact e
    · cases e

theorem stepOps_mono {ops : Array Oper} : ∀ (l : List Nat) {s x : S}, stepOps E r ops l s = some x → stepOps E r' ops l s = some x
  | [], s, x, e => e
  | j :: rest, s, x, e => by
    simp only [stepOps] at *
    split at e
    · rename_i h1; rw [step1_mono hr h1]; exact stepOps_mono rest e
    · cases e

theorem runD_mono {ops : Array Oper} {W : List (Nat × Nat × Nat)} : ∀ (l : List Nat) {s : S} {gs : List AH} {rs : List (Oper × List AV × Nat × Nat)} {x}, runD E r ops W l s gs rs = some x → runD E r' ops W l s gs rs = some x
  | [], s, gs, rs, x, e => e
  | j :: rest, s, gs, rs, x, e => by
    simp only [runD] at *
    split at e
    · cases e
    · split at e
      · cases e
      · rename_i h1; rw [step1_mono hr h1]; exact runD_mono rest e

theorem readV_mono {t : List AV} {g : AH} {o : Oper} {v : AV} (e : readV E r t g o = some v) : readV E r' t g o = some v := by
  unfold readV at *
  split at e
  · exact e
  · split at e
    · rename_i h1; rw [hr _ _ h1]; exact e
    · cases e
  · cases e

theorem stable_mono {gs : List AH} {x : Oper × List AV × Nat × Nat} (e : stable E r gs x = true) : stable E r' gs x = true := by
  unfold stable at *
  split at e
  · cases e
  · split at e
    · cases e
    · rename_i v hv
      rw [readV_mono hr hv]
      simp only [List.all_eq_true] at e ⊢
      intro k hk
      have := e k hk
      simp only [Bool.or_eq_true] at this ⊢
      refine this.imp id fun h => ?_
      split at h
      · cases h
      · split at h
        · cases h
        · rename_i v' hv'
          rw [readV_mono hr hv']
          exact h

theorem stepCode_mono {f : FuncId} : ∀ (c : Code) {s : S} {x}, stepCode E r f c s = some x → stepCode E r' f c s = some x
  | .skip, s, x, e => e
  | .seq a b, s, x, e => by
    simp only [stepCode] at *
    cases h1 : stepCode E r f a s with
    | none => simp [h1] at e
    | some y =>
      rw [h1] at e
      rw [stepCode_mono a h1]
      obtain ⟨ex, s'⟩ := y
      cases ex with
      | normal => exact stepCode_mono b e
      | exit j => exact e
      | ret => exact e
  | .cond c a b, s, x, e => by
    simp only [stepCode] at *
    split at e
    · exact stepCode_mono a e
    · exact stepCode_mono b e
    · unfold joinX at e ⊢
      split at e
      · rename_i h1 h2
        rw [stepCode_mono a h1, stepCode_mono b h2]
        exact e
      · cases e
    · split at e
      · unfold joinX at e ⊢
        split at e
        · rename_i h1 h2
          rw [stepCode_mono a h1, stepCode_mono b h2]
          exact e
        · cases e
      · cases e
    · cases e
  | .block id a, s, x, e => by
    simp only [stepCode] at *
    cases h1 : stepCode E r f a s with
    | none => simp [h1] at e
    | some y => rw [h1] at e; rw [stepCode_mono a h1]; exact e
  | .loop c, s, x, e => by
    simp only [stepCode] at *
    split at e
    · rename_i h1; rw [hr _ _ h1]; exact e
    · cases e
  | .exit id, s, x, e => e
  | .ret, s, x, e => e
  | .region id ops draw, s, x, e => by
    simp only [stepCode] at *
    split at e
    · rename_i hd
      rw [if_pos hd]
      obtain ⟨y, h1, h2⟩ := Option.map_eq_some_iff.1 e
      refine Option.map_eq_some_iff.2 ⟨y, ?_, h2⟩
      unfold stepDraw at *
      cases hW : E.win f id with
      | none => simp [hW] at h1
      | some W =>
        simp only [hW] at h1 ⊢
        cases h3 : runD E r ops W (List.range ops.size) s [s.h] [] with
        | none => simp [h3] at h1
        | some z =>
          rw [h3] at h1
          rw [runD_mono hr _ h3]
          obtain ⟨s', gs, rs⟩ := z
          simp only at h1 ⊢
          split at h1
          · rename_i ha
            rw [if_pos (List.all_eq_true.2 fun x hx => stable_mono hr (List.all_eq_true.1 ha x hx))]
            exact h1
          · cases h1
    · rename_i hd
      rw [if_neg hd]
      obtain ⟨y, h1, h2⟩ := Option.map_eq_some_iff.1 e
      exact Option.map_eq_some_iff.2 ⟨y, stepOps_mono hr _ h1, h2⟩
  | .rangeFunc .., s, x, e => by cases e
  | .scope _, s, x, e => by cases e
  | .label _, s, x, e => by cases e
  | .goto _, s, x, e => by cases e
  | .refuse _, s, x, e => by cases e

theorem bodyA_mono {f : FuncId} {fn : Func} {args : List AV} {h : AH} {x} (e : bodyA E r f fn args h = some x) : bodyA E r' f fn args h = some x := by
  unfold bodyA at *
  split at e
  · cases e
  · rename_i c hc
    cases h1 : stepCode E r f c ⟨args ++ List.replicate (fn.ntmps - args.length) undefA, h⟩ with
    | none => simp [h1] at e
    | some y => rw [h1] at e; rw [stepCode_mono hr c h1]; exact e

theorem stepCall_mono {f : FuncId} {args : List AV} {h : AH} {x} (e : stepCall E r f args h = some x) : stepCall E r' f args h = some x := by
  unfold stepCall at *
  cases hp : E.phook f with
  | some g => simpa only [hp] using e
  | none =>
    simp only [hp] at e ⊢
    cases hh : E.hook f with
    | some g => simpa only [hh] using e
    | none =>
      simp only [hh] at e ⊢
      cases hf : E.fun_ f with
      | none => simp [hf] at e
      | some fn =>
        simp only [hf] at e ⊢
        by_cases hm : E.mode f = 2
        · rw [if_pos hm] at e ⊢
          cases ha : args.mapM (deepR emptyH deep) with
          | none => simp [ha] at e
          | some as =>
            simp only [ha] at e ⊢
            by_cases hpu : pureL as = true
            · rw [if_pos hpu] at e ⊢
              cases h1 : bodyA E r f fn as emptyH with
              | none => simp [h1] at e
              | some y => rw [h1] at e; rw [bodyA_mono hr h1]; exact e
            · rw [if_neg hpu] at e; cases e
        · rw [if_neg hm] at e ⊢
          by_cases hm3 : E.mode f = 3
          · rw [if_pos hm3] at e ⊢
            cases ha : args.mapM (deepR h deep) with
            | none => simp [ha] at e
            | some as =>
              simp only [ha] at e ⊢
              by_cases hpu : pureL as = true
              · rw [if_pos hpu] at e ⊢
                cases h1 : bodyA E r f fn as emptyH with
                | none => simp [h1] at e
                | some y => rw [h1] at e; rw [bodyA_mono hr h1]; exact e
              · rw [if_neg hpu] at e; cases e
          rw [if_neg hm3] at e ⊢
          by_cases hm4 : E.mode f = 4
          · rw [if_pos hm4] at e ⊢
            cases h1 : bodyA E r f fn args h with
            | none => simp [h1] at e
            | some y => rw [h1] at e; rw [bodyA_mono hr h1]; exact e
          rw [if_neg hm4] at e ⊢
          by_cases hm1 : E.mode f = 1
          · rw [if_pos hm1] at e ⊢
            cases h1 : bodyA E r f fn args h with
            | none => simp [h1] at e
            | some y => rw [h1] at e; rw [bodyA_mono hr h1]; exact e
          · rw [if_neg hm1] at e ⊢
            exact bodyA_mono hr e

theorem stepTask_mono {t : Task} {x} (e : stepTask E r t = some x) : stepTask E r' t = some x := by
  cases t with
  | loop f c s =>
    simp only [stepTask] at *
    cases h1 : stepCode E r f c s with
    | none => simp [h1] at e
    | some y =>
      rw [h1] at e; rw [stepCode_mono hr c h1]
      obtain ⟨ex, s'⟩ := y
      cases ex with
      | normal => exact hr _ _ e
      | exit j => exact e
      | ret => exact e
  | call f args h =>
    simp only [stepTask] at *
    obtain ⟨y, h1, h2⟩ := Option.map_eq_some_iff.1 e
    exact Option.map_eq_some_iff.2 ⟨y, stepCall_mono hr h1, h2⟩
end mono

theorem run_le (E : Env) : ∀ n, (run E n).le (run E (n + 1))
  | 0 => fun _ _ e => by cases e
  | n + 1 => fun _ _ e => stepTask_mono (run_le E n) e

theorem run_le_add (E : Env) (n : Nat) : ∀ m, (run E n).le (run E (n + m))
  | 0 => fun _ _ e => e
  | m + 1 => fun t x e => run_le E (n + m) t x (run_le_add E n m t x e)

theorem run_mono (E : Env) {n m : Nat} (h : n ≤ m) : (run E n).le (run E m) := by
  obtain ⟨d, rfl⟩ := Nat.exists_eq_add_of_le h; exact run_le_add E n d

open Classical in
/-- With as many rounds as it takes. -/
noncomputable def runω (E : Env) : Rec := fun t => if h : ∃ n x, run E n t = some x then some h.choose_spec.choose else none

theorem runω_of {E : Env} {n : Nat} {t : Task} {x : Res} (e : run E n t = some x) : runω E t = some x := by
  unfold runω
  have h : ∃ n x, run E n t = some x := ⟨n, x, e⟩
  rw [dif_pos h]
  have h1 := h.choose_spec.choose_spec
  have h2 := run_mono E (Nat.le_max_left h.choose n) _ _ h1
  have h3 := run_mono E (Nat.le_max_right h.choose n) _ _ e
  rw [h2] at h3
  exact h3

theorem runω_some {E : Env} {t : Task} {x : Res} (e : runω E t = some x) : ∃ n, run E n t = some x := by
  unfold runω at e
  split at e
  · rename_i h
    cases e
    exact ⟨_, h.choose_spec.choose_spec⟩
  · cases e

mutual
theorem beq_eq : ∀ (a b : AV), AV.beq a b = true → a = b
  | .any, b, h => by cases b <;> simp_all [AV.beq]
  | .b x, b, h => by cases b <;> simp_all [AV.beq]
  | .i k n, b, h => by cases b <;> simp_all [AV.beq]
  | .f k n, b, h => by cases b <;> simp_all [AV.beq]
  | .s x, b, h => by
    cases b with
    | s y =>
      simp only [AV.beq, beq_iff_eq] at h
      have : x = y := by
        cases x; cases y
        simp only [ByteArray.mk.injEq]
        exact Array.toList_inj.1 h
      rw [this]
    | _ => simp [AV.beq] at h
  | .p x, b, h => by cases b <;> simp_all [AV.beq]
  | .ip cs o, b, h => by
    cases b with
    | ip ds p => simp only [AV.beq, Bool.and_eq_true, beq_iff_eq] at h; rw [h.1, beqL_eq cs ds h.2]
    | _ => simp [AV.beq] at h
  | .nsl, b, h => by cases b <;> simp_all [AV.beq]
  | .emp, b, h => by cases b <;> simp_all [AV.beq]
  | .imm cs o, b, h => by
    cases b with
    | imm ds p => simp only [AV.beq, Bool.and_eq_true, beq_iff_eq] at h; rw [h.1, beqL_eq cs ds h.2]
    | _ => simp [AV.beq] at h
  | .own k o n c, b, h => by cases b <;> simp_all [AV.beq]
  | .m r, b, h => by cases b <;> simp_all [AV.beq]
  | .fn g x c, b, h => by
    cases b with
    | fn g' x' c' => simp only [AV.beq, Bool.and_eq_true, beq_iff_eq] at h; rw [h.1.1, beqL_eq x x' h.1.2, beqL_eq c c' h.2]
    | _ => simp [AV.beq] at h
  | .tok n, b, h => by cases b <;> simp_all [AV.beq]
  | .junk, b, h => by cases b <;> simp_all [AV.beq]
  | .unkb, b, h => by cases b <;> simp_all [AV.beq]
  | .ui k, b, h => by cases b <;> simp_all [AV.beq]
  | .uf k, b, h => by cases b <;> simp_all [AV.beq]
  | .ig k n, b, h => by cases b <;> simp_all [AV.beq]
  | .nfn, b, h => by cases b <;> simp_all [AV.beq]
  | .ifc t v, b, h => by
    cases b with
    | ifc t' v' => simp only [AV.beq, Bool.and_eq_true, beq_iff_eq] at h; rw [h.1, beq_eq v v' h.2]
    | _ => simp [AV.beq] at h
  | .nif, b, h => by cases b <;> simp_all [AV.beq]
  | .agg cs, b, h => by
    cases b with
    | agg ds => simp only [AV.beq] at h; rw [beqL_eq cs ds h]
    | _ => simp [AV.beq] at h
  | .tup cs, b, h => by
    cases b with
    | tup ds => simp only [AV.beq] at h; rw [beqL_eq cs ds h]
    | _ => simp [AV.beq] at h
theorem beqL_eq : ∀ (a b : List AV), beqL a b = true → a = b
  | [], [], h => rfl
  | [], _ :: _, h => by simp [beqL] at h
  | _ :: _, [], h => by simp [beqL] at h
  | x :: a, y :: b, h => by
    simp only [beqL, Bool.and_eq_true] at h
    rw [beq_eq x y h.1, beqL_eq a b h.2]
end

theorem beqP_eq : ∀ (a b : List (AV × AV)), beqP a b = true → a = b
  | [], [], _ => rfl
  | (a, c) :: r, (b, d) :: s, h => by
    simp only [beqP, Bool.and_eq_true] at h
    rw [beq_eq a b h.1.1, beq_eq c d h.1.2, beqP_eq r s h.2]
  | [], _ :: _, h => by cases h
  | (_, _) :: _, [], h => by cases h
theorem MO.beq_eq (a b : MO) (h : MO.beq a b = true) : a = b := by
  cases a <;> cases b
  · simp only [MO.beq, Bool.and_eq_true, beq_iff_eq] at h; rw [beqP_eq _ _ h.1, h.2.1, h.2.2]
  · cases h
  · cases h
  · simp only [MO.beq, Bool.and_eq_true, beq_iff_eq] at h; rw [h.1, h.2.1, h.2.2.1, h.2.2.2]
theorem AO.beq_eq (a b : AO) (h : AO.beq a b = true) : a = b := by
  cases a <;> cases b
  · simp only [AO.beq, Bool.and_eq_true, beq_iff_eq] at h; rw [h.1, beqL_eq _ _ h.2]
  · cases h
  · cases h
  · simp only [AO.beq] at h; rw [MO.beq_eq _ _ h]
theorem Tr.same_eq {α : Type} {p : α → α → Bool} (hp : ∀ a b, p a b = true → a = b) : ∀ (s t : Tr α), Tr.same p s t = true → s = t
  | .lf, .lf, _ => rfl
  | .nd v l r, .nd w a b, h => by
    simp only [Tr.same, Bool.and_eq_true] at h
    obtain ⟨⟨h1, h2⟩, h3⟩ := h
    rw [Tr.same_eq hp l a h2, Tr.same_eq hp r b h3]
    cases v <;> cases w
    · rfl
    · cases h1
    · cases h1
    · rw [hp _ _ h1]
  | .lf, .nd _ _ _, h => by cases h
  | .nd _ _ _, .lf, h => by cases h
theorem Tr.sub_get {α : Type} {p : α → α → Bool} (hp : ∀ a b, p a b = true → a = b) : ∀ (s t : Tr α), Tr.sub p s t = true → ∀ k x, s.get k = some x → t.get k = some x
  | .lf, t, _, k, x, h => by rw [Tr.get_lf] at h; cases h
  | .nd _ _ _, .lf, h, _, _, _ => by cases h
  | .nd v l r, .nd w a b, h, k, x, hk => by
    simp only [Tr.sub, Bool.and_eq_true] at h
    obtain ⟨⟨h1, h2⟩, h3⟩ := h
    cases k with
    | zero =>
      rw [Tr.get_zero] at hk ⊢
      subst hk
      cases w with
      | none => cases h1
      | some y => rw [hp _ _ h1]
    | succ j =>
      rw [Tr.get_succ] at hk ⊢
      split at hk
      · rename_i hj; rw [if_pos hj]; exact Tr.sub_get hp l a h2 _ _ hk
      · rename_i hj; rw [if_neg hj]; exact Tr.sub_get hp r b h3 _ _ hk
theorem AH.sub_get {h g : AH} (e : AH.sub h g = true) {k : Nat} {o : AO} (hk : h.get k = some o) : g.get k = some o := Tr.sub_get AO.beq_eq _ _ e k o hk
theorem AH.same_eq {h g : AH} (e : AH.same h g = true) : h = g := by
  unfold AH.same at e
  simp only [Bool.and_eq_true, beq_iff_eq] at e
  obtain ⟨n, o⟩ := h
  obtain ⟨m, q⟩ := g
  obtain ⟨h1, h2⟩ := e
  simp only at h1 h2
  rw [h1, Tr.same_eq AO.beq_eq o q h2]
end
end Go.Av
