/-
  The abstract machine: a plain evaluator of the model's code over values in which a slice that nobody writes any more bears its content. Definitions alone.
-/
import Derived.Calls
import Derived.Test.YtmiodddnokpdfaaGreatDoorAv0
namespace Go.Av
noncomputable section

/-- Abstract values. 'any': nothing is known. 'ip': a pointer into memory that stays as it is, with that memory. 'emp': a slice of nothing, nil or without room. 'imm': a slice whose cells stay as they are, with these cells. 'own': a slice into an abstract block. -/
inductive AV where
  | any
  | b (x : Bool)
  | i (k : IntKind) (n : Int)
  | f (k : FloatKind) (x : Nat)
  | s (x : ByteArray)
  | p (a : Option (Nat × Nat))
  | ip (cs : List AV) (o : Nat)
  | nsl
  | emp
  | imm (cs : List AV) (n : Nat)
  | own (id o n : Nat) (cap : Option Nat)
  | m (r : Option Nat)
  | fn (g : Fn) (x c : List AV)
  | nfn
  | ifc (t : TypeId) (v : AV)
  | nif
  | agg (cs : List AV)
  | tup (vs : List AV)
  | tok (n : Nat)
  | junk
  | unkb
  | ui (k : IntKind)
  | uf (k : FloatKind)
  | ig (k : IntKind) (m : Int)
  deriving Inhabited

/-- What a name stands for: a number, of whatever kind. -/
class Toks where
  val : Nat → Value
  scalar : ∀ n, (∃ k m, val n = .int k m) ∨ (∃ k b, val n = .float k b) ∨ ∃ b, val n = .bool b

/-- A map: its entries, when each was born, how many were born. An iterator: its map, since when, which entries were told, when the last. -/
inductive MO where
  | es (l : List (AV × AV)) (bs : List Nat) (c : Nat)
  | it (m : Option Nat) (since : Nat) (seen : List Nat) (last : Nat)
  deriving Inhabited

/-- Abstract blocks. -/
inductive AO where
  | cells (es : Nat) (cs : List AV)
  | map (o : MO)
  deriving Inhabited

def lookupL {α : Type} (k : Nat) : List (Nat × α) → Option α
  | [] => none
  | (j, x) :: r => if k = j then some x else lookupL k r

def setL {α : Type} (k : Nat) (v : α) : List (Nat × α) → List (Nat × α)
  | [] => [(k, v)]
  | (j, x) :: r => if k = j then (k, v) :: r else (j, x) :: setL k v r

def delL {α : Type} (k : Nat) : List (Nat × α) → List (Nat × α)
  | [] => []
  | (j, x) :: r => if k = j then delL k r else (j, x) :: delL k r

structure AH where
  next : Nat
  objs : Tr AO
  deriving Inhabited

def AH.get (h : AH) (k : Nat) : Option AO := h.objs.get k
def AH.set (h : AH) (k : Nat) (o : AO) : AH := ⟨h.next, h.objs.set k (some o)⟩
def AH.del (h : AH) (k : Nat) : AH := ⟨h.next, h.objs.set k none⟩
/-- A new block. -/
def AH.new (h : AH) (o : AO) : AH := ⟨h.next + 1, h.objs.set h.next (some o)⟩

/-- What the abstract machine knows of the program. 'mode': 0 a plain call, 1 what it answers stays as it is from then on, 2 it runs in an empty heap of its own besides, 3 so too, but what its slices hold is read first. 'hook', 'phook': calls that are not walked; 'ext': calls of functions without a body. 'ownLit': slice types whose literals (of constants alone?) are written later. 'tb', 'tu', 'tc': what operations on names come to. 'jn': two ways of a fork at a named bool: what a value is to be called behind both. 'win': for a statement that draws its order, which reads may meet several states of the heap. -/
structure Env where
  P : Program
  glob : Nat → Option (List AV)
  fun_ : FuncId → Option Func
  mode : FuncId → Nat
  hook : FuncId → Option (List AV → AH → Option (AV × AH))
  phook : FuncId → Option (List AV → Option AV)
  ext : FuncId → Option (List AV → Option AV)
  ownLit : TypeId → Bool → Bool
  win : FuncId → Nat → Option (List (Nat × Nat × Nat))
  xh : FuncId → Option (List AV → AH → Option AV)
  tb : BinOp → TypeId → AV → AV → Option AV
  tu : UnOp → AV → Option AV
  tc : TypeId → TypeId → AV → Option AV
  jn : Nat → Option (AV → AV → Option AV)

mutual
/-- A constant of the text. -/
def ofV : Value → AV
  | .bool b => .b b
  | .int k n => .i k n
  | .float k x => .f k x
  | .string s => .s s
  | .pointer none => .p none
  | .slice none 0 0 => .nsl
  | .map none => .m none
  | .nilFunc => .nfn
  | .nilIface => .nif
  | .agg cs => .agg (ofVA cs)
  | .tuple cs => .tup (ofVA cs)
  | .func g x c => .fn g (ofVA x) (ofVA c)
  | .iface t v => .ifc t (ofV v)
  | _ => .any
def ofVA : Array Value → List AV
  | ⟨l⟩ => ofVL l
def ofVL : List Value → List AV
  | [] => []
  | v :: r => ofV v :: ofVL r
end

def undefA : AV := .tup []

def AV.cells : AV → List AV
  | .agg cs => cs
  | v => [v]

/-- May it lie in one cell? -/
def AV.one : AV → Bool
  | .any | .agg _ | .tup _ => false
  | _ => true

def evA (E : Env) (t : List AV) : Operand → AV
  | .tmp i => t.getD i undefA
  | .const v => ofV v
  | .global g => match E.glob g with | some cs => .ip cs 0 | none => .any
  | .func f => .fn (.func f) [] []

section types
variable (P : Program)
def szA (t : TypeId) : Option Nat := (P.info? t).map (·.size)
def bytesA (t : TypeId) : Option Nat := (P.info? t).map (·.bytes)
def zeroA (t : TypeId) : Option AV := ((P.info? t).bind (·.zero)).map ofV
def isAggA (t : TypeId) : Option Bool := (P.underlying t).map fun | .struct _ | .array _ _ => true | _ => false
end types

def takeN {α : Type} (cs : List α) (o n : Nat) : Option (List α) :=
  let r := (cs.drop o).take n
  if r.length = n then some r else none

def splice {α : Type} (cs : List α) (o : Nat) (vs : List α) : List α := cs.take o ++ vs ++ cs.drop (o + vs.length)

/-- n cells at an address. -/
def cellsAt (h : AH) (a : AV) (n : Nat) : Option (List AV) :=
  match a with
  | .p (some (k, o)) => match h.get k with
    | some (.cells _ cs) => takeN cs o n
    | _ => none
  | .ip cs o => takeN cs o n
  | _ => none

def loadA (P : Program) (h : AH) (t : TypeId) (a : AV) : Option AV :=
  match isAggA P t, szA P t with
  | some true, some n => (cellsAt h a n).map .agg
  | some false, some _ => match cellsAt h a 1 with
    | some [v] => some v
    | _ => none
  | _, _ => none

def putCells (h : AH) (k o : Nat) (vs : List AV) : Option AH :=
  match h.get k with
  | some (.cells es cs) => if vs.all AV.one && decide (o + vs.length ≤ cs.length) then some (h.set k (.cells es (splice cs o vs))) else none
  | _ => none

def storeA (P : Program) (h : AH) (t : TypeId) (a v : AV) : Option AH :=
  match a, szA P t with
  | .p (some (k, o)), some n => if v.cells.length = n then putCells h k o v.cells else none
  | _, _ => none

/-- A struct's or an array's cells out of its parts. -/
def fillA (place : Nat → Option (Nat × Nat)) (cells : List AV) : List (Nat × AV) → Option (List AV)
  | [] => some cells
  | (j, v) :: rest =>
    match place j with
    | none => none
    | some (off, size) =>
      if v.cells.length = size ∧ off + v.cells.length ≤ cells.length then fillA place (splice cells off v.cells) rest else none

def placesA (P : Program) (t : TypeId) : Option (Nat → Option (Nat × Nat)) :=
  match P.underlying t with
  | some (.struct fs) => (fs.toList.mapM fun f => (P.info? f.type).map fun i => (f.offset, i.size)).map fun pl j => pl[j]?
  | some (.array _ e) => (szA P e).map fun n j => some (j * n, n)
  | _ => none

def buildA (P : Program) (t : TypeId) (parts : List (Nat × AV)) : Option AV :=
  match placesA P t, zeroA P t with
  | some pl, some z => if parts.all (fun x => x.2.cells.all AV.one) then (fillA pl z.cells parts).map .agg else none
  | _, _ => none

def repZ (z : List AV) : Nat → List AV
  | 0 => []
  | n + 1 => z ++ repZ z n

/-- A new slice of n elements, of the type e, with these cells. -/
def newSlice (h : AH) (es n : Nat) (cs : List AV) : AV × AH := (.own h.next 0 n none, h.new (.cells es cs))

def elemA (P : Program) (t : TypeId) : Option TypeId :=
  match P.underlying t with
  | some (.slice e) => some e
  | _ => none

/-- The size of a slice type's elements; none: it has no cells. -/
def esA (P : Program) (e : TypeId) : Option Nat :=
  match szA P e with
  | some 0 => none
  | r => r

def buildSliceA (P : Program) (h : AH) (t : TypeId) (len : Nat) (parts : List (Nat × AV)) : Option (AV × AH) :=
  match elemA P t with
  | none => none
  | some e =>
    match esA P e, zeroA P e with
    | some es, some z =>
      if z.cells.length = es ∧ len * es ≤ 2 ^ 20 ∧ z.cells.all AV.one = true ∧ parts.all (fun x => x.2.cells.all AV.one) = true then
        (fillA (fun j => some (j * es, es)) (repZ z.cells len) parts).map fun cs => newSlice h es len cs
      else none
    | _, _ => none

/-- A literal that nobody writes. -/
def litSliceA (P : Program) (t : TypeId) (len : Nat) (parts : List (Nat × AV)) : Option AV :=
  match elemA P t with
  | none => none
  | some e =>
    match esA P e, zeroA P e with
    | some es, some z =>
      if z.cells.length = es ∧ len * es ≤ 2 ^ 20 ∧ z.cells.all AV.one = true ∧ parts.all (fun x => x.2.cells.all AV.one) = true then
        (fillA (fun j => some (j * es, es)) (repZ z.cells len) parts).map fun cs => .imm cs len
      else none
    | _, _ => none

def intA : AV → Option Int
  | .i _ n => some n
  | _ => none

def room : Nat := 2 ^ 40

def makeSliceA (P : Program) (h : AH) (t : TypeId) (l c : AV) : Option (AV × AH) :=
  match elemA P t, intA l, intA c with
  | some e, some l, some c =>
    match esA P e, zeroA P e, bytesA P e with
    | some es, some z, some bytes =>
      if z.cells.length = es ∧ z.cells.all AV.one = true ∧ 0 ≤ l ∧ l ≤ c ∧ c * (bytes + 1) ≤ room then some (newSlice h es l.toNat (repZ z.cells c.toNat)) else none
    | _, _, _ => none
  | _, _, _ => none

def optIntA (d : Int) : Option AV → Option Int
  | none => some d
  | some v => intA v

/-- Does the capacity, if it is known, bear it? -/
def capLe : Option Nat → Int → Bool
  | some c, u => u ≤ c
  | none, _ => true

def sliceA (P : Program) (h : AH) (t : TypeId) (x : AV) (lo hi mx : Option AV) : Option AV :=
  match P.underlying t, x with
  | some .string, .s s =>
    match optIntA 0 lo, optIntA s.size hi, mx with
    | some l, some u, none => if 0 ≤ l ∧ l ≤ u ∧ u ≤ s.size then some (.s (s.extract l.toNat u.toNat)) else none
    | _, _, _ => none
  | some (.slice e), .nsl =>
    match szA P e, optIntA 0 lo, optIntA 0 hi, mx with
    | some _, some 0, some 0, none => some .nsl
    | some _, some 0, some 0, some m => if hi.isSome = true ∧ intA m = some 0 then some .nsl else none
    | _, _, _, _ => none
  | some (.slice e), .emp =>
    match szA P e, optIntA 0 lo, optIntA 0 hi, mx with
    | some _, some 0, some 0, none => some .emp
    | some _, some 0, some 0, some m => if hi.isSome = true ∧ intA m = some 0 then some .emp else none
    | _, _, _, _ => none
  | some (.slice e), .imm cs n =>
    match szA P e, optIntA 0 lo, optIntA n hi, mx with
    | some _, some 0, some 0, some m => if hi.isSome = true ∧ intA m = some 0 then some .emp else none
    | some es, some l, some u, none => if 0 ≤ l ∧ l ≤ u ∧ u ≤ n then some (.imm ((cs.drop (l.toNat * es)).take ((u.toNat - l.toNat) * es)) (u.toNat - l.toNat)) else none
    | _, _, _, _ => none
  | some (.slice e), .own k o n cap =>
    match h.get k with
    | some (.cells es cs) =>
      match esA P e, optIntA 0 lo, optIntA n hi, mx with
      | some es', some l, some u, none =>
        if es' = es ∧ 0 ≤ l ∧ l ≤ u ∧ o + u.toNat * es ≤ cs.length ∧ capLe cap u = true then
          some (.own k (o + l.toNat * es) (u.toNat - l.toNat) (cap.map (· - l.toNat)))
        else none
      | some es', some l, some u, some mv =>
        match intA mv with
        | some c => if es' = es ∧ hi.isSome = true ∧ 0 ≤ l ∧ l ≤ u ∧ u ≤ c ∧ o + c.toNat * es ≤ cs.length ∧ capLe cap c = true then
            some (.own k (o + l.toNat * es) (u.toNat - l.toNat) (some (c.toNat - l.toNat)))
          else none
        | none => none
      | _, _, _, _ => none
    | _ => none
  | _, _ => none

def fieldAddrA (P : Program) (t : TypeId) (a : AV) (j : Nat) : Option AV :=
  match P.underlying t with
  | some (.struct fs) =>
    match fs[j]? with
    | some f =>
      if szA P f.type = some 0 ∨ szA P f.type = none then none else
      match a with
      | .p (some (k, o)) => some (.p (some (k, o + f.offset)))
      | .ip cs o => some (.ip cs (o + f.offset))
      | _ => none
    | none => none
  | _ => none

def partA (P : Program) (t : TypeId) (cs : List AV) (off : Nat) : Option AV :=
  match isAggA P t, szA P t with
  | some true, some n => (takeN cs off n).map .agg
  | some false, some _ => cs[off]?
  | _, _ => none

def fieldA (P : Program) (t : TypeId) (x : AV) (j : Nat) : Option AV :=
  match P.underlying t, x with
  | some (.struct fs), .agg cs => (fs[j]?).bind fun f => partA P f.type cs f.offset
  | _, _ => none

def indexAddrA (P : Program) (t : TypeId) (x ix : AV) : Option AV :=
  match P.underlying t, intA ix with
  | some (.slice e), some j =>
    match szA P e, x with
    | some es, .imm cs n => if 0 ≤ j ∧ j < n then some (.ip cs (j.toNat * es)) else none
    | some es, .own k o n _ => if 0 ≤ j ∧ j < n then some (.p (some (k, o + j.toNat * es))) else none
    | _, _ => none
  | some (.array n e), some j =>
    match szA P e, x with
    | some es, .p (some (k, o)) => if 0 ≤ j ∧ j < n then some (.p (some (k, o + j.toNat * es))) else none
    | some es, .ip cs o => if 0 ≤ j ∧ j < n then some (.ip cs (o + j.toNat * es)) else none
    | _, _ => none
  | _, _ => none

def indexA (P : Program) (t : TypeId) (x ix : AV) : Option AV :=
  match P.underlying t, x, intA ix with
  | some (.array n e), .agg cs, some j => if 0 ≤ j ∧ j < n then (szA P e).bind fun es => partA P e cs (j.toNat * es) else none
  | some .string, .s s, some j => if 0 ≤ j then (s[j.toNat]?).map fun c => .i .u8 c.toNat else none
  | _, _, _ => none

/-- '==' of structs, field by field. -/
def eqFieldsA (P : Program) (eq : TypeId → AV → AV → Option Bool) (xs ys : List AV) : List Field → Option Bool
  | [] => some true
  | f :: fs =>
    if f.name = "_" then eqFieldsA P eq xs ys fs else
    match partA P f.type xs f.offset, partA P f.type ys f.offset with
    | some u, some v => match eq f.type u v with
      | some true => eqFieldsA P eq xs ys fs
      | r => r
    | _, _ => none

/-- '==' where it asks no more than the values. -/
def eqA (P : Program) : Nat → TypeId → AV → AV → Option Bool
  | 0, _, _, _ => none
  | d + 1, t, x, y =>
    match P.underlying t, x, y with
    | some .bool, .b a, .b c => some (a == c)
    | some (.int _), .i k a, .i k' c => if k = k' then some (a == c) else none
    | some (.float _), .f .f64 a, .f .f64 c => some (Op.floatEq .f64 a c)
    | some .string, .s a, .s c => some (a == c)
    | some (.pointer _), .p none, .p c => some c.isNone
    | some (.pointer _), .p (some _), .p none => some false
    | some (.pointer _), .ip _ _, .p none => some false
    | some (.pointer _), .p none, .ip _ _ => some false
    | some (.interface _), .nif, .ifc _ _ => some false
    | some (.interface _), .ifc _ _, .nif => some false
    | some (.slice _), .nsl, .nsl => some true
    | some (.slice _), .nsl, .own _ _ _ _ => some false
    | some (.slice _), .own _ _ _ _, .nsl => some false
    | some (.slice _), .nsl, .imm _ _ => some false
    | some (.slice _), .imm _ _, .nsl => some false
    | some (.map _ _), .m none, .m c => some c.isNone
    | some (.map _ _), .m (some _), .m none => some false
    | some (.struct fs), .agg xs, .agg ys =>
      if P.stoodInHeld t then none else eqFieldsA P (eqA P d) xs ys fs.toList
    | _, _, _ => none

def nanA (k : FloatKind) : Nat := match k with | .f32 => 0x7fc00000 | .f64 => 0x7ff8000000000000

def binA (P : Program) (op : BinOp) (t : TypeId) (x y : AV) : Option AV :=
  match op, x, y with
  | .shl, .i k a, .i _ c => if 0 ≤ c then some (.i k (k.wrap (a * 2 ^ (min c.toNat k.bits)))) else none
  | .shr, .i k a, .i _ c => if 0 ≤ c then some (.i k (a.fdiv (2 ^ (min c.toNat k.bits)))) else none
  | op, .i k a, .i k' c =>
    if k ≠ k' then none else
    match op with
    | .add => some (.i k (k.wrap (a + c)))
    | .sub => some (.i k (k.wrap (a - c)))
    | .mul => some (.i k (k.wrap (a * c)))
    | .quo => if c = 0 then none else some (.i k (k.wrap (a.tdiv c)))
    | .rem => if c = 0 then none else some (.i k (a.tmod c))
    | .and => some (.i k (k.wrap (BitVec.ofInt k.bits a &&& BitVec.ofInt k.bits c).toNat))
    | .or => some (.i k (k.wrap (BitVec.ofInt k.bits a ||| BitVec.ofInt k.bits c).toNat))
    | .xor => some (.i k (k.wrap (BitVec.ofInt k.bits a ^^^ BitVec.ofInt k.bits c).toNat))
    | .andNot => some (.i k (k.wrap (BitVec.ofInt k.bits a &&& ~~~BitVec.ofInt k.bits c).toNat))
    | .eql => some (.b (a == c))
    | .neq => some (.b (a != c))
    | .lss => some (.b (a < c))
    | .leq => some (.b (a ≤ c))
    | .gtr => some (.b (a > c))
    | .geq => some (.b (a ≥ c))
    | _ => none
  | op, .f .f64 a, .f .f64 c =>
    let k := FloatKind.f64
    let o := k.format.order a c
    match op with
    | .add => some (.f k ((k.format.add a c).getD (nanA k)))
    | .sub => some (.f k ((k.format.sub a c).getD (nanA k)))
    | .mul => some (.f k ((k.format.mul a c).getD (nanA k)))
    | .quo => some (.f k ((k.format.div a c).getD (nanA k)))
    | .eql => some (.b (o == some .eq))
    | .neq => some (.b (o != some .eq))
    | .lss => some (.b (o == some .lt))
    | .leq => some (.b (o == some .lt || o == some .eq))
    | .gtr => some (.b (o == some .gt))
    | .geq => some (.b (o == some .gt || o == some .eq))
    | _ => none
  | op, .s a, .s c =>
    match op with
    | .add => if a.size + c.size ≤ room then some (.s (a ++ c)) else none
    | .eql => some (.b (a.toList == c.toList))
    | .neq => some (.b !(a.toList == c.toList))
    | .lss => some (.b (Op.bytesLess a.toList c.toList))
    | .leq => some (.b (Op.bytesLess a.toList c.toList || a.toList == c.toList))
    | .gtr => some (.b !(Op.bytesLess a.toList c.toList || a.toList == c.toList))
    | .geq => some (.b !(Op.bytesLess a.toList c.toList))
    | _ => none
  | .eql, x, y => if P.eqGuardType P.depth t then (match x, y with | .agg _, .agg _ => none | _, _ => (eqA P 10000 t x y).map .b) else (eqA P 10000 t x y).map .b
  | .neq, x, y => if P.eqGuardType P.depth t then (match x, y with | .agg _, .agg _ => none | _, _ => (eqA P 10000 t x y).map fun r => .b !r) else (eqA P 10000 t x y).map fun r => .b !r
  | _, _, _ => none

def unA (op : UnOp) (x : AV) : Option AV :=
  match op, x with
  | .neg, .i k n => some (.i k (k.wrap (0 - n)))
  | .xor, .i k n => some (.i k (k.wrap (BitVec.ofInt k.bits (if k.signed then -1 else k.max) ^^^ BitVec.ofInt k.bits n).toNat))
  | .not, .b x => some (.b !x)
  | _, _ => none

def byteA : AV → Option Int
  | .i .u8 n => some n
  | _ => none

/-- A slice's cells: those of its elements. -/
def sliceCells (h : AH) (es : Nat) : AV → Option (List AV)
  | .nsl => some []
  | .emp => some []
  | .imm cs n => if cs.length = n * es then some cs else none
  | .own k o n _ => match h.get k with
    | some (.cells es' cs) => if es' = es then takeN cs o (n * es) else none
    | _ => none
  | _ => none

def convA (P : Program) (h : AH) (src dst : TypeId) (x : AV) : Option (AV × AH) :=
  match P.underlying src, P.underlying dst, x with
  | some _, some (.int k), .i _ n => some (.i k (k.wrap n), h)
  | some _, some (.float k), .i _ n => some (.f k (k.nearest n), h)
  | some _, some (.float k), .f k' x => if k = k' then some (.f k x, h) else none
  | some _, some .string, .s x => some (.s x, h)
  | some .string, some (.slice e), .s x =>
    match P.underlying e with
    | some (.int .u8) => if szA P e = some 1 ∧ x.size ≤ room then some (.own h.next 0 x.size none, h.new (.cells 1 (x.data.toList.map fun c => .i .u8 c.toNat))) else none
    | _ => none
  | some (.slice _), some (.slice e), .own k o n cap =>
    match h.get k, P.underlying e with
    | some (.cells es _), some (.int .u8) => if src = dst ∧ es = 1 then some (.own k o n cap, h) else none
    | _, _ => none
  | some (.slice e), some .string, x =>
    match P.underlying e with
    | some (.int .u8) => (sliceCells h 1 x).bind fun cs => (cs.mapM byteA).map fun l => (.s (l.foldl (fun r n => r.push (UInt8.ofNat n.toNat)) ByteArray.empty), h)
    | _ => none
  | _, _, _ => none

def lenA (P : Program) (h : AH) (t : TypeId) (x : AV) : Option AV :=
  match P.underlying t, x with
  | some .string, .s s => some (.i .i64 s.size)
  | some (.slice _), .nsl => some (.i .i64 0)
  | some (.slice _), .emp => some (.i .i64 0)
  | some (.slice _), .imm _ n => some (.i .i64 n)
  | some (.slice _), .own _ _ n _ => some (.i .i64 n)
  | some (.array n _), _ => some (.i .i64 n)
  | some (.map _ _), .m none => some (.i .i64 0)
  | some (.map _ _), .m (some k) => match h.get k with
    | some (.map (.es es _ _)) => some (.i .i64 es.length)
    | _ => none
  | _, _ => none

/-- What is appended: its cells, how many elements it has. -/
def moreA (P : Program) (h : AH) (es : Nat) (t : TypeId) (z : List AV) (x : AV) : Option (List AV × Nat) :=
  match P.underlying t with
  | some (.int _) => match x with
    | .i _ n => if 0 ≤ n ∧ n ≤ room then some (repZ z n.toNat, n.toNat) else none
    | _ => none
  | some .string => match x with
    | .s s => if es = 1 then some (s.data.toList.map (fun c => .i .u8 c.toNat), s.size) else none
    | _ => none
  | some (.slice _) => match x with
    | .nsl => some ([], 0)
    | .emp => some ([], 0)
    | .imm cs n => if cs.length = n * es then some (cs, n) else none
    | .own _ _ n _ => if n = 0 then some ([], 0) else (sliceCells h es x).map fun cs => (cs, n)
    | _ => none
  | _ => none

def appendA (P : Program) (h : AH) (ts tx : TypeId) (s x : AV) : Option (AV × AH) :=
  match elemA P ts with
  | none => none
  | some e =>
    match esA P e, zeroA P e, bytesA P e with
    | some es, some z, some bytes =>
      if z.cells.length = es ∧ z.cells.all AV.one = true then
        match moreA P h es tx z.cells x with
        | none => none
        | some (new, k) =>
          if new.all AV.one = true ∧ k * (bytes + 1) ≤ room then
            match s with
            | .nsl => if k = 0 then some (.nsl, h) else some (newSlice h es k new)
            | .emp => if k = 0 then some (.emp, h) else some (newSlice h es k new)
            | .imm cs n => if k = 0 then some (.imm cs n, h) else none
            | .own id o n cap =>
              match h.get id with
              | some (.cells es' cs) =>
                if es' = es ∧ (n + k) * (bytes + 1) ≤ room ∧ o + n * es ≤ cs.length then
                  match cap with
                  | none =>
                    if o + (n + k) * es ≤ cs.length then (putCells h id (o + n * es) new).map fun h' => (.own id o (n + k) none, h')
                    else some (.own h.next 0 (n + k) none, (h.del id).new (.cells es ((cs.drop o).take (n * es) ++ new)))
                  | some c =>
                    if n + k ≤ c then (if o + (n + k) * es ≤ cs.length then (putCells h id (o + n * es) new).map fun h' => (.own id o (n + k) (some c), h') else none)
                    else some (newSlice h es (n + k) ((cs.drop o).take (n * es) ++ new))
                else none
              | _ => none
            | _ => none
          else none
      else none
    | _, _, _ => none

def copyA (P : Program) (h : AH) (ts tx : TypeId) (d x : AV) : Option (AV × AH) :=
  match elemA P ts with
  | none => none
  | some e =>
    match esA P e with
    | none => none
    | some es =>
      match moreA P h es tx [] x, P.underlying tx with
      | _, some (.int _) => none
      | some (new, k), _ =>
        match d with
        | .nsl => some (.i .i64 0, h)
        | .emp => some (.i .i64 0, h)
        | .own id o n _ =>
          let c := min k n
          (putCells h id o (new.take (c * es))).map fun h' => (.i .i64 c, h')
        | _ => none
      | none, _ => none

def clearA (P : Program) (h : AH) (t : TypeId) (x : AV) : Option (AV × AH) :=
  match P.underlying t, x with
  | some (.slice _), .nsl => some (.tup [], h)
  | some (.slice e), .own id o n _ =>
    match zeroA P e, esA P e with
    | some z, some es => if n = 0 then some (.tup [], h) else if z.cells.length = es ∧ z.cells.all AV.one = true then (putCells h id o (repZ z.cells n)).map fun h' => (.tup [], h') else none
    | _, _ => none
  | _, _ => none

/-- Maps whose keys are whole numbers or strings. -/
def sameKey (kt : TypeDesc) : AV → AV → Option Bool
  | .i k a, .i k' c => match kt with
    | .int _ => if k = k' then some (a == c) else none
    | _ => none
  | .s a, .s c => match kt with
    | .string => some (a == c)
    | _ => none
  | _, _ => none

/-- Whole numbers alone, and the same ones. -/
def sameInts : List AV → List AV → Bool
  | [], [] => true
  | .i k a :: r, .i k' c :: s => decide (k = k') && (a == c) && sameInts r s
  | _, _ => false

/-- Keys that are structs of whole numbers. -/
def sameKeyS (P : Program) (t : TypeId) (k a : AV) : Option Bool :=
  match k, a with
  | .agg xs, .agg ys => match eqA P 10000 t (.agg xs) (.agg ys) with
    | some true => if sameInts xs ys = true then some true else none
    | r => r
  | _, _ => none

def isStruct : TypeDesc → Bool
  | .struct _ => true
  | _ => false

def sameKeyT (P : Program) (t : TypeId) (kt : TypeDesc) (k a : AV) : Option Bool := if isStruct kt = true then sameKeyS P t k a else sameKey kt k a

def findA (P : Program) (t : TypeId) (kt : TypeDesc) (k : AV) : List (AV × AV) → Nat → Option (Option (Nat × AV))
  | [], _ => some none
  | e :: es, j => match sameKeyT P t kt k e.1 with
    | some true => some (some (j, e.2))
    | some false => findA P t kt k es (j + 1)
    | none => none

/-- A struct's parts, that are whole numbers. -/
def partsI (P : Program) (cs : List AV) : List Field → Bool
  | [] => true
  | f :: fs => (match P.underlying f.type, partA P f.type cs f.offset with
    | some (.int _), some (.i _ _) => true
    | _, _ => false) && partsI P cs fs

def keyOk (P : Program) (kt : TypeDesc) (k : AV) : Bool :=
  match kt, k with
  | .int _, .i _ _ => true
  | .string, .s _ => true
  | .struct fs, .agg cs => partsI P cs fs.toList
  | _, _ => false

def lookupA (P : Program) (h : AH) (t : TypeId) (x ix : AV) (ok : Bool) : Option AV :=
  match P.underlying t with
  | some (.map kt e) =>
    match P.underlying kt, zeroA P e with
    | some kd, some z =>
      if keyOk P kd ix then
        match x with
        | .m none => some (if ok then .tup [z, .b false] else z)
        | .m (some id) =>
          match h.get id with
          | some (.map (.es es _ _)) =>
            match findA P kt kd ix es 0 with
            | some (some (_, v)) => some (if ok then .tup [v, .b true] else v)
            | some none => some (if ok then .tup [z, .b false] else z)
            | none => none
          | _ => none
        | _ => none
      else none
    | _, _ => none
  | _ => none

def mapUpdateA (P : Program) (h : AH) (t : TypeId) (m k v : AV) : Option AH :=
  match P.underlying t with
  | some (.map kt _) =>
    match P.underlying kt with
    | some kd =>
      if keyOk P kd k then
        match m with
        | .m (some id) =>
          match h.get id with
          | some (.map (.es es bs c)) =>
            match findA P kt kd k es 0 with
            | some (some (j, _)) => some (h.set id (.map (.es (es.set j (k, v)) bs c)))
            | some none => some (h.set id (.map (.es (es ++ [(k, v)]) (bs ++ [c]) (c + 1))))
            | none => none
          | _ => none
        | _ => none
      else none
    | _ => none
  | _ => none

def deleteA (P : Program) (h : AH) (t : TypeId) (m k : AV) : Option (AV × AH) :=
  match P.underlying t with
  | some (.map kt _) =>
    match P.underlying kt with
    | some kd =>
      if keyOk P kd k then
        match m with
        | .m (some id) =>
          match h.get id with
          | some (.map (.es es bs c)) =>
            match findA P kt kd k es 0 with
            | some (some (j, _)) => some (.tup [], h.set id (.map (.es (es.eraseIdx j) (bs.eraseIdx j) c)))
            | some none => some (.tup [], h)
            | none => none
          | _ => none
        | _ => none
      else none
    | _ => none
  | _ => none

def min2A : AV → AV → Option AV
  | .i k x, .i k' y => if k = k' then some (.i k (if y < x then y else x)) else none
  | _, _ => none
def max2A : AV → AV → Option AV
  | .i k x, .i k' y => if k = k' then some (.i k (if y > x then y else x)) else none
  | _, _ => none

def foldA (f : AV → AV → Option AV) : AV → List AV → Option AV
  | a, [] => some a
  | a, x :: r => (f a x).bind fun a' => foldA f a' r

/-- The capacity, where it is known. -/
def capA (P : Program) (h : AH) (t : TypeId) (x : AV) : Option AV :=
  match P.underlying t, x with
  | some (.slice _), .own _ _ _ (some c) => some (.i .i64 c)
  | some (.slice _), .own k o _ none => match h.get k with
    | some (.cells es cs) => some (.ig .i64 (((cs.length - o) / es : Nat) : Int))
    | _ => none
  | _, _ => none

def builtinA (P : Program) (h : AH) (b : Builtin) (ts : Array TypeId) (args : List AV) : Option (AV × AH) :=
  match b, args with
  | .append, [s, x] => match ts[0]?, ts[1]? with
    | some t0, some t1 => appendA P h t0 t1 s x
    | _, _ => none
  | .copy, [d, x] => match ts[0]?, ts[1]? with
    | some t0, some t1 => copyA P h t0 t1 d x
    | _, _ => none
  | .clear, [x] => match ts[0]? with
    | some t => clearA P h t x
    | none => none
  | .len, [x] => match ts[0]? with
    | some t => (lenA P h t x).map fun v => (v, h)
    | none => none
  | .delete, [m, k] => match ts[0]? with
    | some t => deleteA P h t m k
    | none => none
  | .cap, [x] => match ts[0]? with
    | some t => (capA P h t x).map fun v => (v, h)
    | none => none
  | .min, x :: r => (foldA min2A x r).map fun v => (v, h)
  | .max, x :: r => (foldA max2A x r).map fun v => (v, h)
  | _, _ => none

/-- An iterator over a map. -/
def rangeA (P : Program) (h : AH) (t : TypeId) (x : AV) : Option (AV × AH) :=
  match P.underlying t, x with
  | some (.map _ _), .m none => some (.p (some (h.next, 0)), h.new (.map (.it none 0 [] 0)))
  | some (.map _ _), .m (some m) => match h.get m with
    | some (.map (.es _ _ c)) => some (.p (some (h.next, 0)), h.new (.map (.it (some m) c [] c)))
    | _ => none
  | _, _ => none

/-- Entries that were not told, told as they may be. -/
def toldA (h : AH) (k m since : Nat) (seen : List Nat) (c : Nat) (l : List ((AV × AV) × Nat)) : List (AV × AH) :=
  l.map fun e => (.tup [.b true, e.1.1, e.1.2], h.set k (.map (.it (some m) since (seen ++ [e.2]) c)))

/-- What an iterator may tell next. -/
def nextA (h : AH) (iter : AV) (isS : Bool) : Option (List (AV × AH)) :=
  match iter, isS with
  | .p (some (k, 0)), false => match h.get k with
    | some (.map (.it none _ _ _)) => some [(.tup [.b false], h)]
    | some (.map (.it (some m) since seen last)) => match h.get m with
      | some (.map (.es es bs c)) =>
        if (!seen.isEmpty && !es.isEmpty && bs.all fun b => decide (b ≥ last)) = true then none else
        let left := (es.zip bs).filter fun e => !seen.contains e.2
        let old := left.filter fun e => decide (e.2 < since)
        let new := left.filter fun e => decide (e.2 ≥ since)
        some ((if old.isEmpty then [(.tup [.b false], h)] else []) ++ toldA h k m since seen c (old ++ new))
      | _ => none
    | _ => none
  | _, _ => none

/-- The entry that an iterator told last. -/
def entryA (h : AH) (iter : AV) : Option AV :=
  match iter with
  | .p (some (k, 0)) => match h.get k with
    | some (.map (.it (some m) _ seen last)) => match h.get m with
      | some (.map (.es es bs c)) => match seen.getLast? with
        | some b => if c = last then (match (es.zip bs).find? (fun e => e.2 == b) with
          | some e => some (.tup [e.1.1, e.1.2])
          | none => none) else none
        | none => none
      | _ => none
    | _ => none
  | _ => none

/-- What an operation comes to. -/
inductive ON where
  | val (v : AV) (h : AH)
  | enter (f : FuncId) (args : List AV)

def callFnA (E : Env) (h : AH) (f : FuncId) (args : List AV) : Option ON :=
  match E.ext f with
  | some g => (g args).map fun v => .val v h
  | none => if E.mode f = 5 ∧ (E.phook f).isNone = true then (match E.xh f with
    | some g => (g args h).map fun v => .val v h
    | none => none) else match E.fun_ f with
    | some fn => if fn.name = "runtime.NumGoroutine" ∨ fn.body.isNone then none else some (.enter f args)
    | none => none

def methodA (P : Program) (t : TypeId) (name : String) : Option FuncId :=
  match P.info? t, P.underlying t with
  | some i, some (.pointer _) =>
    match i.methods.find? (·.name == name) with
    | some m => if m.path.isEmpty then (match m.func with | some (f, true) => some f | _ => none) else none
    | none => none
  | _, _ => none

/-- Are all parts constants? -/
def constLit (parts : Array (Nat × Operand)) : Bool := parts.toList.all fun x => match x.2 with | .const _ => true | _ => false

def binE (E : Env) (op : BinOp) (t : TypeId) (a b : AV) : Option AV := match E.tb op t a b with | some r => some r | none => binA E.P op t a b
def unE (E : Env) (op : UnOp) (a : AV) : Option AV := match E.tu op a with | some r => some r | none => unA op a
def convE (E : Env) (h : AH) (src dst : TypeId) (a : AV) : Option (AV × AH) := match E.tc src dst a with | some r => some (r, h) | none => convA E.P h src dst a

def execA (E : Env) (t : List AV) (h : AH) (o : Oper) : Option ON :=
  let ρ := evA E t
  let P := E.P
  let v (r : Option AV) : Option ON := r.map fun x => .val x h
  let vh (r : Option (AV × AH)) : Option ON := r.map fun x => .val x.1 x.2
  let u (r : Option AH) : Option ON := r.map fun h' => .val undefA h'
  match o.op with
  | .move x | .assign x => some (.val (ρ x) h)
  | .pick c a b => match ρ c with
    | .b true => some (.val (ρ a) h)
    | .b false => some (.val (ρ b) h)
    | _ => none
  | .alloc e => match zeroA P e with
    | some z => if z.cells.all AV.one && !z.cells.isEmpty then some (.val (.p (some (h.next, 0))) (h.new (.cells z.cells.length z.cells))) else none
    | none => none
  | .box _ x => let cs := (ρ x).cells
    if cs.all AV.one && !cs.isEmpty then some (.val (.p (some (h.next, 0))) (h.new (.cells cs.length cs))) else none
  | .build ty parts => v (buildA P ty (parts.toList.map fun x => (x.1, ρ x.2)))
  | .buildSlice ty len parts =>
    if len = 0 ∨ E.ownLit ty (constLit parts) = true then vh (buildSliceA P h ty len (parts.toList.map fun x => (x.1, ρ x.2)))
    else v (litSliceA P ty len (parts.toList.map fun x => (x.1, ρ x.2)))
  | .load ty a => v (loadA P h ty (ρ a))
  | .store ty a x => u (storeA P h ty (ρ a) (ρ x))
  | .nilCheck x => match ρ x with
    | .p (some a) => some (.val (.p (some a)) h)
    | .ip cs o => some (.val (.ip cs o) h)
    | _ => none
  | .binOp op ty x y _ => v (binE E op ty (ρ x) (ρ y))
  | .unOp op _ x => v (unE E op (ρ x))
  | .convert src dst x => vh (convE E h src dst (ρ x))
  | .makeInterface ty x => match P.underlying ty with
    | some (.interface _) | none => none
    | some _ => some (.val (.ifc ty (ρ x)) h)
  | .makeFunc g first captured => some (.val (.fn g (first.toList.map ρ) (captured.toList.map ρ)) h)
  | .makeMap _ none => some (.val (.m (some h.next)) (h.new (.map (.es [] [] 0))))
  | .makeSlice ty l c => vh (makeSliceA P h ty (ρ l) (ρ c))
  | .slice ty x lo hi mx => v (sliceA P h ty (ρ x) (lo.map ρ) (hi.map ρ) (mx.map ρ))
  | .fieldAddr ty x j => v (fieldAddrA P ty (ρ x) j)
  | .field ty x j => v (fieldA P ty (ρ x) j)
  | .indexAddr ty x ix => v (indexAddrA P ty (ρ x) (ρ ix))
  | .index ty x ix => v (indexA P ty (ρ x) (ρ ix))
  | .lookup ty x ix ok => v (lookupA P h ty (ρ x) (ρ ix) ok)
  | .mapUpdate ty m k x => u (mapUpdateA P h ty (ρ m) (ρ k) (ρ x))
  | .insert ty m k x => u (mapUpdateA P h ty (ρ m) (ρ k) (ρ x))
  | .extract x j => match ρ x with
    | .tup vs => v vs[j]?
    | _ => none
  | .range ty x => vh (rangeA P h ty (ρ x))
  | .entry it => v (entryA h (ρ it))
  | .next it isS => match nextA h (ρ it) isS with
    | some [r] => some (.val r.1 r.2)
    | _ => none
  | .call c =>
    let args := c.args.toList.map ρ
    match c.callee with
    | .builtin b => vh (builtinA P h b c.argTypes args)
    | .value f => match ρ f with
      | .fn (.func g) first captured => callFnA E h g (first ++ args ++ captured)
      | _ => none
    | .invoke r name => match ρ r with
      | .ifc ty v => match methodA P ty name with
        | some g => callFnA E h g (v :: args)
        | none => none
      | _ => none
  | _ => none

def putA (t : List AV) (d : Option Tmp) (v : AV) : List AV :=
  match d with
  | some j => t.set j v
  | none => t

/-- Is the operation to be done? none: it can't be told. -/
def wantedA (ops : Array Oper) (t : List AV) (o : Oper) : Option Bool :=
  match o.guard with
  | none => some true
  | some (j, want) =>
    match (ops[j]?).bind (·.dst) with
    | none => none
    | some d => match t[d]? with
      | some (.b x) => some (x == want)
      | some (.tup []) => some false
      | _ => none

end
end Go.Av
