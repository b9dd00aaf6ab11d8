/-
  The tables of names: 100 * i + r, for the i-th number with a point: r = 0 the number, 1 its bits, 2 its key, 3 the key's other bits, 5 one by it, 10.. the key moved down by bytes, 20.. its bytes, 30.. these as wide numbers, 41.. its upper bytes, 51.. these moved up.
-/
import Derived.Test.YtjddbeecnnbebaaGreatDoorAv11
namespace Go.Av
noncomputable section
set_option linter.unusedSimpArgs false
set_option linter.unusedVariables false

def signN : Nat := 9223372036854775808
def noneN : Nat := 18446744073709551615
def oneN : Nat := 4607182418800017408

def t2 (op : BinOp) (i r s : Nat) : Option AV :=
  match op with
  | .neq => if r = 0 ∧ s = 0 then some (.b false) else none
  | .eql => if (r = 0 ∧ s = 0) ∨ (r = 5 ∧ s = 5) then some (.b true) else none
  | .or => if 51 ≤ r ∧ r ≤ 57 ∧ r + s = 87 then some (if r = 57 then .tok (100 * i + 2) else .tok (100 * i + (r - 9))) else none
  | _ => none

def t1 (neg : Bool) (op : BinOp) (i r n : Nat) : Option AV :=
  match op with
  | .and => if n = signN then (if r = 1 then some (.i .u64 (if neg then signN else (0 : Nat))) else if r = 2 then some (.i .u64 (if neg then (0 : Nat) else signN)) else none) else none
  | .or => if n = signN ∧ r = 1 ∧ neg = false then some (.tok (100 * i + 2)) else none
  | .eql => if n = noneN ∧ r = 2 then some (.b false) else none
  | .andNot => if n = signN ∧ r = 2 ∧ neg = false then some (.tok (100 * i + 1)) else none
  | _ => none

/-- By a count. -/
def ts (op : BinOp) (i r n : Nat) : Option AV :=
  match op with
  | .shr => if r = 2 ∧ n % 8 = 0 ∧ n < 64 then some (.tok (100 * i + (10 + n / 8))) else none
  | .shl => if 41 ≤ r ∧ r ≤ 47 ∧ n = 8 then some (.tok (100 * i + (r + 10))) else none
  | _ => none

def tbT (neg : Nat → Bool) (op : BinOp) (_ : TypeId) (x y : AV) : Option AV :=
  match x, y with
  | .tok a, .tok b => if a / 100 = b / 100 then t2 op (a / 100) (a % 100) (b % 100) else none
  | .tok a, .i k (.ofNat n) => match ts op (a / 100) (a % 100) n with
    | some r => some r
    | none => if k = .u64 then t1 (neg (a / 100)) op (a / 100) (a % 100) n else none
  | .i .u64 (.ofNat 0), .tok b => match op with
    | .or => if b % 100 = 37 then some (.tok (100 * (b / 100) + 41)) else none
    | _ => none
  | .f .f64 n, .tok b => match op with
    | .quo => if n = oneN ∧ b % 100 = 0 then some (.tok (100 * (b / 100) + 5)) else none
    | _ => none
  | _, _ => none

def tuT (neg : Nat → Bool) (op : UnOp) (x : AV) : Option AV :=
  match op, x with
  | .xor, .tok a => if a % 100 = 1 then (if neg (a / 100) then some (.tok (100 * (a / 100) + 2)) else none) else if a % 100 = 2 then some (.tok (100 * (a / 100) + 3)) else none
  | _, _ => none

def tcT (P : Program) (src dst : TypeId) (x : AV) : Option AV :=
  match x with
  | .tok a => match P.underlying src, P.underlying dst with
    | some _, some (.int .u8) => if 10 ≤ a % 100 ∧ a % 100 < 18 then some (.tok (100 * (a / 100) + (a % 100 + 10))) else none
    | some _, some (.int .u64) => if 20 ≤ a % 100 ∧ a % 100 < 28 then some (.tok (100 * (a / 100) + (a % 100 + 10))) else none
    | _, _ => none
  | _ => none

def xbT : List AV → Option AV
  | [.tok a] => if a % 100 = 0 then some (.tok (100 * (a / 100) + 1)) else none
  | _ => none
def xfT (neg : Nat → Bool) : List AV → Option AV
  | [.tok a] => if (a % 100 = 1 ∧ neg (a / 100) = false) ∨ (a % 100 = 3 ∧ neg (a / 100) = true) then some (.tok (100 * (a / 100))) else none
  | _ => none
end
end Go.Av
