/-
  Tables of names for a number with a point of whatever kind: 100 * i + r, r = 0 the number, 6 the same with one NaN alone, 2 its key, 10.. the key moved down by bytes, 20.. its bytes, 30.. these as wide numbers, 41.. its upper bytes, 51.. these moved up; 99: a whole number of which only its place beside 0 .. 2 is known (c = 0 below, 1 among, 2 above; 3: not known).
-/
import Derived.Test.YtejljkdkhokmoaaGreatDoorAv11
namespace Go.Av
noncomputable section
set_option linter.unusedSimpArgs false
set_option linter.unusedVariables false

def orG (i r s : Nat) : Option AV :=
  if 51 ≤ r ∧ r ≤ 57 ∧ r + s = 87 then some (if r = 57 then .tok (100 * i + 2) else .tok (100 * i + (r - 9))) else none

def shG (op : BinOp) (i r n : Nat) : Option AV :=
  match op with
  | .shr => if r = 2 ∧ n % 8 = 0 ∧ n < 64 then some (.tok (100 * i + (10 + n / 8))) else none
  | .shl => if 41 ≤ r ∧ r ≤ 47 ∧ n = 8 then some (.tok (100 * i + (r + 10))) else none
  | _ => none

def cmpG (c : Nat) (op : BinOp) (n : Nat) : Option AV :=
  if c = 3 ∨ c = 4 ∨ 10 ≤ c then none else
  match op with
  | .lss => if n = 0 then some (.b (c == 0)) else none
  | .geq => if n = 3 then some (.b (c == 2)) else none
  | .gtr => if n = 2 then some (.b (c == 2)) else none
  | _ => none

/-- Two of a number's names beside each other, where it is known whether it is a number (c = 10 + 2 i: the i-th is one, 11 + 2 i: it is none). -/
def fcG (c : Nat) (op : BinOp) (i r s : Nat) : Option AV :=
  if 10 ≤ c ∧ (c - 10) / 2 = i ∧ (r = 0 ∨ r = 6) ∧ (s = 0 ∨ s = 6) then
    match op with
    | .neq => some (.b (c % 2 == 1))
    | .eql => some (.b (c % 2 == 0))
    | _ => none
  else none

/-- Counting numbers (c = 4): 99 of the i-th name: how many of the first i are numbers; 97: is the i-th one? 96: one more than 99. -/
def ctG (i r s : Nat) : Option AV :=
  if r = 0 ∧ s = 0 then some (.tok (100 * i + 97)) else if r = 99 ∧ s = 99 then some (.b true) else none
def upG (i : Nat) (op : BinOp) (n : Nat) : Option AV :=
  match op with
  | .add => if n = 1 then some (.tok (100 * i + 96)) else none
  | _ => none
def jnG (c n : Nat) : Option (AV → AV → Option AV) :=
  if c = 4 ∧ n % 100 = 97 then some fun x y => match x, y with
    | .tok a, .tok b => if a = 100 * (n / 100) + 96 ∧ b = 100 * (n / 100) + 99 then some (.tok (100 * (n / 100 + 1) + 99)) else none
    | .i .i64 (.ofNat 1), .i .i64 (.ofNat 0) => if n / 100 = 0 then some (.tok 199) else none
    | _, _ => none
  else none

def tbG (c : Nat) (op : BinOp) (_ : TypeId) (x y : AV) : Option AV :=
  match x with
  | .tok a => match y with
    | .tok b => match op with
      | .or => if a / 100 = b / 100 then orG (a / 100) (a % 100) (b % 100) else none
      | .neq => if a / 100 = b / 100 then fcG c .neq (a / 100) (a % 100) (b % 100) else none
      | .eql => if a / 100 = b / 100 then (if c = 4 then ctG (a / 100) (a % 100) (b % 100) else fcG c .eql (a / 100) (a % 100) (b % 100)) else none
      | _ => none
    | .i k (.ofNat n) => if a % 100 = 99 then (if k = .i64 then (if c = 4 then upG (a / 100) op n else cmpG c op n) else none) else shG op (a / 100) (a % 100) n
    | _ => none
  | .i .u64 (.ofNat 0) => match y with
    | .tok b => match op with
      | .or => if b % 100 = 37 then some (.tok (100 * (b / 100) + 41)) else none
      | _ => none
    | _ => none
  | _ => none

def tcG (P : Program) (src dst : TypeId) (x : AV) : Option AV :=
  match x with
  | .tok a => match P.underlying src, P.underlying dst with
    | some _, some (.int .u8) => if 10 ≤ a % 100 ∧ a % 100 < 18 then some (.tok (100 * (a / 100) + (a % 100 + 10))) else none
    | some _, some (.int .u64) => if 20 ≤ a % 100 ∧ a % 100 < 28 then some (.tok (100 * (a / 100) + (a % 100 + 10))) else none
    | _, _ => none
  | _ => none

def keyG : List AV → Option AV
  | [.tok a] => if a % 100 = 0 ∨ a % 100 = 6 then some (.tok (100 * (a / 100) + 2)) else none
  | _ => none
def plainG : List AV → Option AV
  | [.tok a] => if a % 100 = 0 ∨ a % 100 = 6 then some (.tok (100 * (a / 100) + 6)) else none
  | _ => none
def ofG : List AV → Option AV
  | [.tok a] => if a % 100 = 2 then some (.tup [.tok (100 * (a / 100) + 6), .b true]) else none
  | _ => none
end
end Go.Av
