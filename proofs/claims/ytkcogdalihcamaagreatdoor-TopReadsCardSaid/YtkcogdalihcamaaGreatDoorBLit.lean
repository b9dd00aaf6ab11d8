/-
  Short words for values of the abstract machine.
-/
import Derived.Test.YtkcogdalihcamaaGreatDoorBEnv
import Derived.Test.YtkcogdalihcamaaGreatDoorAvC
namespace Go.Proofs.YtkcogdalihcamaaGreatDoor
open Go.Av
def I (n : Nat) : AV := .i .i64 (Int.ofNat n)
def N (n : Nat) : AV := .i .i64 (Int.negSucc n)
def W (n : Nat) : AV := .i .u64 (Int.ofNat n)
def Y (n : Nat) : AV := .i .u8 (Int.ofNat n)
def P (k o : Nat) : AV := .p (some (k, o))
def O (k o n : Nat) : AV := .own k o n none
def C (n : Nat) (cs : List AV) : AO := .cells n cs
end Go.Proofs.YtkcogdalihcamaaGreatDoor
