/-
  No cell of these rows narrows 'for every input' (looked for: loops, veiled, ifaces, maps, wideKeys, modest, calm, conditions, laid).
  DERIVED. THE GIVEN ROWS OF THIS SEAT. 5 by the template 'for every input the law returns true; each argument reads behind the call as it read before'; 0 by the template 'total and deterministic' (their statements: YtgiphcfpopgchaaTotals.lean).
  GIVEN WITH THE SEED: the statements are not yours to turn. If you find one false, say at which input.
  Laid BY PROGRAM, IN A SANDBOX (cutbox-rows.mjs): the forced cells as the released guide's own fill.sh prints them over the translation f7760e8a2344b1de… (all of the seat's roots in one cut). By AI agents, Wed Nov 11 2026. No macro, syntax, notation, axiom, sorry.
-/
import Derived.Test.YtgiphcfpopgchaaChecked
import GoSem.Claim
import GoSem.ClaimJoined
import GoSem.ClaimMapViews
import Derived.JoinedTies
import Derived.KernelRfl
namespace Go.Proofs.Ytgiphcfpopgchaa
/- THE CELL 'sum', in the pinned program and in every row, IS THE sha256 OF THE DUMP (.gsa) THAT YtgiphcfpopgchaaProg.lean LOADS. Nothing in Lean hashes anything: it is a label: what it is worth is what the hold of that sum in a sandbox is worth. -/
noncomputable def Try.pinned : Pinned := { name := "ytgiphcfpopgchaa", sum := "f7760e8a2344b1ded2a8fc1e87289880b640e3dc7ce45482abf47dfa1c131965", checked := Try.checked }
namespace Rows
def none {H : Type} : Left H := { results := [], args := [] }

/-- 'shoallaw9.LaneHolds': WHATEVER THE INPUT: true; the input reads as it did. -/
def laneHoldsSpec : ChangeSpec := { name := "laneHolds", fn := fun _ => fun
  | [d] => { results := [.lit (.bool true)], args := [d] }
  | _ => none }
def laneHoldsRow : OpenClaim := { program := "ytgiphcfpopgchaa", sum := "f7760e8a2344b1ded2a8fc1e87289880b640e3dc7ce45482abf47dfa1c131965", func := "shoal/shoallaw9.LaneHolds", spec := "laneHolds", apart := false }
def LaneHoldsSaid : Prop := laneHoldsRow.holds Try.pinned (OpenSpec.ofChange laneHoldsSpec)

/-- ITS FALSE NEIGHBOUR: 'it returns false'. Refute it at one input. -/
def laneHoldsWrong : ChangeSpec := { name := "laneHolds", fn := fun _ => fun
  | [d] => { results := [.lit (.bool false)], args := [d] }
  | _ => none }
def LaneHoldsWrongFalsely : Prop := laneHoldsRow.holds Try.pinned (OpenSpec.ofChange laneHoldsWrong)

/-- 'shoallaw9.LaneQueue': WHATEVER THE INPUT: true; the input reads as it did. -/
def laneQueueSpec : ChangeSpec := { name := "laneQueue", fn := fun _ => fun
  | [d] => { results := [.lit (.bool true)], args := [d] }
  | _ => none }
def laneQueueRow : OpenClaim := { program := "ytgiphcfpopgchaa", sum := "f7760e8a2344b1ded2a8fc1e87289880b640e3dc7ce45482abf47dfa1c131965", func := "shoal/shoallaw9.LaneQueue", spec := "laneQueue", apart := false }
def LaneQueueSaid : Prop := laneQueueRow.holds Try.pinned (OpenSpec.ofChange laneQueueSpec)

/-- ITS FALSE NEIGHBOUR: 'it returns false'. Refute it at one input. -/
def laneQueueWrong : ChangeSpec := { name := "laneQueue", fn := fun _ => fun
  | [d] => { results := [.lit (.bool false)], args := [d] }
  | _ => none }
def LaneQueueWrongFalsely : Prop := laneQueueRow.holds Try.pinned (OpenSpec.ofChange laneQueueWrong)

/-- 'shoallaw9.LaneKnown': WHATEVER THE INPUT: true; the input reads as it did. -/
def laneKnownSpec : ChangeSpec := { name := "laneKnown", fn := fun _ => fun
  | [] => { results := [.lit (.bool true)], args := [] }
  | _ => none }
def laneKnownRow : OpenClaim := { program := "ytgiphcfpopgchaa", sum := "f7760e8a2344b1ded2a8fc1e87289880b640e3dc7ce45482abf47dfa1c131965", func := "shoal/shoallaw9.LaneKnown", spec := "laneKnown", apart := false }
def LaneKnownSaid : Prop := laneKnownRow.holds Try.pinned (OpenSpec.ofChange laneKnownSpec)

/-- ITS FALSE NEIGHBOUR: 'it returns false'. Refute it at one input. -/
def laneKnownWrong : ChangeSpec := { name := "laneKnown", fn := fun _ => fun
  | [] => { results := [.lit (.bool false)], args := [] }
  | _ => none }
def LaneKnownWrongFalsely : Prop := laneKnownRow.holds Try.pinned (OpenSpec.ofChange laneKnownWrong)

/-- 'shoallaw9.LanePlays': WHATEVER THE INPUT: true; the input reads as it did. -/
def lanePlaysSpec : ChangeSpec := { name := "lanePlays", fn := fun _ => fun
  | [d] => { results := [.lit (.bool true)], args := [d] }
  | _ => none }
def lanePlaysRow : OpenClaim := { program := "ytgiphcfpopgchaa", sum := "f7760e8a2344b1ded2a8fc1e87289880b640e3dc7ce45482abf47dfa1c131965", func := "shoal/shoallaw9.LanePlays", spec := "lanePlays", apart := false }
def LanePlaysSaid : Prop := lanePlaysRow.holds Try.pinned (OpenSpec.ofChange lanePlaysSpec)

/-- ITS FALSE NEIGHBOUR: 'it returns false'. Refute it at one input. -/
def lanePlaysWrong : ChangeSpec := { name := "lanePlays", fn := fun _ => fun
  | [d] => { results := [.lit (.bool false)], args := [d] }
  | _ => none }
def LanePlaysWrongFalsely : Prop := lanePlaysRow.holds Try.pinned (OpenSpec.ofChange lanePlaysWrong)

/-- 'shoallaw9.LaneSums': WHATEVER THE INPUT: true; the input reads as it did. -/
def laneSumsSpec : ChangeSpec := { name := "laneSums", fn := fun _ => fun
  | [d] => { results := [.lit (.bool true)], args := [d] }
  | _ => none }
def laneSumsRow : OpenClaim := { program := "ytgiphcfpopgchaa", sum := "f7760e8a2344b1ded2a8fc1e87289880b640e3dc7ce45482abf47dfa1c131965", func := "shoal/shoallaw9.LaneSums", spec := "laneSums", apart := false }
def LaneSumsSaid : Prop := laneSumsRow.holds Try.pinned (OpenSpec.ofChange laneSumsSpec)

/-- ITS FALSE NEIGHBOUR: 'it returns false'. Refute it at one input. -/
def laneSumsWrong : ChangeSpec := { name := "laneSums", fn := fun _ => fun
  | [d] => { results := [.lit (.bool false)], args := [d] }
  | _ => none }
def LaneSumsWrongFalsely : Prop := laneSumsRow.holds Try.pinned (OpenSpec.ofChange laneSumsWrong)

/- THE SECOND FORM. 'bulk': how many values and letters a reading holds, each counted each time it is reached (what is shared counts as often as it is met; a slice's spare places count too). A statement '..UptoSaid' is the law's where the arguments, and the package variables that the reading takes, are together of bulk at most 1048576: NARROWER than '..Said'. Prove '..Said' where nothing that the law and all that it calls make is longer than what came in: it says more and counts as full. Else prove '..UptoSaid'. A law counts once. -/
mutual
def uptoBulk {H : Type} : DataW H → Nat
  | .lit (.string bytes) => bytes.length + 1
  | .lit _ => 1
  | .nil => 1
  | .ptr d => uptoBulk d + 1
  | .slice elems spare => uptoBulkAll elems + uptoBulkAll spare + 1
  | .agg parts => uptoBulkAll parts + 1
  | .iface _ d => uptoBulk d + 1
  | .map entries => uptoBulkEntries entries + 1
  | .held _ => 1
def uptoBulkAll {H : Type} : List (DataW H) → Nat
  | [] => 0
  | d :: r => uptoBulk d + uptoBulkAll r
def uptoBulkEntries {H : Type} : List (Lit × DataW H) → Nat
  | [] => 0
  | x :: r => uptoBulkEntry x + uptoBulkEntries r
def uptoBulkEntry {H : Type} : Lit × DataW H → Nat
  | (.string bytes, d) => bytes.length + uptoBulk d + 1
  | (_, d) => uptoBulk d + 1
 end
def uptoSmall : (H : Type) → List (DataW H) → Bool := fun _ ds => decide (uptoBulkAll ds ≤ 1048576)
def OpenSpec.upto (s : _root_.Go.ChangeSpec) : _root_.Go.OpenSpec := { _root_.Go.OpenSpec.ofChange s with cond := some uptoSmall }

/-- 'shoallaw9.LaneHolds', WHERE WHAT IT READS IS OF BULK AT MOST 1048576: true; the input reads as it did. -/
def laneHoldsUptoRow : OpenClaim := { program := "ytgiphcfpopgchaa", sum := "f7760e8a2344b1ded2a8fc1e87289880b640e3dc7ce45482abf47dfa1c131965", func := "shoal/shoallaw9.LaneHolds", spec := "laneHolds", apart := false, narrowed := true }
def LaneHoldsUptoSaid : Prop := laneHoldsUptoRow.holds Try.pinned (OpenSpec.upto laneHoldsSpec)

/-- 'shoallaw9.LaneQueue', WHERE WHAT IT READS IS OF BULK AT MOST 1048576: true; the input reads as it did. -/
def laneQueueUptoRow : OpenClaim := { program := "ytgiphcfpopgchaa", sum := "f7760e8a2344b1ded2a8fc1e87289880b640e3dc7ce45482abf47dfa1c131965", func := "shoal/shoallaw9.LaneQueue", spec := "laneQueue", apart := false, narrowed := true }
def LaneQueueUptoSaid : Prop := laneQueueUptoRow.holds Try.pinned (OpenSpec.upto laneQueueSpec)

/-- 'shoallaw9.LaneKnown', WHERE WHAT IT READS IS OF BULK AT MOST 1048576: true; the input reads as it did. -/
def laneKnownUptoRow : OpenClaim := { program := "ytgiphcfpopgchaa", sum := "f7760e8a2344b1ded2a8fc1e87289880b640e3dc7ce45482abf47dfa1c131965", func := "shoal/shoallaw9.LaneKnown", spec := "laneKnown", apart := false, narrowed := true }
def LaneKnownUptoSaid : Prop := laneKnownUptoRow.holds Try.pinned (OpenSpec.upto laneKnownSpec)

/-- 'shoallaw9.LanePlays', WHERE WHAT IT READS IS OF BULK AT MOST 1048576: true; the input reads as it did. -/
def lanePlaysUptoRow : OpenClaim := { program := "ytgiphcfpopgchaa", sum := "f7760e8a2344b1ded2a8fc1e87289880b640e3dc7ce45482abf47dfa1c131965", func := "shoal/shoallaw9.LanePlays", spec := "lanePlays", apart := false, narrowed := true }
def LanePlaysUptoSaid : Prop := lanePlaysUptoRow.holds Try.pinned (OpenSpec.upto lanePlaysSpec)

/-- 'shoallaw9.LaneSums', WHERE WHAT IT READS IS OF BULK AT MOST 1048576: true; the input reads as it did. -/
def laneSumsUptoRow : OpenClaim := { program := "ytgiphcfpopgchaa", sum := "f7760e8a2344b1ded2a8fc1e87289880b640e3dc7ce45482abf47dfa1c131965", func := "shoal/shoallaw9.LaneSums", spec := "laneSums", apart := false, narrowed := true }
def LaneSumsUptoSaid : Prop := laneSumsUptoRow.holds Try.pinned (OpenSpec.upto laneSumsSpec)

end Rows
end Go.Proofs.Ytgiphcfpopgchaa
