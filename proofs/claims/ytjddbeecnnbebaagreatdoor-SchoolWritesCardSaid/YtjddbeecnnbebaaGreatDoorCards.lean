/-
  DERIVED. GIVEN WITH THE SEED: THE CARDS: each row of YtjddbeecnnbebaaGreatDoorRows.lean that lists a variable, with what it lists TIED to the program's text (the seventh form; the later family's looks); each row that meets fmt, with fmt's text TOLD by the authors' own Lean function (tested against real Go, not proved from fmt's source: count such statements apart). THE CARD IS WHAT COUNTS. Prove the row's statement (the work); the ties are given (YtjddbeecnnbebaaGreatDoorTie.lean); close each card by the builder's one call (the guide's Derived/Test/ToyasCard.lean, 'card_holds'). Laid BY PROGRAM, IN A SANDBOX (cutbox-door.mjs). By AI agents, Wed Nov 11 2026. No macro, syntax, notation, axiom, sorry.
-/
import Derived.Test.YtjddbeecnnbebaaGreatDoorRows
import GoSem.ClaimSeven
namespace Go.Proofs.YtjddbeecnnbebaaGreatDoor
namespace Rows

/-- THE TIED CARD OF 'shoallaw26.SchoolWrites'. -/
def schoolWritesCard : Claim7 := { stood := { row := schoolWritesRow, standIns := [], harness := (true, "95cb567315510d0cd0046e260d0eb30429333a5b9d7c9c6931b1e5e9f725fac3"), looks := false }, kinds := [], alts := [], laidByText := true, laidKinds := [.data], laidTests := true, laidLooks := .later }
def SchoolWritesCardSaid : Prop := Claim7.holds Tryz.pinned (.plain (OpenSpec.ofChange schoolWritesSpec)) schoolWritesCard

/-- THE SECOND FORM's CARD OF 'shoallaw26.SchoolWrites'. -/
def schoolWritesUptoCard : Claim7 := { stood := { row := schoolWritesUptoRow, standIns := [], harness := (true, "95cb567315510d0cd0046e260d0eb30429333a5b9d7c9c6931b1e5e9f725fac3"), looks := false }, kinds := [], alts := [], laidByText := true, laidKinds := [.data], laidTests := true, laidLooks := .later }
def SchoolWritesUptoCardSaid : Prop := Claim7.holds Tryz.pinned (.plain (OpenSpec.upto schoolWritesSpec)) schoolWritesUptoCard
end Rows
end Go.Proofs.YtjddbeecnnbebaaGreatDoor
