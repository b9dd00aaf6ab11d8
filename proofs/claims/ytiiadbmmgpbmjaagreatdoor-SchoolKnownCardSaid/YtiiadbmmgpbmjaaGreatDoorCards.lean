/-
  DERIVED. GIVEN WITH THE SEED: THE CARDS: each row of YtiiadbmmgpbmjaaGreatDoorRows.lean that lists a variable, with what it lists TIED to the program's text (the seventh form; the later family's looks); each row that meets fmt, with fmt's text TOLD by the authors' own Lean function (tested against real Go, not proved from fmt's source: count such statements apart). THE CARD IS WHAT COUNTS. Prove the row's statement (the work); the ties are given (YtiiadbmmgpbmjaaGreatDoorTie.lean); close each card by the builder's one call (the guide's Derived/Test/ToyasCard.lean, 'card_holds'). Laid BY PROGRAM, IN A SANDBOX (cutbox-door.mjs). By AI agents, Wed Nov 11 2026. No macro, syntax, notation, axiom, sorry.
-/
import Derived.Test.YtiiadbmmgpbmjaaGreatDoorRows
import GoSem.ClaimSeven
namespace Go.Proofs.YtiiadbmmgpbmjaaGreatDoor
namespace Rows

/-- THE TIED CARD OF 'shoallaw26.SchoolKnown'. -/
def schoolKnownCard : Claim7 := { stood := { row := schoolKnownRow, standIns := [], harness := (true, "e82ab1623ffb8ba02e9dbaf2c7805d348cbaff22b56e696ee3db61b0a72f2efa"), looks := false }, kinds := [], alts := [], laidByText := true, laidKinds := [.data], laidTests := true, laidLooks := .later }
def SchoolKnownCardSaid : Prop := Claim7.holds Tryz.pinned (.plain (OpenSpec.ofChange schoolKnownSpec)) schoolKnownCard

/-- THE SECOND FORM's CARD OF 'shoallaw26.SchoolKnown'. -/
def schoolKnownUptoCard : Claim7 := { stood := { row := schoolKnownUptoRow, standIns := [], harness := (true, "e82ab1623ffb8ba02e9dbaf2c7805d348cbaff22b56e696ee3db61b0a72f2efa"), looks := false }, kinds := [], alts := [], laidByText := true, laidKinds := [.data], laidTests := true, laidLooks := .later }
def SchoolKnownUptoCardSaid : Prop := Claim7.holds Tryz.pinned (.plain (OpenSpec.upto schoolKnownSpec)) schoolKnownUptoCard
end Rows
end Go.Proofs.YtiiadbmmgpbmjaaGreatDoor
