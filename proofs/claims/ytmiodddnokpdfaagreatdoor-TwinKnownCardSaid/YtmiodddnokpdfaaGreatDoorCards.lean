/-
  DERIVED. GIVEN WITH THE SEED: THE CARDS: each row of YtmiodddnokpdfaaGreatDoorRows.lean that lists a variable, with what it lists TIED to the program's text (the seventh form; the later family's looks); each row that meets fmt, with fmt's text TOLD by the authors' own Lean function (tested against real Go, not proved from fmt's source: count such statements apart). THE CARD IS WHAT COUNTS. Prove the row's statement (the work); the ties are given (YtmiodddnokpdfaaGreatDoorTie.lean); close each card by the builder's one call (the guide's Derived/Test/ToyasCard.lean, 'card_holds'). Laid BY PROGRAM, IN A SANDBOX (cutbox-door.mjs). By AI agents, Wed Nov 11 2026. No macro, syntax, notation, axiom, sorry.
-/
import Derived.Test.YtmiodddnokpdfaaGreatDoorRows
import GoSem.ClaimSeven
namespace Go.Proofs.YtmiodddnokpdfaaGreatDoor
namespace Rows

/-- THE TIED CARD OF 'shoallaw27.TwinKnown'. -/
def twinKnownCard : Claim7 := { stood := { row := twinKnownRow, standIns := [], harness := (true, "3b61dac5cdcc00b31f7218ae878588be919faca1b5c8dc301a8a95cec7bfae86"), looks := false }, kinds := [], alts := [], laidByText := true, laidKinds := [.data], laidTests := true, laidLooks := .later }
def TwinKnownCardSaid : Prop := Claim7.holds Tryz.pinned (.plain (OpenSpec.ofChange twinKnownSpec)) twinKnownCard

/-- THE SECOND FORM's CARD OF 'shoallaw27.TwinKnown'. -/
def twinKnownUptoCard : Claim7 := { stood := { row := twinKnownUptoRow, standIns := [], harness := (true, "3b61dac5cdcc00b31f7218ae878588be919faca1b5c8dc301a8a95cec7bfae86"), looks := false }, kinds := [], alts := [], laidByText := true, laidKinds := [.data], laidTests := true, laidLooks := .later }
def TwinKnownUptoCardSaid : Prop := Claim7.holds Tryz.pinned (.plain (OpenSpec.upto twinKnownSpec)) twinKnownUptoCard
end Rows
end Go.Proofs.YtmiodddnokpdfaaGreatDoor
