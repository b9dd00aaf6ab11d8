/-
  DERIVED. GIVEN WITH THE SEED: THE CARDS: each row of YtkcogdalihcamaaGreatDoorRows.lean that lists a variable, with what it lists TIED to the program's text (the seventh form; the later family's looks); each row that meets fmt, with fmt's text TOLD by the authors' own Lean function (tested against real Go, not proved from fmt's source: count such statements apart). THE CARD IS WHAT COUNTS. Prove the row's statement (the work); the ties are given (YtkcogdalihcamaaGreatDoorTie.lean); close each card by the builder's one call (the guide's Derived/Test/ToyasCard.lean, 'card_holds'). Laid BY PROGRAM, IN A SANDBOX (cutbox-door.mjs). By AI agents, Wed Nov 11 2026. No macro, syntax, notation, axiom, sorry.
-/
import Derived.Test.YtkcogdalihcamaaGreatDoorRows
import GoSem.ClaimSeven
namespace Go.Proofs.YtkcogdalihcamaaGreatDoor
namespace Rows

/-- THE TIED CARD OF 'shoaltop.TopFloats'. -/
def topFloatsCard : Claim7 := { stood := { row := topFloatsRow, standIns := [], harness := (true, "0e5183e3c596e03244a202978897ff61f7f9349f2d81e82e1f3f99bb5bb9a07b"), looks := false }, kinds := [], alts := [], laidByText := true, laidKinds := [.data], laidTests := true, laidLooks := .later }
def TopFloatsCardSaid : Prop := Claim7.holds Tryz.pinned (.plain (OpenSpec.ofChange topFloatsSpec)) topFloatsCard

/-- THE TIED CARD OF 'shoaltop.TopReads'. -/
def topReadsCard : Claim7 := { stood := { row := topReadsRow, standIns := [], harness := (true, "0e5183e3c596e03244a202978897ff61f7f9349f2d81e82e1f3f99bb5bb9a07b"), looks := false }, kinds := [], alts := [], laidByText := true, laidKinds := [.data], laidTests := true, laidLooks := .later }
def TopReadsCardSaid : Prop := Claim7.holds Tryz.pinned (.plain (OpenSpec.ofChange topReadsSpec)) topReadsCard

/-- THE TIED CARD OF 'shoaltop.TopBusy'. -/
def topBusyCard : Claim7 := { stood := { row := topBusyRow, standIns := [], harness := (true, "0e5183e3c596e03244a202978897ff61f7f9349f2d81e82e1f3f99bb5bb9a07b"), looks := false }, kinds := [], alts := [], laidByText := true, laidKinds := [.data], laidTests := true, laidLooks := .later }
def TopBusyCardSaid : Prop := Claim7.holds Tryz.pinned (.plain (OpenSpec.ofChange topBusySpec)) topBusyCard

/-- THE SECOND FORM's CARD OF 'shoaltop.TopFloats'. -/
def topFloatsUptoCard : Claim7 := { stood := { row := topFloatsUptoRow, standIns := [], harness := (true, "0e5183e3c596e03244a202978897ff61f7f9349f2d81e82e1f3f99bb5bb9a07b"), looks := false }, kinds := [], alts := [], laidByText := true, laidKinds := [.data], laidTests := true, laidLooks := .later }
def TopFloatsUptoCardSaid : Prop := Claim7.holds Tryz.pinned (.plain (OpenSpec.upto topFloatsSpec)) topFloatsUptoCard

/-- THE SECOND FORM's CARD OF 'shoaltop.TopReads'. -/
def topReadsUptoCard : Claim7 := { stood := { row := topReadsUptoRow, standIns := [], harness := (true, "0e5183e3c596e03244a202978897ff61f7f9349f2d81e82e1f3f99bb5bb9a07b"), looks := false }, kinds := [], alts := [], laidByText := true, laidKinds := [.data], laidTests := true, laidLooks := .later }
def TopReadsUptoCardSaid : Prop := Claim7.holds Tryz.pinned (.plain (OpenSpec.upto topReadsSpec)) topReadsUptoCard

/-- THE SECOND FORM's CARD OF 'shoaltop.TopBusy'. -/
def topBusyUptoCard : Claim7 := { stood := { row := topBusyUptoRow, standIns := [], harness := (true, "0e5183e3c596e03244a202978897ff61f7f9349f2d81e82e1f3f99bb5bb9a07b"), looks := false }, kinds := [], alts := [], laidByText := true, laidKinds := [.data], laidTests := true, laidLooks := .later }
def TopBusyUptoCardSaid : Prop := Claim7.holds Tryz.pinned (.plain (OpenSpec.upto topBusySpec)) topBusyUptoCard
end Rows
end Go.Proofs.YtkcogdalihcamaaGreatDoor
