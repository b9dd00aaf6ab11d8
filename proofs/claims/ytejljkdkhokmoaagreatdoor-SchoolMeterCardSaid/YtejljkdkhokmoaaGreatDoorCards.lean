/-
  DERIVED. GIVEN WITH THE SEED: THE CARDS: each row of YtejljkdkhokmoaaGreatDoorRows.lean that lists a variable, with what it lists TIED to the program's text (the seventh form; the later family's looks); each row that meets fmt, with fmt's text TOLD by the authors' own Lean function (tested against real Go, not proved from fmt's source: count such statements apart). THE CARD IS WHAT COUNTS. Prove the row's statement (the work); the ties are given (YtejljkdkhokmoaaGreatDoorTie.lean); close each card by the builder's one call (the guide's Derived/Test/ToyasCard.lean, 'card_holds'). Laid BY PROGRAM, IN A SANDBOX (cutbox-door.mjs). By AI agents, Wed Nov 11 2026. No macro, syntax, notation, axiom, sorry.
-/
import Derived.Test.YtejljkdkhokmoaaGreatDoorRows
import GoSem.ClaimSeven
namespace Go.Proofs.YtejljkdkhokmoaaGreatDoor
namespace Rows

/-- THE TIED CARD OF 'shoallaw26.SchoolMeter'. -/
def schoolMeterCard : Claim7 := { stood := { row := schoolMeterRow, standIns := [], harness := (true, "29b6a962b50e583c33a6c10de48b98eef995b3366e82feaaf9a9388fd1f69610"), looks := false }, kinds := [], alts := [], laidByText := true, laidKinds := [.data], laidTests := true, laidLooks := .later }
def SchoolMeterCardSaid : Prop := Claim7.holds Tryz.pinned (.plain (OpenSpec.ofChange schoolMeterSpec)) schoolMeterCard

/-- THE SECOND FORM's CARD OF 'shoallaw26.SchoolMeter'. -/
def schoolMeterUptoCard : Claim7 := { stood := { row := schoolMeterUptoRow, standIns := [], harness := (true, "29b6a962b50e583c33a6c10de48b98eef995b3366e82feaaf9a9388fd1f69610"), looks := false }, kinds := [], alts := [], laidByText := true, laidKinds := [.data], laidTests := true, laidLooks := .later }
def SchoolMeterUptoCardSaid : Prop := Claim7.holds Tryz.pinned (.plain (OpenSpec.upto schoolMeterSpec)) schoolMeterUptoCard
end Rows
end Go.Proofs.YtejljkdkhokmoaaGreatDoor
