/-
  DERIVED. GIVEN WITH THE SEED: THE CARDS: each row of YtkjngekgpgejnaaGreatDoorRows.lean that lists a variable, with what it lists TIED to the program's text (the seventh form; the later family's looks); each row that meets fmt, with fmt's text TOLD by the authors' own Lean function (tested against real Go, not proved from fmt's source: count such statements apart). THE CARD IS WHAT COUNTS. Prove the row's statement (the work); the ties are given (YtkjngekgpgejnaaGreatDoorTie.lean); close each card by the builder's one call (the guide's Derived/Test/ToyasCard.lean, 'card_holds'). Laid BY PROGRAM, IN A SANDBOX (cutbox-door.mjs). By AI agents, Wed Nov 11 2026. No macro, syntax, notation, axiom, sorry.
-/
import Derived.Test.YtkjngekgpgejnaaGreatDoorRows
import GoSem.ClaimSeven
namespace Go.Proofs.YtkjngekgpgejnaaGreatDoor
namespace Rows

/-- THE TIED CARD OF 'configlanglaw16.LookupAgrees'. -/
def lookupAgreesCard : Claim7 := { stood := { row := lookupAgreesRow, standIns := [], harness := (true, "bcc8f941bc58d2d745f2b700127539e7e6bc751d52b889502f0e8c6fba20c83d"), looks := false }, kinds := [], alts := [], laidByText := true, laidKinds := [.data, .data, .data], laidTests := true, laidLooks := .later }
def LookupAgreesCardSaid : Prop := Claim7.holds Tryz.pinned (.plain (OpenSpec.ofChange lookupAgreesSpec)) lookupAgreesCard

/-- THE SECOND FORM's CARD OF 'configlanglaw16.LookupAgrees'. -/
def lookupAgreesUptoCard : Claim7 := { stood := { row := lookupAgreesUptoRow, standIns := [], harness := (true, "bcc8f941bc58d2d745f2b700127539e7e6bc751d52b889502f0e8c6fba20c83d"), looks := false }, kinds := [], alts := [], laidByText := true, laidKinds := [.data, .data, .data], laidTests := true, laidLooks := .later }
def LookupAgreesUptoCardSaid : Prop := Claim7.holds Tryz.pinned (.plain (OpenSpec.upto lookupAgreesSpec)) lookupAgreesUptoCard
end Rows
end Go.Proofs.YtkjngekgpgejnaaGreatDoor
