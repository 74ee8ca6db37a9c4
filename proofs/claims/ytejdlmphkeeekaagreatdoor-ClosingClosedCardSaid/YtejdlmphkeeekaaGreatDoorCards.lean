/-
  DERIVED. GIVEN WITH THE SEED: THE CARDS: each row of YtejdlmphkeeekaaGreatDoorRows.lean that lists a variable, with what it lists TIED to the program's text (the seventh form; the later family's looks); each row that meets fmt, with fmt's text TOLD by the authors' own Lean function (tested against real Go, not proved from fmt's source: count such statements apart). THE CARD IS WHAT COUNTS. Prove the row's statement (the work); the ties are given (YtejdlmphkeeekaaGreatDoorTie.lean); close each card by the builder's one call (the guide's Derived/Test/ToyasCard.lean, 'card_holds'). Laid BY PROGRAM, IN A SANDBOX (cutbox-door.mjs). By AI agents, Wed Nov 11 2026. No macro, syntax, notation, axiom, sorry.
-/
import Derived.Test.YtejdlmphkeeekaaGreatDoorRows
import GoSem.ClaimSeven
namespace Go.Proofs.YtejdlmphkeeekaaGreatDoor
namespace Rows

/-- THE TIED CARD OF 'configlanglaw17.ClosingClosed'. -/
def closingClosedCard : Claim7 := { stood := { row := closingClosedRow, standIns := [], harness := (true, "2d6f346ef8cce2f7297d23fdb3512fc220fbc6c23431736ec55198244c0a5011"), looks := false }, kinds := [], alts := [], laidByText := true, laidKinds := [.data, .data, .data], laidTests := true, laidLooks := .later }
def ClosingClosedCardSaid : Prop := Claim7.holds Tryz.pinned (.plain (OpenSpec.ofChange closingClosedSpec)) closingClosedCard

/-- THE SECOND FORM's CARD OF 'configlanglaw17.ClosingClosed'. -/
def closingClosedUptoCard : Claim7 := { stood := { row := closingClosedUptoRow, standIns := [], harness := (true, "2d6f346ef8cce2f7297d23fdb3512fc220fbc6c23431736ec55198244c0a5011"), looks := false }, kinds := [], alts := [], laidByText := true, laidKinds := [.data, .data, .data], laidTests := true, laidLooks := .later }
def ClosingClosedUptoCardSaid : Prop := Claim7.holds Tryz.pinned (.plain (OpenSpec.upto closingClosedSpec)) closingClosedUptoCard
end Rows
end Go.Proofs.YtejdlmphkeeekaaGreatDoor
