/-
  DERIVED. GIVEN WITH THE SEED: THE CARDS: each row of YtjmbmodmepdmjabGreatDoorRows.lean that lists a variable, with what it lists TIED to the program's text (the seventh form; the later family's looks); each row that meets fmt, with fmt's text TOLD by the authors' own Lean function (tested against real Go, not proved from fmt's source: count such statements apart). THE CARD IS WHAT COUNTS. Prove the row's statement (the work); the ties are given (YtjmbmodmepdmjabGreatDoorTie.lean); close each card by the builder's one call (the guide's Derived/Test/ToyasCard.lean, 'card_holds'). Laid BY PROGRAM, IN A SANDBOX (cutbox-door.mjs). By AI agents, Wed Nov 11 2026. No macro, syntax, notation, axiom, sorry.
-/
import Derived.Test.YtjmbmodmepdmjabGreatDoorRows
import GoSem.ClaimSeven
namespace Go.Proofs.YtjmbmodmepdmjabGreatDoor
namespace Rows

/-- THE TIED CARD OF 'configlanglaw05.AutomatonMatches'. -/
def automatonMatchesCard : Claim7 := { stood := { row := automatonMatchesRow, standIns := [], harness := (true, "35f16ecb6cd2c64144ef01d48099e4ea6240956cefeb2f02550a940e23c8543e"), looks := false }, kinds := [], alts := [], laidByText := true, laidKinds := [.data, .data, .data], laidTests := true, laidLooks := .later }
def AutomatonMatchesCardSaid : Prop := Claim7.holds Tryz.pinned (.plain (OpenSpec.ofChange automatonMatchesSpec)) automatonMatchesCard

/-- THE SECOND FORM's CARD OF 'configlanglaw05.AutomatonMatches'. -/
def automatonMatchesUptoCard : Claim7 := { stood := { row := automatonMatchesUptoRow, standIns := [], harness := (true, "35f16ecb6cd2c64144ef01d48099e4ea6240956cefeb2f02550a940e23c8543e"), looks := false }, kinds := [], alts := [], laidByText := true, laidKinds := [.data, .data, .data], laidTests := true, laidLooks := .later }
def AutomatonMatchesUptoCardSaid : Prop := Claim7.holds Tryz.pinned (.plain (OpenSpec.upto automatonMatchesSpec)) automatonMatchesUptoCard
end Rows
end Go.Proofs.YtjmbmodmepdmjabGreatDoor
