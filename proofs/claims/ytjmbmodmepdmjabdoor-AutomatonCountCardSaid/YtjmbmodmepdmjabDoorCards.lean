/-
  DERIVED. GIVEN WITH THE SEED: THE CARDS: each row of YtjmbmodmepdmjabDoorRows.lean that lists a variable, with what it lists TIED to the program's text (the seventh form; the later family's looks); each row that meets fmt, with fmt's text TOLD by the authors' own Lean function (tested against real Go, not proved from fmt's source: count such statements apart). THE CARD IS WHAT COUNTS. Prove the row's statement (the work); the ties are given (YtjmbmodmepdmjabDoorTie.lean); close each card by the builder's one call (the guide's Derived/Test/ToyasCard.lean, 'card_holds'). Laid BY PROGRAM, IN A SANDBOX (cutbox-door.mjs). By AI agents, Wed Nov 11 2026. No macro, syntax, notation, axiom, sorry.
-/
import Derived.Test.YtjmbmodmepdmjabDoorRows
import GoSem.ClaimSeven
namespace Go.Proofs.YtjmbmodmepdmjabDoor
namespace Rows

/-- THE TIED CARD OF 'configlanglaw05.AutomatonRenames'. -/
def automatonRenamesCard : Claim7 := { stood := { row := automatonRenamesRow, standIns := [], harness := (true, "3240e9c6b30d17e01a081e43b7f9cde971fec9104fea3003af630f28b0b5967b"), looks := false }, kinds := [], alts := [], laidByText := true, laidKinds := [.data, .data, .data], laidTests := true, laidLooks := .later }
def AutomatonRenamesCardSaid : Prop := Claim7.holds Tryd.pinned (.plain (OpenSpec.ofChange automatonRenamesSpec)) automatonRenamesCard

/-- THE TIED CARD OF 'configlanglaw05.AutomatonCount'. -/
def automatonCountCard : Claim7 := { stood := { row := automatonCountRow, standIns := [], harness := (true, "3240e9c6b30d17e01a081e43b7f9cde971fec9104fea3003af630f28b0b5967b"), looks := false }, kinds := [], alts := [], laidByText := true, laidKinds := [.data, .data, .data], laidTests := true, laidLooks := .later }
def AutomatonCountCardSaid : Prop := Claim7.holds Tryd.pinned (.plain (OpenSpec.ofChange automatonCountSpec)) automatonCountCard

/-- THE SECOND FORM's CARD OF 'configlanglaw05.AutomatonRenames'. -/
def automatonRenamesUptoCard : Claim7 := { stood := { row := automatonRenamesUptoRow, standIns := [], harness := (true, "3240e9c6b30d17e01a081e43b7f9cde971fec9104fea3003af630f28b0b5967b"), looks := false }, kinds := [], alts := [], laidByText := true, laidKinds := [.data, .data, .data], laidTests := true, laidLooks := .later }
def AutomatonRenamesUptoCardSaid : Prop := Claim7.holds Tryd.pinned (.plain (OpenSpec.upto automatonRenamesSpec)) automatonRenamesUptoCard

/-- THE SECOND FORM's CARD OF 'configlanglaw05.AutomatonCount'. -/
def automatonCountUptoCard : Claim7 := { stood := { row := automatonCountUptoRow, standIns := [], harness := (true, "3240e9c6b30d17e01a081e43b7f9cde971fec9104fea3003af630f28b0b5967b"), looks := false }, kinds := [], alts := [], laidByText := true, laidKinds := [.data, .data, .data], laidTests := true, laidLooks := .later }
def AutomatonCountUptoCardSaid : Prop := Claim7.holds Tryd.pinned (.plain (OpenSpec.upto automatonCountSpec)) automatonCountUptoCard
end Rows
end Go.Proofs.YtjmbmodmepdmjabDoor
