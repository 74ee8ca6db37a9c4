/-
  DERIVED. GIVEN WITH THE SEED: THE CARDS: each row of YtjmbmodmepdmjaaGreatDoorRows.lean that lists a variable, with what it lists TIED to the program's text (the seventh form; the later family's looks); each row that meets fmt, with fmt's text TOLD by the authors' own Lean function (tested against real Go, not proved from fmt's source: count such statements apart). THE CARD IS WHAT COUNTS. Prove the row's statement (the work); the ties are given (YtjmbmodmepdmjaaGreatDoorTie.lean); close each card by the builder's one call (the guide's Derived/Test/ToyasCard.lean, 'card_holds'). Laid BY PROGRAM, IN A SANDBOX (cutbox-door.mjs). By AI agents, Wed Nov 11 2026. No macro, syntax, notation, axiom, sorry.
-/
import Derived.Test.YtjmbmodmepdmjaaGreatDoorRows
import GoSem.ClaimSeven
namespace Go.Proofs.YtjmbmodmepdmjaaGreatDoor
namespace Rows

/-- THE TIED CARD OF 'configlanglaw05.AutomatonMinimal'. -/
def automatonMinimalCard : Claim7 := { stood := { row := automatonMinimalRow, standIns := [], harness := (true, "4bdf666b8359041719ea2b7fe2f3733ea42eadd12d4e50123faf3e3b668d7dc3"), looks := false }, kinds := [], alts := [], laidByText := true, laidKinds := [.data, .data, .data], laidTests := true, laidLooks := .later }
def AutomatonMinimalCardSaid : Prop := Claim7.holds Tryz.pinned (.plain (OpenSpec.ofChange automatonMinimalSpec)) automatonMinimalCard

/-- THE TIED CARD OF 'configlanglaw05.AutomatonOf'. -/
def automatonOfCard : Claim7 := { stood := { row := automatonOfRow, standIns := [], harness := (true, "4bdf666b8359041719ea2b7fe2f3733ea42eadd12d4e50123faf3e3b668d7dc3"), looks := false }, kinds := [], alts := [], laidByText := true, laidKinds := [.data, .data, .data], laidTests := true, laidLooks := .later }
def AutomatonOfCardSaid : Prop := Claim7.holds Tryz.pinned (.plain (OpenSpec.ofChange automatonOfSpec)) automatonOfCard

/-- THE TIED CARD OF 'configlanglaw05.AutomatonCanonical'. -/
def automatonCanonicalCard : Claim7 := { stood := { row := automatonCanonicalRow, standIns := [], harness := (true, "4bdf666b8359041719ea2b7fe2f3733ea42eadd12d4e50123faf3e3b668d7dc3"), looks := false }, kinds := [], alts := [], laidByText := true, laidKinds := [.data, .data, .data], laidTests := true, laidLooks := .later }
def AutomatonCanonicalCardSaid : Prop := Claim7.holds Tryz.pinned (.plain (OpenSpec.ofChange automatonCanonicalSpec)) automatonCanonicalCard

/-- THE SECOND FORM's CARD OF 'configlanglaw05.AutomatonMinimal'. -/
def automatonMinimalUptoCard : Claim7 := { stood := { row := automatonMinimalUptoRow, standIns := [], harness := (true, "4bdf666b8359041719ea2b7fe2f3733ea42eadd12d4e50123faf3e3b668d7dc3"), looks := false }, kinds := [], alts := [], laidByText := true, laidKinds := [.data, .data, .data], laidTests := true, laidLooks := .later }
def AutomatonMinimalUptoCardSaid : Prop := Claim7.holds Tryz.pinned (.plain (OpenSpec.upto automatonMinimalSpec)) automatonMinimalUptoCard

/-- THE SECOND FORM's CARD OF 'configlanglaw05.AutomatonOf'. -/
def automatonOfUptoCard : Claim7 := { stood := { row := automatonOfUptoRow, standIns := [], harness := (true, "4bdf666b8359041719ea2b7fe2f3733ea42eadd12d4e50123faf3e3b668d7dc3"), looks := false }, kinds := [], alts := [], laidByText := true, laidKinds := [.data, .data, .data], laidTests := true, laidLooks := .later }
def AutomatonOfUptoCardSaid : Prop := Claim7.holds Tryz.pinned (.plain (OpenSpec.upto automatonOfSpec)) automatonOfUptoCard

/-- THE SECOND FORM's CARD OF 'configlanglaw05.AutomatonCanonical'. -/
def automatonCanonicalUptoCard : Claim7 := { stood := { row := automatonCanonicalUptoRow, standIns := [], harness := (true, "4bdf666b8359041719ea2b7fe2f3733ea42eadd12d4e50123faf3e3b668d7dc3"), looks := false }, kinds := [], alts := [], laidByText := true, laidKinds := [.data, .data, .data], laidTests := true, laidLooks := .later }
def AutomatonCanonicalUptoCardSaid : Prop := Claim7.holds Tryz.pinned (.plain (OpenSpec.upto automatonCanonicalSpec)) automatonCanonicalUptoCard
end Rows
end Go.Proofs.YtjmbmodmepdmjaaGreatDoor
