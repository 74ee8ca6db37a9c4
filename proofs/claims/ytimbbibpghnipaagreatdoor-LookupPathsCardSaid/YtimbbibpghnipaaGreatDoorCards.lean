/-
  DERIVED. GIVEN WITH THE SEED: THE CARDS: each row of YtimbbibpghnipaaGreatDoorRows.lean that lists a variable, with what it lists TIED to the program's text (the seventh form; the later family's looks); each row that meets fmt, with fmt's text TOLD by the authors' own Lean function (tested against real Go, not proved from fmt's source: count such statements apart). THE CARD IS WHAT COUNTS. Prove the row's statement (the work); the ties are given (YtimbbibpghnipaaGreatDoorTie.lean); close each card by the builder's one call (the guide's Derived/Test/ToyasCard.lean, 'card_holds'). Laid BY PROGRAM, IN A SANDBOX (cutbox-door.mjs). By AI agents, Wed Nov 11 2026. No macro, syntax, notation, axiom, sorry.
-/
import Derived.Test.YtimbbibpghnipaaGreatDoorRows
import GoSem.ClaimSeven
namespace Go.Proofs.YtimbbibpghnipaaGreatDoor
namespace Rows

/-- THE TIED CARD OF 'configlanglaw16.LookupSelects'. -/
def lookupSelectsCard : Claim7 := { stood := { row := lookupSelectsRow, standIns := [], harness := (true, "9feadbe9c31c9b6e7f1609e234512b8846b058c69d64bcb38d8304a3287b4cb4"), looks := false }, kinds := [], alts := [], laidByText := true, laidKinds := [.data, .data, .data], laidTests := true, laidLooks := .later }
def LookupSelectsCardSaid : Prop := Claim7.holds Tryz.pinned (.plain (OpenSpec.ofChange lookupSelectsSpec)) lookupSelectsCard

/-- THE TIED CARD OF 'configlanglaw16.LookupKinds'. -/
def lookupKindsCard : Claim7 := { stood := { row := lookupKindsRow, standIns := [], harness := (true, "9feadbe9c31c9b6e7f1609e234512b8846b058c69d64bcb38d8304a3287b4cb4"), looks := false }, kinds := [], alts := [], laidByText := true, laidKinds := [.data, .data, .data], laidTests := true, laidLooks := .later }
def LookupKindsCardSaid : Prop := Claim7.holds Tryz.pinned (.plain (OpenSpec.ofChange lookupKindsSpec)) lookupKindsCard

/-- THE TIED CARD OF 'configlanglaw16.LookupIndexes'. -/
def lookupIndexesCard : Claim7 := { stood := { row := lookupIndexesRow, standIns := [], harness := (true, "9feadbe9c31c9b6e7f1609e234512b8846b058c69d64bcb38d8304a3287b4cb4"), looks := false }, kinds := [], alts := [], laidByText := true, laidKinds := [.data, .data, .data], laidTests := true, laidLooks := .later }
def LookupIndexesCardSaid : Prop := Claim7.holds Tryz.pinned (.plain (OpenSpec.ofChange lookupIndexesSpec)) lookupIndexesCard

/-- THE TIED CARD OF 'configlanglaw16.LookupItems'. -/
def lookupItemsCard : Claim7 := { stood := { row := lookupItemsRow, standIns := [], harness := (true, "9feadbe9c31c9b6e7f1609e234512b8846b058c69d64bcb38d8304a3287b4cb4"), looks := false }, kinds := [], alts := [], laidByText := true, laidKinds := [.data, .data, .data], laidTests := true, laidLooks := .later }
def LookupItemsCardSaid : Prop := Claim7.holds Tryz.pinned (.plain (OpenSpec.ofChange lookupItemsSpec)) lookupItemsCard

/-- THE TIED CARD OF 'configlanglaw16.LookupLabels'. -/
def lookupLabelsCard : Claim7 := { stood := { row := lookupLabelsRow, standIns := [], harness := (true, "9feadbe9c31c9b6e7f1609e234512b8846b058c69d64bcb38d8304a3287b4cb4"), looks := false }, kinds := [], alts := [], laidByText := true, laidKinds := [.data, .data, .data], laidTests := true, laidLooks := .later }
def LookupLabelsCardSaid : Prop := Claim7.holds Tryz.pinned (.plain (OpenSpec.ofChange lookupLabelsSpec)) lookupLabelsCard

/-- THE TIED CARD OF 'configlanglaw16.LookupPaths'. -/
def lookupPathsCard : Claim7 := { stood := { row := lookupPathsRow, standIns := [], harness := (true, "9feadbe9c31c9b6e7f1609e234512b8846b058c69d64bcb38d8304a3287b4cb4"), looks := false }, kinds := [], alts := [], laidByText := true, laidKinds := [.data, .data, .data], laidTests := true, laidLooks := .later }
def LookupPathsCardSaid : Prop := Claim7.holds Tryz.pinned (.plain (OpenSpec.ofChange lookupPathsSpec)) lookupPathsCard

/-- THE SECOND FORM's CARD OF 'configlanglaw16.LookupSelects'. -/
def lookupSelectsUptoCard : Claim7 := { stood := { row := lookupSelectsUptoRow, standIns := [], harness := (true, "9feadbe9c31c9b6e7f1609e234512b8846b058c69d64bcb38d8304a3287b4cb4"), looks := false }, kinds := [], alts := [], laidByText := true, laidKinds := [.data, .data, .data], laidTests := true, laidLooks := .later }
def LookupSelectsUptoCardSaid : Prop := Claim7.holds Tryz.pinned (.plain (OpenSpec.upto lookupSelectsSpec)) lookupSelectsUptoCard

/-- THE SECOND FORM's CARD OF 'configlanglaw16.LookupKinds'. -/
def lookupKindsUptoCard : Claim7 := { stood := { row := lookupKindsUptoRow, standIns := [], harness := (true, "9feadbe9c31c9b6e7f1609e234512b8846b058c69d64bcb38d8304a3287b4cb4"), looks := false }, kinds := [], alts := [], laidByText := true, laidKinds := [.data, .data, .data], laidTests := true, laidLooks := .later }
def LookupKindsUptoCardSaid : Prop := Claim7.holds Tryz.pinned (.plain (OpenSpec.upto lookupKindsSpec)) lookupKindsUptoCard

/-- THE SECOND FORM's CARD OF 'configlanglaw16.LookupIndexes'. -/
def lookupIndexesUptoCard : Claim7 := { stood := { row := lookupIndexesUptoRow, standIns := [], harness := (true, "9feadbe9c31c9b6e7f1609e234512b8846b058c69d64bcb38d8304a3287b4cb4"), looks := false }, kinds := [], alts := [], laidByText := true, laidKinds := [.data, .data, .data], laidTests := true, laidLooks := .later }
def LookupIndexesUptoCardSaid : Prop := Claim7.holds Tryz.pinned (.plain (OpenSpec.upto lookupIndexesSpec)) lookupIndexesUptoCard

/-- THE SECOND FORM's CARD OF 'configlanglaw16.LookupItems'. -/
def lookupItemsUptoCard : Claim7 := { stood := { row := lookupItemsUptoRow, standIns := [], harness := (true, "9feadbe9c31c9b6e7f1609e234512b8846b058c69d64bcb38d8304a3287b4cb4"), looks := false }, kinds := [], alts := [], laidByText := true, laidKinds := [.data, .data, .data], laidTests := true, laidLooks := .later }
def LookupItemsUptoCardSaid : Prop := Claim7.holds Tryz.pinned (.plain (OpenSpec.upto lookupItemsSpec)) lookupItemsUptoCard

/-- THE SECOND FORM's CARD OF 'configlanglaw16.LookupLabels'. -/
def lookupLabelsUptoCard : Claim7 := { stood := { row := lookupLabelsUptoRow, standIns := [], harness := (true, "9feadbe9c31c9b6e7f1609e234512b8846b058c69d64bcb38d8304a3287b4cb4"), looks := false }, kinds := [], alts := [], laidByText := true, laidKinds := [.data, .data, .data], laidTests := true, laidLooks := .later }
def LookupLabelsUptoCardSaid : Prop := Claim7.holds Tryz.pinned (.plain (OpenSpec.upto lookupLabelsSpec)) lookupLabelsUptoCard

/-- THE SECOND FORM's CARD OF 'configlanglaw16.LookupPaths'. -/
def lookupPathsUptoCard : Claim7 := { stood := { row := lookupPathsUptoRow, standIns := [], harness := (true, "9feadbe9c31c9b6e7f1609e234512b8846b058c69d64bcb38d8304a3287b4cb4"), looks := false }, kinds := [], alts := [], laidByText := true, laidKinds := [.data, .data, .data], laidTests := true, laidLooks := .later }
def LookupPathsUptoCardSaid : Prop := Claim7.holds Tryz.pinned (.plain (OpenSpec.upto lookupPathsSpec)) lookupPathsUptoCard
end Rows
end Go.Proofs.YtimbbibpghnipaaGreatDoor
