/-
  DERIVED. GIVEN WITH THE SEED: THE CARDS: each row of YtbeogcbmdbnkiaaGreatDoorRows.lean that lists a variable, with what it lists TIED to the program's text (the seventh form; the later family's looks); each row that meets fmt, with fmt's text TOLD by the authors' own Lean function (tested against real Go, not proved from fmt's source: count such statements apart). THE CARD IS WHAT COUNTS. Prove the row's statement (the work); the ties are given (YtbeogcbmdbnkiaaGreatDoorTie.lean); close each card by the builder's one call (the guide's Derived/Test/ToyasCard.lean, 'card_holds'). Laid BY PROGRAM, IN A SANDBOX (cutbox-door.mjs). By AI agents, Wed Nov 11 2026. No macro, syntax, notation, axiom, sorry.
-/
import Derived.Test.YtbeogcbmdbnkiaaGreatDoorRows
import GoSem.ClaimSeven
namespace Go.Proofs.YtbeogcbmdbnkiaaGreatDoor
namespace Rows

/-- THE TIED CARD OF 'configlanglaw16.LookupChains'. -/
def lookupChainsCard : Claim7 := { stood := { row := lookupChainsRow, standIns := [], harness := (true, "2e333ab615365422145b59b6079d3b4590af53293f17635ce90e3f9be215b8e8"), looks := false }, kinds := [], alts := [], laidByText := true, laidKinds := [.data, .data, .data], laidTests := true, laidLooks := .later }
def LookupChainsCardSaid : Prop := Claim7.holds Tryz.pinned (.plain (OpenSpec.ofChange lookupChainsSpec)) lookupChainsCard

/-- THE SECOND FORM's CARD OF 'configlanglaw16.LookupChains'. -/
def lookupChainsUptoCard : Claim7 := { stood := { row := lookupChainsUptoRow, standIns := [], harness := (true, "2e333ab615365422145b59b6079d3b4590af53293f17635ce90e3f9be215b8e8"), looks := false }, kinds := [], alts := [], laidByText := true, laidKinds := [.data, .data, .data], laidTests := true, laidLooks := .later }
def LookupChainsUptoCardSaid : Prop := Claim7.holds Tryz.pinned (.plain (OpenSpec.upto lookupChainsSpec)) lookupChainsUptoCard
end Rows
end Go.Proofs.YtbeogcbmdbnkiaaGreatDoor
