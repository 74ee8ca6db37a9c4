/-
  DERIVED. GIVEN WITH THE SEED: THE CARDS: each row of YtlijhnfnceidjaaGreatDoorRows.lean that lists a variable, with what it lists TIED to the program's text (the seventh form; the later family's looks); each row that meets fmt, with fmt's text TOLD by the authors' own Lean function (tested against real Go, not proved from fmt's source: count such statements apart). THE CARD IS WHAT COUNTS. Prove the row's statement (the work); the ties are given (YtlijhnfnceidjaaGreatDoorTie.lean); close each card by the builder's one call (the guide's Derived/Test/ToyasCard.lean, 'card_holds'). Laid BY PROGRAM, IN A SANDBOX (cutbox-door.mjs). By AI agents, Wed Nov 11 2026. No macro, syntax, notation, axiom, sorry.
-/
import Derived.Test.YtlijhnfnceidjaaGreatDoorRows
import GoSem.ClaimSeven
namespace Go.Proofs.YtlijhnfnceidjaaGreatDoor
namespace Rows

/-- THE TIED CARD OF 'configlanglaw23.ConflictSizes'. -/
def conflictSizesCard : Claim7 := { stood := { row := conflictSizesRow, standIns := [], harness := (true, "c78bc9064759ba42c0955143f314e6b9cd63194bbe3228f913ddee4702458619"), looks := false }, kinds := [], alts := [], laidByText := true, laidKinds := [.data, .data, .data], laidTests := true, laidLooks := .later }
def ConflictSizesCardSaid : Prop := Claim7.holds Tryz.pinned (.plain (OpenSpec.ofChange conflictSizesSpec)) conflictSizesCard

/-- THE SECOND FORM's CARD OF 'configlanglaw23.ConflictSizes'. -/
def conflictSizesUptoCard : Claim7 := { stood := { row := conflictSizesUptoRow, standIns := [], harness := (true, "c78bc9064759ba42c0955143f314e6b9cd63194bbe3228f913ddee4702458619"), looks := false }, kinds := [], alts := [], laidByText := true, laidKinds := [.data, .data, .data], laidTests := true, laidLooks := .later }
def ConflictSizesUptoCardSaid : Prop := Claim7.holds Tryz.pinned (.plain (OpenSpec.upto conflictSizesSpec)) conflictSizesUptoCard
end Rows
end Go.Proofs.YtlijhnfnceidjaaGreatDoor
