/-
  DERIVED. GIVEN WITH THE SEED: THE CARDS: each row of YtjmbmodmepdmjaaDoorRows.lean that lists a variable, with what it lists TIED to the program's text (the seventh form; the later family's looks); each row that meets fmt, with fmt's text TOLD by the authors' own Lean function (tested against real Go, not proved from fmt's source: count such statements apart). THE CARD IS WHAT COUNTS. Prove the row's statement (the work); the ties are given (YtjmbmodmepdmjaaDoorTie.lean); close each card by the builder's one call (the guide's Derived/Test/ToyasCard.lean, 'card_holds'). Laid BY PROGRAM, IN A SANDBOX (cutbox-door.mjs). By AI agents, Wed Nov 11 2026. No macro, syntax, notation, axiom, sorry.
-/
import Derived.Test.YtjmbmodmepdmjaaDoorRows
import GoSem.ClaimSeven
namespace Go.Proofs.YtjmbmodmepdmjaaDoor
namespace Rows

/-- THE TIED CARD OF 'configlanglaw05.AutomatonAccepts'. -/
def automatonAcceptsCard : Claim7 := { stood := { row := automatonAcceptsRow, standIns := [], harness := (true, "419cab811ac13a5a2fa4a2d00391a63b75153616f1e149244465be0d563d9c37"), looks := false }, kinds := [], alts := [], laidByText := true, laidKinds := [.data, .data, .data], laidTests := true, laidLooks := .later }
def AutomatonAcceptsCardSaid : Prop := Claim7.holds Tryd.pinned (.plain (OpenSpec.ofChange automatonAcceptsSpec)) automatonAcceptsCard

/-- THE TIED CARD OF 'configlanglaw05.AutomatonWords'. -/
def automatonWordsCard : Claim7 := { stood := { row := automatonWordsRow, standIns := [], harness := (true, "419cab811ac13a5a2fa4a2d00391a63b75153616f1e149244465be0d563d9c37"), looks := false }, kinds := [], alts := [], laidByText := true, laidKinds := [.data, .data, .data], laidTests := true, laidLooks := .later }
def AutomatonWordsCardSaid : Prop := Claim7.holds Tryd.pinned (.plain (OpenSpec.ofChange automatonWordsSpec)) automatonWordsCard

/-- THE TIED CARD OF 'configlanglaw05.AutomatonKeeps'. -/
def automatonKeepsCard : Claim7 := { stood := { row := automatonKeepsRow, standIns := [], harness := (true, "419cab811ac13a5a2fa4a2d00391a63b75153616f1e149244465be0d563d9c37"), looks := false }, kinds := [], alts := [], laidByText := true, laidKinds := [.data, .data, .data], laidTests := true, laidLooks := .later }
def AutomatonKeepsCardSaid : Prop := Claim7.holds Tryd.pinned (.plain (OpenSpec.ofChange automatonKeepsSpec)) automatonKeepsCard

/-- THE SECOND FORM's CARD OF 'configlanglaw05.AutomatonAccepts'. -/
def automatonAcceptsUptoCard : Claim7 := { stood := { row := automatonAcceptsUptoRow, standIns := [], harness := (true, "419cab811ac13a5a2fa4a2d00391a63b75153616f1e149244465be0d563d9c37"), looks := false }, kinds := [], alts := [], laidByText := true, laidKinds := [.data, .data, .data], laidTests := true, laidLooks := .later }
def AutomatonAcceptsUptoCardSaid : Prop := Claim7.holds Tryd.pinned (.plain (OpenSpec.upto automatonAcceptsSpec)) automatonAcceptsUptoCard

/-- THE SECOND FORM's CARD OF 'configlanglaw05.AutomatonWords'. -/
def automatonWordsUptoCard : Claim7 := { stood := { row := automatonWordsUptoRow, standIns := [], harness := (true, "419cab811ac13a5a2fa4a2d00391a63b75153616f1e149244465be0d563d9c37"), looks := false }, kinds := [], alts := [], laidByText := true, laidKinds := [.data, .data, .data], laidTests := true, laidLooks := .later }
def AutomatonWordsUptoCardSaid : Prop := Claim7.holds Tryd.pinned (.plain (OpenSpec.upto automatonWordsSpec)) automatonWordsUptoCard

/-- THE SECOND FORM's CARD OF 'configlanglaw05.AutomatonKeeps'. -/
def automatonKeepsUptoCard : Claim7 := { stood := { row := automatonKeepsUptoRow, standIns := [], harness := (true, "419cab811ac13a5a2fa4a2d00391a63b75153616f1e149244465be0d563d9c37"), looks := false }, kinds := [], alts := [], laidByText := true, laidKinds := [.data, .data, .data], laidTests := true, laidLooks := .later }
def AutomatonKeepsUptoCardSaid : Prop := Claim7.holds Tryd.pinned (.plain (OpenSpec.upto automatonKeepsSpec)) automatonKeepsUptoCard
end Rows
end Go.Proofs.YtjmbmodmepdmjaaDoor
