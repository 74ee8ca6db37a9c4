/-
  No cell of these rows narrows 'for every input' (looked for: loops, veiled, ifaces, maps, wideKeys, modest, calm, conditions, laid).
  DERIVED. THE GIVEN ROWS OF THIS SEAT. 9 by the template 'for every input the law returns true; each argument reads behind the call as it read before'; 0 by the template 'total and deterministic' (their statements: YthhhdpcbkkldgaaTotals.lean).
  GIVEN WITH THE SEED: the statements are not yours to turn. If you find one false, say at which input.
  Laid BY PROGRAM, IN A SANDBOX (cutbox-rows.mjs): the forced cells as the released guide's own fill.sh prints them over the translation 1ea674dad61cedfc… (all of the seat's roots in one cut). By AI agents, Wed Nov 11 2026. No macro, syntax, notation, axiom, sorry.
-/
import Derived.Test.YthhhdpcbkkldgaaChecked
import GoSem.Claim
import GoSem.ClaimJoined
import GoSem.ClaimMapViews
import Derived.JoinedTies
import Derived.KernelRfl
namespace Go.Proofs.Ythhhdpcbkkldgaa
/- THE CELL 'sum', in the pinned program and in every row, IS THE sha256 OF THE DUMP (.gsa) THAT YthhhdpcbkkldgaaProg.lean LOADS. Nothing in Lean hashes anything: it is a label: what it is worth is what the hold of that sum in a sandbox is worth. -/
noncomputable def Try.pinned : Pinned := { name := "ythhhdpcbkkldgaa", sum := "1ea674dad61cedfc5cc6424b2ea7332f465bc0995292d7aa27a6e485484120db", checked := Try.checked }
namespace Rows
def none {H : Type} : Left H := { results := [], args := [] }

/-- 'configlanglaw03.BytesetOf': WHATEVER THE INPUT: true; the input reads as it did. -/
def bytesetOfSpec : ChangeSpec := { name := "bytesetOf", fn := fun _ => fun
  | [d1, d2] => { results := [.lit (.bool true)], args := [d1, d2] }
  | _ => none }
def bytesetOfRow : OpenClaim := { program := "ythhhdpcbkkldgaa", sum := "1ea674dad61cedfc5cc6424b2ea7332f465bc0995292d7aa27a6e485484120db", func := "configlang/configlanglaw03.BytesetOf", spec := "bytesetOf", apart := false }
def BytesetOfSaid : Prop := bytesetOfRow.holds Try.pinned (OpenSpec.ofChange bytesetOfSpec)

/-- ITS FALSE NEIGHBOUR: 'it returns false'. Refute it at one input. -/
def bytesetOfWrong : ChangeSpec := { name := "bytesetOf", fn := fun _ => fun
  | [d1, d2] => { results := [.lit (.bool false)], args := [d1, d2] }
  | _ => none }
def BytesetOfWrongFalsely : Prop := bytesetOfRow.holds Try.pinned (OpenSpec.ofChange bytesetOfWrong)

/-- 'configlanglaw03.BytesetHas': WHATEVER THE INPUT: true; the input reads as it did. -/
def bytesetHasSpec : ChangeSpec := { name := "bytesetHas", fn := fun _ => fun
  | [d1, d2] => { results := [.lit (.bool true)], args := [d1, d2] }
  | _ => none }
def bytesetHasRow : OpenClaim := { program := "ythhhdpcbkkldgaa", sum := "1ea674dad61cedfc5cc6424b2ea7332f465bc0995292d7aa27a6e485484120db", func := "configlang/configlanglaw03.BytesetHas", spec := "bytesetHas", apart := false }
def BytesetHasSaid : Prop := bytesetHasRow.holds Try.pinned (OpenSpec.ofChange bytesetHasSpec)

/-- ITS FALSE NEIGHBOUR: 'it returns false'. Refute it at one input. -/
def bytesetHasWrong : ChangeSpec := { name := "bytesetHas", fn := fun _ => fun
  | [d1, d2] => { results := [.lit (.bool false)], args := [d1, d2] }
  | _ => none }
def BytesetHasWrongFalsely : Prop := bytesetHasRow.holds Try.pinned (OpenSpec.ofChange bytesetHasWrong)

/-- 'configlanglaw03.BytesetJoins': WHATEVER THE INPUT: true; the input reads as it did. -/
def bytesetJoinsSpec : ChangeSpec := { name := "bytesetJoins", fn := fun _ => fun
  | [d1, d2] => { results := [.lit (.bool true)], args := [d1, d2] }
  | _ => none }
def bytesetJoinsRow : OpenClaim := { program := "ythhhdpcbkkldgaa", sum := "1ea674dad61cedfc5cc6424b2ea7332f465bc0995292d7aa27a6e485484120db", func := "configlang/configlanglaw03.BytesetJoins", spec := "bytesetJoins", apart := false }
def BytesetJoinsSaid : Prop := bytesetJoinsRow.holds Try.pinned (OpenSpec.ofChange bytesetJoinsSpec)

/-- ITS FALSE NEIGHBOUR: 'it returns false'. Refute it at one input. -/
def bytesetJoinsWrong : ChangeSpec := { name := "bytesetJoins", fn := fun _ => fun
  | [d1, d2] => { results := [.lit (.bool false)], args := [d1, d2] }
  | _ => none }
def BytesetJoinsWrongFalsely : Prop := bytesetJoinsRow.holds Try.pinned (OpenSpec.ofChange bytesetJoinsWrong)

/-- 'configlanglaw03.BytesetCounts': WHATEVER THE INPUT: true; the input reads as it did. -/
def bytesetCountsSpec : ChangeSpec := { name := "bytesetCounts", fn := fun _ => fun
  | [d] => { results := [.lit (.bool true)], args := [d] }
  | _ => none }
def bytesetCountsRow : OpenClaim := { program := "ythhhdpcbkkldgaa", sum := "1ea674dad61cedfc5cc6424b2ea7332f465bc0995292d7aa27a6e485484120db", func := "configlang/configlanglaw03.BytesetCounts", spec := "bytesetCounts", apart := false }
def BytesetCountsSaid : Prop := bytesetCountsRow.holds Try.pinned (OpenSpec.ofChange bytesetCountsSpec)

/-- ITS FALSE NEIGHBOUR: 'it returns false'. Refute it at one input. -/
def bytesetCountsWrong : ChangeSpec := { name := "bytesetCounts", fn := fun _ => fun
  | [d] => { results := [.lit (.bool false)], args := [d] }
  | _ => none }
def BytesetCountsWrongFalsely : Prop := bytesetCountsRow.holds Try.pinned (OpenSpec.ofChange bytesetCountsWrong)

/-- 'configlanglaw03.BytesetRanges': WHATEVER THE INPUT: true; the input reads as it did. -/
def bytesetRangesSpec : ChangeSpec := { name := "bytesetRanges", fn := fun _ => fun
  | [d] => { results := [.lit (.bool true)], args := [d] }
  | _ => none }
def bytesetRangesRow : OpenClaim := { program := "ythhhdpcbkkldgaa", sum := "1ea674dad61cedfc5cc6424b2ea7332f465bc0995292d7aa27a6e485484120db", func := "configlang/configlanglaw03.BytesetRanges", spec := "bytesetRanges", apart := false }
def BytesetRangesSaid : Prop := bytesetRangesRow.holds Try.pinned (OpenSpec.ofChange bytesetRangesSpec)

/-- ITS FALSE NEIGHBOUR: 'it returns false'. Refute it at one input. -/
def bytesetRangesWrong : ChangeSpec := { name := "bytesetRanges", fn := fun _ => fun
  | [d] => { results := [.lit (.bool false)], args := [d] }
  | _ => none }
def BytesetRangesWrongFalsely : Prop := bytesetRangesRow.holds Try.pinned (OpenSpec.ofChange bytesetRangesWrong)

/-- 'configlanglaw03.BytesetParts': WHATEVER THE INPUT: true; the input reads as it did. -/
def bytesetPartsSpec : ChangeSpec := { name := "bytesetParts", fn := fun _ => fun
  | [d] => { results := [.lit (.bool true)], args := [d] }
  | _ => none }
def bytesetPartsRow : OpenClaim := { program := "ythhhdpcbkkldgaa", sum := "1ea674dad61cedfc5cc6424b2ea7332f465bc0995292d7aa27a6e485484120db", func := "configlang/configlanglaw03.BytesetParts", spec := "bytesetParts", apart := false }
def BytesetPartsSaid : Prop := bytesetPartsRow.holds Try.pinned (OpenSpec.ofChange bytesetPartsSpec)

/-- ITS FALSE NEIGHBOUR: 'it returns false'. Refute it at one input. -/
def bytesetPartsWrong : ChangeSpec := { name := "bytesetParts", fn := fun _ => fun
  | [d] => { results := [.lit (.bool false)], args := [d] }
  | _ => none }
def BytesetPartsWrongFalsely : Prop := bytesetPartsRow.holds Try.pinned (OpenSpec.ofChange bytesetPartsWrong)

/-- 'configlanglaw03.BytesetAlgebra': WHATEVER THE INPUT: true; the input reads as it did. -/
def bytesetAlgebraSpec : ChangeSpec := { name := "bytesetAlgebra", fn := fun _ => fun
  | [d1, d2, d3] => { results := [.lit (.bool true)], args := [d1, d2, d3] }
  | _ => none }
def bytesetAlgebraRow : OpenClaim := { program := "ythhhdpcbkkldgaa", sum := "1ea674dad61cedfc5cc6424b2ea7332f465bc0995292d7aa27a6e485484120db", func := "configlang/configlanglaw03.BytesetAlgebra", spec := "bytesetAlgebra", apart := false }
def BytesetAlgebraSaid : Prop := bytesetAlgebraRow.holds Try.pinned (OpenSpec.ofChange bytesetAlgebraSpec)

/-- ITS FALSE NEIGHBOUR: 'it returns false'. Refute it at one input. -/
def bytesetAlgebraWrong : ChangeSpec := { name := "bytesetAlgebra", fn := fun _ => fun
  | [d1, d2, d3] => { results := [.lit (.bool false)], args := [d1, d2, d3] }
  | _ => none }
def BytesetAlgebraWrongFalsely : Prop := bytesetAlgebraRow.holds Try.pinned (OpenSpec.ofChange bytesetAlgebraWrong)

/-- 'configlanglaw03.BytesetUnites': WHATEVER THE INPUT: true; the input reads as it did. -/
def bytesetUnitesSpec : ChangeSpec := { name := "bytesetUnites", fn := fun _ => fun
  | [d] => { results := [.lit (.bool true)], args := [d] }
  | _ => none }
def bytesetUnitesRow : OpenClaim := { program := "ythhhdpcbkkldgaa", sum := "1ea674dad61cedfc5cc6424b2ea7332f465bc0995292d7aa27a6e485484120db", func := "configlang/configlanglaw03.BytesetUnites", spec := "bytesetUnites", apart := false }
def BytesetUnitesSaid : Prop := bytesetUnitesRow.holds Try.pinned (OpenSpec.ofChange bytesetUnitesSpec)

/-- ITS FALSE NEIGHBOUR: 'it returns false'. Refute it at one input. -/
def bytesetUnitesWrong : ChangeSpec := { name := "bytesetUnites", fn := fun _ => fun
  | [d] => { results := [.lit (.bool false)], args := [d] }
  | _ => none }
def BytesetUnitesWrongFalsely : Prop := bytesetUnitesRow.holds Try.pinned (OpenSpec.ofChange bytesetUnitesWrong)

/-- 'configlanglaw03.BytesetSplits': WHATEVER THE INPUT: true; the input reads as it did. -/
def bytesetSplitsSpec : ChangeSpec := { name := "bytesetSplits", fn := fun _ => fun
  | [d1, d2, d3] => { results := [.lit (.bool true)], args := [d1, d2, d3] }
  | _ => none }
def bytesetSplitsRow : OpenClaim := { program := "ythhhdpcbkkldgaa", sum := "1ea674dad61cedfc5cc6424b2ea7332f465bc0995292d7aa27a6e485484120db", func := "configlang/configlanglaw03.BytesetSplits", spec := "bytesetSplits", apart := false }
def BytesetSplitsSaid : Prop := bytesetSplitsRow.holds Try.pinned (OpenSpec.ofChange bytesetSplitsSpec)

/-- ITS FALSE NEIGHBOUR: 'it returns false'. Refute it at one input. -/
def bytesetSplitsWrong : ChangeSpec := { name := "bytesetSplits", fn := fun _ => fun
  | [d1, d2, d3] => { results := [.lit (.bool false)], args := [d1, d2, d3] }
  | _ => none }
def BytesetSplitsWrongFalsely : Prop := bytesetSplitsRow.holds Try.pinned (OpenSpec.ofChange bytesetSplitsWrong)

/- THE SECOND FORM. 'bulk': how many values and letters a reading holds, each counted each time it is reached (what is shared counts as often as it is met; a slice's spare places count too). A statement '..UptoSaid' is the law's where the arguments, and the package variables that the reading takes, are together of bulk at most 1048576: NARROWER than '..Said'. Prove '..Said' where nothing that the law and all that it calls make is longer than what came in: it says more and counts as full. Else prove '..UptoSaid'. A law counts once. -/
mutual
def uptoBulk {H : Type} : DataW H → Nat
  | .lit (.string bytes) => bytes.length + 1
  | .lit _ => 1
  | .nil => 1
  | .ptr d => uptoBulk d + 1
  | .slice elems spare => uptoBulkAll elems + uptoBulkAll spare + 1
  | .agg parts => uptoBulkAll parts + 1
  | .iface _ d => uptoBulk d + 1
  | .map entries => uptoBulkEntries entries + 1
  | .held _ => 1
def uptoBulkAll {H : Type} : List (DataW H) → Nat
  | [] => 0
  | d :: r => uptoBulk d + uptoBulkAll r
def uptoBulkEntries {H : Type} : List (Lit × DataW H) → Nat
  | [] => 0
  | x :: r => uptoBulkEntry x + uptoBulkEntries r
def uptoBulkEntry {H : Type} : Lit × DataW H → Nat
  | (.string bytes, d) => bytes.length + uptoBulk d + 1
  | (_, d) => uptoBulk d + 1
 end
def uptoSmall : (H : Type) → List (DataW H) → Bool := fun _ ds => decide (uptoBulkAll ds ≤ 1048576)
def OpenSpec.upto (s : _root_.Go.ChangeSpec) : _root_.Go.OpenSpec := { _root_.Go.OpenSpec.ofChange s with cond := some uptoSmall }

/-- 'configlanglaw03.BytesetOf', WHERE WHAT IT READS IS OF BULK AT MOST 1048576: true; the input reads as it did. -/
def bytesetOfUptoRow : OpenClaim := { program := "ythhhdpcbkkldgaa", sum := "1ea674dad61cedfc5cc6424b2ea7332f465bc0995292d7aa27a6e485484120db", func := "configlang/configlanglaw03.BytesetOf", spec := "bytesetOf", apart := false, narrowed := true }
def BytesetOfUptoSaid : Prop := bytesetOfUptoRow.holds Try.pinned (OpenSpec.upto bytesetOfSpec)

/-- 'configlanglaw03.BytesetHas', WHERE WHAT IT READS IS OF BULK AT MOST 1048576: true; the input reads as it did. -/
def bytesetHasUptoRow : OpenClaim := { program := "ythhhdpcbkkldgaa", sum := "1ea674dad61cedfc5cc6424b2ea7332f465bc0995292d7aa27a6e485484120db", func := "configlang/configlanglaw03.BytesetHas", spec := "bytesetHas", apart := false, narrowed := true }
def BytesetHasUptoSaid : Prop := bytesetHasUptoRow.holds Try.pinned (OpenSpec.upto bytesetHasSpec)

/-- 'configlanglaw03.BytesetJoins', WHERE WHAT IT READS IS OF BULK AT MOST 1048576: true; the input reads as it did. -/
def bytesetJoinsUptoRow : OpenClaim := { program := "ythhhdpcbkkldgaa", sum := "1ea674dad61cedfc5cc6424b2ea7332f465bc0995292d7aa27a6e485484120db", func := "configlang/configlanglaw03.BytesetJoins", spec := "bytesetJoins", apart := false, narrowed := true }
def BytesetJoinsUptoSaid : Prop := bytesetJoinsUptoRow.holds Try.pinned (OpenSpec.upto bytesetJoinsSpec)

/-- 'configlanglaw03.BytesetCounts', WHERE WHAT IT READS IS OF BULK AT MOST 1048576: true; the input reads as it did. -/
def bytesetCountsUptoRow : OpenClaim := { program := "ythhhdpcbkkldgaa", sum := "1ea674dad61cedfc5cc6424b2ea7332f465bc0995292d7aa27a6e485484120db", func := "configlang/configlanglaw03.BytesetCounts", spec := "bytesetCounts", apart := false, narrowed := true }
def BytesetCountsUptoSaid : Prop := bytesetCountsUptoRow.holds Try.pinned (OpenSpec.upto bytesetCountsSpec)

/-- 'configlanglaw03.BytesetRanges', WHERE WHAT IT READS IS OF BULK AT MOST 1048576: true; the input reads as it did. -/
def bytesetRangesUptoRow : OpenClaim := { program := "ythhhdpcbkkldgaa", sum := "1ea674dad61cedfc5cc6424b2ea7332f465bc0995292d7aa27a6e485484120db", func := "configlang/configlanglaw03.BytesetRanges", spec := "bytesetRanges", apart := false, narrowed := true }
def BytesetRangesUptoSaid : Prop := bytesetRangesUptoRow.holds Try.pinned (OpenSpec.upto bytesetRangesSpec)

/-- 'configlanglaw03.BytesetParts', WHERE WHAT IT READS IS OF BULK AT MOST 1048576: true; the input reads as it did. -/
def bytesetPartsUptoRow : OpenClaim := { program := "ythhhdpcbkkldgaa", sum := "1ea674dad61cedfc5cc6424b2ea7332f465bc0995292d7aa27a6e485484120db", func := "configlang/configlanglaw03.BytesetParts", spec := "bytesetParts", apart := false, narrowed := true }
def BytesetPartsUptoSaid : Prop := bytesetPartsUptoRow.holds Try.pinned (OpenSpec.upto bytesetPartsSpec)

/-- 'configlanglaw03.BytesetAlgebra', WHERE WHAT IT READS IS OF BULK AT MOST 1048576: true; the input reads as it did. -/
def bytesetAlgebraUptoRow : OpenClaim := { program := "ythhhdpcbkkldgaa", sum := "1ea674dad61cedfc5cc6424b2ea7332f465bc0995292d7aa27a6e485484120db", func := "configlang/configlanglaw03.BytesetAlgebra", spec := "bytesetAlgebra", apart := false, narrowed := true }
def BytesetAlgebraUptoSaid : Prop := bytesetAlgebraUptoRow.holds Try.pinned (OpenSpec.upto bytesetAlgebraSpec)

/-- 'configlanglaw03.BytesetUnites', WHERE WHAT IT READS IS OF BULK AT MOST 1048576: true; the input reads as it did. -/
def bytesetUnitesUptoRow : OpenClaim := { program := "ythhhdpcbkkldgaa", sum := "1ea674dad61cedfc5cc6424b2ea7332f465bc0995292d7aa27a6e485484120db", func := "configlang/configlanglaw03.BytesetUnites", spec := "bytesetUnites", apart := false, narrowed := true }
def BytesetUnitesUptoSaid : Prop := bytesetUnitesUptoRow.holds Try.pinned (OpenSpec.upto bytesetUnitesSpec)

/-- 'configlanglaw03.BytesetSplits', WHERE WHAT IT READS IS OF BULK AT MOST 1048576: true; the input reads as it did. -/
def bytesetSplitsUptoRow : OpenClaim := { program := "ythhhdpcbkkldgaa", sum := "1ea674dad61cedfc5cc6424b2ea7332f465bc0995292d7aa27a6e485484120db", func := "configlang/configlanglaw03.BytesetSplits", spec := "bytesetSplits", apart := false, narrowed := true }
def BytesetSplitsUptoSaid : Prop := bytesetSplitsUptoRow.holds Try.pinned (OpenSpec.upto bytesetSplitsSpec)

end Rows
end Go.Proofs.Ythhhdpcbkkldgaa
