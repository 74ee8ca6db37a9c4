/- Readings of this seat's types; the listed table of powers of ten. -/
import Derived.Test.YtjmbmodmepdmjabDoorW1b
import Derived.Test.YtjmbmodmepdmjabDoorK3
import Derived.Test.YtjmbmodmepdmjabDoorCards
import Derived.Test.YtjmbmodmepdmjabDoorTie
import Derived.Deep.DeepHandedRow
import Derived.LaidMore
import Derived.Stop.LaidErr
import Derived.WalkSmall
namespace Go.Proofs.YtjmbmodmepdmjabDoor
open Go.GK

theorem gPow : ∃ g t e, Tryd.prog.globalNamed "internal/strconv.uint64pow10" = some g ∧ (Tryd.prog.globals[g]?).map (·.type) = some t ∧ Tryd.prog.underlying t = some (.array 20 e) ∧ Tryd.prog.underlying e = some (.int .u64) ∧ Tryd.prog.cellsOf e = 1 ∧ Tryd.prog.cellsOf t = 20 := ⟨0, 157, 38, by kernel_rfl, by kernel_rfl, by kernel_rfl, by kernel_rfl, by kernel_rfl, by kernel_rfl⟩
theorem laidH {W : World} (h : laidMetH Tryd.prog [("math/bits.deBruijn32tab", Rows.laid_math_bits_deBruijn32tab), ("math/bits.deBruijn64tab", Rows.laid_math_bits_deBruijn64tab), ("internal/strconv.uint64pow10", Rows.laid_internal_strconv_uint64pow10)] W) : LaidH Tryd.prog (Hp.of W) := by
  obtain ⟨g, t, e, h1, h2, h3, h4, h5, h6⟩ := gPow
  exact LaidH.of h1 (Lib.tabIs_of_head h1 h2 h3 h4 h5 h6 (laidMet.tail (laidMet.tail h)))
end Go.Proofs.YtjmbmodmepdmjabDoor
