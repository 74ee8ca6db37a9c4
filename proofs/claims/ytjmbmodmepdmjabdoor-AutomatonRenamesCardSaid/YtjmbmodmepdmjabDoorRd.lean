/- Readings of this seat's types; the listed table of powers of ten. -/
import Derived.Test.YtjmbmodmepdmjabDoorW1b
import Derived.Test.YtjmbmodmepdmjabDoorK3
import Derived.Test.YtjmbmodmepdmjabDoorCards
import Derived.Test.YtjmbmodmepdmjabDoorTie
import Derived.Deep.DeepHandedRow
import Derived.LaidMore
import Derived.Stop.LaidErr
import Derived.WalkSmall
namespace Go.Proofs.YtjmbmodmepdmjabDoor
open Go.GK
theorem rd4 {X : Type} {enc : TypeId × Value → X} {w : World} {base : Nat} {spare : Nat → Bool} {held : Bool} (N : Nat) : RdB enc Tryd.prog w base spare held N cB 4 := RdB.b Tryd.underlying4
theorem rd5 {X : Type} {enc : TypeId × Value → X} {w : World} {base : Nat} {spare : Nat → Bool} {held : Bool} (N : Nat) : RdB enc Tryd.prog w base spare held N cU8 5 := RdB.u8 Tryd.underlying5
theorem rd3 {X : Type} {enc : TypeId × Value → X} {w : World} {base : Nat} {spare : Nat → Bool} {held : Bool} (N : Nat) : RdB enc Tryd.prog w base spare held N cI64 3 := RdB.i64 Tryd.underlying3
theorem rd27 {X : Type} {enc : TypeId × Value → X} {w : World} {base : Nat} {spare : Nat → Bool} {held : Bool} (N : Nat) : RdB enc Tryd.prog w base spare held N (cP cU8 (cP cU8 cI64)) 27 := by
  cases N with
  | zero => exact fun n hn => absurd hn (Nat.not_lt_zero n)
  | succ N => exact RdB.st Tryd.underlying27 (RdF.cons (rd5 N) (by kernel_rfl) rfl (RdF.cons (rd5 N) (by kernel_rfl) rfl (RdF.one (rd3 N) (by kernel_rfl) rfl)))
theorem rd28 {X : Type} {enc : TypeId × Value → X} {w : World} {base : Nat} {spare : Nat → Bool} {held : Bool} (N : Nat) : RdB enc Tryd.prog w base spare held N (cL (cP cU8 (cP cU8 cI64))) 28 := by
  cases N with
  | zero => exact fun n hn => absurd hn (Nat.not_lt_zero n)
  | succ N => exact RdB.sl Tryd.underlying28 (by kernel_rfl) (rd27 N)
theorem rd30 {X : Type} {enc : TypeId × Value → X} {w : World} {base : Nat} {spare : Nat → Bool} {held : Bool} (N : Nat) : RdB enc Tryd.prog w base spare held N (cP cB (cL (cP cU8 (cP cU8 cI64)))) 30 := by
  cases N with
  | zero => exact fun n hn => absurd hn (Nat.not_lt_zero n)
  | succ N => exact RdB.st Tryd.underlying30 (RdF.cons (rd4 N) (by kernel_rfl) rfl (RdF.one (rd28 N) (by kernel_rfl) rfl))
theorem gPow : ∃ g t e, Tryd.prog.globalNamed "internal/strconv.uint64pow10" = some g ∧ (Tryd.prog.globals[g]?).map (·.type) = some t ∧ Tryd.prog.underlying t = some (.array 20 e) ∧ Tryd.prog.underlying e = some (.int .u64) ∧ Tryd.prog.cellsOf e = 1 ∧ Tryd.prog.cellsOf t = 20 := ⟨0, 157, 38, by kernel_rfl, by kernel_rfl, by kernel_rfl, by kernel_rfl, by kernel_rfl, by kernel_rfl⟩
theorem laidH {W : World} (h : laidMetH Tryd.prog [("math/bits.deBruijn32tab", Rows.laid_math_bits_deBruijn32tab), ("math/bits.deBruijn64tab", Rows.laid_math_bits_deBruijn64tab), ("internal/strconv.uint64pow10", Rows.laid_internal_strconv_uint64pow10)] W) : LaidH Tryd.prog (Hp.of W) := by
  obtain ⟨g, t, e, h1, h2, h3, h4, h5, h6⟩ := gPow
  exact LaidH.of h1 (Lib.tabIs_of_head h1 h2 h3 h4 h5 h6 (laidMet.tail (laidMet.tail h)))
end Go.Proofs.YtjmbmodmepdmjabDoor
