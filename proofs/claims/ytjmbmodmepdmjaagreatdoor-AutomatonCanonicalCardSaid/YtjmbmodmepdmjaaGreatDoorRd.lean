/- Readings of this seat's types; the listed table of powers of ten. -/
import Derived.Test.YtjmbmodmepdmjaaGreatDoorW1b
import Derived.Test.YtjmbmodmepdmjaaGreatDoorK3
import Derived.Test.YtjmbmodmepdmjaaGreatDoorCards
import Derived.Test.YtjmbmodmepdmjaaGreatDoorTie
import Derived.Deep.DeepHandedRow
import Derived.LaidMore
import Derived.Stop.LaidErr
import Derived.WalkSmall
namespace Go.Proofs.YtjmbmodmepdmjaaGreatDoor
open Go.GK
theorem rd4 {X : Type} {enc : TypeId × Value → X} {w : World} {base : Nat} {spare : Nat → Bool} {held : Bool} (N : Nat) : RdB enc Tryz.prog w base spare held N cB 4 := RdB.b Tryz.underlying4
theorem rd5 {X : Type} {enc : TypeId × Value → X} {w : World} {base : Nat} {spare : Nat → Bool} {held : Bool} (N : Nat) : RdB enc Tryz.prog w base spare held N cU8 5 := RdB.u8 Tryz.underlying5
theorem rd3 {X : Type} {enc : TypeId × Value → X} {w : World} {base : Nat} {spare : Nat → Bool} {held : Bool} (N : Nat) : RdB enc Tryz.prog w base spare held N cI64 3 := RdB.i64 Tryz.underlying3
theorem rd46 {X : Type} {enc : TypeId × Value → X} {w : World} {base : Nat} {spare : Nat → Bool} {held : Bool} (N : Nat) : RdB enc Tryz.prog w base spare held N (cP cU8 (cP cU8 cI64)) 46 := by
  cases N with
  | zero => exact fun n hn => absurd hn (Nat.not_lt_zero n)
  | succ N => exact RdB.st Tryz.underlying46 (RdF.cons (rd5 N) (by kernel_rfl) rfl (RdF.cons (rd5 N) (by kernel_rfl) rfl (RdF.one (rd3 N) (by kernel_rfl) rfl)))
theorem rd41 {X : Type} {enc : TypeId × Value → X} {w : World} {base : Nat} {spare : Nat → Bool} {held : Bool} (N : Nat) : RdB enc Tryz.prog w base spare held N (cL (cP cU8 (cP cU8 cI64))) 41 := by
  cases N with
  | zero => exact fun n hn => absurd hn (Nat.not_lt_zero n)
  | succ N => exact RdB.sl Tryz.underlying41 (by kernel_rfl) (rd46 N)
theorem rd43 {X : Type} {enc : TypeId × Value → X} {w : World} {base : Nat} {spare : Nat → Bool} {held : Bool} (N : Nat) : RdB enc Tryz.prog w base spare held N (cP cB (cL (cP cU8 (cP cU8 cI64)))) 43 := by
  cases N with
  | zero => exact fun n hn => absurd hn (Nat.not_lt_zero n)
  | succ N => exact RdB.st Tryz.underlying43 (RdF.cons (rd4 N) (by kernel_rfl) rfl (RdF.one (rd41 N) (by kernel_rfl) rfl))
theorem gPow : ∃ g t e, Tryz.prog.globalNamed "internal/strconv.uint64pow10" = some g ∧ (Tryz.prog.globals[g]?).map (·.type) = some t ∧ Tryz.prog.underlying t = some (.array 20 e) ∧ Tryz.prog.underlying e = some (.int .u64) ∧ Tryz.prog.cellsOf e = 1 ∧ Tryz.prog.cellsOf t = 20 := ⟨0, 177, 32, by kernel_rfl, by kernel_rfl, by kernel_rfl, by kernel_rfl, by kernel_rfl, by kernel_rfl⟩
theorem laidH {W : World} (h : laidMetH Tryz.prog [("math/bits.deBruijn32tab", Rows.laid_math_bits_deBruijn32tab), ("math/bits.deBruijn64tab", Rows.laid_math_bits_deBruijn64tab), ("internal/strconv.uint64pow10", Rows.laid_internal_strconv_uint64pow10)] W) : LaidH Tryz.prog (Hp.of W) := by
  obtain ⟨g, t, e, h1, h2, h3, h4, h5, h6⟩ := gPow
  exact LaidH.of h1 (Lib.tabIs_of_head h1 h2 h3 h4 h5 h6 (laidMet.tail (laidMet.tail h)))
end Go.Proofs.YtjmbmodmepdmjaaGreatDoor
