/- Part 8 of the texts of this claim: what its theorem leans on. -/
import Derived.Test.YtlijhnfnceidjaaGreatDoorZConflictSizes6
import Derived.Test.YtlijhnfnceidjaaGreatDoorZConflictSizes3
import Derived.KernelRfl
namespace Go.GV
open Go Go.GK Go.Proofs
theorem tb169_0 : (Q169 20).F (d4 2222) = some (show (VAL × VAL) × Int from ((w2, w2), 0)) := by kernel_rfl
theorem tb169_1 : (Q169 20).F (d4 2211) = some (show (VAL × VAL) × Int from ((wB, wB), 0)) := by kernel_rfl
theorem tb169_2 : (Q169 20).F (d4 4422) = some (show (VAL × VAL) × Int from ((w2, w2), 0)) := by kernel_rfl
end Go.GV
