/- Part 11 of the texts of this claim: what its theorem leans on. -/
import Derived.Test.YtlijhnfnceidjaaGreatDoorZConflictSizes6
import Derived.Test.YtlijhnfnceidjaaGreatDoorZConflictSizes3
import Derived.KernelRfl
namespace Go.GV
open Go Go.GK Go.Proofs
theorem tb169_6 : (Q169 20).F (d4 3322) = some (show (VAL × VAL) × Int from ((w2, w2), 0)) := by kernel_rfl
end Go.GV
