/- Part 10 of the texts of this claim: what its theorem leans on. -/
import Derived.Test.YtlijhnfnceidjaaGreatDoorZConflictSizes6
import Derived.Test.YtlijhnfnceidjaaGreatDoorZConflictSizes3
import Derived.KernelRfl
namespace Go.GV
open Go Go.GK Go.Proofs
theorem tb169_5 : (Q169 20).F (d4 3311) = some (show (VAL × VAL) × Int from ((w1, w1), 0)) := by kernel_rfl
end Go.GV
