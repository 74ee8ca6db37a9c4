/- Part 7 of the texts of this claim: what its theorem leans on. -/
import Derived.Test.YtlijhnfnceidjaaGreatDoorZConflictSizes6
import Derived.Test.YtlijhnfnceidjaaGreatDoorZConflictSizes3
import Derived.KernelRfl
namespace Go.GV
open Go Go.GK Go.Proofs
theorem tb151_0 : (Q151 20).F (d2 11) = some (show Bool from true) := by kernel_rfl
theorem tb151_1 : (Q151 20).F (d2 22) = some (show Bool from true) := by kernel_rfl
theorem tb151_2 : (Q151 20).F (d2 33) = some (show Bool from true) := by kernel_rfl
theorem tb151_3 : (Q151 20).F (d2 44) = some (show Bool from true) := by kernel_rfl
theorem tb151_4 : (Q151 20).F (d2 1) = some (show Bool from false) := by kernel_rfl
end Go.GV
