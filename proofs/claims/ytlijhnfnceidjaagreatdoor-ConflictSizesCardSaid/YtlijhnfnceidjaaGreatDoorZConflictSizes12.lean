/- Part 12 of the texts of this claim: what its theorem leans on. -/
import Derived.Test.YtlijhnfnceidjaaGreatDoorZConflictSizes6
import Derived.Test.YtlijhnfnceidjaaGreatDoorZConflictSizes3
import Derived.KernelRfl
namespace Go.GV
open Go Go.GK Go.Proofs
theorem tb170_0 : (Q170 20).F (dV 2) = some (show Bool from false) := by kernel_rfl
theorem tb170_1 : (Q170 20).F (dV 0) = some (show Bool from true) := by kernel_rfl
theorem tb170_2 : (Q170 20).F (dV 1) = some (show Bool from false) := by kernel_rfl
theorem tb170_3 : (Q170 20).F (dV 3) = some (show Bool from false) := by kernel_rfl
theorem tb254_0 : (Q254 300).F (d2 11) = some (show Bool from true) := by kernel_rfl
end Go.GV
