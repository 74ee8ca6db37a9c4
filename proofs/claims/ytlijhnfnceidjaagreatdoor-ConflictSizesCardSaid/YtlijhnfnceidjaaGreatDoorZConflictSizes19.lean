/- Part 19 of the texts of this claim: what its theorem leans on. -/
import Derived.Test.YtlijhnfnceidjaaGreatDoorZConflictSizes15
import Derived.KernelRfl
namespace Go.GV
open Go Go.GK Go.Proofs
theorem lw0_1 : lawF 0 true := by unfold lawF; kernel_rfl
theorem lw3_0 : lawF 3 false := by unfold lawF; kernel_rfl
theorem lw6_1 : lawF 6 true := by unfold lawF; kernel_rfl
theorem lw9_0 : lawF 9 false := by unfold lawF; kernel_rfl
theorem lw12_1 : lawF 12 true := by unfold lawF; kernel_rfl
end Go.GV
