/- Part 16 of the texts of this claim: what its theorem leans on. -/
import Derived.Test.YtlijhnfnceidjaaGreatDoorZConflictSizes15
import Derived.KernelRfl
namespace Go.GV
open Go Go.GK Go.Proofs
theorem lw0_0 : lawF 0 false := by unfold lawF; kernel_rfl
theorem lw3_1 : lawF 3 true := by unfold lawF; kernel_rfl
theorem lw6_0 : lawF 6 false := by unfold lawF; kernel_rfl
theorem lw9_1 : lawF 9 true := by unfold lawF; kernel_rfl
theorem lw12_0 : lawF 12 false := by unfold lawF; kernel_rfl
end Go.GV
