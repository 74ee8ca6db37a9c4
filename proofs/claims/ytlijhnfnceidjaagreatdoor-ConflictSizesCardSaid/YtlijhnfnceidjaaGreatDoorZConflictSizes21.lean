/- Part 21 of the texts of this claim: what its theorem leans on. -/
import Derived.Test.YtlijhnfnceidjaaGreatDoorZConflictSizes15
import Derived.KernelRfl
namespace Go.GV
open Go Go.GK Go.Proofs
theorem lw2_1 : lawF 2 true := by unfold lawF; kernel_rfl
theorem lw5_0 : lawF 5 false := by unfold lawF; kernel_rfl
theorem lw8_1 : lawF 8 true := by unfold lawF; kernel_rfl
theorem lw11_0 : lawF 11 false := by unfold lawF; kernel_rfl
theorem lw14_1 : lawF 14 true := by unfold lawF; kernel_rfl
end Go.GV
