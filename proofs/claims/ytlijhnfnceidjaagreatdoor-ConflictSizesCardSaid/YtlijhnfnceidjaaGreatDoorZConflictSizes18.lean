/- Part 18 of the texts of this claim: what its theorem leans on. -/
import Derived.Test.YtlijhnfnceidjaaGreatDoorZConflictSizes15
import Derived.KernelRfl
namespace Go.GV
open Go Go.GK Go.Proofs
theorem lw2_0 : lawF 2 false := by unfold lawF; kernel_rfl
theorem lw5_1 : lawF 5 true := by unfold lawF; kernel_rfl
theorem lw8_0 : lawF 8 false := by unfold lawF; kernel_rfl
theorem lw11_1 : lawF 11 true := by unfold lawF; kernel_rfl
theorem lw14_0 : lawF 14 false := by unfold lawF; kernel_rfl
end Go.GV
