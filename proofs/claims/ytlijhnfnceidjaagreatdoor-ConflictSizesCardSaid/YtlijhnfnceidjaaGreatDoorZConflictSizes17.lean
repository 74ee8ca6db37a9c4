/- Part 17 of the texts of this claim: what its theorem leans on. -/
import Derived.Test.YtlijhnfnceidjaaGreatDoorZConflictSizes15
import Derived.KernelRfl
namespace Go.GV
open Go Go.GK Go.Proofs
theorem lw1_0 : lawF 1 false := by unfold lawF; kernel_rfl
theorem lw4_1 : lawF 4 true := by unfold lawF; kernel_rfl
theorem lw7_0 : lawF 7 false := by unfold lawF; kernel_rfl
theorem lw10_1 : lawF 10 true := by unfold lawF; kernel_rfl
theorem lw13_0 : lawF 13 false := by unfold lawF; kernel_rfl
end Go.GV
