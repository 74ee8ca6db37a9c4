/- Part 20 of the texts of this claim: what its theorem leans on. -/
import Derived.Test.YtlijhnfnceidjaaGreatDoorZConflictSizes15
import Derived.KernelRfl
namespace Go.GV
open Go Go.GK Go.Proofs
theorem lw1_1 : lawF 1 true := by unfold lawF; kernel_rfl
theorem lw4_0 : lawF 4 false := by unfold lawF; kernel_rfl
theorem lw7_1 : lawF 7 true := by unfold lawF; kernel_rfl
theorem lw10_0 : lawF 10 false := by unfold lawF; kernel_rfl
theorem lw13_1 : lawF 13 true := by unfold lawF; kernel_rfl
end Go.GV
