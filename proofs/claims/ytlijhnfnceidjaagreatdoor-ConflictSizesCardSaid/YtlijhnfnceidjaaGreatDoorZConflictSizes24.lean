/- Part 24 of the texts of this claim: what its theorem leans on. -/
import Derived.Test.YtlijhnfnceidjaaGreatDoorZConflictSizes23
import Derived.JoinedCond
namespace Go.Proofs.YtlijhnfnceidjaaGreatDoor
open Go
theorem band {a b : Bool} (ha : a = true) (hb : b = true) : (a && b) = true := by rw [ha, hb]; rfl
theorem f_inPlace : (Rows.conflictSizesRow.inPlace == Tryz.prog.inPlace 3) = true := by unfold Program.inPlace; rw [clos]; kernel_rfl
theorem f_unf : Tryz.prog.unfollowed 3 = true := by unfold Program.unfollowed; rw [clos]; kernel_rfl
theorem f_unfollowed : (Rows.conflictSizesRow.unfollowed == Tryz.prog.unfollowed 3) = true := by rw [f_unf]; rfl
theorem f_recurses : (Rows.conflictSizesRow.recurses == Tryz.prog.recurses 3) = true := by unfold Program.recurses; rw [f_unf, Bool.true_or]; rfl
theorem f_named : (Rows.conflictSizesRow.named == Tryz.prog.varsNamed 3) = true := by unfold Program.varsNamed; rw [clos]; kernel_rfl
theorem closed : joinedFacts Tryz.prog 3 Tryz.f3 (OpenSpec.ofChange Rows.conflictSizesSpec).bare Rows.conflictSizesRow = true := by
  unfold joinedFacts
  exact band (band (band (band (band (band (band (band (band (band (band (band (band (band (band (band (band (band (band (band (band (band (band (band (band (band (band (band (band (band (band (by kernel_rfl) (by kernel_rfl)) (by kernel_rfl)) (by kernel_rfl)) (by kernel_rfl)) (by kernel_rfl)) (by kernel_rfl)) (by kernel_rfl)) (by kernel_rfl)) f_inPlace) f_unfollowed) f_recurses) f_named) (by kernel_rfl)) (by kernel_rfl)) (by kernel_rfl)) (by kernel_rfl)) (by kernel_rfl)) (by kernel_rfl)) (by kernel_rfl)) (by kernel_rfl)) (by kernel_rfl)) (by kernel_rfl)) (by kernel_rfl)) (by kernel_rfl)) (by kernel_rfl)) (by kernel_rfl)) (by kernel_rfl)) (by kernel_rfl)) (by kernel_rfl)) (by kernel_rfl)) (by kernel_rfl)
end Go.Proofs.YtlijhnfnceidjaaGreatDoor
