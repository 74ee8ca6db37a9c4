/- Part 6 of the texts of this claim: what its theorem leans on. -/
import Derived.Test.YtkjngekgpgejnaaGreatDoorZLookupAgrees5
import Derived.KernelRfl
set_option linter.all false
namespace Go.GV
open Go Go.GK Go.Proofs
noncomputable section
theorem oG:Ws 2000 () =some true:=by kernel_rfl
end
end Go.GV
