/- Part 9 of the texts of this claim: what its theorem leans on. -/
import Derived.Test.YtkjngekgpgejnaaGreatDoorRows
import Derived.KernelRfl
import GoSem.ClaimGoes
import Derived.JoinedCond
set_option linter.all false
namespace Go.Proofs.YtkjngekgpgejnaaGreatDoor
open Go
theorem closed:joinedFacts Tryz.prog 3 Tryz.f3 (OpenSpec.ofChange Rows.lookupAgreesSpec).bare Rows.lookupAgreesRow=true:=by kernel_rfl
end Go.Proofs.YtkjngekgpgejnaaGreatDoor
