/- Part 6 of the texts of this claim: what its theorem leans on. -/
import Derived.Test.YtimbbibpghnipaaGreatDoorZLookupIndexes5
import Derived.KernelRfl
set_option linter.all false
open Option renaming some→Ac,none→C7
open Bool renaming false→Ak,true→Bp
open Go renaming Value→BZ,Operand→Dy,TypeId→Gp,Program→GM,World→IL,execOp→Kp,Oper→K3,IntKind→Lk
open Decidable renaming decide→Dl
namespace Go.GV
open Go Go.GK Go.Proofs
noncomputable section
theorem wV:eg 2000 () =Ac Bp:=by kernel_rfl
end
end Go.GV
