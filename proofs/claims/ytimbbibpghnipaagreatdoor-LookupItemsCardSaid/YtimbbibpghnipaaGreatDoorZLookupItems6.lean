/- Part 6 of the texts of this claim: what its theorem leans on. -/
import Derived.Test.YtimbbibpghnipaaGreatDoorZLookupItems5
import Derived.KernelRfl
set_option linter.all false
open Option renaming some→Ac,none→C7
open Bool renaming false→Ak,true→Bp
open Go renaming Value→BZ,Operand→DQ,TypeId→Gn,Program→GJ,World→IK,execOp→Km,Oper→K0,IntKind→Lh
open Decidable renaming decide→Dm
namespace Go.GV
open Go Go.GK Go.Proofs
noncomputable section
theorem wH:dX 2000 () =Ac Bp:=by kernel_rfl
end
end Go.GV
