/- Part 6 of the texts of this claim: what its theorem leans on. -/
import Derived.Test.YtimbbibpghnipaaGreatDoorZLookupPaths5
import Derived.KernelRfl
set_option linter.all false
open Option renaming some→Ac,none→C7
open Bool renaming false→Aj,true→Bp
open Go renaming Value→BZ,Operand→Dn,TypeId→Gs,Program→GQ,World→IW,execOp→Kt,Oper→K_,IntKind→Lr
open Decidable renaming decide→Di
namespace Go.GV
open Go Go.GK Go.Proofs
noncomputable section
theorem xl:eJ 2000 () =Ac Bp:=by kernel_rfl
end
end Go.GV
