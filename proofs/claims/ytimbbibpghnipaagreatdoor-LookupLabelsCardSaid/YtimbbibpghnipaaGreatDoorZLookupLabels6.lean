/- Part 6 of the texts of this claim: what its theorem leans on. -/
import Derived.Test.YtimbbibpghnipaaGreatDoorZLookupLabels5
import Derived.KernelRfl
set_option linter.all false
open Option renaming some→Ac,none→C7
open Bool renaming false→Aj,true→Bp
open Go renaming Value→BZ,Operand→DQ,TypeId→Gq,Program→GN,World→IU,execOp→Kt,Oper→K7,IntKind→Lo
open Decidable renaming decide→Dl
namespace Go.GV
open Go Go.GK Go.Proofs
noncomputable section
theorem wW:ew 2000 () =Ac Bp:=by kernel_rfl
end
end Go.GV
