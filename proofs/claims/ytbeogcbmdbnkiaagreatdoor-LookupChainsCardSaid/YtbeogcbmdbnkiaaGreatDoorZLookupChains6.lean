/- Part 6 of the texts of this claim: what its theorem leans on. -/
import Derived.Test.YtbeogcbmdbnkiaaGreatDoorZLookupChains5
import Derived.KernelRfl
set_option linter.all false
open Option renaming some→Ac,none→C7
open Bool renaming false→Ap,true→Br
open Go renaming Value→BU,Operand→Dc,TypeId→Ee,Program→Ge,World→GD,execOp→ID,Oper→J5,IntKind→Kj
namespace Go.GV
open Go Go.GK Go.Proofs
noncomputable section
theorem vV:di 2000 () =Ac Br:=by kernel_rfl
end
end Go.GV
