/- Part 10 of the texts of this claim: what its theorem leans on. -/
import Derived.Test.YtejdlmphkeeekaaGreatDoorZClosingClosed9
import Derived.KernelRfl
set_option linter.all false
open Option renaming some→Ac,none→Dc
open Bool renaming false→Ak,true→Br
open Go renaming Value→Ce,Operand→Er,TypeId→Gn,Program→GO,World→IK,execOp→Kr,Oper→K5,IntKind→Lm
open Decidable renaming decide→Ds
namespace Go.GV
open Go Go.GK Go.Proofs
noncomputable section
theorem x8:I8 2000 (xh [(xw,xt,xt),(xa,xo,xo)],xo)=Ac ((xb,xo),0):=by kernel_rfl
end
end Go.GV
