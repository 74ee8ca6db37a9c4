/- Part 9 of the texts of this claim: what its theorem leans on. -/
import Derived.Test.YtejdlmphkeeekaaGreatDoorZClosingClosed8
import Derived.KernelRfl
set_option linter.all false
open Option renaming some→Ac,none→Dc
open Bool renaming false→Ak,true→Br
open Go renaming Value→Ce,Operand→Er,TypeId→Gn,Program→GO,World→IK,execOp→Kr,Oper→K5,IntKind→Lm
open Decidable renaming decide→Ds
namespace Go.GV
open Go Go.GK Go.Proofs
noncomputable section
theorem x6:I8 2000 (xs xo,xo)=Ac ((xs xo,xo),0):=by kernel_rfl
theorem x7:I8 2000 (xs xt,xo)=Ac ((xs xt,xo),0):=by kernel_rfl
theorem x10:I8 2000 (xn,xo)=Ac ((xn,xo),0):=by kernel_rfl
end
end Go.GV
