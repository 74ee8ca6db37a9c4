/- Part 10 of the texts of this claim: what its theorem leans on. -/
import Derived.Test.YtbeogcbmdbnkiaaGreatDoorRows
import Derived.KernelRfl
import GoSem.ClaimGoes
import Derived.JoinedCond
set_option linter.all false
open Option renaming some→Ac,none→C7
open Bool renaming false→Ap,true→Br
open Go renaming Value→BU,Operand→Dc,TypeId→Ee,Program→Ge,World→GD,execOp→ID,Oper→J5,IntKind→Kj
namespace Go.Proofs.YtbeogcbmdbnkiaaGreatDoor
open Go
theorem Dl{a b:Bool}(ha:a=Br)(hb:b=Br):(a&&b)=Br:=by rw[ha,hb];rfl
theorem Xu:(Rows.lookupChainsRow.inPlace==Tryz.prog.inPlace 3)=Br:=by kernel_rfl
theorem P3:(Rows.lookupChainsRow.unfollowed==Tryz.prog.unfollowed 3)=Br:=by kernel_rfl
theorem T':(Rows.lookupChainsRow.recurses==Tryz.prog.recurses 3)=Br:=by kernel_rfl
theorem gE:(Rows.lookupChainsRow.named==Tryz.prog.varsNamed 3)=Br:=by kernel_rfl
theorem closed:joinedFacts Tryz.prog 3 Tryz.f3 (OpenSpec.ofChange Rows.lookupChainsSpec).bare Rows.lookupChainsRow=Br:=by
 unfold joinedFacts
 exact Dl (Dl (Dl (Dl (Dl (Dl (Dl (Dl (Dl (Dl (Dl (Dl (Dl (Dl (Dl (Dl (Dl (Dl (Dl (Dl (Dl (Dl (Dl (Dl (Dl (Dl (Dl (Dl (Dl (Dl (Dl (by kernel_rfl) (by kernel_rfl)) (by kernel_rfl)) (by kernel_rfl)) (by kernel_rfl)) (by kernel_rfl)) (by kernel_rfl)) (by kernel_rfl)) (by kernel_rfl)) Xu) P3) T') gE) (by kernel_rfl)) (by kernel_rfl)) (by kernel_rfl)) (by kernel_rfl)) (by kernel_rfl)) (by kernel_rfl)) (by kernel_rfl)) (by kernel_rfl)) (by kernel_rfl)) (by kernel_rfl)) (by kernel_rfl)) (by kernel_rfl)) (by kernel_rfl)) (by kernel_rfl)) (by kernel_rfl)) (by kernel_rfl)) (by kernel_rfl)) (by kernel_rfl)) (by kernel_rfl)
end Go.Proofs.YtbeogcbmdbnkiaaGreatDoor
