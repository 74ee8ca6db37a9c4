/- Part 10 of the texts of this claim: what its theorem leans on. -/
import Derived.Test.YtimbbibpghnipaaGreatDoorRows
import Derived.KernelRfl
import GoSem.ClaimGoes
import Derived.JoinedCond
set_option linter.all false
open Option renaming some→Ac,none→C7
open Bool renaming false→Ak,true→Bp
open Go renaming Value→BZ,Operand→DQ,TypeId→Gn,Program→GJ,World→IK,execOp→Km,Oper→K0,IntKind→Lh
open Decidable renaming decide→Dm
namespace Go.Proofs.YtimbbibpghnipaaGreatDoor
open Go
theorem Dx{a b:Bool}(ha:a=Bp)(hb:b=Bp):(a&&b)=Bp:=by rw[ha,hb];rfl
theorem XU:(Rows.lookupItemsRow.inPlace==Tryz.prog.inPlace 6)=Bp:=by kernel_rfl
theorem Qg:(Rows.lookupItemsRow.unfollowed==Tryz.prog.unfollowed 6)=Bp:=by kernel_rfl
theorem Uw:(Rows.lookupItemsRow.recurses==Tryz.prog.recurses 6)=Bp:=by kernel_rfl
theorem ic:(Rows.lookupItemsRow.named==Tryz.prog.varsNamed 6)=Bp:=by kernel_rfl
theorem closed:joinedFacts Tryz.prog 6 Tryz.f6 (OpenSpec.ofChange Rows.lookupItemsSpec).bare Rows.lookupItemsRow=Bp:=by
 unfold joinedFacts
 exact Dx (Dx (Dx (Dx (Dx (Dx (Dx (Dx (Dx (Dx (Dx (Dx (Dx (Dx (Dx (Dx (Dx (Dx (Dx (Dx (Dx (Dx (Dx (Dx (Dx (Dx (Dx (Dx (Dx (Dx (Dx (by kernel_rfl) (by kernel_rfl)) (by kernel_rfl)) (by kernel_rfl)) (by kernel_rfl)) (by kernel_rfl)) (by kernel_rfl)) (by kernel_rfl)) (by kernel_rfl)) XU) Qg) Uw) ic) (by kernel_rfl)) (by kernel_rfl)) (by kernel_rfl)) (by kernel_rfl)) (by kernel_rfl)) (by kernel_rfl)) (by kernel_rfl)) (by kernel_rfl)) (by kernel_rfl)) (by kernel_rfl)) (by kernel_rfl)) (by kernel_rfl)) (by kernel_rfl)) (by kernel_rfl)) (by kernel_rfl)) (by kernel_rfl)) (by kernel_rfl)) (by kernel_rfl)) (by kernel_rfl)
end Go.Proofs.YtimbbibpghnipaaGreatDoor
