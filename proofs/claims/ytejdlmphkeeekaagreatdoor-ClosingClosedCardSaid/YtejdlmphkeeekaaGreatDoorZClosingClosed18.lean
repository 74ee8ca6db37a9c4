/- Part 18 of the texts of this claim: what its theorem leans on. -/
import Derived.Test.YtejdlmphkeeekaaGreatDoorRows
import Derived.KernelRfl
import GoSem.ClaimGoes
import Derived.JoinedCond
set_option linter.all false
open Option renaming some→Ac,none→Dc
open Bool renaming false→Ak,true→Br
open Go renaming Value→Ce,Operand→Er,TypeId→Gn,Program→GO,World→IK,execOp→Kr,Oper→K5,IntKind→Lm
open Decidable renaming decide→Ds
namespace Go.Proofs.YtejdlmphkeeekaaGreatDoor
open Go
theorem Dz{a b:Bool}(ha:a=Br)(hb:b=Br):(a&&b)=Br:=by rw[ha,hb];rfl
theorem X3:(Rows.closingClosedRow.inPlace==Tryz.prog.inPlace 3)=Br:=by kernel_rfl
theorem Ql:(Rows.closingClosedRow.unfollowed==Tryz.prog.unfollowed 3)=Br:=by kernel_rfl
theorem UG:(Rows.closingClosedRow.recurses==Tryz.prog.recurses 3)=Br:=by kernel_rfl
theorem im:(Rows.closingClosedRow.named==Tryz.prog.varsNamed 3)=Br:=by kernel_rfl
theorem closed:joinedFacts Tryz.prog 3 Tryz.f3 (OpenSpec.ofChange Rows.closingClosedSpec).bare Rows.closingClosedRow=Br:=by
 unfold joinedFacts
 exact Dz (Dz (Dz (Dz (Dz (Dz (Dz (Dz (Dz (Dz (Dz (Dz (Dz (Dz (Dz (Dz (Dz (Dz (Dz (Dz (Dz (Dz (Dz (Dz (Dz (Dz (Dz (Dz (Dz (Dz (Dz (by kernel_rfl) (by kernel_rfl)) (by kernel_rfl)) (by kernel_rfl)) (by kernel_rfl)) (by kernel_rfl)) (by kernel_rfl)) (by kernel_rfl)) (by kernel_rfl)) X3) Ql) UG) im) (by kernel_rfl)) (by kernel_rfl)) (by kernel_rfl)) (by kernel_rfl)) (by kernel_rfl)) (by kernel_rfl)) (by kernel_rfl)) (by kernel_rfl)) (by kernel_rfl)) (by kernel_rfl)) (by kernel_rfl)) (by kernel_rfl)) (by kernel_rfl)) (by kernel_rfl)) (by kernel_rfl)) (by kernel_rfl)) (by kernel_rfl)) (by kernel_rfl)) (by kernel_rfl)
end Go.Proofs.YtejdlmphkeeekaaGreatDoor
