/- Part 10 of the texts of this claim: what its theorem leans on. -/
import Derived.Test.YtimbbibpghnipaaGreatDoorRows
import Derived.KernelRfl
import GoSem.ClaimGoes
import Derived.JoinedCond
set_option linter.all false
open Option renaming some→Ac,none→C7
open Bool renaming false→Aj,true→Bp
open Go renaming Value→BZ,Operand→Dn,TypeId→Gs,Program→GQ,World→IW,execOp→Kt,Oper→K_,IntKind→Lr
open Decidable renaming decide→Di
namespace Go.Proofs.YtimbbibpghnipaaGreatDoor
open Go
theorem Dz{a b:Bool}(ha:a=Bp)(hb:b=Bp):(a&&b)=Bp:=by rw[ha,hb];rfl
theorem Yg:(Rows.lookupPathsRow.inPlace==Tryz.prog.inPlace 8)=Bp:=by kernel_rfl
theorem Qr:(Rows.lookupPathsRow.unfollowed==Tryz.prog.unfollowed 8)=Bp:=by kernel_rfl
theorem UR:(Rows.lookupPathsRow.recurses==Tryz.prog.recurses 8)=Bp:=by kernel_rfl
theorem iJ:(Rows.lookupPathsRow.named==Tryz.prog.varsNamed 8)=Bp:=by kernel_rfl
theorem closed:joinedFacts Tryz.prog 8 Tryz.f8 (OpenSpec.ofChange Rows.lookupPathsSpec).bare Rows.lookupPathsRow=Bp:=by
 unfold joinedFacts
 exact Dz (Dz (Dz (Dz (Dz (Dz (Dz (Dz (Dz (Dz (Dz (Dz (Dz (Dz (Dz (Dz (Dz (Dz (Dz (Dz (Dz (Dz (Dz (Dz (Dz (Dz (Dz (Dz (Dz (Dz (Dz (by kernel_rfl) (by kernel_rfl)) (by kernel_rfl)) (by kernel_rfl)) (by kernel_rfl)) (by kernel_rfl)) (by kernel_rfl)) (by kernel_rfl)) (by kernel_rfl)) Yg) Qr) UR) iJ) (by kernel_rfl)) (by kernel_rfl)) (by kernel_rfl)) (by kernel_rfl)) (by kernel_rfl)) (by kernel_rfl)) (by kernel_rfl)) (by kernel_rfl)) (by kernel_rfl)) (by kernel_rfl)) (by kernel_rfl)) (by kernel_rfl)) (by kernel_rfl)) (by kernel_rfl)) (by kernel_rfl)) (by kernel_rfl)) (by kernel_rfl)) (by kernel_rfl)) (by kernel_rfl)
end Go.Proofs.YtimbbibpghnipaaGreatDoor
