/- Part 10 of the texts of this claim: what its theorem leans on. -/
import Derived.Test.YtimbbibpghnipaaGreatDoorRows
import Derived.KernelRfl
import GoSem.ClaimGoes
import Derived.JoinedCond
set_option linter.all false
open Option renaming some→Ac,none→C7
open Bool renaming false→Aj,true→Bp
open Go renaming Value→BZ,Operand→DP,TypeId→Gp,Program→GM,World→IL,execOp→Kp,Oper→K3,IntKind→Lk
open Decidable renaming decide→Dl
namespace Go.Proofs.YtimbbibpghnipaaGreatDoor
open Go
theorem Dx{a b:Bool}(ha:a=Bp)(hb:b=Bp):(a&&b)=Bp:=by rw[ha,hb];rfl
theorem X4:(Rows.lookupSelectsRow.inPlace==Tryz.prog.inPlace 3)=Bp:=by kernel_rfl
theorem Ql:(Rows.lookupSelectsRow.unfollowed==Tryz.prog.unfollowed 3)=Bp:=by kernel_rfl
theorem UE:(Rows.lookupSelectsRow.recurses==Tryz.prog.recurses 3)=Bp:=by kernel_rfl
theorem iy:(Rows.lookupSelectsRow.named==Tryz.prog.varsNamed 3)=Bp:=by kernel_rfl
theorem closed:joinedFacts Tryz.prog 3 Tryz.f3 (OpenSpec.ofChange Rows.lookupSelectsSpec).bare Rows.lookupSelectsRow=Bp:=by
 unfold joinedFacts
 exact Dx (Dx (Dx (Dx (Dx (Dx (Dx (Dx (Dx (Dx (Dx (Dx (Dx (Dx (Dx (Dx (Dx (Dx (Dx (Dx (Dx (Dx (Dx (Dx (Dx (Dx (Dx (Dx (Dx (Dx (Dx (by kernel_rfl) (by kernel_rfl)) (by kernel_rfl)) (by kernel_rfl)) (by kernel_rfl)) (by kernel_rfl)) (by kernel_rfl)) (by kernel_rfl)) (by kernel_rfl)) X4) Ql) UE) iy) (by kernel_rfl)) (by kernel_rfl)) (by kernel_rfl)) (by kernel_rfl)) (by kernel_rfl)) (by kernel_rfl)) (by kernel_rfl)) (by kernel_rfl)) (by kernel_rfl)) (by kernel_rfl)) (by kernel_rfl)) (by kernel_rfl)) (by kernel_rfl)) (by kernel_rfl)) (by kernel_rfl)) (by kernel_rfl)) (by kernel_rfl)) (by kernel_rfl)) (by kernel_rfl)
end Go.Proofs.YtimbbibpghnipaaGreatDoor
