/- Part 10 of the texts of this claim: what its theorem leans on. -/
import Derived.Test.YtimbbibpghnipaaGreatDoorRows
import Derived.KernelRfl
import GoSem.ClaimGoes
import Derived.JoinedCond
set_option linter.all false
open Option renaming some→Ac,none→C7
open Bool renaming false→Ak,true→Bp
open Go renaming Value→BZ,Operand→Dy,TypeId→Gp,Program→GM,World→IL,execOp→Kp,Oper→K3,IntKind→Lk
open Decidable renaming decide→Dl
namespace Go.Proofs.YtimbbibpghnipaaGreatDoor
open Go
theorem Dw{a b:Bool}(ha:a=Bp)(hb:b=Bp):(a&&b)=Bp:=by rw[ha,hb];rfl
theorem XY:(Rows.lookupIndexesRow.inPlace==Tryz.prog.inPlace 5)=Bp:=by kernel_rfl
theorem Qk:(Rows.lookupIndexesRow.unfollowed==Tryz.prog.unfollowed 5)=Bp:=by kernel_rfl
theorem UB:(Rows.lookupIndexesRow.recurses==Tryz.prog.recurses 5)=Bp:=by kernel_rfl
theorem iv:(Rows.lookupIndexesRow.named==Tryz.prog.varsNamed 5)=Bp:=by kernel_rfl
theorem closed:joinedFacts Tryz.prog 5 Tryz.f5 (OpenSpec.ofChange Rows.lookupIndexesSpec).bare Rows.lookupIndexesRow=Bp:=by
 unfold joinedFacts
 exact Dw (Dw (Dw (Dw (Dw (Dw (Dw (Dw (Dw (Dw (Dw (Dw (Dw (Dw (Dw (Dw (Dw (Dw (Dw (Dw (Dw (Dw (Dw (Dw (Dw (Dw (Dw (Dw (Dw (Dw (Dw (by kernel_rfl) (by kernel_rfl)) (by kernel_rfl)) (by kernel_rfl)) (by kernel_rfl)) (by kernel_rfl)) (by kernel_rfl)) (by kernel_rfl)) (by kernel_rfl)) XY) Qk) UB) iv) (by kernel_rfl)) (by kernel_rfl)) (by kernel_rfl)) (by kernel_rfl)) (by kernel_rfl)) (by kernel_rfl)) (by kernel_rfl)) (by kernel_rfl)) (by kernel_rfl)) (by kernel_rfl)) (by kernel_rfl)) (by kernel_rfl)) (by kernel_rfl)) (by kernel_rfl)) (by kernel_rfl)) (by kernel_rfl)) (by kernel_rfl)) (by kernel_rfl)) (by kernel_rfl)
end Go.Proofs.YtimbbibpghnipaaGreatDoor
