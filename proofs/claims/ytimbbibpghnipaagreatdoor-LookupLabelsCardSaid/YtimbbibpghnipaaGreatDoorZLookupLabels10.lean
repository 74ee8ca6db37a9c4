/- Part 10 of the texts of this claim: what its theorem leans on. -/
import Derived.Test.YtimbbibpghnipaaGreatDoorRows
import Derived.KernelRfl
import GoSem.ClaimGoes
import Derived.JoinedCond
set_option linter.all false
open Option renaming some→Ac,none→C7
open Bool renaming false→Aj,true→Bp
open Go renaming Value→BZ,Operand→DQ,TypeId→Gq,Program→GN,World→IU,execOp→Kt,Oper→K7,IntKind→Lo
open Decidable renaming decide→Dl
namespace Go.Proofs.YtimbbibpghnipaaGreatDoor
open Go
theorem Dx{a b:Bool}(ha:a=Bp)(hb:b=Bp):(a&&b)=Bp:=by rw[ha,hb];rfl
theorem X4:(Rows.lookupLabelsRow.inPlace==Tryz.prog.inPlace 7)=Bp:=by kernel_rfl
theorem Qn:(Rows.lookupLabelsRow.unfollowed==Tryz.prog.unfollowed 7)=Bp:=by kernel_rfl
theorem UG:(Rows.lookupLabelsRow.recurses==Tryz.prog.recurses 7)=Bp:=by kernel_rfl
theorem iA:(Rows.lookupLabelsRow.named==Tryz.prog.varsNamed 7)=Bp:=by kernel_rfl
theorem closed:joinedFacts Tryz.prog 7 Tryz.f7 (OpenSpec.ofChange Rows.lookupLabelsSpec).bare Rows.lookupLabelsRow=Bp:=by
 unfold joinedFacts
 exact Dx (Dx (Dx (Dx (Dx (Dx (Dx (Dx (Dx (Dx (Dx (Dx (Dx (Dx (Dx (Dx (Dx (Dx (Dx (Dx (Dx (Dx (Dx (Dx (Dx (Dx (Dx (Dx (Dx (Dx (Dx (by kernel_rfl) (by kernel_rfl)) (by kernel_rfl)) (by kernel_rfl)) (by kernel_rfl)) (by kernel_rfl)) (by kernel_rfl)) (by kernel_rfl)) (by kernel_rfl)) X4) Qn) UG) iA) (by kernel_rfl)) (by kernel_rfl)) (by kernel_rfl)) (by kernel_rfl)) (by kernel_rfl)) (by kernel_rfl)) (by kernel_rfl)) (by kernel_rfl)) (by kernel_rfl)) (by kernel_rfl)) (by kernel_rfl)) (by kernel_rfl)) (by kernel_rfl)) (by kernel_rfl)) (by kernel_rfl)) (by kernel_rfl)) (by kernel_rfl)) (by kernel_rfl)) (by kernel_rfl)
end Go.Proofs.YtimbbibpghnipaaGreatDoor
