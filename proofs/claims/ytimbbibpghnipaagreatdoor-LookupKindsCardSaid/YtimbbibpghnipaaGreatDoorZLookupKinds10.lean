/- Part 10 of the texts of this claim: what its theorem leans on. -/
import Derived.Test.YtimbbibpghnipaaGreatDoorRows
import Derived.KernelRfl
import GoSem.ClaimGoes
import Derived.JoinedCond
set_option linter.all false
open Option renaming some→Ac,none→C5
open Bool renaming false→Aj,true→Bp
open Go renaming Value→BZ,Operand→El,TypeId→Gj,Program→GG,World→IG,execOp→Ki,Oper→KV,IntKind→Lc
open Decidable renaming decide→Di
namespace Go.Proofs.YtimbbibpghnipaaGreatDoor
open Go
theorem Ds{a b:Bool}(ha:a=Bp)(hb:b=Bp):(a&&b)=Bp:=by rw[ha,hb];rfl
theorem XJ:(Rows.lookupKindsRow.inPlace==Tryz.prog.inPlace 4)=Bp:=by kernel_rfl
theorem Qc:(Rows.lookupKindsRow.unfollowed==Tryz.prog.unfollowed 4)=Bp:=by kernel_rfl
theorem Un:(Rows.lookupKindsRow.recurses==Tryz.prog.recurses 4)=Bp:=by kernel_rfl
theorem gZ:(Rows.lookupKindsRow.named==Tryz.prog.varsNamed 4)=Bp:=by kernel_rfl
theorem closed:joinedFacts Tryz.prog 4 Tryz.f4 (OpenSpec.ofChange Rows.lookupKindsSpec).bare Rows.lookupKindsRow=Bp:=by
 unfold joinedFacts
 exact Ds (Ds (Ds (Ds (Ds (Ds (Ds (Ds (Ds (Ds (Ds (Ds (Ds (Ds (Ds (Ds (Ds (Ds (Ds (Ds (Ds (Ds (Ds (Ds (Ds (Ds (Ds (Ds (Ds (Ds (Ds (by kernel_rfl) (by kernel_rfl)) (by kernel_rfl)) (by kernel_rfl)) (by kernel_rfl)) (by kernel_rfl)) (by kernel_rfl)) (by kernel_rfl)) (by kernel_rfl)) XJ) Qc) Un) gZ) (by kernel_rfl)) (by kernel_rfl)) (by kernel_rfl)) (by kernel_rfl)) (by kernel_rfl)) (by kernel_rfl)) (by kernel_rfl)) (by kernel_rfl)) (by kernel_rfl)) (by kernel_rfl)) (by kernel_rfl)) (by kernel_rfl)) (by kernel_rfl)) (by kernel_rfl)) (by kernel_rfl)) (by kernel_rfl)) (by kernel_rfl)) (by kernel_rfl)) (by kernel_rfl)
end Go.Proofs.YtimbbibpghnipaaGreatDoor
