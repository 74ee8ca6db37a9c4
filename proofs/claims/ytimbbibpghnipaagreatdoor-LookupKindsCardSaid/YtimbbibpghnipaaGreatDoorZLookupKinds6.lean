/- Part 6 of the texts of this claim: what its theorem leans on. -/
import Derived.Test.YtimbbibpghnipaaGreatDoorZLookupKinds5
import Derived.KernelRfl
set_option linter.all false
open Option renaming some→Ac,none→C5
open Bool renaming false→Aj,true→Bp
open Go renaming Value→BZ,Operand→El,TypeId→Gj,Program→GG,World→IG,execOp→Ki,Oper→KV,IntKind→Lc
open Decidable renaming decide→Di
namespace Go.GV
open Go Go.GK Go.Proofs
noncomputable section
theorem wC:dM 2000 () =Ac Bp:=by kernel_rfl
end
end Go.GV
