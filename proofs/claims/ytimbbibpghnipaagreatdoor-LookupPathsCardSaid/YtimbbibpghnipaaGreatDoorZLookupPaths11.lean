/- LookupPaths: for every input the call returns true, and each argument reads afterwards as it read before. The package-level variables that its row lists are tied to the program's text. -/
import Derived.Test.YtimbbibpghnipaaGreatDoorZLookupPaths9
import Derived.Test.YtimbbibpghnipaaGreatDoorZLookupPaths10
import Derived.Test.YtimbbibpghnipaaGreatDoorCards
import Derived.Test.YtimbbibpghnipaaGreatDoorTie
import Derived.Deep.DeepHandedRow
import Derived.LaidMore
import Derived.Stop.LaidErr
import Derived.WalkSmall
set_option linter.all false
open Option renaming some→Ac,none→C7
open Bool renaming false→Aj,true→Bp
open Go renaming Value→BZ,Operand→Dn,TypeId→Gs,Program→GQ,World→IW,execOp→Kt,Oper→K_,IntKind→Lr
open Decidable renaming decide→Di
set_option maxRecDepth 100000
set_option maxHeartbeats 4000000
open Go.OpenSpec renaming ofChange→zZ
namespace Go.Proofs.YtimbbibpghnipaaGreatDoor.lookupPaths
open Go.GK Go.GV Go.ChangeShapes Go.WideShapes Go.ChangeAt Go.RowKit
theorem own:ownKnob Tryz.prog.godebug=C7:=by kernel_rfl
theorem laidOut:laidOutB Tryz.prog=Bp:=by kernel_rfl
theorem SH.less{w:IW}{H H':Hp}{O:List Ax}(h:SH w H' O)(hl:H.le H'):SH w H O where
 MW b o x:=h.MW b o (hl.1 b o x)
 os:=h.os.trans hl.2.1
 output:=h.output.trans hl.2.2.1
 tape:=h.tape.trans hl.2.2.2
 ok:=h.ok
 Iz i r b h1 h2:=by
  cases hx:H.at_ b with
  |none=>rfl
  |some o=>
   have:=h.Iz i r b h1 h2
   rw[hl.1 b o hx]at this
   cases this
 nd:=h.nd
theorem gPow:∃g t e,Tryz.prog.globalNamed "internal/strconv.uint64pow10" =Ac g/\(Tryz.prog.globals[g]?).map (·.type)=Ac t/\Tryz.prog.underlying t=Ac (.array 20 e)/\Tryz.prog.underlying e=Ac (.int .u64)/\Tryz.prog.cellsOf e=1/\Tryz.prog.cellsOf t=20:=⟨0,375,291,by kernel_rfl,by kernel_rfl,by kernel_rfl,by kernel_rfl,by kernel_rfl,by kernel_rfl⟩
theorem wP{W:IW}(h:laidMetH Tryz.prog [("math/bits.deBruijn32tab",Rows.laid_math_bits_deBruijn32tab),("math/bits.deBruijn64tab",Rows.laid_math_bits_deBruijn64tab),("internal/strconv.uint64pow10",Rows.laid_internal_strconv_uint64pow10)] W):HR Tryz.prog (Hp.of W):=by
 obtain⟨g,t,e,h1,h2,h3,h4,h5,h6⟩:=gPow
 exact HR.of h1 (Lib.tabIs_of_head h1 h2 h3 h4 h5 h6 (laidMet.tail (laidMet.tail h)))
theorem cR(H:Type)(enc:Gs×BZ->H)(W:IW)(base:Nat)(args:Array BZ)(ds gs:List (DataW H))(before:List MemPlace)
  (hval:∀(j:Nat) t v,Tryz.f8.params[j]?=Ac t->args[j]?=Ac v->BZ.okWide Tryz.prog W .any base t v)
  (hW:DataW.Whole enc Tryz.prog Tryz.f8.params.toList Rows.lookupPathsSpec.vars Aj W args.toList ds gs before) (hL:laidMetH Tryz.prog Rows.lookupPathsRow.laid W):
  Calls Tryz.prog 8 args W λe W'=> ∃v,e= .returned v/\Rows.lookupPathsSpec.post enc Tryz.prog Tryz.f8 Aj Bp Aj Aj W args v W':=by
 have hW':=hW
 obtain⟨p,q,hA0,hV,rfl,_,_⟩:=hW
 have hA:DataW.TrodAll enc Tryz.prog W 0 (λ_=>Bp) Bp Tryz.f8.params.toList args.toList ds p:=hA0
 rw[Tryz.params8]at hA hval
 obtain⟨v0,vs0,d0,ds0,p0,q0,hargs,rfl,rfl,h0,r0⟩:=trodAll_cons hA
 obtain⟨v1,vs1,d1,ds1,p1,q1,rfl,rfl,rfl,h1,r1⟩:=trodAll_cons r0
 obtain⟨rfl,rfl,rfl⟩:=trodAll_nil r1
 obtain rfl:args= #[v0,v1]:=by cases args;simp_all
 obtain⟨rfl,rfl⟩:=trodVars_none hV
 clear hA0
 simp only[Adh]at hW'
 have hlt:∀x∈p0++(p1),x.block<W.heap.size:=λx hx=>hW'.lt x hx
 obtain⟨c0,l0,rfl,hl0,hq0⟩:=GO.xL Tryz.underlying35 (by kernel_rfl) (λN=>Js (k:=9) (Z4 (tn:=33) (k:=40) (by kernel_rfl) N 3) (by kernel_rfl)) (hval 0 35 v0 rfl rfl) h0
 obtain⟨l1,hl1,hq1⟩:=Ajm (c:=KN TV oB) Tryz.underlying52 rfl (λN=>Js (k:=9) (Z4 (tn:=33) (k:=40) (by kernel_rfl) N 3) (by kernel_rfl)) (hval 1 52 v1 rfl rfl) h1
 refine(GL.walk W (wP hL) hl0 hq0 hl1 hq1 W (Ahe W)).mono λe W' ⟨v,H',O',he,hle,hs,hO,hv⟩=>?_
 subst he hO hv
 have hbel:=(SH.less hs hle).below
 exact⟨_,rfl,⟨_,_,_,[],_,[],hW',trodAll_cons_mk (shut_bool Tryz.underlying4 _) trodAll_mk0,(trodAll_cons_mk (Below.trod laidOut (by kernel_rfl) (of_decide_eq_true (by kernel_rfl)) h0 hbel (λx hx=>hlt x (by simp[hx]))) (trodAll_cons_mk (Below.trod laidOut (by kernel_rfl) (of_decide_eq_true (by kernel_rfl)) h1 hbel (λx hx=>hlt x (by simp[hx]))) trodAll_mk0)),rfl,hbel.frame _,λh=>by cases h⟩⟩
theorem bm(os:Os):laidMet Tryz.prog Rows.lookupPathsRow.laid ((IW.doorLaid Tryz.prog 400 os).forCall (λ_ _=>0) ⟨#[], #[.agg #[.bool Aj, .bool Aj, .bool Aj, .bool Aj, .slice C7 0 0, .slice C7 0 0, .slice C7 0 0, .slice C7 0 0, .slice C7 0 0, .bool Aj, .bool Aj, .bool Aj, .bool Aj, .slice C7 0 0, .slice C7 0 0, .slice C7 0 0, .slice C7 0 0, .slice C7 0 0], .slice C7 0 0],[]⟩).memory:=
 laidMet_of_run' 8 (by kernel_rfl) (by kernel_rfl)
theorem reads(os:Os){H:Type}(enc:Gs×BZ->H):∃places,DataW.whole enc Tryz.prog ((IW.doorLaid Tryz.prog 400 os).forCall (λ_ _=>0) ⟨#[], #[.agg #[.bool Aj, .bool Aj, .bool Aj, .bool Aj, .slice C7 0 0, .slice C7 0 0, .slice C7 0 0, .slice C7 0 0, .slice C7 0 0, .bool Aj, .bool Aj, .bool Aj, .bool Aj, .slice C7 0 0, .slice C7 0 0, .slice C7 0 0, .slice C7 0 0, .slice C7 0 0], .slice C7 0 0],[]⟩).memory Tryz.f8.params.toList Rows.lookupPathsSpec.vars Aj (#[.agg #[.bool Aj, .bool Aj, .bool Aj, .bool Aj, .slice C7 0 0, .slice C7 0 0, .slice C7 0 0, .slice C7 0 0, .slice C7 0 0, .bool Aj, .bool Aj, .bool Aj, .bool Aj, .slice C7 0 0, .slice C7 0 0, .slice C7 0 0, .slice C7 0 0, .slice C7 0 0], .slice C7 0 0]:Array BZ).toList 8=Ac ([.agg [.agg [.lit (.bool Aj), .agg [.lit (.bool Aj), .lit (.bool Aj), .lit (.bool Aj), .agg [.nil, .nil], .agg [.nil]], .nil, .nil], .agg [.lit (.bool Aj), .agg [.lit (.bool Aj), .lit (.bool Aj), .lit (.bool Aj), .agg [.nil, .nil], .agg [.nil]], .nil, .nil]], .nil],[],places):=
 ⟨[],by kernel_rfl⟩
theorem lifted(os:Os)(started:os.Started)(H:Type)(enc:Gs×BZ->H)(F:Stop.Interp):
  ReturnsInHanded {} Tryz.checked os 8 .any ((zZ Rows.lookupPathsSpec).preRow enc Tryz.prog Tryz.f8 Rows.lookupPathsRow.domain Aj Rows.lookupPathsRow.laid) (((zZ Rows.lookupPathsSpec).at F).post enc Tryz.prog Tryz.f8 Aj Bp Aj Aj):=by
 obtain⟨places,hx⟩:=reads os enc
 refine returnsInHanded_of_row (C:=Tryz.checked) (s:=(zZ Rows.lookupPathsSpec)) own started (by kernel_rfl) Tryz.func8
  (witness_row_at (enc:=enc) (C:=Tryz.checked) Aj (IW.doorLaid Tryz.prog 400 os) #[.agg #[.bool Aj, .bool Aj, .bool Aj, .bool Aj, .slice C7 0 0, .slice C7 0 0, .slice C7 0 0, .slice C7 0 0, .slice C7 0 0, .bool Aj, .bool Aj, .bool Aj, .bool Aj, .slice C7 0 0, .slice C7 0 0, .slice C7 0 0, .slice C7 0 0, .slice C7 0 0], .slice C7 0 0] rfl (by kernel_rfl) (by kernel_rfl) (by kernel_rfl)
   (OpenSpec.preRow_of_cond 8 hx (by kernel_rfl) (λk hk=>by cases hk) (by kernel_rfl) (bm os))) ?_
 intro W base args ds gs before hval hW _ _ _ hL _ _
 exact cR H enc W base args ds gs before hval hW hL
theorem said:Rows.LookupPathsSaid:=
 OpenClaim.holds_of_cond 8 Tryz.f8 rfl rfl rfl rfl rfl rfl rfl ⟨rfl,rfl,rfl,rfl,rfl⟩ rfl rfl rfl rfl rfl (by kernel_rfl) Tryz.func8 closed
  (of_decide_eq_true (by kernel_rfl)) (by unfold Func.isWrapper;first|(rw[if_pos (by decide+kernel)];kernel_rfl)|(rw[if_neg (by decide+kernel)];exact⟨rfl,rfl⟩))
  (λos started H enc _ F=>by rw[OpenClaim.pre_eq_preRow];exact lifted os started H enc F)
theorem plain(f:FuncId)(fn:Func)(hf:Tryz.pinned.checked.prog.funcNamed "configlang/configlanglaw16.LookupPaths" =Ac f)(hfn:Tryz.pinned.checked.prog.funcs[f]?=Ac fn):
  Aj=Tryz.pinned.checked.prog.looks []/\∀(j:Nat) t,fn.params[j]?=Ac t->Tryz.pinned.checked.prog.wantsStandIn t=Aj:=by
 obtain rfl:f=8:=Abs ((show Tryz.prog.funcNamed "configlang/configlanglaw16.LookupPaths" =Ac 8 by kernel_rfl).symm.trans hf) |>.symm
 obtain rfl:fn=Tryz.f8:=(Abs (Tryz.func8.symm.trans hfn)).symm
 refine⟨by kernel_rfl,λj t ht=>?_⟩
 rw[Tryz.params8]at ht
 have hm:t∈[35,52]:=by simpa using Array.mem_of_getElem? ht
 have hall:([35,52].all λu=> !Tryz.prog.wantsStandIn u)=Bp:=by kernel_rfl
 exact(show Tryz.prog.wantsStandIn t=Aj by simpa using IT.1 hall t hm)
end Go.Proofs.YtimbbibpghnipaaGreatDoor.lookupPaths
namespace Go.Proofs.YtimbbibpghnipaaGreatDoor
theorem lookupPaths_holds:Rows.LookupPathsCardSaid:=
 Claim7.holds_tied_plain_at .later [] _ _ _ _ lookupPaths.said (λ_ h=>by cases h) (by kernel_rfl) (λ_ h=>by cases h) lookupPaths_row_tie rfl ⟨rfl,rfl⟩ (by kernel_rfl) rfl lookupPaths.plain pX
end Go.Proofs.YtimbbibpghnipaaGreatDoor
