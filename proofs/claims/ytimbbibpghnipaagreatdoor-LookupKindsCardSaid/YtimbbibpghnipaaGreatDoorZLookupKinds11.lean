/- LookupKinds: for every input the call returns true, and each argument reads afterwards as it read before. The package-level variables that its row lists are tied to the program's text. -/
import Derived.Test.YtimbbibpghnipaaGreatDoorZLookupKinds9
import Derived.Test.YtimbbibpghnipaaGreatDoorZLookupKinds10
import Derived.Test.YtimbbibpghnipaaGreatDoorCards
import Derived.Test.YtimbbibpghnipaaGreatDoorTie
import Derived.Deep.DeepHandedRow
import Derived.LaidMore
import Derived.Stop.LaidErr
import Derived.WalkSmall
set_option linter.all false
open Option renaming some→Ac,none→C5
open Bool renaming false→Aj,true→Bp
open Go renaming Value→BZ,Operand→El,TypeId→Gj,Program→GG,World→IG,execOp→Ki,Oper→KV,IntKind→Lc
open Decidable renaming decide→Di
set_option maxRecDepth 100000
set_option maxHeartbeats 4000000
open Go.OpenSpec renaming ofChange→Alu
namespace Go.Proofs.YtimbbibpghnipaaGreatDoor.lookupKinds
open Go.GK Go.GV Go.ChangeShapes Go.WideShapes Go.ChangeAt Go.RowKit
theorem own:ownKnob Tryz.prog.godebug=C5:=by kernel_rfl
theorem laidOut:laidOutB Tryz.prog=Bp:=by kernel_rfl
theorem SH.less{w:IG}{H H':Hp}{O:List Aw}(h:SH w H' O)(hl:H.le H'):SH w H O where
 MH b o x:=h.MH b o (hl.1 b o x)
 os:=h.os.trans hl.2.1
 output:=h.output.trans hl.2.2.1
 tape:=h.tape.trans hl.2.2.2
 ok:=h.ok
 Ir i r b h1 h2:=by
  cases hx:H.at_ b with
  |none=>rfl
  |some o=>
   have:=h.Ir i r b h1 h2
   rw[hl.1 b o hx]at this
   cases this
 nd:=h.nd
theorem gPow:∃g t e,Tryz.prog.globalNamed "internal/strconv.uint64pow10" =Ac g/\(Tryz.prog.globals[g]?).map (·.type)=Ac t/\Tryz.prog.underlying t=Ac (.array 20 e)/\Tryz.prog.underlying e=Ac (.int .u64)/\Tryz.prog.cellsOf e=1/\Tryz.prog.cellsOf t=20:=⟨0,375,291,by kernel_rfl,by kernel_rfl,by kernel_rfl,by kernel_rfl,by kernel_rfl,by kernel_rfl⟩
theorem vW{W:IG}(h:laidMetH Tryz.prog [("math/bits.deBruijn32tab",Rows.laid_math_bits_deBruijn32tab),("math/bits.deBruijn64tab",Rows.laid_math_bits_deBruijn64tab),("internal/strconv.uint64pow10",Rows.laid_internal_strconv_uint64pow10)] W):HL Tryz.prog (Hp.of W):=by
 obtain⟨g,t,e,h1,h2,h3,h4,h5,h6⟩:=gPow
 exact HL.of h1 (Lib.tabIs_of_head h1 h2 h3 h4 h5 h6 (laidMet.tail (laidMet.tail h)))
theorem bU(H:Type)(enc:Gj×BZ->H)(W:IG)(base:Nat)(args:Array BZ)(ds gs:List (DataW H))(before:List MemPlace)
  (hval:∀(j:Nat) t v,Tryz.f4.params[j]?=Ac t->args[j]?=Ac v->BZ.okWide Tryz.prog W .any base t v)
  (hW:DataW.Whole enc Tryz.prog Tryz.f4.params.toList Rows.lookupKindsSpec.vars Aj W args.toList ds gs before) (hL:laidMetH Tryz.prog Rows.lookupKindsRow.laid W):
  Calls Tryz.prog 4 args W λe W'=> ∃v,e= .returned v/\Rows.lookupKindsSpec.post enc Tryz.prog Tryz.f4 Aj Bp Aj Aj W args v W':=by
 have hW':=hW
 obtain⟨p,q,hA0,hV,rfl,_,_⟩:=hW
 have hA:DataW.TrodAll enc Tryz.prog W 0 (λ_=>Bp) Bp Tryz.f4.params.toList args.toList ds p:=hA0
 rw[Tryz.params4]at hA hval
 obtain⟨v0,vs0,d0,ds0,p0,q0,hargs,rfl,rfl,h0,r0⟩:=trodAll_cons hA
 obtain⟨rfl,rfl,rfl⟩:=trodAll_nil r0
 obtain rfl:args= #[v0]:=by cases args;simp_all
 obtain⟨rfl,rfl⟩:=trodVars_none hV
 clear hA0
 simp only[Adi]at hW'
 have hlt:∀x∈p0,x.block<W.heap.size:=λx hx=>hW'.lt x hx
 obtain⟨c0,l0,rfl,hl0,hq0⟩:=GZ.wZ Tryz.underlying33 (by kernel_rfl) (λN=>kO (tn:=33) (k:=40) (by kernel_rfl) N 3) (hval 0 33 v0 rfl rfl) h0
 refine(GL.walk W (vW hL) hl0 hq0 W (Ahp W)).mono λe W' ⟨v,H',O',he,hle,hs,hO,hv⟩=>?_
 subst he hO hv
 have hbel:=(SH.less hs hle).below
 exact⟨_,rfl,⟨_,_,_,[],_,[],hW',trodAll_cons_mk (shut_bool Tryz.underlying4 _) trodAll_mk0,(trodAll_cons_mk (Below.trod laidOut (by kernel_rfl) (of_decide_eq_true (by kernel_rfl)) h0 hbel (λx hx=>hlt x (by simp[hx]))) trodAll_mk0),rfl,hbel.frame _,λh=>by cases h⟩⟩
theorem aD(os:Os):laidMet Tryz.prog Rows.lookupKindsRow.laid ((IG.doorLaid Tryz.prog 400 os).forCall (λ_ _=>0) ⟨#[], #[.agg #[.bool Aj, .bool Aj, .bool Aj, .bool Aj, .slice C5 0 0, .slice C5 0 0, .slice C5 0 0, .slice C5 0 0, .slice C5 0 0]],[]⟩).memory:=
 laidMet_of_run' 8 (by kernel_rfl) (by kernel_rfl)
theorem reads(os:Os){H:Type}(enc:Gj×BZ->H):∃places,DataW.whole enc Tryz.prog ((IG.doorLaid Tryz.prog 400 os).forCall (λ_ _=>0) ⟨#[], #[.agg #[.bool Aj, .bool Aj, .bool Aj, .bool Aj, .slice C5 0 0, .slice C5 0 0, .slice C5 0 0, .slice C5 0 0, .slice C5 0 0]],[]⟩).memory Tryz.f4.params.toList Rows.lookupKindsSpec.vars Aj (#[.agg #[.bool Aj, .bool Aj, .bool Aj, .bool Aj, .slice C5 0 0, .slice C5 0 0, .slice C5 0 0, .slice C5 0 0, .slice C5 0 0]]:Array BZ).toList 8=Ac ([.agg [.lit (.bool Aj), .agg [.lit (.bool Aj), .lit (.bool Aj), .lit (.bool Aj), .agg [.nil, .nil], .agg [.nil]], .nil, .nil]],[],places):=
 ⟨[],by kernel_rfl⟩
theorem lifted(os:Os)(started:os.Started)(H:Type)(enc:Gj×BZ->H)(F:Stop.Interp):
  ReturnsInHanded {} Tryz.checked os 4 .any ((Alu Rows.lookupKindsSpec).preRow enc Tryz.prog Tryz.f4 Rows.lookupKindsRow.domain Aj Rows.lookupKindsRow.laid) (((Alu Rows.lookupKindsSpec).at F).post enc Tryz.prog Tryz.f4 Aj Bp Aj Aj):=by
 obtain⟨places,hx⟩:=reads os enc
 refine returnsInHanded_of_row (C:=Tryz.checked) (s:=(Alu Rows.lookupKindsSpec)) own started (by kernel_rfl) Tryz.func4
  (witness_row_at (enc:=enc) (C:=Tryz.checked) Aj (IG.doorLaid Tryz.prog 400 os) #[.agg #[.bool Aj, .bool Aj, .bool Aj, .bool Aj, .slice C5 0 0, .slice C5 0 0, .slice C5 0 0, .slice C5 0 0, .slice C5 0 0]] rfl (by kernel_rfl) (by kernel_rfl) (by kernel_rfl)
   (OpenSpec.preRow_of_cond 8 hx (by kernel_rfl) (λk hk=>by cases hk) (by kernel_rfl) (aD os))) ?_
 intro W base args ds gs before hval hW _ _ _ hL _ _
 exact bU H enc W base args ds gs before hval hW hL
theorem said:Rows.LookupKindsSaid:=
 OpenClaim.holds_of_cond 4 Tryz.f4 rfl rfl rfl rfl rfl rfl rfl ⟨rfl,rfl,rfl,rfl,rfl⟩ rfl rfl rfl rfl rfl (by kernel_rfl) Tryz.func4 closed
  (of_decide_eq_true (by kernel_rfl)) (by unfold Func.isWrapper;first|(rw[if_pos (by decide+kernel)];kernel_rfl)|(rw[if_neg (by decide+kernel)];exact⟨rfl,rfl⟩))
  (λos started H enc _ F=>by rw[OpenClaim.pre_eq_preRow];exact lifted os started H enc F)
theorem plain(f:FuncId)(fn:Func)(hf:Tryz.pinned.checked.prog.funcNamed "configlang/configlanglaw16.LookupKinds" =Ac f)(hfn:Tryz.pinned.checked.prog.funcs[f]?=Ac fn):
  Aj=Tryz.pinned.checked.prog.looks []/\∀(j:Nat) t,fn.params[j]?=Ac t->Tryz.pinned.checked.prog.wantsStandIn t=Aj:=by
 obtain rfl:f=4:=Abp ((show Tryz.prog.funcNamed "configlang/configlanglaw16.LookupKinds" =Ac 4 by kernel_rfl).symm.trans hf) |>.symm
 obtain rfl:fn=Tryz.f4:=(Abp (Tryz.func4.symm.trans hfn)).symm
 refine⟨by kernel_rfl,λj t ht=>?_⟩
 rw[Tryz.params4]at ht
 have hm:t∈[33]:=by simpa using Array.mem_of_getElem? ht
 have hall:([33].all λu=> !Tryz.prog.wantsStandIn u)=Bp:=by kernel_rfl
 exact(show Tryz.prog.wantsStandIn t=Aj by simpa using No.1 hall t hm)
end Go.Proofs.YtimbbibpghnipaaGreatDoor.lookupKinds
namespace Go.Proofs.YtimbbibpghnipaaGreatDoor
theorem lookupKinds_holds:Rows.LookupKindsCardSaid:=
 Claim7.holds_tied_plain_at .later [] _ _ _ _ lookupKinds.said (λ_ h=>by cases h) (by kernel_rfl) (λ_ h=>by cases h) lookupKinds_row_tie rfl ⟨rfl,rfl⟩ (by kernel_rfl) rfl lookupKinds.plain pq
end Go.Proofs.YtimbbibpghnipaaGreatDoor
