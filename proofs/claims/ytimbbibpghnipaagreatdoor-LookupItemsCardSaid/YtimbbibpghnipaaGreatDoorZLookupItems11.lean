/- LookupItems: for every input the call returns true, and each argument reads afterwards as it read before. The package-level variables that its row lists are tied to the program's text. -/
import Derived.Test.YtimbbibpghnipaaGreatDoorZLookupItems9
import Derived.Test.YtimbbibpghnipaaGreatDoorZLookupItems10
import Derived.Test.YtimbbibpghnipaaGreatDoorCards
import Derived.Test.YtimbbibpghnipaaGreatDoorTie
import Derived.Deep.DeepHandedRow
import Derived.LaidMore
import Derived.Stop.LaidErr
import Derived.WalkSmall
set_option linter.all false
open Option renaming some→Ac,none→C7
open Bool renaming false→Ak,true→Bp
open Go renaming Value→BZ,Operand→DQ,TypeId→Gn,Program→GJ,World→IK,execOp→Km,Oper→K0,IntKind→Lh
open Decidable renaming decide→Dm
set_option maxRecDepth 100000
set_option maxHeartbeats 4000000
open Go.OpenSpec renaming ofChange→Alr
namespace Go.Proofs.YtimbbibpghnipaaGreatDoor.lookupItems
open Go.GK Go.GV Go.ChangeShapes Go.WideShapes Go.ChangeAt Go.RowKit
theorem own:ownKnob Tryz.prog.godebug=C7:=by kernel_rfl
theorem laidOut:laidOutB Tryz.prog=Bp:=by kernel_rfl
theorem SH.less{w:IK}{H H':Hp}{O:List Aw}(h:SH w H' O)(hl:H.le H'):SH w H O where
 MO b o x:=h.MO b o (hl.1 b o x)
 os:=h.os.trans hl.2.1
 output:=h.output.trans hl.2.2.1
 tape:=h.tape.trans hl.2.2.2
 ok:=h.ok
 Iu i r b h1 h2:=by
  cases hx:H.at_ b with
  |none=>rfl
  |some o=>
   have:=h.Iu i r b h1 h2
   rw[hl.1 b o hx]at this
   cases this
 nd:=h.nd
theorem gPow:∃g t e,Tryz.prog.globalNamed "internal/strconv.uint64pow10" =Ac g/\(Tryz.prog.globals[g]?).map (·.type)=Ac t/\Tryz.prog.underlying t=Ac (.array 20 e)/\Tryz.prog.underlying e=Ac (.int .u64)/\Tryz.prog.cellsOf e=1/\Tryz.prog.cellsOf t=20:=⟨0,375,291,by kernel_rfl,by kernel_rfl,by kernel_rfl,by kernel_rfl,by kernel_rfl,by kernel_rfl⟩
theorem v8{W:IK}(h:laidMetH Tryz.prog [("math/bits.deBruijn32tab",Rows.laid_math_bits_deBruijn32tab),("math/bits.deBruijn64tab",Rows.laid_math_bits_deBruijn64tab),("internal/strconv.uint64pow10",Rows.laid_internal_strconv_uint64pow10)] W):HO Tryz.prog (Hp.of W):=by
 obtain⟨g,t,e,h1,h2,h3,h4,h5,h6⟩:=gPow
 exact HO.of h1 (Lib.tabIs_of_head h1 h2 h3 h4 h5 h6 (laidMet.tail (laidMet.tail h)))
theorem ca(H:Type)(enc:Gn×BZ->H)(W:IK)(base:Nat)(args:Array BZ)(ds gs:List (DataW H))(before:List MemPlace)
  (hval:∀(j:Nat) t v,Tryz.f6.params[j]?=Ac t->args[j]?=Ac v->BZ.okWide Tryz.prog W .any base t v)
  (hW:DataW.Whole enc Tryz.prog Tryz.f6.params.toList Rows.lookupItemsSpec.vars Ak W args.toList ds gs before) (hL:laidMetH Tryz.prog Rows.lookupItemsRow.laid W):
  Calls Tryz.prog 6 args W λe W'=> ∃v,e= .returned v/\Rows.lookupItemsSpec.post enc Tryz.prog Tryz.f6 Ak Bp Ak Ak W args v W':=by
 have hW':=hW
 obtain⟨p,q,hA0,hV,rfl,_,_⟩:=hW
 have hA:DataW.TrodAll enc Tryz.prog W 0 (λ_=>Bp) Bp Tryz.f6.params.toList args.toList ds p:=hA0
 rw[Tryz.params6]at hA hval
 obtain⟨v0,vs0,d0,ds0,p0,q0,hargs,rfl,rfl,h0,r0⟩:=trodAll_cons hA
 obtain⟨rfl,rfl,rfl⟩:=trodAll_nil r0
 obtain rfl:args= #[v0]:=by cases args;simp_all
 obtain⟨rfl,rfl⟩:=trodVars_none hV
 clear hA0
 simp only[Adi]at hW'
 have hlt:∀x∈p0,x.block<W.heap.size:=λx hx=>hW'.lt x hx
 obtain⟨c0,l0,rfl,hl0,hq0⟩:=G3.xa Tryz.underlying35 (by kernel_rfl) (λN=>LF (k:=9) (kT (tn:=33) (k:=40) (by kernel_rfl) N 3) (by kernel_rfl)) (hval 0 35 v0 rfl rfl) h0
 refine(GL.walk W (v8 hL) hl0 hq0 W (Ahl W)).mono λe W' ⟨v,H',O',he,hle,hs,hO,hv⟩=>?_
 subst he hO hv
 have hbel:=(SH.less hs hle).below
 exact⟨_,rfl,⟨_,_,_,[],_,[],hW',trodAll_cons_mk (shut_bool Tryz.underlying4 _) trodAll_mk0,(trodAll_cons_mk (Below.trod laidOut (by kernel_rfl) (of_decide_eq_true (by kernel_rfl)) h0 hbel (λx hx=>hlt x (by simp[hx]))) trodAll_mk0),rfl,hbel.frame _,λh=>by cases h⟩⟩
theorem aM(os:Os):laidMet Tryz.prog Rows.lookupItemsRow.laid ((IK.doorLaid Tryz.prog 400 os).forCall (λ_ _=>0) ⟨#[], #[.agg #[.bool Ak, .bool Ak, .bool Ak, .bool Ak, .slice C7 0 0, .slice C7 0 0, .slice C7 0 0, .slice C7 0 0, .slice C7 0 0, .bool Ak, .bool Ak, .bool Ak, .bool Ak, .slice C7 0 0, .slice C7 0 0, .slice C7 0 0, .slice C7 0 0, .slice C7 0 0]],[]⟩).memory:=
 laidMet_of_run' 8 (by kernel_rfl) (by kernel_rfl)
theorem reads(os:Os){H:Type}(enc:Gn×BZ->H):∃places,DataW.whole enc Tryz.prog ((IK.doorLaid Tryz.prog 400 os).forCall (λ_ _=>0) ⟨#[], #[.agg #[.bool Ak, .bool Ak, .bool Ak, .bool Ak, .slice C7 0 0, .slice C7 0 0, .slice C7 0 0, .slice C7 0 0, .slice C7 0 0, .bool Ak, .bool Ak, .bool Ak, .bool Ak, .slice C7 0 0, .slice C7 0 0, .slice C7 0 0, .slice C7 0 0, .slice C7 0 0]],[]⟩).memory Tryz.f6.params.toList Rows.lookupItemsSpec.vars Ak (#[.agg #[.bool Ak, .bool Ak, .bool Ak, .bool Ak, .slice C7 0 0, .slice C7 0 0, .slice C7 0 0, .slice C7 0 0, .slice C7 0 0, .bool Ak, .bool Ak, .bool Ak, .bool Ak, .slice C7 0 0, .slice C7 0 0, .slice C7 0 0, .slice C7 0 0, .slice C7 0 0]]:Array BZ).toList 8=Ac ([.agg [.agg [.lit (.bool Ak), .agg [.lit (.bool Ak), .lit (.bool Ak), .lit (.bool Ak), .agg [.nil, .nil], .agg [.nil]], .nil, .nil], .agg [.lit (.bool Ak), .agg [.lit (.bool Ak), .lit (.bool Ak), .lit (.bool Ak), .agg [.nil, .nil], .agg [.nil]], .nil, .nil]]],[],places):=
 ⟨[],by kernel_rfl⟩
theorem lifted(os:Os)(started:os.Started)(H:Type)(enc:Gn×BZ->H)(F:Stop.Interp):
  ReturnsInHanded {} Tryz.checked os 6 .any ((Alr Rows.lookupItemsSpec).preRow enc Tryz.prog Tryz.f6 Rows.lookupItemsRow.domain Ak Rows.lookupItemsRow.laid) (((Alr Rows.lookupItemsSpec).at F).post enc Tryz.prog Tryz.f6 Ak Bp Ak Ak):=by
 obtain⟨places,hx⟩:=reads os enc
 refine returnsInHanded_of_row (C:=Tryz.checked) (s:=(Alr Rows.lookupItemsSpec)) own started (by kernel_rfl) Tryz.func6
  (witness_row_at (enc:=enc) (C:=Tryz.checked) Ak (IK.doorLaid Tryz.prog 400 os) #[.agg #[.bool Ak, .bool Ak, .bool Ak, .bool Ak, .slice C7 0 0, .slice C7 0 0, .slice C7 0 0, .slice C7 0 0, .slice C7 0 0, .bool Ak, .bool Ak, .bool Ak, .bool Ak, .slice C7 0 0, .slice C7 0 0, .slice C7 0 0, .slice C7 0 0, .slice C7 0 0]] rfl (by kernel_rfl) (by kernel_rfl) (by kernel_rfl)
   (OpenSpec.preRow_of_cond 8 hx (by kernel_rfl) (λk hk=>by cases hk) (by kernel_rfl) (aM os))) ?_
 intro W base args ds gs before hval hW _ _ _ hL _ _
 exact ca H enc W base args ds gs before hval hW hL
theorem said:Rows.LookupItemsSaid:=
 OpenClaim.holds_of_cond 6 Tryz.f6 rfl rfl rfl rfl rfl rfl rfl ⟨rfl,rfl,rfl,rfl,rfl⟩ rfl rfl rfl rfl rfl (by kernel_rfl) Tryz.func6 closed
  (of_decide_eq_true (by kernel_rfl)) (by unfold Func.isWrapper;first|(rw[if_pos (by decide+kernel)];kernel_rfl)|(rw[if_neg (by decide+kernel)];exact⟨rfl,rfl⟩))
  (λos started H enc _ F=>by rw[OpenClaim.pre_eq_preRow];exact lifted os started H enc F)
theorem plain(f:FuncId)(fn:Func)(hf:Tryz.pinned.checked.prog.funcNamed "configlang/configlanglaw16.LookupItems" =Ac f)(hfn:Tryz.pinned.checked.prog.funcs[f]?=Ac fn):
  Ak=Tryz.pinned.checked.prog.looks []/\∀(j:Nat) t,fn.params[j]?=Ac t->Tryz.pinned.checked.prog.wantsStandIn t=Ak:=by
 obtain rfl:f=6:=Abp ((show Tryz.prog.funcNamed "configlang/configlanglaw16.LookupItems" =Ac 6 by kernel_rfl).symm.trans hf) |>.symm
 obtain rfl:fn=Tryz.f6:=(Abp (Tryz.func6.symm.trans hfn)).symm
 refine⟨by kernel_rfl,λj t ht=>?_⟩
 rw[Tryz.params6]at ht
 have hm:t∈[35]:=by simpa using Array.mem_of_getElem? ht
 have hall:([35].all λu=> !Tryz.prog.wantsStandIn u)=Bp:=by kernel_rfl
 exact(show Tryz.prog.wantsStandIn t=Ak by simpa using No.1 hall t hm)
end Go.Proofs.YtimbbibpghnipaaGreatDoor.lookupItems
namespace Go.Proofs.YtimbbibpghnipaaGreatDoor
theorem lookupItems_holds:Rows.LookupItemsCardSaid:=
 Claim7.holds_tied_plain_at .later [] _ _ _ _ lookupItems.said (λ_ h=>by cases h) (by kernel_rfl) (λ_ h=>by cases h) lookupItems_row_tie rfl ⟨rfl,rfl⟩ (by kernel_rfl) rfl lookupItems.plain pB
end Go.Proofs.YtimbbibpghnipaaGreatDoor
