/- LookupLabels: for every input the call returns true, and each argument reads afterwards as it read before. The package-level variables that its row lists are tied to the program's text. -/
import Derived.Test.YtimbbibpghnipaaGreatDoorZLookupLabels9
import Derived.Test.YtimbbibpghnipaaGreatDoorZLookupLabels10
import Derived.Test.YtimbbibpghnipaaGreatDoorCards
import Derived.Test.YtimbbibpghnipaaGreatDoorTie
import Derived.Deep.DeepHandedRow
import Derived.LaidMore
import Derived.Stop.LaidErr
import Derived.WalkSmall
set_option linter.all false
open Option renaming some→Ac,none→C7
open Bool renaming false→Aj,true→Bp
open Go renaming Value→BZ,Operand→DQ,TypeId→Gq,Program→GN,World→IU,execOp→Kt,Oper→K7,IntKind→Lo
open Decidable renaming decide→Dl
set_option maxRecDepth 100000
set_option maxHeartbeats 4000000
open Go.OpenSpec renaming ofChange→Alr
namespace Go.Proofs.YtimbbibpghnipaaGreatDoor.lookupLabels
open Go.GK Go.GV Go.ChangeShapes Go.WideShapes Go.ChangeAt Go.RowKit
theorem own:ownKnob Tryz.prog.godebug=C7:=by kernel_rfl
theorem laidOut:laidOutB Tryz.prog=Bp:=by kernel_rfl
theorem SH.less{w:IU}{H H':Hp}{O:List Aw}(h:SH w H' O)(hl:H.le H'):SH w H O where
 MU b o x:=h.MU b o (hl.1 b o x)
 os:=h.os.trans hl.2.1
 output:=h.output.trans hl.2.2.1
 tape:=h.tape.trans hl.2.2.2
 ok:=h.ok
 Iy i r b h1 h2:=by
  cases hx:H.at_ b with
  |none=>rfl
  |some o=>
   have:=h.Iy i r b h1 h2
   rw[hl.1 b o hx]at this
   cases this
 nd:=h.nd
theorem gPow:∃g t e,Tryz.prog.globalNamed "internal/strconv.uint64pow10" =Ac g/\(Tryz.prog.globals[g]?).map (·.type)=Ac t/\Tryz.prog.underlying t=Ac (.array 20 e)/\Tryz.prog.underlying e=Ac (.int .u64)/\Tryz.prog.cellsOf e=1/\Tryz.prog.cellsOf t=20:=⟨0,375,291,by kernel_rfl,by kernel_rfl,by kernel_rfl,by kernel_rfl,by kernel_rfl,by kernel_rfl⟩
theorem wv{W:IU}(h:laidMetH Tryz.prog [("math/bits.deBruijn32tab",Rows.laid_math_bits_deBruijn32tab),("math/bits.deBruijn64tab",Rows.laid_math_bits_deBruijn64tab),("internal/strconv.uint64pow10",Rows.laid_internal_strconv_uint64pow10)] W):HP Tryz.prog (Hp.of W):=by
 obtain⟨g,t,e,h1,h2,h3,h4,h5,h6⟩:=gPow
 exact HP.of h1 (Lib.tabIs_of_head h1 h2 h3 h4 h5 h6 (laidMet.tail (laidMet.tail h)))
theorem cC(H:Type)(enc:Gq×BZ->H)(W:IU)(base:Nat)(args:Array BZ)(ds gs:List (DataW H))(before:List MemPlace)
  (hval:∀(j:Nat) t v,Tryz.f7.params[j]?=Ac t->args[j]?=Ac v->BZ.okWide Tryz.prog W .any base t v)
  (hW:DataW.Whole enc Tryz.prog Tryz.f7.params.toList Rows.lookupLabelsSpec.vars Aj W args.toList ds gs before) (hL:laidMetH Tryz.prog Rows.lookupLabelsRow.laid W):
  Calls Tryz.prog 7 args W λe W'=> ∃v,e= .returned v/\Rows.lookupLabelsSpec.post enc Tryz.prog Tryz.f7 Aj Bp Aj Aj W args v W':=by
 have hW':=hW
 obtain⟨p,q,hA0,hV,rfl,_,_⟩:=hW
 have hA:DataW.TrodAll enc Tryz.prog W 0 (λ_=>Bp) Bp Tryz.f7.params.toList args.toList ds p:=hA0
 rw[Tryz.params7]at hA hval
 obtain⟨v0,vs0,d0,ds0,p0,q0,hargs,rfl,rfl,h0,r0⟩:=trodAll_cons hA
 obtain⟨v1,vs1,d1,ds1,p1,q1,rfl,rfl,rfl,h1,r1⟩:=trodAll_cons r0
 obtain⟨rfl,rfl,rfl⟩:=trodAll_nil r1
 obtain rfl:args= #[v0,v1]:=by cases args;simp_all
 obtain⟨rfl,rfl⟩:=trodVars_none hV
 clear hA0
 simp only[Adi]at hW'
 have hlt:∀x∈p0++(p1),x.block<W.heap.size:=λx hx=>hW'.lt x hx
 obtain⟨c0,l0,rfl,hl0,hq0⟩:=G5.xq Tryz.underlying35 (by kernel_rfl) (λN=>LK (k:=9) (ll (tn:=33) (k:=40) (by kernel_rfl) N 3) (by kernel_rfl)) (hval 0 35 v0 rfl rfl) h0
 obtain⟨l1,rfl⟩:=oq Tryz.underlying9 (hval 1 9 v1 rfl rfl) h1
 refine(GL.walk W (wv hL) hl0 hq0 l1 W (Ahl W)).mono λe W' ⟨v,H',O',he,hle,hs,hO,hv⟩=>?_
 subst he hO hv
 have hbel:=(SH.less hs hle).below
 exact⟨_,rfl,⟨_,_,_,[],_,[],hW',trodAll_cons_mk (shut_bool Tryz.underlying4 _) trodAll_mk0,(trodAll_cons_mk (Below.trod laidOut (by kernel_rfl) (of_decide_eq_true (by kernel_rfl)) h0 hbel (λx hx=>hlt x (by simp[hx]))) (trodAll_cons_mk (Below.trod laidOut (by kernel_rfl) (of_decide_eq_true (by kernel_rfl)) h1 hbel (λx hx=>hlt x (by simp[hx]))) trodAll_mk0)),rfl,hbel.frame _,λh=>by cases h⟩⟩
theorem a7(os:Os):laidMet Tryz.prog Rows.lookupLabelsRow.laid ((IU.doorLaid Tryz.prog 400 os).forCall (λ_ _=>0) ⟨#[], #[.agg #[.bool Aj, .bool Aj, .bool Aj, .bool Aj, .slice C7 0 0, .slice C7 0 0, .slice C7 0 0, .slice C7 0 0, .slice C7 0 0, .bool Aj, .bool Aj, .bool Aj, .bool Aj, .slice C7 0 0, .slice C7 0 0, .slice C7 0 0, .slice C7 0 0, .slice C7 0 0], .string ⟨#[]⟩],[]⟩).memory:=
 laidMet_of_run' 8 (by kernel_rfl) (by kernel_rfl)
theorem reads(os:Os){H:Type}(enc:Gq×BZ->H):∃places,DataW.whole enc Tryz.prog ((IU.doorLaid Tryz.prog 400 os).forCall (λ_ _=>0) ⟨#[], #[.agg #[.bool Aj, .bool Aj, .bool Aj, .bool Aj, .slice C7 0 0, .slice C7 0 0, .slice C7 0 0, .slice C7 0 0, .slice C7 0 0, .bool Aj, .bool Aj, .bool Aj, .bool Aj, .slice C7 0 0, .slice C7 0 0, .slice C7 0 0, .slice C7 0 0, .slice C7 0 0], .string ⟨#[]⟩],[]⟩).memory Tryz.f7.params.toList Rows.lookupLabelsSpec.vars Aj (#[.agg #[.bool Aj, .bool Aj, .bool Aj, .bool Aj, .slice C7 0 0, .slice C7 0 0, .slice C7 0 0, .slice C7 0 0, .slice C7 0 0, .bool Aj, .bool Aj, .bool Aj, .bool Aj, .slice C7 0 0, .slice C7 0 0, .slice C7 0 0, .slice C7 0 0, .slice C7 0 0], .string ⟨#[]⟩]:Array BZ).toList 8=Ac ([.agg [.agg [.lit (.bool Aj), .agg [.lit (.bool Aj), .lit (.bool Aj), .lit (.bool Aj), .agg [.nil, .nil], .agg [.nil]], .nil, .nil], .agg [.lit (.bool Aj), .agg [.lit (.bool Aj), .lit (.bool Aj), .lit (.bool Aj), .agg [.nil, .nil], .agg [.nil]], .nil, .nil]], .lit (.string [])],[],places):=
 ⟨[],by kernel_rfl⟩
theorem lifted(os:Os)(started:os.Started)(H:Type)(enc:Gq×BZ->H)(F:Stop.Interp):
  ReturnsInHanded {} Tryz.checked os 7 .any ((Alr Rows.lookupLabelsSpec).preRow enc Tryz.prog Tryz.f7 Rows.lookupLabelsRow.domain Aj Rows.lookupLabelsRow.laid) (((Alr Rows.lookupLabelsSpec).at F).post enc Tryz.prog Tryz.f7 Aj Bp Aj Aj):=by
 obtain⟨places,hx⟩:=reads os enc
 refine returnsInHanded_of_row (C:=Tryz.checked) (s:=(Alr Rows.lookupLabelsSpec)) own started (by kernel_rfl) Tryz.func7
  (witness_row_at (enc:=enc) (C:=Tryz.checked) Aj (IU.doorLaid Tryz.prog 400 os) #[.agg #[.bool Aj, .bool Aj, .bool Aj, .bool Aj, .slice C7 0 0, .slice C7 0 0, .slice C7 0 0, .slice C7 0 0, .slice C7 0 0, .bool Aj, .bool Aj, .bool Aj, .bool Aj, .slice C7 0 0, .slice C7 0 0, .slice C7 0 0, .slice C7 0 0, .slice C7 0 0], .string ⟨#[]⟩] rfl (by kernel_rfl) (by kernel_rfl) (by kernel_rfl)
   (OpenSpec.preRow_of_cond 8 hx (by kernel_rfl) (λk hk=>by cases hk) (by kernel_rfl) (a7 os))) ?_
 intro W base args ds gs before hval hW _ _ _ hL _ _
 exact cC H enc W base args ds gs before hval hW hL
theorem said:Rows.LookupLabelsSaid:=
 OpenClaim.holds_of_cond 7 Tryz.f7 rfl rfl rfl rfl rfl rfl rfl ⟨rfl,rfl,rfl,rfl,rfl⟩ rfl rfl rfl rfl rfl (by kernel_rfl) Tryz.func7 closed
  (of_decide_eq_true (by kernel_rfl)) (by unfold Func.isWrapper;first|(rw[if_pos (by decide+kernel)];kernel_rfl)|(rw[if_neg (by decide+kernel)];exact⟨rfl,rfl⟩))
  (λos started H enc _ F=>by rw[OpenClaim.pre_eq_preRow];exact lifted os started H enc F)
theorem plain(f:FuncId)(fn:Func)(hf:Tryz.pinned.checked.prog.funcNamed "configlang/configlanglaw16.LookupLabels" =Ac f)(hfn:Tryz.pinned.checked.prog.funcs[f]?=Ac fn):
  Aj=Tryz.pinned.checked.prog.looks []/\∀(j:Nat) t,fn.params[j]?=Ac t->Tryz.pinned.checked.prog.wantsStandIn t=Aj:=by
 obtain rfl:f=7:=Abp ((show Tryz.prog.funcNamed "configlang/configlanglaw16.LookupLabels" =Ac 7 by kernel_rfl).symm.trans hf) |>.symm
 obtain rfl:fn=Tryz.f7:=(Abp (Tryz.func7.symm.trans hfn)).symm
 refine⟨by kernel_rfl,λj t ht=>?_⟩
 rw[Tryz.params7]at ht
 have hm:t∈[35,9]:=by simpa using Array.mem_of_getElem? ht
 have hall:([35,9].all λu=> !Tryz.prog.wantsStandIn u)=Bp:=by kernel_rfl
 exact(show Tryz.prog.wantsStandIn t=Aj by simpa using No.1 hall t hm)
end Go.Proofs.YtimbbibpghnipaaGreatDoor.lookupLabels
namespace Go.Proofs.YtimbbibpghnipaaGreatDoor
theorem lookupLabels_holds:Rows.LookupLabelsCardSaid:=
 Claim7.holds_tied_plain_at .later [] _ _ _ _ lookupLabels.said (λ_ h=>by cases h) (by kernel_rfl) (λ_ h=>by cases h) lookupLabels_row_tie rfl ⟨rfl,rfl⟩ (by kernel_rfl) rfl lookupLabels.plain pO
end Go.Proofs.YtimbbibpghnipaaGreatDoor
