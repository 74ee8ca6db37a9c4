/- LookupChains: for every input the call returns true, and each argument reads afterwards as it read before. The package-level variables that its row lists are tied to the program's text. -/
import Derived.Test.YtbeogcbmdbnkiaaGreatDoorZLookupChains9
import Derived.Test.YtbeogcbmdbnkiaaGreatDoorZLookupChains10
import Derived.Test.YtbeogcbmdbnkiaaGreatDoorCards
import Derived.Test.YtbeogcbmdbnkiaaGreatDoorTie
import Derived.Deep.DeepHandedRow
import Derived.LaidMore
import Derived.Stop.LaidErr
import Derived.WalkSmall
set_option linter.all false
open Option renaming some→Ac,none→C7
open Bool renaming false→Ap,true→Br
open Go renaming Value→BU,Operand→Dc,TypeId→Ee,Program→Ge,World→GD,execOp→ID,Oper→J5,IntKind→Kj
set_option maxRecDepth 100000
set_option maxHeartbeats 4000000
namespace Go.Proofs.YtbeogcbmdbnkiaaGreatDoor.lookupChains
open Go.GK Go.GV Go.ChangeShapes Go.WideShapes Go.ChangeAt Go.RowKit
theorem own:ownKnob Tryz.prog.godebug=C7:=by kernel_rfl
theorem laidOut:laidOutB Tryz.prog=Br:=by kernel_rfl
theorem SH.less{w:GD}{H H':Hp}{O:List Av}(h:SH w H' O)(hl:H.le H'):SH w H O where
 Ny b o x:=h.Ny b o (hl.1 b o x)
 os:=h.os.trans hl.2.1
 output:=h.output.trans hl.2.2.1
 tape:=h.tape.trans hl.2.2.2
 ok:=h.ok
 JC i r b h1 h2:=by
  cases hx:H.at_ b with
  |none=>rfl
  |some o=>
   have:=h.JC i r b h1 h2
   rw[hl.1 b o hx]at this
   cases this
 nd:=h.nd
theorem gPow:∃g t e,Tryz.prog.globalNamed "internal/strconv.uint64pow10" =Ac g/\(Tryz.prog.globals[g]?).map (·.type)=Ac t/\Tryz.prog.underlying t=Ac (.array 20 e)/\Tryz.prog.underlying e=Ac (.int .u64)/\Tryz.prog.cellsOf e=1/\Tryz.prog.cellsOf t=20:=⟨0,364,257,by kernel_rfl,by kernel_rfl,by kernel_rfl,by kernel_rfl,by kernel_rfl,by kernel_rfl⟩
theorem vx{W:GD}(h:laidMetH Tryz.prog [("math/bits.deBruijn32tab",Rows.laid_math_bits_deBruijn32tab),("math/bits.deBruijn64tab",Rows.laid_math_bits_deBruijn64tab),("internal/strconv.uint64pow10",Rows.laid_internal_strconv_uint64pow10)] W):HE Tryz.prog (Hp.of W):=by
 obtain⟨g,t,e,h1,h2,h3,h4,h5,h6⟩:=gPow
 exact HE.of h1 (Lib.tabIs_of_head h1 h2 h3 h4 h5 h6 (laidMet.tail (laidMet.tail h)))
theorem bj(H:Type)(enc:Ee×BU->H)(W:GD)(base:Nat)(args:Array BU)(ds gs:List (DataW H))(before:List MemPlace)
  (hval:∀(j:Nat) t v,Tryz.f3.params[j]?=Ac t->args[j]?=Ac v->BU.okWide Tryz.prog W .any base t v)
  (hW:DataW.Whole enc Tryz.prog Tryz.f3.params.toList Rows.lookupChainsSpec.vars Ap W args.toList ds gs before) (hL:laidMetH Tryz.prog Rows.lookupChainsRow.laid W):
  Calls Tryz.prog 3 args W λe W'=> ∃v,e= .returned v/\Rows.lookupChainsSpec.post enc Tryz.prog Tryz.f3 Ap Br Ap Ap W args v W':=by
 have hW':=hW
 obtain⟨p,q,hA0,hV,rfl,_,_⟩:=hW
 have hA:DataW.TrodAll enc Tryz.prog W 0 (λ_=>Br) Br Tryz.f3.params.toList args.toList ds p:=hA0
 rw[Tryz.params3]at hA hval
 obtain⟨v0,vs0,d0,ds0,p0,q0,hargs,rfl,rfl,h0,r0⟩:=trodAll_cons hA
 obtain⟨v1,vs1,d1,ds1,p1,q1,rfl,rfl,rfl,h1,r1⟩:=trodAll_cons r0
 obtain⟨v2,vs2,d2,ds2,p2,q2,rfl,rfl,rfl,h2,r2⟩:=trodAll_cons r1
 obtain⟨rfl,rfl,rfl⟩:=trodAll_nil r2
 obtain rfl:args= #[v0,v1,v2]:=by cases args;simp_all
 obtain⟨rfl,rfl⟩:=trodVars_none hV
 clear hA0
 simp only[Adc]at hW'
 have hlt:∀x∈p0++(p1++(p2)),x.block<W.heap.size:=λx hx=>hW'.lt x hx
 obtain⟨c0,l0,rfl,hl0,hq0⟩:=Gc.wy Tryz.underlying35 (by kernel_rfl) (λN=>HP (k:=9) (U9 (tn:=33) (k:=40) (by kernel_rfl) N 3) (by kernel_rfl)) (hval 0 35 v0 rfl rfl) h0
 obtain⟨l1,hl1,hq1⟩:=Ajm (c:=JP QI WK) Tryz.underlying36 rfl (λN=>HP (k:=9) (U9 (tn:=33) (k:=40) (by kernel_rfl) N 3) (by kernel_rfl)) (hval 1 36 v1 rfl rfl) h1
 obtain⟨l2,hl2,hq2⟩:=Ajm (c:=JP QI WK) Tryz.underlying36 rfl (λN=>HP (k:=9) (U9 (tn:=33) (k:=40) (by kernel_rfl) N 3) (by kernel_rfl)) (hval 2 36 v2 rfl rfl) h2
 refine(GL.walk W (vx hL) hl0 hq0 hl1 hq1 hl2 hq2 W (Ahx W)).mono λe W' ⟨v,H',O',he,hle,hs,hO,hv⟩=>?_
 subst he hO hv
 have hbel:=(SH.less hs hle).below
 exact⟨_,rfl,⟨_,_,_,[],_,[],hW',trodAll_cons_mk (shut_bool Tryz.underlying4 _) trodAll_mk0,(trodAll_cons_mk (Below.trod laidOut (by kernel_rfl) (of_decide_eq_true (by kernel_rfl)) h0 hbel (λx hx=>hlt x (by simp[hx]))) (trodAll_cons_mk (Below.trod laidOut (by kernel_rfl) (of_decide_eq_true (by kernel_rfl)) h1 hbel (λx hx=>hlt x (by simp[hx]))) (trodAll_cons_mk (Below.trod laidOut (by kernel_rfl) (of_decide_eq_true (by kernel_rfl)) h2 hbel (λx hx=>hlt x (by simp[hx]))) trodAll_mk0))),rfl,hbel.frame _,λh=>by cases h⟩⟩
theorem Z_(os:Os):laidMet Tryz.prog Rows.lookupChainsRow.laid ((GD.doorLaid Tryz.prog 400 os).forCall (λ_ _=>0) ⟨#[], #[.agg #[.bool Ap, .bool Ap, .bool Ap, .bool Ap, .slice C7 0 0, .slice C7 0 0, .slice C7 0 0, .slice C7 0 0, .slice C7 0 0, .bool Ap, .bool Ap, .bool Ap, .bool Ap, .slice C7 0 0, .slice C7 0 0, .slice C7 0 0, .slice C7 0 0, .slice C7 0 0], .slice C7 0 0, .slice C7 0 0],[]⟩).memory:=
 laidMet_of_run' 8 (by kernel_rfl) (by kernel_rfl)
theorem reads(os:Os){H:Type}(enc:Ee×BU->H):∃places,DataW.whole enc Tryz.prog ((GD.doorLaid Tryz.prog 400 os).forCall (λ_ _=>0) ⟨#[], #[.agg #[.bool Ap, .bool Ap, .bool Ap, .bool Ap, .slice C7 0 0, .slice C7 0 0, .slice C7 0 0, .slice C7 0 0, .slice C7 0 0, .bool Ap, .bool Ap, .bool Ap, .bool Ap, .slice C7 0 0, .slice C7 0 0, .slice C7 0 0, .slice C7 0 0, .slice C7 0 0], .slice C7 0 0, .slice C7 0 0],[]⟩).memory Tryz.f3.params.toList Rows.lookupChainsSpec.vars Ap (#[.agg #[.bool Ap, .bool Ap, .bool Ap, .bool Ap, .slice C7 0 0, .slice C7 0 0, .slice C7 0 0, .slice C7 0 0, .slice C7 0 0, .bool Ap, .bool Ap, .bool Ap, .bool Ap, .slice C7 0 0, .slice C7 0 0, .slice C7 0 0, .slice C7 0 0, .slice C7 0 0], .slice C7 0 0, .slice C7 0 0]:Array BU).toList 8=Ac ([.agg [.agg [.lit (.bool Ap), .agg [.lit (.bool Ap), .lit (.bool Ap), .lit (.bool Ap), .agg [.nil, .nil], .agg [.nil]], .nil, .nil], .agg [.lit (.bool Ap), .agg [.lit (.bool Ap), .lit (.bool Ap), .lit (.bool Ap), .agg [.nil, .nil], .agg [.nil]], .nil, .nil]], .nil, .nil],[],places):=
 ⟨[],by kernel_rfl⟩
theorem lifted(os:Os)(started:os.Started)(H:Type)(enc:Ee×BU->H)(F:Stop.Interp):
  ReturnsInHanded {} Tryz.checked os 3 .any ((OpenSpec.ofChange Rows.lookupChainsSpec).preRow enc Tryz.prog Tryz.f3 Rows.lookupChainsRow.domain Ap Rows.lookupChainsRow.laid) (((OpenSpec.ofChange Rows.lookupChainsSpec).at F).post enc Tryz.prog Tryz.f3 Ap Br Ap Ap):=by
 obtain⟨places,hx⟩:=reads os enc
 refine returnsInHanded_of_row (C:=Tryz.checked) (s:=(OpenSpec.ofChange Rows.lookupChainsSpec)) own started (by kernel_rfl) Tryz.func3
  (witness_row_at (enc:=enc) (C:=Tryz.checked) Ap (GD.doorLaid Tryz.prog 400 os) #[.agg #[.bool Ap, .bool Ap, .bool Ap, .bool Ap, .slice C7 0 0, .slice C7 0 0, .slice C7 0 0, .slice C7 0 0, .slice C7 0 0, .bool Ap, .bool Ap, .bool Ap, .bool Ap, .slice C7 0 0, .slice C7 0 0, .slice C7 0 0, .slice C7 0 0, .slice C7 0 0], .slice C7 0 0, .slice C7 0 0] rfl (by kernel_rfl) (by kernel_rfl) (by kernel_rfl)
   (OpenSpec.preRow_of_cond 8 hx (by kernel_rfl) (λk hk=>by cases hk) (by kernel_rfl) (Z_ os))) ?_
 intro W base args ds gs before hval hW _ _ _ hL _ _
 exact bj H enc W base args ds gs before hval hW hL
theorem said:Rows.LookupChainsSaid:=
 OpenClaim.holds_of_cond 3 Tryz.f3 rfl rfl rfl rfl rfl rfl rfl ⟨rfl,rfl,rfl,rfl,rfl⟩ rfl rfl rfl rfl rfl (by kernel_rfl) Tryz.func3 closed
  (of_decide_eq_true (by kernel_rfl)) (by unfold Func.isWrapper;first|(rw[if_pos (by decide+kernel)];kernel_rfl)|(rw[if_neg (by decide+kernel)];exact⟨rfl,rfl⟩))
  (λos started H enc _ F=>by rw[OpenClaim.pre_eq_preRow];exact lifted os started H enc F)
theorem plain(f:FuncId)(fn:Func)(hf:Tryz.pinned.checked.prog.funcNamed "configlang/configlanglaw16.LookupChains" =Ac f)(hfn:Tryz.pinned.checked.prog.funcs[f]?=Ac fn):
  Ap=Tryz.pinned.checked.prog.looks []/\∀(j:Nat) t,fn.params[j]?=Ac t->Tryz.pinned.checked.prog.wantsStandIn t=Ap:=by
 obtain rfl:f=3:=Abo ((show Tryz.prog.funcNamed "configlang/configlanglaw16.LookupChains" =Ac 3 by kernel_rfl).symm.trans hf) |>.symm
 obtain rfl:fn=Tryz.f3:=(Abo (Tryz.func3.symm.trans hfn)).symm
 refine⟨by kernel_rfl,λj t ht=>?_⟩
 rw[Tryz.params3]at ht
 have hm:t∈[35,36,36]:=by simpa using Array.mem_of_getElem? ht
 have hall:([35,36,36].all λu=> !Tryz.prog.wantsStandIn u)=Br:=by kernel_rfl
 exact(show Tryz.prog.wantsStandIn t=Ap by simpa using OF.1 hall t hm)
end Go.Proofs.YtbeogcbmdbnkiaaGreatDoor.lookupChains
namespace Go.Proofs.YtbeogcbmdbnkiaaGreatDoor
theorem lookupChains_holds:Rows.LookupChainsCardSaid:=
 Claim7.holds_tied_plain_at .later [] _ _ _ _ lookupChains.said (λ_ h=>by cases h) (by kernel_rfl) (λ_ h=>by cases h) lookupChains_row_tie rfl ⟨rfl,rfl⟩ (by kernel_rfl) rfl lookupChains.plain pe
end Go.Proofs.YtbeogcbmdbnkiaaGreatDoor
