/- ClosingClosed: for every input the call returns true, and each argument reads afterwards as it read before. The package-level variables that its row lists are tied to the program's text. -/
import Derived.Test.YtejdlmphkeeekaaGreatDoorZClosingClosed17
import Derived.Test.YtejdlmphkeeekaaGreatDoorZClosingClosed18
import Derived.Test.YtejdlmphkeeekaaGreatDoorCards
import Derived.Test.YtejdlmphkeeekaaGreatDoorTie
import Derived.Deep.DeepHandedRow
import Derived.LaidMore
import Derived.Stop.LaidErr
import Derived.WalkSmall
set_option linter.all false
open Option renaming some→Ac,none→Dc
open Bool renaming false→Ak,true→Br
open Go renaming Value→Ce,Operand→Er,TypeId→Gn,Program→GO,World→IK,execOp→Kr,Oper→K5,IntKind→Lm
open Decidable renaming decide→Ds
set_option maxRecDepth 100000
set_option maxHeartbeats 4000000
open Go.OpenSpec renaming ofChange→Alr
namespace Go.Proofs.YtejdlmphkeeekaaGreatDoor.closingClosed
open Go.GK Go.GV Go.ChangeShapes Go.WideShapes Go.ChangeAt Go.RowKit
theorem own:ownKnob Tryz.prog.godebug=Dc:=by kernel_rfl
theorem laidOut:laidOutB Tryz.prog=Br:=by kernel_rfl
theorem SH.less{w:IK}{H H':Hp}{O:List Aw}(h:SH w H' O)(hl:H.le H'):SH w H O where
 MQ b o x:=h.MQ b o (hl.1 b o x)
 os:=h.os.trans hl.2.1
 output:=h.output.trans hl.2.2.1
 tape:=h.tape.trans hl.2.2.2
 ok:=h.ok
 Iv i r b h1 h2:=by
  cases hx:H.at_ b with
  |none=>rfl
  |some o=>
   have:=h.Iv i r b h1 h2
   rw[hl.1 b o hx]at this
   cases this
 nd:=h.nd
theorem gPow:∃g t e,Tryz.prog.globalNamed "internal/strconv.uint64pow10" =Ac g/\(Tryz.prog.globals[g]?).map (·.type)=Ac t/\Tryz.prog.underlying t=Ac (.array 20 e)/\Tryz.prog.underlying e=Ac (.int .u64)/\Tryz.prog.cellsOf e=1/\Tryz.prog.cellsOf t=20:=⟨0,385,308,by kernel_rfl,by kernel_rfl,by kernel_rfl,by kernel_rfl,by kernel_rfl,by kernel_rfl⟩
theorem wP{W:IK}(h:laidMetH Tryz.prog [("math/bits.deBruijn32tab",Rows.laid_math_bits_deBruijn32tab),("math/bits.deBruijn64tab",Rows.laid_math_bits_deBruijn64tab),("internal/strconv.uint64pow10",Rows.laid_internal_strconv_uint64pow10)] W):HP Tryz.prog (Hp.of W):=by
 obtain⟨g,t,e,h1,h2,h3,h4,h5,h6⟩:=gPow
 exact HP.of h1 (Lib.tabIs_of_head h1 h2 h3 h4 h5 h6 (laidMet.tail (laidMet.tail h)))
theorem cq(H:Type)(enc:Gn×Ce->H)(W:IK)(base:Nat)(args:Array Ce)(ds gs:List (DataW H))(before:List MemPlace)
  (hval:∀(j:Nat) t v,Tryz.f3.params[j]?=Ac t->args[j]?=Ac v->Ce.okWide Tryz.prog W .any base t v)
  (hW:DataW.Whole enc Tryz.prog Tryz.f3.params.toList Rows.closingClosedSpec.vars Ak W args.toList ds gs before) (hL:laidMetH Tryz.prog Rows.closingClosedRow.laid W):
  Calls Tryz.prog 3 args W λe W'=> ∃v,e= .returned v/\Rows.closingClosedSpec.post enc Tryz.prog Tryz.f3 Ak Br Ak Ak W args v W':=by
 have hW':=hW
 obtain⟨p,q,hA0,hV,rfl,_,_⟩:=hW
 have hA:DataW.TrodAll enc Tryz.prog W 0 (λ_=>Br) Br Tryz.f3.params.toList args.toList ds p:=hA0
 rw[Tryz.params3]at hA hval
 obtain⟨v0,vs0,d0,ds0,p0,q0,hargs,rfl,rfl,h0,r0⟩:=trodAll_cons hA
 obtain⟨rfl,rfl,rfl⟩:=trodAll_nil r0
 obtain rfl:args= #[v0]:=by cases args;simp_all
 obtain⟨rfl,rfl⟩:=trodVars_none hV
 clear hA0
 simp only[Adf]at hW'
 have hlt:∀x∈p0,x.block<W.heap.size:=λx hx=>hW'.lt x hx
 obtain⟨c0,l0,rfl,hl0,hq0⟩:=G6.xV Tryz.underlying33 (by kernel_rfl) (λN=>lp (tn:=33) (k:=40) (by kernel_rfl) N 3) (hval 0 33 v0 rfl rfl) h0
 refine(GL.walk W (wP hL) hl0 hq0 W (Ahf W)).mono λe W' ⟨v,H',O',he,hle,hs,hO,hv⟩=>?_
 subst he hO hv
 have hbel:=(SH.less hs hle).below
 exact⟨_,rfl,⟨_,_,_,[],_,[],hW',trodAll_cons_mk (shut_bool Tryz.underlying4 _) trodAll_mk0,(trodAll_cons_mk (Below.trod laidOut (by kernel_rfl) (of_decide_eq_true (by kernel_rfl)) h0 hbel (λx hx=>hlt x (by simp[hx]))) trodAll_mk0),rfl,hbel.frame _,λh=>by cases h⟩⟩
theorem aX(os:Os):laidMet Tryz.prog Rows.closingClosedRow.laid ((IK.doorLaid Tryz.prog 400 os).forCall (λ_ _=>0) ⟨#[], #[.agg #[.bool Ak, .bool Ak, .bool Ak, .bool Ak, .slice Dc 0 0, .slice Dc 0 0, .slice Dc 0 0, .slice Dc 0 0, .slice Dc 0 0]],[]⟩).memory:=
 laidMet_of_run' 8 (by kernel_rfl) (by kernel_rfl)
theorem reads(os:Os){H:Type}(enc:Gn×Ce->H):∃places,DataW.whole enc Tryz.prog ((IK.doorLaid Tryz.prog 400 os).forCall (λ_ _=>0) ⟨#[], #[.agg #[.bool Ak, .bool Ak, .bool Ak, .bool Ak, .slice Dc 0 0, .slice Dc 0 0, .slice Dc 0 0, .slice Dc 0 0, .slice Dc 0 0]],[]⟩).memory Tryz.f3.params.toList Rows.closingClosedSpec.vars Ak (#[.agg #[.bool Ak, .bool Ak, .bool Ak, .bool Ak, .slice Dc 0 0, .slice Dc 0 0, .slice Dc 0 0, .slice Dc 0 0, .slice Dc 0 0]]:Array Ce).toList 8=Ac ([.agg [.lit (.bool Ak), .agg [.lit (.bool Ak), .lit (.bool Ak), .lit (.bool Ak), .agg [.nil, .nil], .agg [.nil]], .nil, .nil]],[],places):=
 ⟨[],by kernel_rfl⟩
theorem lifted(os:Os)(started:os.Started)(H:Type)(enc:Gn×Ce->H)(F:Stop.Interp):
  ReturnsInHanded {} Tryz.checked os 3 .any ((Alr Rows.closingClosedSpec).preRow enc Tryz.prog Tryz.f3 Rows.closingClosedRow.domain Ak Rows.closingClosedRow.laid) (((Alr Rows.closingClosedSpec).at F).post enc Tryz.prog Tryz.f3 Ak Br Ak Ak):=by
 obtain⟨places,hx⟩:=reads os enc
 refine returnsInHanded_of_row (C:=Tryz.checked) (s:=(Alr Rows.closingClosedSpec)) own started (by kernel_rfl) Tryz.func3
  (witness_row_at (enc:=enc) (C:=Tryz.checked) Ak (IK.doorLaid Tryz.prog 400 os) #[.agg #[.bool Ak, .bool Ak, .bool Ak, .bool Ak, .slice Dc 0 0, .slice Dc 0 0, .slice Dc 0 0, .slice Dc 0 0, .slice Dc 0 0]] rfl (by kernel_rfl) (by kernel_rfl) (by kernel_rfl)
   (OpenSpec.preRow_of_cond 8 hx (by kernel_rfl) (λk hk=>by cases hk) (by kernel_rfl) (aX os))) ?_
 intro W base args ds gs before hval hW _ _ _ hL _ _
 exact cq H enc W base args ds gs before hval hW hL
theorem said:Rows.ClosingClosedSaid:=
 OpenClaim.holds_of_cond 3 Tryz.f3 rfl rfl rfl rfl rfl rfl rfl ⟨rfl,rfl,rfl,rfl,rfl⟩ rfl rfl rfl rfl rfl (by kernel_rfl) Tryz.func3 closed
  (of_decide_eq_true (by kernel_rfl)) (by unfold Func.isWrapper;first|(rw[if_pos (by decide+kernel)];kernel_rfl)|(rw[if_neg (by decide+kernel)];exact⟨rfl,rfl⟩))
  (λos started H enc _ F=>by rw[OpenClaim.pre_eq_preRow];exact lifted os started H enc F)
theorem plain(f:FuncId)(fn:Func)(hf:Tryz.pinned.checked.prog.funcNamed "configlang/configlanglaw17.ClosingClosed" =Ac f)(hfn:Tryz.pinned.checked.prog.funcs[f]?=Ac fn):
  Ak=Tryz.pinned.checked.prog.looks []/\∀(j:Nat) t,fn.params[j]?=Ac t->Tryz.pinned.checked.prog.wantsStandIn t=Ak:=by
 obtain rfl:f=3:=Abs ((show Tryz.prog.funcNamed "configlang/configlanglaw17.ClosingClosed" =Ac 3 by kernel_rfl).symm.trans hf) |>.symm
 obtain rfl:fn=Tryz.f3:=(Abs (Tryz.func3.symm.trans hfn)).symm
 refine⟨by kernel_rfl,λj t ht=>?_⟩
 rw[Tryz.params3]at ht
 have hm:t∈[33]:=by simpa using Array.mem_of_getElem? ht
 have hall:([33].all λu=> !Tryz.prog.wantsStandIn u)=Br:=by kernel_rfl
 exact(show Tryz.prog.wantsStandIn t=Ak by simpa using IT.1 hall t hm)
end Go.Proofs.YtejdlmphkeeekaaGreatDoor.closingClosed
namespace Go.Proofs.YtejdlmphkeeekaaGreatDoor
theorem closingClosed_holds:Rows.ClosingClosedCardSaid:=
 Claim7.holds_tied_plain_at .later [] _ _ _ _ closingClosed.said (λ_ h=>by cases h) (by kernel_rfl) (λ_ h=>by cases h) closingClosed_row_tie rfl ⟨rfl,rfl⟩ (by kernel_rfl) rfl closingClosed.plain p_
end Go.Proofs.YtejdlmphkeeekaaGreatDoor
