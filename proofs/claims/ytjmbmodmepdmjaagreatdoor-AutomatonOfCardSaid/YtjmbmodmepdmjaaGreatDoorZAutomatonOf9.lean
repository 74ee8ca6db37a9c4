/- AutomatonOf: for every input the call returns true, and each argument reads afterwards as it read before. The package-level variables that its row lists are tied to the program's text. -/
import Derived.Test.YtjmbmodmepdmjaaGreatDoorZAutomatonOf8
set_option maxRecDepth 100000
set_option maxHeartbeats 4000000
namespace Go.GL
open Go.GK
def SB(X:XT):Prop:= ∃Qs:List (List Int),Qs.Nodup∧Qs.length=501∧∀Q∈Qs,Xi X Q
structure Tv(X:XT)(T:Tb):Prop where
 wf:E0 T
 lg:∀w,Bt T 0 w=true↔Cl (Nf (AB X)) 0 w 1
 len:T.length≤8192
theorem Tv.can{X:XT}{T T':Tb}(h:Tv X T)(k:Tv X T'):GI T=GI T':=M8 h.wf k.wf (funext fun w=>by
 have:=(h.lg w).trans (k.lg w).symm
 cases h1:Bt T 0 w<;>cases h2:Bt T' 0 w<;>simp[h1,h2]at this⊢)
def Ya(X:XT)(x:Tb×Int):Prop:=(SB X∧x=([],10))∨(¬SB X∧∃T,Tv X T∧((200<(GI T).length∧x=([],10))∨((GI T).length≤200∧x=(GI T,0))))
theorem Ya.uniq{X:XT}{x y:Tb×Int}(h:Ya X x)(k:Ya X y):x=y:=by
 rcases h with⟨m,rfl⟩|⟨m,T,hT,h⟩<;>rcases k with⟨m',rfl⟩|⟨m',T',hT',k⟩
 ·rfl
 ·exact absurd m m'
 ·exact absurd m' m
 ·rw[hT.can hT']at h
  rcases h with⟨a,rfl⟩|⟨a,rfl⟩<;>rcases k with⟨b,rfl⟩|⟨b,rfl⟩
  ·rfl
  ·omega
  ·omega
  ·rfl
theorem Ya.sh{X:XT}{x:Tb×Int}(h:Ya X x):Nd x.1 8192:=by
 rcases h with⟨_,rfl⟩|⟨_,T,hT,⟨_,rfl⟩|⟨_,rfl⟩⟩
 ·exact⟨by simp,by simp⟩
 ·exact⟨by simp,by simp⟩
 ·exact Wz hT.wf hT.len (by decide)
theorem RP{X:XT}(h:X.2≤13){L:List (List Int)}(hn:L.Nodup)(hr:∀S∈L,FT (AB X) 0 S):L.length≤8192:=
 S2 (m:=13) (by have:=(CH X).1;omega) hn hr
theorem ZR{r:Rx}{X:XT}{c fu:Nat}(hX:XB X c)(hN:NB (AB X) c)(hc:c≤4000)(h2:2≤X.2)(h13:X.2≤13)(hadd:Cr fu Nn r 0 1=some (AB X))(hchk:Ie fu r=some 0)(hf:300000000≤fu):
  Ok (KS fu r) (Ya X):=by
 have hnl:(AB X).1.length=X.2.toNat:=(CH X).1
 unfold KS
 refine Ok.BZ hchk (Ok.iF (by decide) ?_)
 refine Ok.A0 (by simp[AH]) (Ok.A0 (by simp[AH]) (Ok.A0 (by simp[AH]) (Ok.A0 (by simp[AH]) (Ok.BZ (x:=Cr fu Nn r 0 1) hadd ?_))))
 refine Ok.AX (x:=Ea fu (AB X) 0) ((Wd hN hc (by decide) (by omega) (by omega)).and (Uk hN hc (by decide) (by omega) (by omega))) fun y hy=>Ok.bif (fun h=>?_) fun h=>?_
 ·subst h
  exact Ok.some (.inl ⟨We hX hy.1,rf⟩)
 ·subst h
  have hm:¬SB X:=fun⟨Qs,a1,a2,a3⟩=>by have:=XU hX hy.2 a1 a3;omega
  refine Ok.AX (x:=C8 fu (AB X) 0 1) (Ph (B:=8192) hN hc (by decide) (by omega) (fun L a b=>RP h13 a b) (by decide) (by omega)) fun T hT=>?_
  obtain⟨L,hT⟩:=hT
  have hW:=U4 hT
  have hTX:Tv X T:=⟨hW,fun w=>U5 hN (by decide) (by omega) hT w,by have:=RP h13 hT.nd hT.rc;have:=hT.len;omega⟩
  have hTl:=hTX.len
  refine Ok.AX (Rh (n:=100000000) hW.by (hW.sh (by omega) (by decide)) (by decide) (by omega) (by omega)) fun z hz=>?_
  rw[hz.1 hW]
  exact Ok.ite (fun h=>Ok.some (.inr ⟨hm,T,hTX, .inl ⟨by dsimp only at h;omega,rf⟩⟩)) fun h=>Ok.some (.inr ⟨hm,T,hTX, .inr ⟨by dsimp only at h;omega,rf⟩⟩)
theorem Yx{r:Rx}{X:XT}{c fu:Nat}(hX:XB X c)(hN:NB (AB X) c)(hc:c≤4000)(h2:2≤X.2)(h13:X.2≤13)(hadd:EW fu ([],2) r 0 1=some X)(hchk:Hc fu r=some 0)(hf:300000000≤fu):
  Ok (JY fu r) (Ya X):=by
 have hnl:(AB X).1.length=X.2.toNat:=(CH X).1
 unfold JY
 refine Ok.BZ hchk (Ok.iF (by decide) (Ok.BZ hadd ?_))
 refine Ok.AX (TZ hX hc h2 (by omega)) fun y hy=>Ok.bif (fun h=>?_) fun h=>?_
 ·subst h
  exact Ok.some (.inl ⟨hy.1 rf,rf⟩)
 ·subst h
  have hm:¬SB X:=fun⟨Qs,a1,a2,a3⟩=>by have:=hy.2 rfl Qs a1 a3;omega
  refine Ok.AX (TO (B:=8192) hX hc h2 (fun L a b=>RP h13 a b) (by decide) (by omega)) fun T hT=>?_
  obtain⟨L,hT⟩:=hT
  have hW:=U4 hT
  have hTX:Tv X T:=⟨hW,fun w=>U5 hN (by decide) (by omega) hT w,by have:=RP h13 hT.nd hT.rc;have:=hT.len;omega⟩
  have hTl:=hTX.len
  refine Ok.AX (Qg (n:=100000000) hW.by (hW.sh (by omega) (by decide)) (by decide) (by omega) (by omega)) fun z hz=>?_
  rw[hz.1 hW]
  exact Ok.ite (fun h=>Ok.some (.inr ⟨hm,T,hTX, .inl ⟨by dsimp only at h;omega,rf⟩⟩)) fun h=>Ok.some (.inr ⟨hm,T,hTX, .inr ⟨by dsimp only at h;omega,rf⟩⟩)
theorem of_law(r:Rx):∃fu,E3 fu r=some true:=by
 refine⟨300000000,Ok.eq ?_⟩
 unfold E3
 refine Ok.AX (TR (by decide)) fun x hx=>Ok.bif (fun _=>Ok.alive (by decide)) fun h=>?_
 have hpt:=hx (ZT h) 16
 have hsz:=WW 16 r
 have c1:Ok (Ie 300000000 r) (fun e=>e=IX 16 r∧(e=0↔Ng 16 r)):=by
  unfold Ie
  exact Ok.AX ((Oe 16 1 r _ (by decide) (by decide) (by omega)).and (QI 16 1 r _ (by decide) (by decide) (by omega))) fun e he=>Ok.some he
 have c2:Ok (Hc 300000000 r) (fun e=>e=IX 16 r):=by
  unfold Hc
  exact Ok.AX (Mv 16 1 r _ (by decide) (by decide) (by omega)) fun e he=>Ok.some he
 obtain⟨e1,q1,rfl,q2⟩:=c1
 obtain⟨e2,q3,rfl⟩:=c2
 refine Ok.mono (P:=fun b=>b=true) ?_ fun _ h=>h
 have both:∃x:Tb×Int,Nd x.1 8192∧KS 300000000 r=some x∧JY 300000000 r=some x:=by
  by_cases h0:IX 16 r=0
  ·have hrx:=q2.1 h0
   have hX0:XB ([],2) 2:=⟨by decide,by decide,by simp,by simp⟩
   obtain⟨X,w1,w2,w3,w4,w5⟩:=RD 16 r 300000000 hrx (by omega) ([],2) 2 0 1 hX0 (by decide) (by decide) (by decide) (by decide) (by omega)
   dsimp only at w3 w4
   have w5':Cr 300000000 Nn r 0 1=some (AB X):=w5
   obtain⟨N,n1,n2,_⟩:=Vq 16 r 300000000 hrx (by omega) Nn 2 0 1 Wb (by decide) (by decide) (by decide) (by decide) (by omega)
   rw[w5']at n1;cases n1
   rw[h0]at q1 q3
   obtain⟨x,x1,x2⟩:=ZR w2 n2 (by omega) w3 (by omega) w5' q1 (by decide)
   obtain⟨y,y1,y2⟩:=Yx w2 n2 (by omega) w3 (by omega) w1 q3 (by decide)
   obtain rfl:=x2.uniq y2
   exact⟨x,x2.sh,x1,y1⟩
  ·refine⟨([],IX 16 r),⟨by simp,by simp⟩,?_,?_⟩
   ·unfold KS;exact Ok.eq (Ok.BZ q1 (Ok.iT h0 (Ok.some rfl)))
   ·unfold JY;exact Ok.eq (Ok.BZ q3 (Ok.iT h0 (Ok.some rfl)))
 obtain⟨x,s1,s2,s3⟩:=both
 exact Ok.BZ s2 (Ok.BZ s3 (Ok.AX (TT s1 (by decide)) fun b hb=>Ok.T (hb.2 rf) (Ok.iT rf (Ok.alive (by decide)))))
end Go.GL
namespace Go.Proofs.YtjmbmodmepdmjaaGreatDoor.automatonOf
open Go.GK Go.ChangeShapes Go.WideShapes Go.ChangeAt Go.RowKit
theorem own:ownKnob Tryz.prog.godebug=none:=by kernel_rfl
theorem laidOut:laidOutB Tryz.prog=true:=by kernel_rfl
theorem walk(W:World)(hG:E1 Tryz.prog (Hp.of W))
  {c0:Array Value} (l0:Rx) (hl0:Kc.Lay (Hp.of W) l0 c0.toList):Ca Tryz.prog 4 [(.agg c0)] (Hp.of W) [] (.bool true):=by
 obtain⟨v,hc,hv⟩:=HJ.1 hl0
 have hcc:c0= #[.int .i64 l0.kind,Ak (word l0.set 0),Ak (word l0.set 1),Ak (word l0.set 2),Ak (word l0.set 3),v]:=Array.ext' hc
 subst hcc
 obtain⟨fu,h⟩:=GL.of_law l0
 exact Kh hv hG h
theorem U8(H:Type)(enc:TypeId×Value→H)(W:World)(base:Nat)(args:Array Value)(ds gs:List (DataW H))(before:List MemPlace)
  (hval:∀(j:Nat) t v,Tryz.f4.params[j]?=some t→args[j]?=some v→Value.okWide Tryz.prog W .any base t v)
  (hW:DataW.Whole enc Tryz.prog Tryz.f4.params.toList Rows.automatonOfSpec.vars false W args.toList ds gs before) (hL:laidMetH Tryz.prog Rows.automatonOfRow.laid W):
  Calls Tryz.prog 4 args W fun e W'=> ∃v,e= .returned v∧Rows.automatonOfSpec.post enc Tryz.prog Tryz.f4 false true false false W args v W':=by
 have hW':=hW
 obtain⟨p,q,hA0,hV,rfl,_,_⟩:=hW
 have hA:DataW.TrodAll enc Tryz.prog W 0 (fun _=>true) true Tryz.f4.params.toList args.toList ds p:=hA0
 rw[Tryz.params4]at hA hval
 obtain⟨v0,vs0,d0,ds0,p0,q0,hargs,rfl,rfl,h0,r0⟩:=trodAll_cons hA
 obtain⟨rfl,rfl,rfl⟩:=trodAll_nil r0
 obtain rfl:args= #[v0]:=by cases args;simp_all
 obtain⟨rfl,rfl⟩:=trodVars_none hV
 clear hA0
 simp only[List.append_nil]at hW'
 have hlt:∀x∈p0,x.block<W.heap.size:=fun x hx=>hW'.lt x hx
 obtain⟨c0,l0,rfl,hl0⟩:=K2.Zx Tryz.underlying37 (by kernel_rfl) ZM (hval 0 37 v0 rfl rfl) h0
 have hG:E1 Tryz.prog (Hp.of W):=YM hL
 refine(walk W hG l0 hl0 W (SH.start W)).mono fun e W' ⟨he,hs⟩=>?_
 subst he
 have hbel:=hs.below
 exact⟨_,rfl,⟨_,_,_,[],_,[],hW',trodAll_cons_mk (shut_bool Tryz.underlying4 _) trodAll_mk0,(trodAll_cons_mk (Below.trod laidOut (by kernel_rfl) (of_decide_eq_true (by kernel_rfl)) h0 hbel (fun x hx=>hlt x (by simp[hx]))) trodAll_mk0),rfl,hbel.frame _,fun h=>by cases h⟩⟩
theorem Uu(os:Os):laidMet Tryz.prog Rows.automatonOfRow.laid ((World.doorLaid Tryz.prog 400 os).forCall (fun _ _=>0) ⟨#[], #[.agg #[.int .i64 0, .int .u64 0, .int .u64 0, .int .u64 0, .int .u64 0, .slice none 0 0]],[]⟩).memory:=
 laidMet_of_run' 8 (by kernel_rfl) (by kernel_rfl)
theorem reads(os:Os){H:Type}(enc:TypeId×Value→H):∃places,DataW.whole enc Tryz.prog ((World.doorLaid Tryz.prog 400 os).forCall (fun _ _=>0) ⟨#[], #[.agg #[.int .i64 0, .int .u64 0, .int .u64 0, .int .u64 0, .int .u64 0, .slice none 0 0]],[]⟩).memory Tryz.f4.params.toList Rows.automatonOfSpec.vars false (#[.agg #[.int .i64 0, .int .u64 0, .int .u64 0, .int .u64 0, .int .u64 0, .slice none 0 0]]:Array Value).toList 8=some ([.agg [.lit (.int .i64 0), .agg [.lit (.int .u64 0), .lit (.int .u64 0), .lit (.int .u64 0), .lit (.int .u64 0)], .nil]],[],places):=
 ⟨[],by kernel_rfl⟩
theorem lifted(os:Os)(started:os.Started)(H:Type)(enc:TypeId×Value→H)(F:Stop.Interp):
  ReturnsInHanded {} Tryz.checked os 4 .any ((OpenSpec.ofChange Rows.automatonOfSpec).preRow enc Tryz.prog Tryz.f4 Rows.automatonOfRow.domain false Rows.automatonOfRow.laid) (((OpenSpec.ofChange Rows.automatonOfSpec).at F).post enc Tryz.prog Tryz.f4 false true false false):=by
 obtain⟨places,hx⟩:=reads os enc
 refine returnsInHanded_of_row (C:=Tryz.checked) (s:=(OpenSpec.ofChange Rows.automatonOfSpec)) own started (by kernel_rfl) Tryz.func4
  (witness_row_at (enc:=enc) (C:=Tryz.checked) false (World.doorLaid Tryz.prog 400 os) #[.agg #[.int .i64 0, .int .u64 0, .int .u64 0, .int .u64 0, .int .u64 0, .slice none 0 0]] rfl (by kernel_rfl) (by kernel_rfl) (by kernel_rfl)
   (OpenSpec.preRow_of_cond 8 hx (by kernel_rfl) (fun k hk=>by cases hk) (by kernel_rfl) (Uu os))) ?_
 intro W base args ds gs before hval hW _ _ _ hL _ _
 exact U8 H enc W base args ds gs before hval hW hL
theorem said:Rows.AutomatonOfSaid:=
 OpenClaim.holds_of_cond 4 Tryz.f4 rfl rfl rfl rfl rfl rfl rfl ⟨rfl,rfl,rfl,rfl,rfl⟩ rfl rfl rfl rfl rfl (by kernel_rfl) Tryz.func4 (by kernel_rfl)
  (of_decide_eq_true (by kernel_rfl)) (by unfold Func.isWrapper;first|(rw[if_pos (by decide+kernel)];kernel_rfl)|(rw[if_neg (by decide+kernel)];exact⟨rfl,rfl⟩))
  (fun os started H enc _ F=>by rw[OpenClaim.pre_eq_preRow];exact lifted os started H enc F)
theorem plain(f:FuncId)(fn:Func)(hf:Tryz.pinned.checked.prog.funcNamed "configlang/configlanglaw05.AutomatonOf" =some f)(hfn:Tryz.pinned.checked.prog.funcs[f]?=some fn):
  false=Tryz.pinned.checked.prog.looks []∧∀(j:Nat) t,fn.params[j]?=some t→Tryz.pinned.checked.prog.wantsStandIn t=false:=by
 obtain rfl:f=4:=Option.some.inj ((show Tryz.prog.funcNamed "configlang/configlanglaw05.AutomatonOf" =some 4 by kernel_rfl).symm.trans hf) |>.symm
 obtain rfl:fn=Tryz.f4:=(Option.some.inj (Tryz.func4.symm.trans hfn)).symm
 refine⟨by kernel_rfl,fun j t ht=>?_⟩
 rw[Tryz.params4]at ht
 have hm:t∈[37]:=by simpa using Array.mem_of_getElem? ht
 have hall:([37].all fun u=> !Tryz.prog.wantsStandIn u)=true:=by kernel_rfl
 exact(show Tryz.prog.wantsStandIn t=false by simpa using List.all_eq_true.1 hall t hm)
end Go.Proofs.YtjmbmodmepdmjaaGreatDoor.automatonOf
namespace Go.Proofs.YtjmbmodmepdmjaaGreatDoor
theorem automatonOf_holds:Rows.AutomatonOfCardSaid:=
 Claim7.holds_tied_plain_at .later [] _ _ _ _ automatonOf.said (fun _ h=>by cases h) (by kernel_rfl) (fun _ h=>by cases h) automatonOf_row_tie rfl ⟨rfl,rfl⟩ (by kernel_rfl) rfl automatonOf.plain (by kernel_rfl)
end Go.Proofs.YtjmbmodmepdmjaaGreatDoor
