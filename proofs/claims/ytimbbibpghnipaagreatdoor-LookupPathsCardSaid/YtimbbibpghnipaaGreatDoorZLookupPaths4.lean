/- Part 4 of the texts of this claim: what its theorem leans on. -/
import Derived.Test.YtimbbibpghnipaaGreatDoorZLookupPaths3
import Derived.Test.YtimbbibpghnipaaGreatDoorZLookupPaths1
import Derived.Shelf.Strconv.AppendUint10
import Derived.Shelf.Strconv.AppendIntPublic10
import Derived.KernelRfl
set_option linter.all false
open Option renaming some→Ac,none→C7
open Bool renaming false→Aj,true→Bp
open Go renaming Value→BZ,Operand→Dn,TypeId→Gs,Program→GQ,World→IW,execOp→Kt,Oper→K_,IntKind→Lr
open Decidable renaming decide→Di
set_option maxRecDepth 100000
set_option maxHeartbeats 4000000
open List renaming length→EW,replicate→Uh,range→a_,set→lD
open Nat renaming beq→Hj,blt→bg,ble→iT
open Int renaming toNat→aC,tmod→jz,natAbs→w8
open Go.Op renaming bytesLess→gq
open Go.Result renaming andThen→iX
open Option renaming getD→qa
open Go.Fence renaming wide→qA
namespace Go.GV
open Go Go.GK
section
variable {N : C9}
section
variable{C:List (SV N.T)}{P:GQ}{w:IW}{CR:List (SR N.T)}{n:Nat}{Of:Fm}{st:St N.T}{η:Nat->BZ}{H:Hp}{a:Act}{τ:Nat->Nat}{Rr:Nat->Option (SR N.T)}{fn:Func}
def rsA(P:GQ)(C:List (SV N.T))(CR:List (SR N.T))(st:St N.T):ResultVar->Option (SV N.T)
 | .tmp s=>Ac (Cu C st.L s)
 | .cell c e=>match Cu C st.L c,Mb N P e with
  | .loc b 0,Ac a=>match An CR st.O b with
   |some (.Ah _ l)=>match KR N C 64 a l with
    |some (x, .nl)=>Ac (.d a x)
    |_=>match a.agg with
     |true=>match whole l&&Hj (T9 N l) (a.sz N)with
      |true=>Ac l
      |false=>C7
     |false=>match E0 N C l 0 C7 with
      |some (.d _ _)=>C7
      |z=>z
   |_=>C7
  |_,_=>C7
def we(P:GQ)(C:List (SV N.T))(CR:List (SR N.T))(st:St N.T):List ResultVar->Option (List (SV N.T))
 | []=>Ac []
 |v::l=>match rsA P C CR st v,we P C CR st l with
  |some a,Ac r=>Ac (a::r)
  |_,_=>C7
theorem fU[C3 N P]{bs:List (Nat×BZ)}{v:ResultVar}{s:SV N.T}(h:Sat C CR n Of bs st η H a w)(f:rsA P C CR st v=Ac s):∃u,(lC a.tmps v).run P w= .ok u w/\s.is C η H u:=by
 cases v with
 |tmp t=>
  cases f;exact⟨_,by rfl,h.lk t⟩
 |cell J ty=>
  simp only[rsA]at f;split at f
  ·rename_i b I hs ht;split at f
   ·rename_i g l hb;obtain⟨d,U,p,bytes,zv,M⟩:=Ke ht;have W:=h.lk J;rw[hs]at W;obtain⟨B,e1,R⟩:=W;obtain⟨Y,hn,r,_,q⟩:=h.own;rcases q b _ hb with e|⟨X,h1,B',cs,E,e4,F⟩;· grind
    rw[e1]at E;have E:B=B':=by grind[ptr]
    subst E;subst e4;obtain⟨i,T,_⟩:=Jk Of.O hn h1;have D:I.agg=Bp->cs.toList.length=I.sz N->(lC a.tmps (.cell J ty)).run P w= .ok (.agg cs) w:=λha k=>by
     have:=Dm (P:=P) (w:=w) (a:=⟨B,0,C7⟩) (vs:=cs.toList) U (by grind) (by rw[k];omega) (λj u hj=>by rw[Addr.add_lit];exact r.L0 T (by simpa using hj));simp_all[lC,ptr,asAddr]
    have ld1:I.agg=Aj->∀u,cs[0]?=Ac u->(lC a.tmps (.cell J ty)).run P w= .ok u w:=λha u h0=>by have:=Dl (P:=P) (w:=w) (a:=⟨B,0,C7⟩) U (by rw[p,ha]) (r.L0 T h0);simp only[lC,R,ptr];simpa [asAddr]using this
    split at f
    ·rename_i x hx;cases f;obtain⟨c1,Q,S,G,o⟩:=EK (cs:=cs.toList) hx F;have o:BZ.agg Q.toArray= .agg #[]:=o;have o:Q=[]:=by simpa using o
     subst o;rw[Adh]at S;rw[<-S]at G;have k:=Bg G;cases ha:I.agg with
     |true=>exact⟨.agg cs,D ha k,cs.toList,G,by unfold CL;rw[ha]⟩
     |false=>
      rw[Zw ha]at k;obtain⟨u,V⟩:∃u,cs.toList=[u]:=Adc.1 k
      exact⟨u,ld1 ha u (by
         have:cs.toList[0]?=Ac u:=by rw[V];rfl
         simpa using this),cs.toList,G,by unfold CL;rw[ha];exact V⟩
    ·split at f
     ·rename_i ha;split at f;· rename_i O;cases f;rw[AT]at O;have:=HU (cs:=cs.toList) O.1 F;exact⟨.agg cs,D ha (by rw[<-this];exact AI O.2),F⟩
      ·cases f
     ·rename_i ha;have f:E0 N C l 0 C7=Ac s/\∀t y,s≠ .d t y:=by
       revert f;cases hz:E0 N C l 0 C7 with
       |none=>intro f;cases f
       |some z=>cases z<;>intro f<;>cases f<;>exact⟨rfl,λ_ _ e=>by cases e⟩
      obtain⟨c,L,hc⟩:=Dv (cs:=cs.toList) f.1 F;obtain⟨u,k1,k2,k3⟩:=L;rcases k3 with⟨ty',y,rfl,e⟩|⟨ho,hn'⟩;· exact absurd rfl (f.2 _ _)
      ·have:c=[u]:=by rw[<-k2,A_ ho]
       subst this;refine⟨u,ld1 ha u ?_,k1⟩;match K:cs.toList,hc with
       |z::zs,hc=>
        have:cs.toList[0]?=Ac u:=by rw[K];simpa using hc
        simpa using this
   grind
  grind
theorem PG{P:GQ} [C3 N P]{C:List (SV N.T)}{CR:List (SR N.T)}{n:Nat}{Of:Fm}{bs:List (Nat×BZ)}{st:St N.T}{η:Nat->BZ}{H:Hp}{a:Act}{w:IW}(h:Sat C CR n Of bs st η H a w):∀ {l:List ResultVar} {c:List (SV N.T)},we P C CR st l=Ac c->∃vs:List BZ,vs.length=c.length/\(l.mapM (lC a.tmps)).run P w= .ok vs w/\∀(i:Nat) (s:SV N.T),c[i]?=Ac s->∃v,vs[i]?=Ac v/\s.is C η H v
 | [],c,b=>by cases b;simp
 |v::l,c,b=>by
  simp only[we]at b;split at b;· rename_i s r e f;obtain⟨u,o,p⟩:=fU h e;obtain⟨vs,g,j,k⟩:=PG h f;refine⟨u::vs,by grind,by simp_all,λi m d=>?_⟩;grind
  grind
def exP(P:GQ)(l:List ResultVar)(b:Nat)(a:A')(d:Nat)(st:St N.T):Option (BJ N a.hs):=match we P [] [] st l with
 |some c=>
  let m:=Hk [] (An [] st.O) (λi=>c.getD i .no) a
  match(Hj c.length d&&iT d 3)&&(Np (a.sl.map (·.1)) (a_ d)&&(a_ b).all λk=>Hj (AZ m k) k)with
  |true=>JS [] (An [] st.O) (λi=>c.getD i .no) m a
  |false=>C7
 |none=>C7
def SN(cx:Cx N)(fu:Nat)(f:Func)(a b:A')(d:Nat)(x:BJ N a.hs):Option (BJ N b.hs):=match f.body with
 |none=>C7
 |some c=>den cx (noP b.hs) fu c cx.kb Aj [] [] (FI N a x) (exP cx.P f.results.toList a.nk b d) (λ_ _=>C7) (exP cx.P f.results.toList a.nk b d)
def Yt(cx:Cx N)(a b:A')(gone:List Nat):Bool:=(iT a.sl.length cx.n&&(Np (a.sl.map (·.1)) (a_ a.sl.length)&&(a.sl.all λp=>p.2.pl)))&&((a.ro.all λp=>bg p.1 a.nk)&&(Ci (b.ro.map (·.1))&&((a.ro.all λp=>B_ (b.ro.map (·.1)) p.1||B_ gone p.1)&&iT a.nk cx.kb)))
theorem Z9(a:List HT)(x:BJ N a) :∀j,D9 τ Rr (res C (Ct N a x j)):=by
 have:∀(a:List HT) (x:BJ N a) (j:Nat),Ct N a x j= .no\/∃h y,Ct N a x j=e_ N h y:=by
  intro a;induction a with
  |nil=>exact λ_ _=> .inl rfl
  |cons t b c=>
   intro x j;cases b with
   |nil=>cases j with
    |zero=>exact .inr ⟨t,x,rfl⟩
    |succ j=>exact .inl rfl
   |cons u b=>cases j with
    |zero=>exact .inr ⟨t,x.1,rfl⟩
    |succ j=>exact c x.2 j
 intro j;rcases this a x j with e|⟨h,y,e⟩;· rw[e];trivial
 ·rw[e];cases h<;>trivial
theorem inst_pl{a:List HT}{x:BJ N a}{p:SP}(h:p.pl=Bp) :D9 τ Rr (res C (inst N a x p)):=by
 cases p with
 |v j t=>exact Z9 _ _ j
 |nat j=>exact Z9 _ _ j
 |AH _=>trivial
 |loc _ _=>trivial
 |AK _ _ _=>trivial
 |Am=>trivial
 |nl=>trivial
 |mp _=>trivial
 |pd j t off=>
  show D9 τ Rr (res C (match Ct N a x j with| .d t x=>SV.pd t x off|_=> .no));split<;>trivial
 |px b z=>cases z with
  |sf=>trivial
  |hc _=>trivial
  |sub j n t=>
   show D9 τ Rr (res C (match Ct N a x j,Ct N a x n with| .na i, .na m=>SV.px b (.sub i m t)|_,_=> .px b .any));split<;>trivial
 |sv c=>cases c<;>trivial
 |_=>cases h
theorem fM{a:A'}{c i:Nat}(h:a.sl.map (·.1)=a_ c)(hi:i<c):(i,Il a.sl i)∈a.sl:=by
 have d:i∈keys a.sl:=by grind[keys]
 obtain⟨x,b⟩:=Du d;grind[Il,A4]
theorem Hg{a:Array BZ}{l:List BZ}(u:(fn.results.toList.mapM (lC a)).run P w= .ok l w):(results fn a).run P w= .ok (if h:l.toArray.size=1 then l.toArray[0]else .tuple l.toArray) w:=by rw[Mz];obtain⟨r,e⟩:∃r:List ResultVar,fn.results=r.toArray:=⟨fn.results.toList,by simp⟩;rw[e]at u⊢;simp at u;simp[u]
theorem b7{cx:Cx N} [mp:C3 N cx.P](hΦ:∀f q,cx.Φ f=Ac q->Bu cx.P f q)(hm:cx.P.follows .mixedOrders=Bp){fu f:Nat}{b n:A'}{B:Nat}{gone:List Nat}(he:TY cx.P f)(hf:cx.P.funcs[f]?=Ac fn)(hn:fn.ntmps=cx.n)(hc:Yt cx b n gone=Bp):Cr cx.P f ⟨b,n,B,gone,SN cx fu fn b n B⟩:=by
 unfold Yt at hc;simp only[AT]at hc;obtain⟨⟨c1,c2,c3⟩,c4,c5,c6,c7⟩:=hc;refine⟨he,λx y hy η H Of Y vs hnd hin=>?_⟩;obtain⟨i1,i2,i3,i4,hiv⟩:=hin;unfold SN at hy;split at hy;· grind
 ·rename_i c hb;let bs:List (Nat×BZ):=(a_ b.nk).map λk=>(k,η k);have T:∀p∈bs,p.1<b.nk/\η p.1=p.2:=λp g=>by
   grind
  have hro:∀p∈b.ro,p.1<b.nk:=λp g=>by simpa using IT.1 c4 p g
  refine TB.ofM hf hb hn (by grind) λa w U hsh=>?_;have fin:Kn [] [] cx.n (XM Of y) bs H (exP cx.P fn.results.toList b.nk n B) (bodyPostM qA 0 cx.P fn (Ret H λv D O'=> ∃η' Y',O'=Y'.map (·.2)++Of/\xQ ⟨b,n,B,gone,SN cx fu fn b n B⟩ y η η' D Y Y' v) .ret):=λOf1 r1 st A D a' J I hg S _ E=>by
   obtain⟨e0,M,rfl⟩:=hg;rw[e0]at E;show LeavesInM _ _ _ _ _ _ a'.defers _ _;rw[S.defers];refine Jw S λJ S=>?_;unfold exP at E;split at E
   ·rename_i As hAs;simp only at E;generalize hmm:Hk [] (An [] st.O) (λi=>As.getD i .no) n=m at E;split at E
    ·rename_i hck;simp only[AT]at hck;obtain⟨⟨e1,e2⟩,e3,e4⟩:=hck;have e1:=AI e1;have e2:=Abc e2;have e3:=FA e3;have hlen:n.sl.length=B:=by
      have:=congrArg EW e3;grind
     obtain⟨o,u1,u2,u3⟩:=PG S hAs;obtain⟨Y1,y1,y2,y3,y4⟩:=S.own;have hlt:∀p∈n.sl,p.1<B:=λp g=>by have:p.1∈n.sl.map (·.1):=By.2 ⟨p,g,rfl⟩;grind
     obtain⟨r1,r2,r3⟩:=LZ (C:=[]) (η:=A) (H:=D) (Y:=Y1) (vs:=o) E (by rw[u1,e1,hlen]) (λp g=>by
      have I:p.1<As.length:=by rw[e1];exact hlt p g
      obtain⟨v,v1,V⟩:=u3 p.1 As[p.1] (IS I);refine⟨v,v1,?_⟩;rw[Aae,IS I];exact V) (λp g sr hsr=>y4 _ sr hsr);have P:∀k,k<b.nk->AZ m k=k:=λk d=>AI (IT.1 e4 k (Abg.2 d));let W:List (Nat×Ax):=n.ro.map λp=>(p.1,(Ay Y1 (AZ m p.1)).getD .emp);have kY2:keys W=n.ro.map (·.1):=by show(n.ro.map _).map _=_;rw[Aaj];rfl
     have nd2:(keys W).Nodup:=by rw[kY2];exact BK c5
     have hsh2:SH J D (W.map (·.2)++Of):=by
      have hz:=SH.Ri y2 (Z:=n.ro.map λp=>(AZ m p.1,(Ay Y1 (AZ m p.1)).getD .emp)) (by
       unfold keys;rw[Aaj];exact r1) (λp g=>by obtain⟨z,hz,rfl⟩:=By.1 g;obtain⟨_,X,hX,_⟩:=r3 z hz;simp only[hX,Acv]);rw[Aaj]at hz;rw[Aaj];exact hz
     have hres:∃v,(results fn a'.tmps).run cx.P J= .ok v J/\(Jn (N:=N) ⟨b,n,B,gone,SN cx fu fn b n B⟩ y).is [] (λc=>A (AZ m c)) D v:=by
      have ul:o.length=B:=by rw[u1,e1]
      have F:∀i,i<B->∃v,o[i]?=Ac v/\(inst N n.hs y (Il n.sl i)).is [] (λc=>A (AZ m c)) D v:=λi hi=>r2 _ (fM e3 hi)
      refine⟨_,Hg u2,?_⟩;match o,ul,e2,F with
      | [],ul,_,F=>
       subst ul;rfl
      | [u],ul,_,F=>
       subst ul;obtain⟨v,v1,V⟩:=F 0 (by simp);cases v1;exact V
      | [u,u'],ul,_,F=>
       subst ul;obtain⟨v,v1,V⟩:=F 0 (by simp);obtain⟨v',v3,v4⟩:=F 1 (by simp);cases v1;cases v3;exact⟨_,_,rfl,V,v4⟩
      | [u,u',u''],ul,_,F=>
       subst ul;obtain⟨v,v1,V⟩:=F 0 (by simp);obtain⟨v',v3,v4⟩:=F 1 (by simp);obtain⟨v'',v5,v6⟩:=F 2 (by simp);cases v1;cases v3;cases v5;exact⟨_,_,_,rfl,V,v4,v6⟩
      |_::_::_::_::_,ul,h3',_=>simp at ul;omega
     obtain⟨v,g1,g2⟩:=hres;refine⟨v,g1,v,D,W.map (·.2)++Of,rfl,I,hsh2,λc=>A (AZ m c),W,rfl,λk d=>?_,nd2,λk d=> .inr (by rw[kY2]at d;exact d),λp g=>?_,λk d hn1 hn2=>?_,g2⟩;· rw[P k d];exact S.base (k,η k) (By.2 ⟨k,Abg.2 d,rfl⟩)
     ·obtain⟨_,X,hX,h4⟩:=r3 p g;refine⟨X,?_,h4⟩;have:(p.1,(Ay Y1 (AZ m p.1)).getD .emp)∈W:=By.2 ⟨p,g,rfl⟩;rw[CK nd2 this,hX];rfl
     ·rw[i3]at d;obtain⟨p,g,rfl⟩:=By.1 d;have:=IT.1 c6 p g;rw[Adx]at this;rcases this with h|h;· exact absurd (AR.1 h) hn1
      ·exact absurd (AR.1 h) hn2
    grind
   grind
  refine wpIn_wide.1 (Cq (R:=BJ N n.hs) (bs:=bs) (G:=XM Of y) (Of:=R2 Of []) (r:=y) (ro:=C7) (yv:=undef) (η:=η) hΦ hm c XK (λq K=>Abq (T q K).1 (Abc c7)) XL pV ⟨rfl,[],rfl⟩ (st:=FI N b x) (H:=H) ⟨hiv,U.defers,U.size,λt sv ht=>?_,λp g=>(T p g).2,Y,hnd,hsh,λk d=>?_,λk sr d=>?_⟩ ⟨λp g=>(T p g).1,λj hj=>?_,⟨λ_=>0,λt=>?_⟩,λk d=>(by cases d),λs hs=>(by cases hs)⟩ hy fin (λi M r st η D a' J _ _ _ _ E=>by cases E) fin)
  ·obtain⟨
       q,K,rfl,rfl⟩:=DF ht;obtain⟨v,S,h2⟩:=i2 q K;have:a.tmps.getD q.1 undef=v:=U.get q.1 v (by
    have key:∀(o:List BZ) (i t:Nat),o[t-i]?=Ac v->i<=t->lk (KS i o) t=Ac v:=by
     intro o;induction o with
     |nil=>intro i t h;simp at h
     |cons u o ih=>
      intro i t h hle;simp only[KS,lk];cases hb:Hj i t with
      |true=>
       have:=AI hb;subst this;simp at h;simp[h]
      |false=>
       have ne:=Abf hb;refine ih (i+1) t ?_ (by omega);rw[show t-i=(t-(i+1))+1 by omega]at h;simpa using h
    exact key vs 0 q.1 S (Abe _));rw[this];exact h2
  ·rw[i3]at d;obtain⟨p,g,rfl⟩:=By.1 d;exact hro p g
  ·unfold An at d;cases I:Ay (FI N b x).O k with
   |none=>rw[I]at d;cases d
   |some s0=>
    rw[I]at d;obtain⟨q,K,e⟩:=By.1 (A4 I);cases e;obtain⟨X,hX,h2⟩:=i4 q K;cases d;refine .inr ⟨X,hX,?_⟩;generalize instR N b.hs x q.2=z at h2;cases z with
    |Cv j=>exact h2.elim
    |_=>exact h2
  ·refine Cz λhm=>?_;obtain⟨q,K,rfl⟩:=By.1 hm;obtain⟨z,hz,rfl⟩:=By.1 K;have:=hro z hz;have hj:b.nk<=z.1:=hj;omega
  ·unfold Cu;cases ht:Ay (FI N b x).L t with
   |none=>trivial
   |some sv=>
    simp only;obtain⟨q,K,rfl,rfl⟩:=DF ht;have hpl:=IT.1 c3 q K;exact inst_pl hpl
end
end
section
variable {N : C9}
section
variable{fn:Func}
def yI(ky:Nat)(ts:List Ty):YL N (List (DQ N ts)×Bool):= {ky:=ky,f:=λC b k=>match U3 N C ts b with
 |some y=>match k Aj with
  |some ([],Bp)=>match k Bp with
   |some l=>Ac (y::l.1,l.2)
   |none=>Ac ([y],Aj)
  |_=>C7
 |none=>C7}
def JW:List (Nat×RP)->Nat->List (Nat×SR N.T)
 | [],_=>[]
 |p::l,i=>(p.1, .Cv i)::JW l (i+1)
def wW(O:List (Nat×SR N.T)):List (Nat×RP)->Nat->Bool
 | [],_=>Bp
 |p::l,i=>(match Ay O p.1 with
  |some (.Cv j)=>Hj i j
  |_=>Aj)&&wW O l (i+1)
def exI(a:A')(ts:List Ty)(st:St N.T):Option (List (DQ N ts)×Bool):=match wW st.O a.ro 0 with
 |true=>Ac ([],Bp)
 |false=>C7
def Wu(cx:Cx N)(fu:Nat)(f:Func)(a:A')(b:Nat)(ts:List Ty)(x:BJ N a.hs):Option (List (DQ N ts)×Bool):=match f.body,f.results.toList with
 |some c,[]=>den cx (yI a.nk ts) fu c (a.nk+1) Aj [] (a.ro.map λp=>instR N a.hs x p.2) ⟨(b, .mp a.nk)::(FI N a x).L,JW a.ro 0,a.nk+1⟩ (exI a ts) (λ_ _=>C7) (exI a ts)
 |_,_=>C7
def jf(cx:Cx N)(a:A')(c:Nat):Bool:=(iT a.sl.length cx.n&&(bg c a.sl.length&&(a.sl.all λp=>p.2.pl)))&&((a.sl.all λp=>bg p.1 a.sl.length&&p.2.ks.all λk=>bg k a.nk)&&((a.ro.all λp=>bg p.1 a.nk&&p.2.ks.all λk=>bg k a.nk)&&Ci (a.ro.map (·.1))))
theorem Calls.ofM{P:GQ}{n:Nat}{f:FuncId}{c:Code}{vs:List BZ}{w:IW}{X:Ending->IW->Prop}(e:P.funcs[f]?=Ac fn)(d:fn.body=Ac c)(g:fn.ntmps=n)(b:iT vs.length n=Bp)
  (h:∀a,Fr a n (KS 0 vs)->c.wp P (bodyPostM qA 0 P fn X) a w):Calls P f vs.toArray w X:=by
 subst g;exact(callsIn_wide (n:=0)).1 (callsIn_of_wp_marks e d trivial ((wpIn_wide (n:=0)).2 (h _ (Fr.enter vs _ b))) rfl)
theorem QA{CR:List (SR N.T)}{g:Nat×RP->SR N.T} :∀ {l:List (Nat×RP)} {i:Nat},(l.map (·.1)).Nodup->(∀j p,l[j]?=Ac p->CR[i+j]?=Ac (g p))->∀p∈l,∃j,Ay (JW l i:List (Nat×SR N.T)) p.1=Ac (.Cv j)/\CR[j]?=Ac (g p)
 | [],_,_,_,p,h=>by grind
 |q::l,i,b,hc,p,h=>by
  simp only[Aas,Aay]at b;simp only[JW,Ay];cases c:Hj q.1 p.1 with
  |true=>
   have e:=AI c;rcases Aav.1 h with rfl|h;· exact⟨i,rfl,by simpa using hc 0 _ rfl⟩
   grind
  |false=>
   rcases Aav.1 h with rfl|h;· simp at c
   ·exact QA b.2 (λj p d=>by have:=hc (j+1) p (by grind);grind) p h
theorem Ig:∀ {l:List (Nat×RP)} {i:Nat},keys (JW l i:List (Nat×SR N.T))=l.map (·.1)
 | [],_=>rfl
 |p::l,i=>by show p.1::keys (JW l (i+1):List (Nat×SR N.T))=_;rw[Ig];rfl
theorem cN:∀ {l:List (Nat×RP)} {i k:Nat} {s:SR N.T},Ay (JW l i) k=Ac s->∃p∈l,p.1=k
 |l,i,k,s,h=>by have:=Dp h;grind[Ig]
theorem UG{O:List (Nat×SR N.T)}{CR:List (SR N.T)}{g:Nat×RP->SR N.T} :∀ {l:List (Nat×RP)} {i:Nat},wW O l i=Bp->(∀j p,l[j]?=Ac p->CR[i+j]?=Ac (g p))->∀p∈l,An CR O p.1=Ac (g p)
 | [],_,_,_,p,h=>by grind
 |q::l,i,b,hc,p,h=>by
  simp only[wW,AT]at b;rcases Aav.1 h with rfl|h
  ·have a:=b.1;unfold An;split at a;· rename_i j e;have:=AI a;have:=hc 0 p rfl;grind[C6]
   grind
  ·exact UG b.2 (λj p c=>by have:=hc (j+1) p (by simpa using c);grind) p h
def itG{R:Type}(a:Hp->List Ax->R->Prop):Hp->Fm->R->Prop:=λH b r=> ∃M O,b=R2 O M/\a H O r
theorem b9{cx:Cx N} [mp:C3 N cx.P](hΦ:∀f q,cx.Φ f=Ac q->Bu cx.P f q)(hm:cx.P.follows .mixedOrders=Bp){fu f:Nat}{d:A'}{R:Nat}{ts:List Ty}(he:TY cx.P f)(K:cx.P.funcs[f]?=Ac fn)(hn:fn.ntmps=cx.n)(hc:jf cx d R=Bp):I9 cx.P f ⟨d,R,ts,Wu cx fu fn d R ts⟩:=by
 unfold jf at hc;simp only[AT]at hc;obtain⟨⟨c1,c2,c3⟩,c4,V,c6⟩:=hc;have c6:=BK c6
 have c4:∀p∈d.sl,p.1<d.sl.length/\∀k∈p.2.ks,k<d.nk:=λp n=>by have:=IT.1 c4 p n;simp_all
 have V:∀p∈d.ro,p.1<d.nk/\∀k∈p.2.ks,k<d.nk:=λp n=>by have:=IT.1 V p n;rw[AT]at this;exact⟨by simpa using this.1,λk m=>by simpa using IT.1 this.2 k m⟩
 refine⟨he,λx ys E G2 yv hone mono2 no2 W η H O Y U w hnd i1 i2 hyi i3 i4 hg hiv hsh=>?_⟩;have E:Wu cx fu fn d R ts x=Ac ys:=E;unfold Wu at E;split at E;case h_2=>grind
 rename_i c Z hrs;generalize hCR:(d.ro.map λp=>instR N d.hs x p.2)=CR at E;have hcr:∀j p,d.ro[j]?=Ac p->CR[0+j]?=Ac (instR N d.hs x p.2):=λj p hj=>by rw[<-hCR,Abm,Acb,hj];rfl
 obtain⟨o,F,ηy⟩:∃o:Nat->BZ,(∀k,k<d.nk->o k=η k)/\o d.nk=yv:=⟨λk=>match Hj k d.nk with
  |true=>yv
  |false=>η k,λk m=>by
   cases Z:Hj k d.nk with
   |true=>grind[Nat.eq_of_beq_eq_true]
   |false=>simp only[Z],by simp only[Agk]⟩;obtain⟨bs,hbs,hbm⟩:∃bs:List (Nat×BZ),(∀p∈bs,p.1<d.nk+1/\o p.1=p.2)/\∀k,k<d.nk+1->(k,o k)∈bs:=⟨(a_ (d.nk+1)).map λk=>(k,o k),λp n=>by
  obtain⟨k,m,rfl⟩:=By.1 n;exact⟨Abg.1 m,rfl⟩,λk m=>By.2 ⟨k,Abg.2 m,rfl⟩⟩;obtain⟨G,J⟩:∃G:Hp->Fm->List (DQ N ts)×Bool->Prop,G=itG G2:=⟨_,rfl⟩;have hG:∀H B Of r,H.le B->G H Of r->G B Of r:=by subst J;exact λH B Of r hle ⟨M,O,e,g⟩=>⟨M,O,e,mono2 _ _ _ _ hle g⟩
 have hY:QU cx.P bs (yI d.nk ts) yv G:=by
  subst J;refine⟨λC As k r _=>?_,λC As k r Of H gi ⟨M,O,e,g⟩ K η A U w Q h2 I=>?_⟩;· have:=hbm d.nk (Aff _);rw[ηy]at this;exact this
  ·subst e;have K:(match U3 N C ts As with
    |some y=>match k Aj with
     |some ([],Bp)=>match k Bp with
      |some l=>Ac (y::l.1,l.2)
      |none=>Ac ([y],Aj)
     |_=>C7
    |none=>C7)=Ac r:=K;split at K
   ·rename_i y hy;split at K
    ·rename_i hk0;split at K
     ·rename_i l hk1;cases K;have I:SH w H ((A++M.map BF)++O):=by rw[Aal];exact I
      refine(W H O y l.1 l.2 gi g (A++M.map BF) U w (J4 ts As U y hy Q h2) I).mono λb w' ⟨B,P,k1,k2,k3⟩=>⟨B,R2 P M,Lo l b,k1,rfl,by rw[Aal]at k2;exact k2,⟨M,P,rfl,k3⟩,?_⟩;cases b with
      |true=>exact hk1
      |false=>exact hk0
     ·cases K;have I:SH w H ((A++M.map BF)++O):=by rw[Aal];exact I
      refine(W H O y [] Aj gi g (A++M.map BF) U w (J4 ts As U y hy Q h2) I).mono λb w' ⟨B,P,k1,k2,k3⟩=>?_;cases b with
      |true=>exact absurd k3 (no2 _ _)
      |false=>exact⟨B,R2 P M,([],Bp),k1,rfl,by rw[Aal]at k2;exact k2,⟨M,P,rfl,k3⟩,hk0⟩
    ·cases K
   ·cases K
 refine Calls.ofM K Z hn (by rw[i1];exact c1) λa T=>?_;have fin:Kn [] CR cx.n G bs H (exI d ts) (bodyPostM qA 0 cx.P fn (λe w'=> ∃v B P Y',e= .returned v/\H.le B/\SH w' B (Y'.map (·.2)++P)/\keys Y'=d.ro.map (·.1)/\(∀p∈d.ro,∃X,Ay Y' p.1=Ac X/\(instR N d.hs x p.2).is [] η B p.1 X)/\G2 B P ([],Bp)) .ret):=λOf r st η1 B a' w' hl hgg Q _ I=>by
  rw[J]at hgg;obtain⟨M,P,e,g⟩:=hgg;subst e;show LeavesInM _ _ _ _ _ _ a'.defers _ _;rw[Q.defers];refine Jw Q λw' Q=>?_;unfold exI at I;split at I;case h_2=>cases I
  rename_i hio;cases I;obtain⟨Y1,y1,y2,y3,y4⟩:=Q.own;have rr:=UG (CR:=CR) (g:=λp=>instR N d.hs x p.2) hio hcr;have hx:∀p∈d.ro,∃X,Ay Y1 p.1=Ac X/\(instR N d.hs x p.2).is [] η B p.1 X:=λp n=>by
   rcases y4 p.1 _ (rr p n)with e|⟨X,x1,x2⟩;· obtain⟨X,_,hX⟩:=i4 p n;rw[e]at hX;exact hX.elim
   ·have bb:∀k,k<d.nk->η k=η1 k:=λk m=>by
     have:=Q.base (k,o k) (hbm k (by omega));rw[this,F k m]
    exact⟨X,x1,SR.is.env (bb p.1 (V p n).1) (λk m=>by cases m) (λk m=>bb k ((V p n).2 k (instR_ment _ _ _ k m))) x2⟩
  refine⟨.tuple #[],?_, .tuple #[],B,P,d.ro.map (λp=>(p.1,(Ay Y1 p.1).getD .emp)),rf,hl,?_,?_,λp n=>?_,g⟩
  ·rw[Mz];have:fn.results= #[]:=by simpa using hrs
   rw[this];simp
  ·refine SH.Ri (by simpa [R2]using y2) ?_ λp n=>?_;· unfold keys;rw[Aaj];exact c6
   ·obtain⟨z,hz,rfl⟩:=By.1 n;obtain⟨X,x1,_⟩:=hx z hz;simp only[x1,Acv]
  ·unfold keys;rw[Aaj];rfl
  ·obtain⟨X,x1,x2⟩:=hx p n;refine⟨X,?_,x2⟩;have nd:(keys (d.ro.map (λp=>(p.1,(Ay Y1 p.1).getD .emp)))).Nodup:=by unfold keys;rw[Aaj];exact c6
   rw[CK nd (By.2 ⟨p,n,rfl⟩),x1];rfl
 have key:∀(us:List BZ) (i t:Nat) (v:BZ),us[t-i]?=Ac v->i<=t->lk (KS i us) t=Ac v:=by
  intro us;induction us with
  |nil=>intro i t v h;simp at h
  |cons u us ih=>
   intro i t v h hle;simp only[KS,lk];cases Z:Hj i t with
   |true=>
    have:=AI Z;subst this;simp at h;simp[h]
   |false=>
    have ne:=Abf Z;refine ih (i+1) t v ?_ (by omega);rw[show t-i=(t-(i+1))+1 by omega]at h;simpa using h
 refine wpIn_wide.1 (Cq (bs:=bs) (G:=G) (Of:=R2 O []) (r:=ys) (ro:=C7) (yv:=yv) (η:=o) (H:=H) hΦ hm c (λ_=>⟨rfl,by subst J;exact λ_ _ _ D ⟨M,O,e,g⟩=>⟨D::M,O,by subst e;rfl,g⟩⟩) (λq hq=>(hbs q hq).1) hG hY (by subst J;exact⟨[],O,rfl,hg⟩) (st:=⟨(R, .mp d.nk)::(FI N d x).L,JW d.ro 0,d.nk+1⟩) ⟨hiv,T.defers,T.size,λt sv ht=>?_,λp n=>(hbs p n).2,Y,hnd,by simpa [R2]using hsh,λk m=>?_,λk sr m=>?_⟩ ⟨λp n=>(hbs p n).1,λj hj=>?_,⟨λ_=>0,λt=>?_⟩,λk m=>(by cases m),λs hs=>(by cases hs)⟩ E fin (λi Of r st η B a' w' _ _ _ _ I=>by cases I) fin);· simp only[Ay]at ht;cases S:Hj R t with
  |true=>
   rw[S]at ht;cases ht;have:=AI S;subst this;rw[T.get R yv (key U 0 R yv hyi (Abe _))];exact⟨ηy.symm,hone⟩
  |false=>
   rw[S]at ht;obtain⟨q,hq,rfl,rfl⟩:=DF ht;obtain⟨v,Q,h2⟩:=i2 q hq;rw[T.get q.1 v (key U 0 q.1 v Q (Abe _))];have:(inst N d.hs x q.2).is [] o H v:=h2.env (λk m=>by cases m) (λk m=>F k ((c4 q hq).2 k (by rw[<-inst_ment];exact m)));exact SV.BS.imp (λj v ⟨s,e,h⟩=>by simp at e) this
 ·rw[i3]at m;obtain⟨p,n,rfl⟩:=By.1 m;show p.1<d.nk+1;have:=(V p n).1;omega
 ·unfold An at m;split at m;· rename_i s hs;cases m;obtain⟨p,n,rfl⟩:=cN hs;obtain⟨j,e1,e2⟩:=QA (CR:=CR) (g:=λp=>instR N d.hs x p.2) c6 hcr p n;have hs:Ay (JW d.ro 0) p.1=Ac s:=hs;rw[e1]at hs;cases hs;obtain⟨X,x1,x2⟩:=i4 p n;refine .inr ⟨X,x1,?_⟩;simp only[C6,Aae,e2,Acv];exact SR.is.env (F p.1 (V p n).1) (λk m=>by cases m) (λk m=>F k ((V p n).2 k (instR_ment _ _ _ k m))) x2
  ·cases m
 ·refine Cz λhm=>?_;have hm:j∈keys (JW d.ro 0:List (Nat×SR N.T)):=hm;rw[Ig]at hm;obtain⟨p,n,rfl⟩:=By.1 hm;have:=(V p n).1;have hj:d.nk+1<=p.1:=hj;omega
 ·unfold Cu;simp only[Ay];cases S:Hj R t with
  |true=>trivial
  |false=>
   simp only;cases ht:Ay (FI N d x).L t with
   |none=>trivial
   |some sv=>
    simp only;obtain⟨q,hq,rfl,rfl⟩:=DF ht;have hpl:=IT.1 c3 q hq;exact inst_pl hpl
end
end
section
variable {N : C9}
def yJ(ky:Nat)(ts:List Ty):YL N (List (DQ N ts)×Option Bool):= {ky:=ky,f:=λC b k=>match U3 N C ts b with
 |some y=>match k Aj with
  |some ([],Ac Aj)=>match k Bp with
   |some r=>Ac (y::r.1,r.2)
   |none=>Ac ([y],C7)
  |_=>C7
 |none=>C7}
def exJ(P:GQ)(CR:List (SR N.T))(l:List ResultVar)(c:Bool)(a:A')(ts:List Ty)(st:St N.T):Option (List (DQ N ts)×Option Bool):=match wW st.O a.ro 0,we P [] CR st l with
 |true,Ac A=>match c,A with
  |true,[s]=>match TW [] .bool s with
   |some b=>Ac ([],Ac b)
   |none=>C7
  |false,[]=>Ac ([],Ac Aj)
  |_,_=>C7
 |_,_=>C7
def Wt(cx:Cx N)(fu:Nat)(f:Func)(a:A')(d:Nat)(ts:List Ty)(b:Bool)(x:BJ N a.hs):Option (List (DQ N ts)×Option Bool):=match f.body with
 |some c=>den cx (yJ d ts) fu c a.nk Aj [] (a.ro.map λp=>instR N a.hs x p.2) ⟨(FI N a x).L,JW a.ro 0,a.nk⟩ (exJ cx.P (a.ro.map λp=>instR N a.hs x p.2) f.results.toList b a ts) (λ_ _=>C7) (exJ cx.P (a.ro.map λp=>instR N a.hs x p.2) f.results.toList b a ts)
 |none=>C7
def je(cx:Cx N)(a:A')(c:Nat):Bool:=(iT a.sl.length cx.n&&(bg c a.nk&&(a.sl.all λp=>p.2.pl)))&&((a.sl.all λp=>bg p.1 a.sl.length&&p.2.ks.all λk=>bg k a.nk)&&((a.ro.all λp=>bg p.1 a.nk&&p.2.ks.all λk=>bg k a.nk)&&Ci (a.ro.map (·.1))))
theorem b8{cx:Cx N} [mp:C3 N cx.P](hΦ:∀f q,cx.Φ f=Ac q->Bu cx.P f q)(hm:cx.P.follows .mixedOrders=Bp){fu f:Nat}{fn:Func}{d:A'}{P:Nat}{ts:List Ty}{rb:Bool}(he:TY cx.P f)(J:cx.P.funcs[f]?=Ac fn)(hn:fn.ntmps=cx.n)(hc:je cx d P=Bp):I8 cx.P f ⟨d,P,ts,rb,Wt cx fu fn d P ts rb⟩:=by
 unfold je at hc;simp only[AT]at hc;obtain⟨⟨c1,c2,c3⟩,c4,c5,c6⟩:=hc;have c6:=BK c6;have c2:P<d.nk:=by simp_all
 have c5:∀p∈d.ro,p.1<d.nk/\∀k∈p.2.ks,k<d.nk:=λp m=>by have:=IT.1 c5 p m;rw[AT]at this;exact⟨by simpa using this.1,λk n=>by simpa using IT.1 this.2 k n⟩
 refine⟨he,λx ys E η G2 mono2 no2 U H O Y S w hnd i1 i2 i3 i4 hg hiv hsh=>?_⟩;have E:Wt cx fu fn d P ts rb x=Ac ys:=E;unfold Wt at E;split at E;case h_2=>grind
 rename_i c Q;generalize hCR:(d.ro.map λp=>instR N d.hs x p.2)=CR at E;have hcr:∀j p,d.ro[j]?=Ac p->CR[0+j]?=Ac (instR N d.hs x p.2):=λj p hj=>by rw[<-hCR,Abm,Acb,hj];rfl
 obtain⟨bs,V,hbm⟩:∃bs:List (Nat×BZ),(∀p∈bs,p.1<d.nk/\η p.1=p.2)/\∀k,k<d.nk->(k,η k)∈bs:=⟨(a_ d.nk).map λk=>(k,η k),λp m=>by grind,λk n=>By.2 ⟨k,Abg.2 n,rfl⟩⟩;obtain⟨G,I⟩:∃G:Hp->Fm->List (DQ N ts)×Option Bool->Prop,G=itG G2:=⟨_,rfl⟩;have hG:∀H B Of r,H.le B->G H Of r->G B Of r:=by subst I;exact λH B Of r hle ⟨M,O,e,g⟩=>⟨M,O,e,mono2 _ _ _ _ hle g⟩
 have hY:QU cx.P bs (yJ P ts) (η P) G:=by
  subst I;refine⟨λC As k r _=>hbm P c2,λC As k r Of H gi ⟨M,O,e,g⟩ J η A S w F h2 o=>?_⟩;subst e;have J:(match U3 N C ts As with
   |some y=>match k Aj with
    |some ([],Ac Aj)=>match k Bp with
     |some r=>Ac (y::r.1,r.2)
     |none=>Ac ([y],C7)
    |_=>C7
   |none=>C7)=Ac r:=J;split at J
  ·rename_i y hy;split at J
   ·rename_i hk0;split at J
    ·rename_i l hk1;cases J;have o:SH w H ((A++M.map BF)++O):=by rw[Aal];exact o
     refine(U H O y l.1 l.2 gi g (A++M.map BF) S w (J4 ts As S y hy F h2) o).mono λb T ⟨B,K,k1,R,k3⟩=>⟨B,R2 K M,xM l.1 l.2 b,k1,rfl,by rw[Aal]at R;exact R,⟨M,K,rfl,k3⟩,?_⟩;cases b with
     |true=>exact hk1
     |false=>exact hk0
    ·cases J;have o:SH w H ((A++M.map BF)++O):=by rw[Aal];exact o
     refine(U H O y [] C7 gi g (A++M.map BF) S w (J4 ts As S y hy F h2) o).mono λb T ⟨B,K,k1,R,k3⟩=>?_;cases b with
     |true=>exact absurd k3 (no2 _ _)
     |false=>exact⟨B,R2 K M,([],Ac Aj),k1,rfl,by rw[Aal]at R;exact R,⟨M,K,rfl,k3⟩,hk0⟩
   ·cases J
  ·cases J
 refine Calls.ofM J Q hn (by rw[i1];exact c1) λa W=>?_;have fin:Kn [] CR cx.n G bs H (exJ cx.P CR fn.results.toList rb d ts) (bodyPostM qA 0 cx.P fn (λe T=> ∃v B K Y' b,e= .returned v/\H.le B/\SH T B (Y'.map (·.2)++K)/\keys Y'=d.ro.map (·.1)/\(∀p∈d.ro,∃X,Ay Y' p.1=Ac X/\(instR N d.hs x p.2).is [] η B p.1 X)/\G2 B K ([],Ac b)/\(rb=Bp->v= .bool b)) .ret):=λOf r st η1 B a' T hl hgg F _ o=>by
  rw[I]at hgg;obtain⟨M,K,e,g⟩:=hgg;subst e;show LeavesInM _ _ _ _ _ _ a'.defers _ _;rw[F.defers];refine Jw F λT F=>?_;unfold exJ at o;split at o;case h_2=>cases o
  rename_i A hio hA;obtain⟨l,u1,u2,u3⟩:=PG F hA
  obtain⟨b,v,rfl,hv,hrun⟩:∃b v,r=([],Ac b)/\(rb=Bp->v= .bool b)/\(results fn a'.tmps).run cx.P T= .ok v T:=by
   split at o
   ·split at o;· rename_i b Q;cases o;obtain⟨v,e,V⟩:=u3 0 _ rfl;obtain⟨u,rfl⟩:=Adc.1 u1;cases e;obtain⟨cs,e1,e2⟩:=DL (t:= .bool) Q V;subst e1;cases e2;exact⟨b,_,rfl,λ_=>rfl,Hg u2⟩
    ·cases o
   ·cases o;exact⟨Aj,_,rfl,(λe=>by cases e),Hg u2⟩
   ·cases o
  obtain⟨Y1,y1,y2,y3,y4⟩:=F.own;have rr:=UG (CR:=CR) (g:=λp=>instR N d.hs x p.2) hio hcr;have hx:∀p∈d.ro,∃X,Ay Y1 p.1=Ac X/\(instR N d.hs x p.2).is [] η B p.1 X:=λp m=>by
   rcases y4 p.1 _ (rr p m)with e|⟨X,x1,x2⟩;· obtain⟨X,_,hX⟩:=i4 p m;rw[e]at hX;exact hX.elim
   ·have bb:∀k,k<d.nk->η k=η1 k:=λk n=>by
     have:=F.base (k,η k) (hbm k n);exact this.symm
    exact⟨X,x1,SR.is.env (bb p.1 (c5 p m).1) (λk n=>by cases n) (λk n=>bb k ((c5 p m).2 k (instR_ment _ _ _ k n))) x2⟩
  refine⟨v,hrun,v,B,K,d.ro.map (λp=>(p.1,(Ay Y1 p.1).getD .emp)),b,rf,hl,?_,?_,λp m=>?_,g,hv⟩
  ·refine SH.Ri (by simpa [R2]using y2) ?_ λp m=>?_;· unfold keys;rw[Aaj];exact c6
   ·obtain⟨z,hz,rfl⟩:=By.1 m;obtain⟨X,x1,_⟩:=hx z hz;simp only[x1,Acv]
  ·unfold keys;rw[Aaj];rfl
  ·obtain⟨X,x1,x2⟩:=hx p m;refine⟨X,?_,x2⟩;have nd:(keys (d.ro.map (λp=>(p.1,(Ay Y1 p.1).getD .emp)))).Nodup:=by unfold keys;rw[Aaj];exact c6
   rw[CK nd (By.2 ⟨p,m,rfl⟩),x1];rfl
 have key:∀(us:List BZ) (i t:Nat) (v:BZ),us[t-i]?=Ac v->i<=t->lk (KS i us) t=Ac v:=by
  intro us;induction us with
  |nil=>intro i t v h;simp at h
  |cons u us ih=>
   intro i t v h hle;simp only[KS,lk];cases Q:Hj i t with
   |true=>
    have:=AI Q;subst this;simp at h;simp[h]
   |false=>
    have ne:=Abf Q;refine ih (i+1) t v ?_ (by omega);rw[show t-i=(t-(i+1))+1 by omega]at h;simpa using h
 refine wpIn_wide.1 (Cq (bs:=bs) (G:=G) (Of:=R2 O []) (r:=ys) (ro:=C7) (yv:=η P) (η:=η) (H:=H) hΦ hm c (λ_=>⟨rfl,by subst I;exact λ_ _ _ D ⟨M,O,e,g⟩=>⟨D::M,O,by subst e;rfl,g⟩⟩) (λq hq=>(V q hq).1) hG hY (by subst I;exact⟨[],O,rfl,hg⟩) (st:=⟨(FI N d x).L,JW d.ro 0,d.nk⟩) ⟨hiv,W.defers,W.size,λt sv ht=>?_,λp m=>(V p m).2,Y,hnd,by simpa [R2]using hsh,λk n=>?_,λk sr n=>?_⟩ ⟨λp m=>(V p m).1,λj hj=>?_,⟨λ_=>0,λt=>?_⟩,λk n=>(by cases n),λs Z=>(by cases Z)⟩ E fin (λi Of r st η H a' T _ _ _ _ o=>by cases o) fin);· obtain⟨q,hq,rfl,rfl⟩:=DF ht;obtain⟨v,F,h2⟩:=i2 q hq;rw[W.get q.1 v (key S 0 q.1 v F (Abe _))];exact SV.BS.imp (λj v ⟨s,e,h⟩=>by simp at e) h2
 ·rw[i3]at n;obtain⟨p,m,rfl⟩:=By.1 n;exact(c5 p m).1
 ·unfold An at n;split at n;· rename_i s Z;cases n;obtain⟨p,m,rfl⟩:=cN Z;obtain⟨j,e1,e2⟩:=QA (CR:=CR) (g:=λp=>instR N d.hs x p.2) c6 hcr p m;have Z:Ay (JW d.ro 0) p.1=Ac s:=Z;rw[e1]at Z;cases Z;obtain⟨X,x1,x2⟩:=i4 p m;refine .inr ⟨X,x1,?_⟩;simp only[C6,Aae,e2,Acv];exact x2
  ·cases n
 ·refine Cz λhm=>?_;have hm:j∈keys (JW d.ro 0:List (Nat×SR N.T)):=hm;rw[Ig]at hm;obtain⟨p,m,rfl⟩:=By.1 hm;have:=(c5 p m).1;have hj:d.nk<=p.1:=hj;omega
 ·unfold Cu;cases ht:Ay (FI N d x).L t with
  |none=>simp only[ht];trivial
  |some sv=>
   simp only[ht];obtain⟨q,hq,rfl,rfl⟩:=DF ht;have hpl:=IT.1 c3 q hq;exact inst_pl hpl
end
def cE(n:Nat):Cd Empty where
 sz:=n
 BO _ x _:=x.elim
 len {_ x _} _:=x.elim
 mono {_ _ x _} _ _:=x.elim
 one {_ x _} _:=x.elim
def idE:List (Nat×Nat)->Nat->Option Nat
 | [],_=>C7
 |(t,i)::l,u=>match Hj u t with
  |true=>Ac i
  |false=>idE l u
section
variable {X : Type} {s : Nat}
section
variable{H:Hp}{α:Type}{d:Cd α}
abbrev KN(c:Cd X)(t:Ty):Cd (t.den λ_=>X):=Tf (T:=λ_=>X) (λ_=>c) t
def Zd(s:Nat):Ty->Nat
 | .st t=>Zd s t
 | .pr a b=>Zd s a+Zd s b
 | .un=>0
 | .bs=>4
 | .nm _=>s
 | .ar n t=>n*Zd s t
 |_=>1
theorem FN{c:Cd X}(h:c.sz=s):∀t,(KN c t).sz=Zd s t
 | .int k=>by cases k<;>rfl
 | .bool=>rfl
 | .str=>rfl
 | .sl _=>rfl
 | .st t=>FN h t
 | .pr a b=>by show(KN c a).sz+(KN c b).sz=_;rw[FN h a,FN h b];rfl
 | .un=>rfl
 | .bs=>rfl
 | .nm i=>h
 | .ar n t=>by show n*(KN c t).sz=_;rw[FN h t];rfl
theorem JC{α:Type}{c d:Cd α}{H:Hp}(h:∀a cs,c.BO H a cs->d.BO H a cs):∀ {l:List α} {xs:List BZ},A2 c H l xs->A2 d H l xs
 | [],_,k=>k
 |_::_,_,⟨cs,g,e,b,f⟩=>⟨cs,g,e,h _ _ b,JC h f⟩
theorem fN{c:Cd α}(b:c.sz=d.sz)(h:∀a cs,c.BO H a cs->d.BO H a cs){l:List α}{v:BZ}(k:G8 c H l v):G8 d H l v:=by obtain⟨⟨i,e,f⟩,g⟩:=k;exact⟨⟨i,b▸e,JC h f⟩,g⟩
theorem Fz{c d:Cd X}(b:c.sz=d.sz){H:Hp}(h:∀a cs,c.BO H a cs->d.BO H a cs):∀(t:Ty) (a:t.den λ_=>X) (cs:List BZ),(KN c t).BO H a cs->(KN d t).BO H a cs
 | .int _,_,_,k=>k
 | .bool,_,_,k=>k
 | .str,_,_,k=>k
 | .sl t,_,_,⟨v,e,k⟩=>⟨v,e,fN (by rw[FN b t,FN rfl t]) (Fz b h t) k⟩
 | .st t,a,cs,k=>Fz b h t a cs k
 | .pr t u,_,_,⟨g,i,e,j,l⟩=>⟨g,i,e,Fz b h t _ _ j,Fz b h u _ _ l⟩
 | .un,_,_,k=>k
 | .bs,_,_,k=>k
 | .nm _,a,cs,k=>h a cs k
 | .ar _ t,_,_,k=>⟨k.1,JC (Fz b h t) k.2⟩
end
variable (B : Ty) (out : X -> B.den λ_ => X) (hB : Zd s B = s)
section
variable{H:Hp}{n m:Nat}{a:X}{cs:List BZ}
def cF:Nat-> {c:Cd X//c.sz=s}
 |0=>⟨⟨s,λ_ _ _=>False,λh=>h.elim,λ_ h=>h,λh=>h.elim⟩,rfl⟩
 |n+1=>⟨⟨s,λH a d=>(KN (cF n).1 B).BO H (out a) d,λh=>by rw[<-hB,<-FN (cF n).2 B];exact(KN _ B).len h,λe h=>(KN _ B).mono e h,λh=>(KN _ B).one h⟩,rfl⟩
theorem WW{H:Hp} :∀ {n:Nat} {a:X} {cs:List BZ},(cF B out hB n).1.BO H a cs->(cF B out hB (n+1)).1.BO H a cs
 |0,_,_,h=>h.elim
 |n+1,_,_,h=>Fz ((cF B out hB n).2.trans (cF B out hB (n+1)).2.symm) (λ_ _=>WW) B _ _ h
theorem xy(h:n<=m)(k:(cF B out hB n).1.BO H a cs):(cF B out hB m).1.BO H a cs:=by
 induction h with
 |refl=>omega
 |step _ c=>grind[WW]
def Yy:Cd X where
 sz:=s
 BO H a c:= ∃n,(cF B out hB n).1.BO H a c
 len h:=by obtain⟨n,h⟩:=h;rw[(cF B out hB n).1.len h];grind
 mono d h:=by obtain⟨n,h⟩:=h;exact⟨n,(cF B out hB n).1.mono d h⟩
 one h:=by obtain⟨n,h⟩:=h;exact(cF B out hB n).1.one h
theorem MT{α:Type}{H:Hp}{c:Nat->Cd α}{d:Cd α}(up:∀ {n m:Nat},n<=m->∀a cs,(c n).BO H a cs->(c m).BO H a cs)(h:∀a cs,d.BO H a cs->∃n,(c n).BO H a cs):∀ {l:List α} {xs:List BZ},A2 d H l xs->∃n,A2 (c n) H l xs
 | [],_,k=>⟨0,k⟩
 |_::_,_,⟨cs,i,e,f,g⟩=>by obtain⟨n,f⟩:=h _ _ f;obtain⟨m,g⟩:=MT up h g;exact⟨max n m,cs,i,e,up (Akw ..) _ _ f,JC (up (Ajg ..)) g⟩
theorem VA(t:Ty)(h:n<=m)(a:t.den λ_=>X)(cs:List BZ)(k:(KN (cF B out hB n).1 t).BO H a cs):(KN (cF B out hB m).1 t).BO H a cs:=Fz ((cF B out hB n).2.trans (cF B out hB m).2.symm) (λ_ _=>xy B out hB h) t a cs k
theorem Ih{H:Hp} :∀(t:Ty) (a:t.den λ_=>X) (cs:List BZ),(KN (Yy B out hB) t).BO H a cs->∃n,(KN (cF B out hB n).1 t).BO H a cs
 | .int _,_,_,k=>⟨0,k⟩
 | .bool,_,_,k=>⟨0,k⟩
 | .str,_,_,k=>⟨0,k⟩
 | .sl t,_,_,⟨v,e,⟨j,d,b⟩,i⟩=>by obtain⟨n,b⟩:=MT (c:=λn=>KN (cF B out hB n).1 t) (VA B out hB t) (Ih t) b;refine⟨n,v,e,⟨j,?_,b⟩,i⟩;rw[FN (cF B out hB n).2 t];rw[FN (s:=s) (c:=Yy B out hB) rfl t]at d;omega
 | .st t,a,cs,k=>Ih t a cs k
 | .pr t u,_,_,⟨g,h,e,d,b⟩=>by obtain⟨n,d⟩:=Ih t _ _ d;obtain⟨m,b⟩:=Ih u _ _ b;exact⟨max n m,g,h,e,VA B out hB t (Akw ..) _ _ d,VA B out hB u (Ajg ..) _ _ b⟩
 | .un,_,_,k=>⟨0,k⟩
 | .bs,_,_,k=>⟨0,k⟩
 | .nm _,_,_,k=>k
 | .ar _ t,_,_,⟨d,b⟩=>by obtain⟨n,b⟩:=MT (c:=λn=>KN (cF B out hB n).1 t) (VA B out hB t) (Ih t) b;exact⟨n,d,b⟩
theorem dk:(Yy B out hB).BO H a cs↔(KN (Yy B out hB) B).BO H (out a) cs:=by
 constructor;· rintro⟨n,h⟩;cases n with
  |zero=>trivial
  |succ n=>exact Fz (c:=(cF B out hB n).1) (d:=Yy B out hB) (cF B out hB n).2 (λ_ _ k=>⟨n,k⟩) B _ _ h
 ·intro h;obtain⟨n,h⟩:=Ih B out hB B _ _ h;exact⟨n+1,h⟩
end
end
abbrev A5:=List (Bool×List (Int×Int×Int))
abbrev Bc:=List (Int×Int)×List (Int×Int)
abbrev FC:=Bool×Bool×Bool×Bc×A5
inductive Vl where
 |mk (any:Bool) (sc:FC) (lists:List (List (Vl×Vl)×List (Vl×Vl))) (structs:List (List (Aq×Int×Vl×Vl)×List (A5×Vl×Vl)))
def Vl.any:Vl->Bool| .mk a _ _ _=>a
def Vl.sc:Vl->FC| .mk _ s _ _=>s
def Vl.lists:Vl->List (List (Vl×Vl)×List (Vl×Vl))| .mk _ _ l _=>l
def Vl.structs:Vl->List (List (Aq×Int×Vl×Vl)×List (A5×Vl×Vl))| .mk _ _ _ l=>l
abbrev spB:Ty:= .st (.pr (.int .i64) (.int .i64))
abbrev wB:Ty:= .st (.pr (.sl spB) (.sl spB))
abbrev bk:Ty:= .st (.sl (.st (.pr .bool (.sl (.st (.pr (.int .u8) (.pr (.int .u8) (.int .i64))))))))
abbrev scB:Ty:= .st (.pr .bool (.pr .bool (.pr .bool (.pr wB bk))))
abbrev Xm:Ty:= .st (.pr (.nm 0) (.nm 0))
abbrev lcB:Ty:= .st (.pr (.sl Xm) (.sl Xm))
abbrev vfB:Ty:= .st (.pr .str (.pr (.int .i64) Xm))
abbrev clsB:Ty:= .st (.pr bk Xm)
abbrev oA:Ty:= .st (.pr (.sl vfB) (.sl clsB))
abbrev vo:Ty:= .st (.pr .bool (.pr scB (.pr (.sl lcB) (.sl oA))))
def vO(x:Vl):Bool×FC×List (List (Vl×Vl)×List (Vl×Vl))×List (List (Aq×Int×Vl×Vl)×List (A5×Vl×Vl)):=(x.any,x.sc,x.lists,x.structs)
def vlI(p:Bool×FC×List (List (Vl×Vl)×List (Vl×Vl))×List (List (Aq×Int×Vl×Vl)×List (A5×Vl×Vl))):Vl:= .mk p.1 p.2.1 p.2.2.1 p.2.2.2
def TV:Cd Vl:=Yy (s:=9) vo vO rfl
theorem Zu{H:Hp}{a:Vl}{cs:List BZ} :TV.BO H a cs↔(KN TV vo).BO H (vO a) cs:=dk vo vO rfl
abbrev tV:Nat->Type
 |0=>Vl
 |_=>Empty
def nV(d:List (Nat×Nat))(f:Nat):C9 where
 T:=tV
 body|0=>vo|i+1=> .nm (i+1)
 out|0,x=>vO x|_+1,x=>x
 wX|0,p=>vlI p|_+1,p=>p
 size|0=>9|_+1=>f
 id u:=idE d u
 cd|0=>TV|_+1=>cE f
 size_eq|0=>rfl|_+1=>rfl
 LM|0,_=>rfl|_+1,_=>rfl
 lay {i H a k} :=match i,a with
  |0,a=>Zu
  |i+1,a=>a.elim
end Go.GV
namespace Go.Proofs
open Go.Shelf Go.RowKit Go.Sort Go.Lib
variable {P : GQ} {ρ : Ren}
section
variable{w:IW}{o:K_}{a:Act}{Q:Exit->Act->IW->Prop}
def dR(w:IW)(v v':BZ):Prop:=v'.ownBlock=v.ownBlock\/∀b,v'.ownBlock=Ac b->w.heap.size<=b
theorem M0{d e:IW}{row:Option Nat}(h:w.grownBy d C7)(k:d.grownBy e row):w.grownBy e row:=by obtain⟨f,g,i,a,j⟩:=h;obtain⟨l,m,n,o,p⟩:=k;exact⟨l.trans f,m.trans g,n.trans i,Aan a o,λb c q=>(p b (Abq c a) q).trans (j b c (by simp))⟩
theorem Ja{D:Array K_}{q:List K_}(I:o.guard=C7)(s x:Dn)(t:Gs)
  (T:o.op= .call {callee:= .builtin .append,args:= #[s,x],argTypes:= #[t,t]})
  (e:Gs) (ii:TypeInfo) (z:BZ) (ht:P.underlying t=Ac (.slice e)) (p:P.info? e=Ac ii) (g3:ii.zero=Ac z)
  (g1:ii.size=1) (g2:ii.bytes=1) (C:z.cells.size=1)
  (v:BZ) (m:Nat) (xs:List BZ) (U:a.eval s=v) (k:w.ownsRow 0 e 1 v m xs)
  (y:Addr) (n c:Nat) (d:List BZ) (V:a.eval x= .slice (Ac y) n c) (M:d.length=n) (f:∀j u,d[j]?=Ac u->w.cell? (y.add j)=Ac u) (h1:∀u∈d,u.oneCell'=Bp)
  (Z:m+n<=140737488355328)
  (h:∀v' w',w'.ownsRow 0 e 1 v' (m+n) (xs++d)->w.grownBy w' v.ownBlock->dR w v v'->wpList P D Q q (a.put o.dst v') w'):wpList P D Q (o::q) a w:=by
 refine wpList_plain I λK N=>?_;have i:d.length=n*1:=by omega
 obtain⟨v',w',F,W,X,k3⟩:=run_append_own (P:=P) w 0 t o.type e ii z 1 1 ht p g3 g1 g2 C (by decide) v m xs k y n c d i f h1 (by simp only[maxLen];omega) (by omega) (Abe _);unfold K_.wp;simp[Kt,T,resolve,invoke,builtin,U,V,F,iX];refine N _ _ (h v' w' W X ?_);rcases k.2 with⟨rfl,rfl⟩|⟨g,cap,G,rfl,_,R,S,_,O,J⟩;· right;have L:xs=[]:=Abb (by simpa using k.1);subst L;obtain⟨v2,w2,l,Y,_,_⟩:=run_append_own (P:=P) w w.heap.size t o.type e ii z 1 1 ht p g3 g1 g2 C (by decide) (.slice C7 0 0) 0 [] (IW.ownsRow_nil w _ e _) y n c d i f h1 (by simp only[maxLen];omega) (by omega) (Aac _);rw[F]at l;injection l with B H;subst B;subst H;exact λb E=>(IW.ownsRow.lt Y b E).1
 ·by_cases r:m+n<=cap;· left;have l:=run_append_room (P:=P) w t o.type e ii ht p g m cap G R y n c d (by rw[g1];exact i) f h1 r (by rw[g1];omega);rw[F]at l;injection l with B H;rw[B];rfl
  ·right;have l:=run_append_grow (P:=P) w t o.type e ii z ht p g3 ⟨g,0,C7⟩ m cap xs (by rw[g1];exact k.1) (k.cells (g:=g) rfl) y n c d (by rw[g1];exact i) f (by omega) (by omega) (growslice_fits (by omega) (by rw[g2];omega));rw[F]at l;injection l with B H;intro b E;rw[B]at E;simp[BZ.ownBlock]at E;omega
theorem NM{p:Array K_}{i:List K_}(C:o.guard=C7)(s x:Dn)(t u:Gs)
  (L:o.op= .call {callee:= .builtin .append,args:= #[s,x],argTypes:= #[t,u]})
  (e:Gs) (ii:TypeInfo) (ht:P.underlying t=Ac (.slice e)) (y:P.underlying u=Ac .string) (f:P.info? e=Ac ii) (g3:ii.zero=Ac (.int .u8 0))
  (g1:ii.size=1) (g2:ii.bytes=1)
  (v:BZ) (m:Nat) (xs:List BZ) (M:a.eval s=v) (c:w.ownsRow 0 e 1 v m xs) (str:ByteArray) (N:a.eval x= .string str)
  (I:m+str.size<=140737488355328)
  (h:∀v' w',w'.ownsRow 0 e 1 v' (m+str.size) (xs++strCells str)->w.grownBy w' v.ownBlock->dR w v v'->wpList P p Q i (a.put o.dst v') w'):wpList P p Q (o::i) a w:=by
 refine wpList_plain C λK F=>?_;obtain⟨v',w',r,O,R,T⟩:=Lib.run_append_own_string (P:=P) w 0 t u o.type e ii ht y f g3 g1 g2 v m xs c str (by simp only[maxLen];omega) I (Abe _);unfold K_.wp;simp[Kt,L,resolve,invoke,builtin,M,N,r,iX];refine F _ _ (h v' w' O R ?_);rcases c.2 with⟨rfl,rfl⟩|⟨g,cap,z,rfl,_,H,J,G,B,D⟩;· right;have E:xs=[]:=Abb (by simpa using c.1);subst E;obtain⟨U,V,d,S,_,_⟩:=Lib.run_append_own_string (P:=P) w w.heap.size t u o.type e ii ht y f g3 g1 g2 (.slice C7 0 0) 0 [] (IW.ownsRow_nil w _ e _) str (by simp only[maxLen];omega) (by omega) (Aac _);rw[r]at d;injection d with n A;subst n;subst A;exact λb q=>(IW.ownsRow.lt S b q).1
 ·by_cases k:m+str.size<=cap;· left;have d:=Lib.run_append_room_string (P:=P) w t u o.type e ii ht y f g1 g m cap z H str k (by simp at B;omega);rw[r]at d;injection d with n A;rw[n];rfl
  ·right;have d:=Lib.run_append_grow_string (P:=P) w t u o.type e ii (.int .u8 0) ht y f g3 ⟨g,0,C7⟩ m cap xs (by rw[c.1,g1]) (c.cells (g:=g) rfl) str (by omega) (by omega) (by rw[g2];exact growslice_fits (by omega) (by omega));rw[r]at d;injection d with n A;intro b q;rw[n]at q;simp[BZ.ownBlock]at q;omega
def N7(P:GQ)(ρ:Ren)(f:FuncId)(c:BZ)(n:Nat)(a:BZ)(xs:List BZ)(w:IW)(l:List UInt8):Prop:=Calls P f #[a,c, .int .i64 10] w λe w'=> ∃v',e= .returned v'/\w'.ownsRow 0 (ρ.t 5) 1 v' (n+l.length) (xs++Lib.byteCells l)/\w.grownBy w' a.ownBlock/\dR w a v'
theorem U4(L:LaysM.n288 P ρ)(n u:Nat)(I:u<100)(y:BZ)(xs:List BZ)(w:IW)(k:w.ownsRow 0 (ρ.t 5) 1 y n xs)(x:n+20<=140737488355328):N7 P ρ (ρ.f 288) (.int .u64 u) n y xs w (Lib.decDigits u):=by
 have q:=L.mixed;have t5:=L.t5;have X:=L.a5;have z5:=L.z5;have v5:=L.v5;have K:=L.t37;have N:=run_underlying L.t37;have F:=L.a37;have S:=L.z37;have Q:=L.v37;have M:=L.t53;have G:=L.a53;have T:=L.z53;have R:=L.v53;have t3:=L.t3;have V:=L.a3;have z3:=L.z3;have v3:=L.v3;have t4:=L.t4;have W:=L.a4;have z4:=L.z4;have v4:=L.v4;have t9:=L.t9;have Y:=L.a9;have z9:=L.z9;have v9:=L.v9;have z:=L.t171;have r:=L.a171;have D:=L.z171;have B:=L.v171;have Z:=L.t0;have U:=L.a0;have z0:=L.z0;have v0:=L.v0;have A:=L.t173;have s:=L.a173;have E:=L.z173;have C:=L.v173;have t:∀args w,(callFunc (ρ.f 283) args).run P w= .ok (.enter (ρ.f 283) args) w:=enters_of L.f283 (by kernel_rfl) rfl;obtain⟨J,H,m,o,p⟩:=info_parts L.i5;have v:(Lib.decDigits u).length<=20:=by
  rw[Lib.decDigits_length];by_cases i:u<10;· rw[Lib.nDigits_small i];omega
  ·rw[Lib.nDigits_big i,Lib.nDigits_small (show u/10<10 by omega)];omega
 have l:(⟨(Lib.decDigits u).toArray⟩:ByteArray).size=(Lib.decDigits u).length:=by simp[ByteArray.size]
 unfold N7;go_enter L.f288,Body.n288_ntmps ρ;go_wp2_with (first
  |(go_at_fn (ρ.f 283);refine(Any.internal_strconv_small {L with} u I _).mono ?_;rintro e w' ⟨rfl,rfl⟩)
  |(at_builtin;refine NM rfl _ _ (ρ.t 37) (ρ.t 9) rfl (ρ.t 5) J L.t37 L.t9 H m o p _ _ _ rfl k ⟨(Lib.decDigits u).toArray⟩ rfl (by rw[l];omega) ?_));intro O w1 b h j;go_wp2;go_ret;refine⟨O,rfl,?_,h,j⟩;first|exact b|(rw[l]at b;exact b)
theorem dD(L:LaysM.n288 P ρ)(n u:Nat)(hu:100<=u)(i:u<18446744073709551616)(U:BZ)(xs:List BZ)(w:IW)(A:w.ownsRow 0 (ρ.t 5) 1 U n xs)(hlim:n+20<=140737488355328)
  (B:Lib.TabIs P w "internal/strconv.uint64pow10" .u64 Lib.pow10Tab):N7 P ρ (ρ.f 288) (.int .u64 u) n U xs w (Lib.decDigits u):=by
 have S:=L.mixed;have t5:=L.t5;have a5:=L.a5;have z5:=L.z5;have v5:=L.v5;have t37:=L.t37;have u37:=run_underlying L.t37;have a37:=L.a37;have z37:=L.z37;have v37:=L.v37;have t53:=L.t53;have a53:=L.a53;have z53:=L.z53;have v53:=L.v53;have t3:=L.t3;have a3:=L.a3;have z3:=L.z3;have v3:=L.v3;have t4:=L.t4;have a4:=L.a4;have z4:=L.z4;have v4:=L.v4;have t9:=L.t9;have a9:=L.a9;have z9:=L.z9;have v9:=L.v9;have t171:=L.t171;have V:=L.a171;have z171:=L.z171;have v171:=L.v171;have t0:=L.t0;have a0:=L.a0;have z0:=L.z0;have v0:=L.v0;have t173:=L.t173;have X:=L.a173;have z173:=L.z173;have v173:=L.v173;have Y:∀args w,(callFunc (ρ.f 284) args).run P w= .ok (.enter (ρ.f 284) args) w:=enters_of L.f284 (by kernel_rfl) rfl;have Z:∀args w,(callFunc (ρ.f 285) args).run P w= .ok (.enter (ρ.f 285) args) w:=enters_of L.f285 (by kernel_rfl) rfl;obtain⟨i0,hi,O,Q,R⟩:=info_parts L.i5;have D:1<=u:=by omega
 have N:Lib.nDigits u<=20:=by have:=Lib.numDigits_eq u D i;split at this<;>omega
 have y:P.arrayLen (ρ.t 171)=24:=by simp[GQ.arrayLen,L.t171]
 have hsl:∀W,(Instr.sliceAt (ρ.t 171) (.pointer (Ac ⟨w.heap.size,0,C7⟩)) C7 (Ac (.int .i64 (Lib.nDigits u:Int))) C7).run P W= .ok (.slice (Ac ⟨w.heap.size,0,C7⟩) (Lib.nDigits u) 24) W:=λW=>by rw[run_sliceAt_array_h W (ρ.t 171) ⟨w.heap.size,0,C7⟩ (by simp[GQ.arrayLen,GQ.elem,L.t171]) .i64 (Lib.nDigits u:Int) (by omega) (by rw[y];omega)];go_simp
 have s:=Lib.holds_zero0 w (ρ.t 171) (Lib.nDigits u) (by omega);have f:=Any.internal_strconv_formatBase10 {L with} w.heap.size 0 24 u (Array.replicate (Lib.nDigits u) 0) (w.alloc (.cells Lib.zeros24 (ρ.t 171))) s (by rw[Afk];exact Lib.lt_pow_nDigits u) i (by rw[Afk];omega);rw[Afk]at f;have x:=Lib.hid s;have iu:(100:Int)<=(u:Int):=by omega
 clear s y;unfold N7;go_enter L.f288,Body.n288_ntmps ρ;go_wp2_with (first
  |(go_at_fn (ρ.f 284);refine(Any.internal_strconv_numDigits {L with} u D i _ (Lib.tabIs_alloc B _)).mono ?_;rintro e w' ⟨rfl,rfl⟩));go_at_fn (ρ.f 285);refine f.mono ?_;rintro e w' ⟨rfl,k,v',r,rfl,K⟩;have d:∀j H,(Lib.byteCells (Lib.decDigits u))[j]?=Ac H->((putRow (λ(b:UInt8)=>BZ.int .u8 (b.toNat:Int)) (w.alloc (.cells Lib.zeros24 (ρ.t 171))) w.heap.size 0 r).drewN k).cell? ((⟨w.heap.size,0,C7⟩:Addr).add j)=Ac H:=by
  intro j H M;have m:j<(Lib.decDigits u).length:=by have h5:=(No.1 M).1;rwa [Lib.byteCells_length]at h5
  have e5:(Lib.byteCells (Lib.decDigits u))[j]?=Ac (BZ.int .u8 ((Lib.decDigits u)[j].toNat:Int)):=by simp[Lib.byteCells,m]
  rw[e5]at M;cases M;rw[Lib.row_is_numeral K j m,Lib.add_plain,IW.cell?_drewN];exact cell?_putRow (λ(b:UInt8)=>BZ.int .u8 (b.toNat:Int)) _ w.heap.size 0 _ r x.out (by rw[K.size,Afk]) j (by rw[K.size];rw[Lib.decDigits_length]at m;exact m)
 obtain⟨T,F⟩:=Lib.fin_at w (.cells Lib.zeros24 (ρ.t 171)) r k 0;have g:((putRow (λ(b:UInt8)=>BZ.int .u8 (b.toNat:Int)) (w.alloc (.cells Lib.zeros24 (ρ.t 171))) w.heap.size 0 r).drewN k).ownsRow 0 (ρ.t 5) 1 U n xs:=by rw[F];exact Lib.ownsRow_grow A k T
 have p:w.grownBy ((putRow (λ(b:UInt8)=>BZ.int .u8 (b.toNat:Int)) (w.alloc (.cells Lib.zeros24 (ρ.t 171))) w.heap.size 0 r).drewN k) C7:=by rw[F];exact Go.GK.OT w k T
 have q:w.heap.size<=((putRow (λ(b:UInt8)=>BZ.int .u8 (b.toNat:Int)) (w.alloc (.cells Lib.zeros24 (ρ.t 171))) w.heap.size 0 r).drewN k).heap.size:=by rw[F];exact Lib.size_grow w k T
 generalize(putRow (λ(b:UInt8)=>BZ.int .u8 (b.toNat:Int)) (w.alloc (.cells Lib.zeros24 (ρ.t 171))) w.heap.size 0 r).drewN k=W2 at d g p q⊢;clear F x f;go_wp2_with (at_builtin;refine Ja rfl _ _ (ρ.t 37) rfl (ρ.t 5) i0 (.int .u8 0) L.t37 hi O Q R rfl _ _ _ rfl g ⟨w.heap.size,0,C7⟩ (Lib.nDigits u) 24 (Lib.byteCells (Lib.decDigits u)) rfl ?c0 d ?c2 ?c3 ?_);case c0=>rw[Lib.byteCells_length,Lib.decDigits_length]
 case c2=>intro H C;simp only[Lib.byteCells,By]at C;obtain⟨b,_,rfl⟩:=C;rfl
 case c3=>omega
 intro v2 w3 v t z;go_wp2;go_ret;refine⟨v2,rfl,?_,M0 p t,z.imp id λh b hb=>Aan q (h b hb)⟩;rw[Lib.decDigits_length];exact v
theorem xH(L:LaysM.n288 P ρ)(n u:Nat)(e:u<18446744073709551616)(f:BZ)(xs:List BZ)(w:IW)(b:w.ownsRow 0 (ρ.t 5) 1 f n xs)(a:n+20<=140737488355328)
  (d:Lib.TabIs P w "internal/strconv.uint64pow10" .u64 Lib.pow10Tab):N7 P ρ (ρ.f 288) (.int .u64 u) n f xs w (Lib.decDigits u):=by
 by_cases h:u<100;· exact U4 L n u h f xs w b a
 ·exact dD L n u (by omega) e f xs w b a d
theorem grownBy_alloc(w:IW)(o:Obj):w.grownBy (w.alloc o) C7:=
 ⟨rfl,rfl,rfl,by show w.heap.size<=(w.heap.push o).size;rw[Array.size_push];omega,λb a _=>by show(w.heap.push o)[b]?=w.heap[b]?;rw[Array.getElem?_push_lt a,Array.getElem?_eq_getElem a]⟩
theorem appI(L:LaysM.n249 P ρ)(n:Nat)(i:Int)(h0: -9223372036854775808<=i)(h1:i<=9223372036854775807)(C:BZ)(xs:List BZ)(w:IW)(r:w.ownsRow 0 (ρ.t 5) 1 C n xs)(T:n+21<=140737488355328)
  (s:∀w',w.grownBy w' C.ownBlock->Lib.TabIs P w' "internal/strconv.uint64pow10" .u64 Lib.pow10Tab):N7 P ρ (ρ.f 249) (.int .i64 i) n C xs w (Lib.itoa i):=by
 have N:=L.mixed;have t5:=L.t5;have R:=L.a5;have z5:=L.z5;have v5:=L.v5;have t37:=L.t37;have u37:=run_underlying L.t37;have X:=L.a37;have z37:=L.z37;have v37:=L.v37;have t2:=L.t2;have O:=L.a2;have z2:=L.z2;have E:=L.v2;have t3:=L.t3;have Q:=L.a3;have z3:=L.z3;have v3:=L.v3;have t53:=L.t53;have Y:=L.a53;have z53:=L.z53;have v53:=L.v53;have t4:=L.t4;have G:=L.a4;have z4:=L.z4;have v4:=L.v4;have S:∀args w,(callFunc (ρ.f 288) args).run P w= .ok (.enter (ρ.f 288) args) w:=enters_of L.f288 (by kernel_rfl) rfl;obtain⟨i0,hi,J,K,M⟩:=info_parts L.i5;by_cases U:i<0
 ·obtain⟨u,rfl⟩:∃u:Nat,i= -(u:Int):=⟨i.natAbs,by omega⟩;have H:1<=u:=by omega
  have g:u<18446744073709551616:=by omega
  have hwr:Lr.u64.wrap (-Lr.u64.wrap (-(u:Int)))=(u:Int):=by rw[Lr.wrap_u64,Lr.wrap_u64];omega
  rw[Lib.itoa_neg u H];unfold N7;go_enter L.f249,Body.n249_ntmps ρ;go_wp2_with (at_builtin;refine Ja rfl _ _ (ρ.t 37) rfl (ρ.t 5) i0 (.int .u8 0) L.t37 hi J K M rfl _ _ _ rfl (r.alloc _) ⟨w.heap.size,0,C7⟩ 1 1 [BZ.int .u8 45] rfl rfl (by intro j u' D;match j,D with|0,D=>simp at D;subst D;simp[Addr.add]) (by intro u' B;simp at B;subst B;rfl) (by omega) ?_);intro v1 F x v A;have t:=M0 (grownBy_alloc w _) v;have y:Lib.TabIs P F "internal/strconv.uint64pow10" .u64 Lib.pow10Tab:=s F t;have I:w.heap.size<=F.heap.size:=by obtain⟨_,_,_,q,_⟩:=t;exact q
  go_wp2_with (go_at_fn (ρ.f 288);refine(xH {L with} (n+1) u g v1 _ F x (by omega) y).mono ?_;rintro e w2 ⟨E,rfl,f,c,d⟩);go_wp2;go_ret;have z:dR w C v1:=A.imp id λh b p=>by refine Aan ?_ (h b p);obtain⟨_,_,_,q,_⟩:=grownBy_alloc w _;exact q
  refine⟨E,rf,?_,?_,?_⟩
  ·have e1:n+((Lib.decDigits u).length+1)=n+1+(Lib.decDigits u).length:=by omega
   have e2:xs++Lib.byteCells (45::Lib.decDigits u)=xs++[BZ.int .u8 45]++Lib.byteCells (Lib.decDigits u):=by simp[Lib.byteCells]
   rw[e1,e2];exact f
  ·obtain⟨W,O,Q,G,R⟩:=t;obtain⟨Z,b2,b3,b4,b5⟩:=c;refine⟨Z.trans W,b2.trans O,b3.trans Q,Aan G b4,λb p V=>(b5 b (Abq p G) λe=>?_).trans (R b p V)⟩;rcases z with h|h;· exact V (e.trans h)
   ·exact absurd (h b e.symm) (by omega)
  ·rcases d with h|h
   ·rcases z with k|k;· exact .inl (h.trans k)
    ·exact .inr λb p=>k b (by rw[<-h];exact p)
   ·exact .inr λb p=>Aan I (h b p)
 ·obtain⟨u,rfl⟩:∃u:Nat,i=u:=⟨i.toNat,by omega⟩;have g:u<18446744073709551616:=by omega
  rw[Lib.itoa_nonneg];unfold N7;go_enter L.f249,Body.n249_ntmps ρ;go_wp2_with (go_at_fn (ρ.f 288);refine(xH {L with} n u g C xs w r (by omega) (s w (IW.grownBy.refl _ _))).mono ?_;rintro e w2 ⟨E,rfl,f,c,d⟩);go_wp2;first|go_ret|go_ret2
  exact⟨E,rf,f,c,d⟩
theorem appP(L:LaysM.n176 P ρ)(n:Nat)(i:Int)(h0: -9223372036854775808<=i)(h1:i<=9223372036854775807)(k:BZ)(xs:List BZ)(w:IW)(h:w.ownsRow 0 (ρ.t 5) 1 k n xs)(g:n+21<=140737488355328)
  (j:∀w',w.grownBy w' k.ownBlock->Lib.TabIs P w' "internal/strconv.uint64pow10" .u64 Lib.pow10Tab):N7 P ρ (ρ.f 176) (.int .i64 i) n k xs w (Lib.itoa i):=by
 have l:=L.mixed;have A:=L.t5;have x:=L.a5;have G:=L.z5;have C:=L.v5;have q:=L.t37;have r:=run_underlying L.t37;have p:=L.a37;have t:=L.z37;have s:=L.v37;have y:=L.t2;have u:=L.a2;have E:=L.z2;have o:=L.v2;have z:=L.t3;have v:=L.a3;have F:=L.z3;have B:=L.v3;have m:∀args w,(callFunc (ρ.f 249) args).run P w= .ok (.enter (ρ.f 249) args) w:=enters_of L.f249 (by kernel_rfl) rfl;unfold N7;go_enter L.f176,Body.n176_ntmps ρ;go_wp2_with (go_at_fn (ρ.f 249);refine(appI {L with} n i h0 h1 k xs w h g j).mono ?_;rintro e D ⟨o,rfl,d,a,c⟩);go_wp2;go_ret;exact⟨o,rfl,d,a,c⟩
end
end Go.Proofs
namespace Go.GV
open Go Go.GK Go.Proofs
section
variable {N : C9} {P : GQ}
def xI(g:Gs):A':=⟨[.Ae (.int .i64), .Ae (.int .i64), .Ae (.sl (.int .u8))],[(0, .AH 0),(1, .v 0 (.int .i64)),(2, .v 1 (.int .i64))],[(0, .row g 2)],1⟩
def apo(g:Gs):A':=⟨[.Ae (.sl (.int .u8))],[(0, .AH 1)],[(1, .row g 0)],2⟩
def YE(x:Int×Int×List Int):Option (List Int):=Ag (x.2.1=10/\x.2.2.length+21<=140737488355328) (Aa .i64 x.1 (Ac (x.2.2++(Lib.itoa x.1).map λb=>((b.toNat:Nat):Int))))
def J7(N:C9)(g:Gs):PQ N:=⟨xI g,apo g,1,[0],λx=>YE x⟩
theorem bh{H:Hp} :∀(l:List UInt8),A2 (N.c (.int .u8)) H (l.map λb=>((b.toNat:Nat):Int)) (Lib.byteCells l)
 | []=>rfl
 |b::l=>⟨[.int .u8 (b.toNat:Int)],Lib.byteCells l,rfl,D4.2 ⟨rfl,by have:=b.toNat_lt;show 0<=((b.toNat:Nat):Int)/\((b.toNat:Nat):Int)<=255;omega⟩,bh l⟩
theorem ZH{f:Nat}{g:Gs}(hi:∀H,N.inv H->HR P H)(F:TY P f)
  (hc:∀(n:Nat) (i:Int), -9223372036854775808<=i->i<=9223372036854775807->∀(sv:BZ) (xs:List BZ) (w:IW),w.ownsRow 0 g 1 sv n xs->n+21<=140737488355328->(∀w',w.grownBy w' sv.ownBlock->Lib.TabIs P w' "internal/strconv.uint64pow10" .u64 Lib.pow10Tab)->
   Calls P f #[sv, .int .i64 i, .int .i64 10] w λe w'=> ∃v',e= .returned v'/\w'.ownsRow 0 g 1 v' (n+(Lib.itoa i).length) (xs++Lib.byteCells (Lib.itoa i))/\w.grownBy w' sv.ownBlock/\dR w sv v'):
  Cr P f (J7 N g):=⟨F,λx y V η H W Y T hnd L=>by
 obtain⟨(i:Int),(b:Int),(l:List Int)⟩:=x;have j:YE (i,b,l)=Ac y:=V;clear V;unfold YE Ag at j;dsimp only at j;split at j
 ·rename_i C;obtain⟨o,hl⟩:=C;subst o;obtain⟨U,_,j⟩:=BV j;cases j;obtain⟨O,Q,s,i4,i5⟩:=L;have O:T.length=3:=O;obtain⟨v0,v1,v2,rfl⟩:∃a b c,T=[a,b,c]:=by
   match T,O with
   | [a,b,c],_=>exact⟨a,b,c,rfl⟩
  obtain⟨u0,Z,J⟩:=Q (0, .AH 0) (by simp[J7,xI]);obtain⟨u1,e1,h1⟩:=Q (1, .v 0 (.int .i64)) (by simp[J7,xI]);obtain⟨u2,e2,h2⟩:=Q (2, .v 1 (.int .i64)) (by simp[J7,xI]);cases Z;cases e1;cases e2;have J:v0=η 0/\v0.oneCell'=Bp:=J;obtain⟨c1,G,I⟩:=h1;obtain⟨G,_⟩:=D4.1 G;subst G;have I:[BZ.int .i64 i]=[v1]:=I;cases I;obtain⟨c2,R,S⟩:=h2;obtain⟨R,_⟩:=D4.1 R;subst R;have S:[BZ.int .i64 10]=[v2]:=S;cases S;have s:keys Y=[0]:=s;obtain⟨p0,rfl⟩:∃p,Y=[p]:=Adc.1 (by simpa [keys]using congrArg EW s);obtain⟨k0,X0⟩:=p0
  ·have s:[k0]=[0]:=s;cases s;obtain⟨X,e,hX⟩:=i4 (0, .row g 2) (by simp[J7,xI]);cases e;obtain⟨xs,rfl,t⟩:=hX;obtain⟨rfl,h0'⟩:=J;have hsz:(Ty.int .u8).sz N=1:=rfl;intro w M;have B:w.ownsRow 0 g 1 (η 0) l.length xs:=M.ok 0 _ rfl;have E:∀w',w.grownBy w' (η 0).ownBlock->Lib.TabIs P w' "internal/strconv.uint64pow10" .u64 Lib.pow10Tab:=λw' hg=>
    hi H i5 w' _ (M.set (i:=0) (r':= .emp) rfl hg trivial λb o=>o.elim);refine(hc l.length i U.1 U.2 (η 0) xs w B hl E).mono ?_;rintro e w' ⟨v',rfl,q,K,z⟩;have u:(l++(Lib.itoa i).map λb=>((b.toNat:Nat):Int)).length=l.length+(Lib.itoa i).length:=by simp
   have D:SH w' H (.row v' g 1 (l++(Lib.itoa i).map λb=>((b.toNat:Nat):Int)).length (xs++Lib.byteCells (Lib.itoa i))::W):=
    M.set (i:=0) (r':= .row v' g 1 (l++(Lib.itoa i).map λb=>((b.toNat:Nat):Int)).length (xs++Lib.byteCells (Lib.itoa i))) rfl K (by rw[u];exact q) λb o=>by
     rcases z with h|h;· left;have o:v'.ownBlock=Ac b:=o;show(η 0).ownBlock=Ac b;rw[<-h];exact o
     ·exact .inr (h b o)
   have A:v'.oneCell'=Bp:=D.ZY (i:=0) rfl;refine⟨v',H,_,rfl,Hp.le.refl H,D,λk=>if k=1 then v' else η k,[(1, .row v' g 1 (l++(Lib.itoa i).map λb=>((b.toNat:Nat):Int)).length (xs++Lib.byteCells (Lib.itoa i)))],rfl,λk r=>?_,by simp[keys],λk r=>?_,λp C=>?_,λk r h4 h5=>?_,?_⟩
   ·have r:k<1:=r;have:k≠1:=by omega
    simp[this]
   ·have:k=1:=by simpa [keys]using r
    subst this;right;simp[J7,apo]
   ·have C:p=(1, .row g 0):=by simpa [J7,apo]using C
    subst C;exact⟨_,rfl,xs++Lib.byteCells (Lib.itoa i),rfl,t.app (bh _)⟩
   ·have:k=0:=by simpa [keys]using r
    subst this;exact absurd (by simp[J7]) h5
   ·exact⟨rf,A⟩
 ·cases j⟩
end
noncomputable abbrev NL:C9:= {nV [(32,0),(33,0),(106,1),(107,1)] 5 with prog:=Ac Tryz.prog,inv:=HR Tryz.prog,CY:=λhl h=>h.mono hl}
theorem qj:C3 NL Tryz.prog:=⟨λh=>by cases h;rfl,by kernel_rfl⟩
theorem vU{P:GQ}{f:FuncId}{vs:List BZ}{H:Hp}{O:List Ax}{v:BZ}{R:BZ->Hp->List Ax->Prop}(h:jH P f vs H O v)(k:R v H O):TB P f vs H O R:=λw hs=>(h w hs).mono λe w' ⟨h1,h2⟩=>⟨v,H,O,h1,Hp.le.refl H,h2,k⟩
def ita:A':=⟨[.Ae (.int .i64)],[(0, .v 0 (.int .i64))],[],0⟩
def ito:A':=⟨[.Ae .str],[(0, .v 0 .str)],[],0⟩
noncomputable def Vc:PQ NL:=⟨ita,ito,1,[],λx=>Aa .i64 (show Int from x) (Ac (show Aq from Lib.itoa x))⟩
theorem iq:Cr Tryz.prog 394 Vc:=⟨⟨Tryz.f394,Tryz.func394,by kernel_rfl,rfl⟩,λa y hy η H O Y vs hnd hin=>by
 obtain⟨i1,i2,i3,_,hv0⟩:=hin
 obtain⟨v1,rfl⟩:∃v,vs=[v]:=Adc.1 i1
 obtain⟨v,e,hv⟩:=i2 (0, .v 0 (.int .i64)) (by simp[Vc,ita])
 cases e
 obtain⟨cs,h1,h2⟩:=hv
 obtain⟨h1,_⟩:=D4.1 h1
 subst h1
 have h2:[BZ.int .i64 a]=[v1]:=h2
 cases h2
 obtain rfl:Y=[]:=List.map_eq_nil_iff.1 (show Y.map (·.1)=[]from i3)
 have hy:Aa .i64 a (Ac (Lib.itoa a))=Ac y:=hy
 obtain⟨hc,_,hy⟩:=BV hy
 cases hy
 exact vU (jH.itoa (λn h0 h1 w ht=>Go.Proofs.Tryz.strconv_Itoa n h0 h1 w ht) hv0 hc) ⟨η,[],rfl,λ_ _=>rfl,Aew,λk hk=>(by cases hk),λp hp=>(by cases hp),λk hk=>(by cases hk),[_],rfl,rfl⟩⟩
def cpi:A':=⟨[.Ae (.sl (.int .u8))],[(0, .loc 0 0)],[(0, .Ah 348 [(1, .px [0] .sf),(1, .AH 1)]),(1, .row 5 0)],2⟩
def cpo:A':=⟨[.Ae (.sl (.int .u8))],[],[(0, .Ah 348 [(1, .px [0] .sf),(1, .AH 1)]),(1, .row 5 0)],2⟩
noncomputable def ND:PQ NL:=⟨cpi,cpo,0,[],λx=>Ac x⟩
theorem ir:Cr Tryz.prog 407 ND:=⟨Go.Proofs.YtimbbibpghnipaaGreatDoor.ry,λx y hy η H Of Y vs hnd hin=>by
 cases hy
 obtain⟨i1,i2,i3,i4,hiv⟩:=hin
 obtain⟨v,rfl⟩:∃v,vs=[v]:=Adc.1 i1
 obtain⟨v',e,hv⟩:=i2 (0, .loc 0 0) (by simp[ND,cpi])
 cases e
 obtain⟨B,b1,rfl⟩:=hv
 have i3:keys Y=[0,1]:=i3
 match Y,i3 with
 | [(
   k0,X0),(k1,X1)],i3=>
  have i3:[k0,k1]=[0,1]:=i3
  cases i3
  obtain⟨X,e,hX⟩:=i4 (0, .Ah 348 [(1, .px [0] .sf),(1, .AH 1)]) (by simp[ND,cpi])
  cases e
  obtain⟨B',cs,c1,rfl,hl⟩:=hX
  have:B=B':=by rw[b1]at c1;simpa [ptr]using c1
  subst this
  obtain⟨d1,d2,u,e1,e2,e3,e4,e5,hl2⟩:=hl
  obtain⟨d3,d4,u2,f1,f2,f3,f4,f5,hl3⟩:=hl2
  have hl3:BZ.agg d4.toArray= .agg #[]:=hl3
  have ha:u= .pointer C7\/u=ptr B 0:=by
   rcases e3 with e|⟨B2,q1,q2⟩
   ·exact .inl e
   ·right
    rw[q2]
    have:η 0=ptr B2 0:=by simpa using q1
    rw[<-this];exact b1
  have u1:d1=[u]:=by rw[<-e4];rcases ha with e|e<;>subst e<;>rfl
  obtain⟨g1,g2⟩:=f3
  have u3:d3=[u2]:=by rw[<-f4];exact A_ g2
  have hd4:d4=[]:=by simpa using hl3
  have hd2:d2=d3++d4:=by simpa using f1
  subst hd4;subst hd2;subst u1;subst u3
  have hcs:cs= #[u,u2]:=by
   have:cs=([u]++([u2]++[])).toArray:=by simpa using e1
   simpa using this
  subst hcs
  refine λw hs=>((Go.Proofs.YtimbbibpghnipaaGreatDoor.bldC (B:=B) (a:=u) (v:=u2) (O:=X1::Of) ha) w hs).mono ?_
  rintro e w' ⟨r,H',O',rfl,h2,h3,rfl,rfl⟩
  refine⟨_,H',_,rf,h2,h3,η,[(0, .Ah B (.cells #[ptr B 0,u2] 348 (0,0))),(1,X1)],rf,λ_ _=>rfl,by simp[keys],λk hk=> .inr hk,λp hp=>?_,λk hk h4=>?_,rf⟩
  ·have hp:p=(0, .Ah 348 [(1, .px [0] .sf),(1, .AH 1)])\/p=(1, .row 5 0):=by simpa [ND,cpo]using hp
   rcases hp with rfl|rfl
   ·refine⟨_,rfl,B,_,b1,rfl,[ptr B 0],[u2],ptr B 0,rfl,rfl, .inr ⟨B,by simp[b1],rfl⟩,rfl,(λx hx=>by simp at hx;subst hx;rfl),[u2],[],u2,rfl,rfl,⟨g1,g2⟩,A_ g2,(λx hx=>by simp at hx;subst hx;exact g2),rfl⟩
   ·obtain⟨X,e,hX⟩:=i4 (1, .row 5 0) (by simp[ND,cpi])
    cases e
    exact⟨_,rf,SR.is.mono h2 hX⟩
  ·exact absurd hk h4⟩
theorem qT:Cr Tryz.prog 392 (J7 NL 5):=ZH (λ_ h=>h) ⟨Tryz.f392,Tryz.func392,by kernel_rfl,rfl⟩ (λn i h0 h1 sv xs w ho hl ht=>appP Go.Proofs.Tryz.bf n i h0 h1 sv xs w ho hl ht)
end Go.GV
namespace Go.GV
open Go Go.GK Go.Proofs
noncomputable section
section
variable{f:Nat}{fn:Func}{pi:A'}{y:Nat}{ts:List Ty}{A B R:Type}{po:A'}{gone:List Nat}{rb:Bool}{C:Type}
noncomputable abbrev TP:GQ:=Tryz.prog
theorem follows:TP.follows .mixedOrders=Bp:=by kernel_rfl
abbrev y0:Ty:=(.pr (.int .u8) (.int .i64))
abbrev y1:Ty:=(.pr (.int .u8) y0)
abbrev y2:Ty:=(.pr .bool (.sl (.st y1)))
abbrev y3:Ty:=(.st (.sl (.st y2)))
abbrev y4:Ty:=(.pr (.int .i64) (.int .i64))
abbrev y5:Ty:=(.pr (.sl (.st y4)) (.sl (.st y4)))
abbrev y6:Ty:=(.pr (.st y5) y3)
abbrev y7:Ty:=(.pr .bool (.pr .bool y6))
abbrev y8:Ty:=(.st (.pr .bool y7))
abbrev y9:Ty:=(.pr (.nm 0) (.nm 0))
abbrev FU:Ty:=(.sl (.int .i64))
abbrev zU:Ty:=(.pr (.st y4) .bool)
abbrev y12:Ty:=(.pr (.int .i64) (.st y9))
abbrev ES:Ty:=(.st (.pr .str y12))
abbrev y14:Ty:=(.pr (.sl .bool) FU)
abbrev y15:Ty:=(.pr (.sl FU) y14)
abbrev vk:Ty:=(.st (.pr FU y15))
abbrev y17:Ty:=(.pr .str (.int .i64))
abbrev y18:Ty:=(.pr y3 (.st y9))
abbrev y19:Ty:=(.pr (.sl ES) (.sl (.st y18)))
abbrev y20:Ty:=(.st (.pr .str .bool))
abbrev y21:Ty:=(.sl (.sl (.st y9)))
abbrev y22:Ty:=(.pr (.sl (.st y9)) (.sl (.st y9)))
abbrev y23:Ty:=(.sl (.sl (.st y4)))
abbrev vL:Ty:=(.sl (.sl .bool))
abbrev y25:Ty:=(.pr .str (.nm 1))
abbrev y26:Ty:=(.pr (.nm 0) .bool)
abbrev Ak:Ty:= .int .i64
abbrev BI:Ty:= .sl (.st y4)
abbrev Bq:Ty:= .st y9
abbrev BQ:Ty:= .st y19
abbrev Cc:Ty:= .st y22
abbrev BD:Ty:= .nm 0
abbrev Je:Ty:= .sl (.st y2)
abbrev Ew:Ty:= .st y4
abbrev FV:Ty:= .st y18
abbrev Fb:Ty:= .st y5
abbrev El:Ty:= .sl .bool
abbrev Dq:Ty:= .sl Bq
abbrev Ek:Ty:= .sl Cc
abbrev Ej:Ty:= .sl BQ
abbrev Ei:Ty:= .sl Ak
abbrev Kg:Ty:= .sl (.st y1)
abbrev Lt:Ty:= .sl .str
abbrev Gt:Ty:= .sl FV
abbrev Py:Ty:= .sl (.int .u8)
abbrev Kf:Ty:= .sl FU
abbrev NO:Ty:= .int .u8
abbrev Xo:Ty:= .sl (.st y17)
abbrev Md:Ty:= .sl ES
abbrev Ls:Ty:= .st y2
abbrev Px:Ty:= .st y1
structure Bd where
 f:Nat
 c:CQ NL
 ok:Bu TP f c
def mgC:CQ NL->Option (CQ NL)->CQ NL
 | .PS x,Ac (.PS y)=> .PS (x++y)
 | .its x,Ac (.its y)=> .its (x++y)
 | .qH x,Ac (.qH y)=> .qH (x++y)
 |c,_=>c
def wL:List Bd->Nat->Option (CQ NL)
 | [],_=>C7
 |b::l,f=>match Hj b.f f with
  |true=>Ac (mgC b.c (wL l f))
  |false=>wL l f
theorem qh{c:CQ NL}{d:Option (CQ NL)}(h:Bu TP f c)(k:∀q,d=Ac q->Bu TP f q):Bu TP f (mgC c d):=by
 unfold mgC
 split
 all_goals first
  |exact h
  |exact λq hq=>(AS.1 hq).elim (h q) (k _ rfl q)
theorem ZO:∀(l:List Bd) f q,wL l f=Ac q->Bu TP f q
 | [],_,_,e=>by cases e
 |b::l,f,q,e=>by
  unfold wL at e
  split at e
  ·rename_i hb
   cases e
   exact qh (AI hb▸b.ok) (ZO l f)
  ·exact ZO l f q e
def lkT{β:Type}(d:β):List (Nat×β)->Nat->β
 | [],_=>d
 |p::l,i=>match Hj p.1 i with
  |true=>p.2
  |false=>lkT d l i
abbrev lk(l:List (Nat×A'))(i:Nat):Option A':=lkT C7 (l.map λp=>(p.1,Ac p.2)) i
abbrev lg(l:List (Nat×List Gh))(i:Nat):List Gh:=lkT [] l i
abbrev lz(l:List (Nat×Nat))(i:Nat):Nat:=lkT 0 l i
abbrev u2(f:A->B->R)(x:A×B):R:=f x.1 x.2
abbrev u3(f:A->B->C->R)(x:A×B×C):R:=f x.1 x.2.1 x.2.2
abbrev u4{E:Type}(f:A->B->C->E->R)(x:A×B×C×E):R:=f x.1 x.2.1 x.2.2.1 x.2.2.2
def Su{α:Type}(cmp:α->α->Option Int)(fu:Nat)(x0:Int)(x1:Int)(x2:List α):Option (List α):=Aa (Lr.i64) (x0+(1:Int))<|Ad fu (λ(z1:List α×Int) nx2=>bif Di (z1.2<x1)then Ad fu (λ(z3:List α×Int) nx4=>bif Di (x0<z3.2)then Ab (idx z3.1 z3.2) λr5=>Aa (Lr.i64) (z3.2-(1:Int))<|Ab (idx z3.1 (z3.2-(1:Int))) λr6=>Ab (cmp r5 r6) λr7=>bif Di (r7<(0:Int))then Aa (Lr.i64) (z3.2-(1:Int))<|Aa (Lr.i64) (z3.2-(1:Int))<|Ab (idx z3.1 (z3.2-(1:Int))) λr8=>Ab (idx z3.1 z3.2) λr9=>Ab (idx z3.1 z3.2) λ_=>Ab (idx (lD z3.1 (aC z3.2) r8) (z3.2-(1:Int))) λ_=>Aa (Lr.i64) (z3.2-(1:Int))<|nx4 ((((lD z3.1 (aC z3.2) r8).set (aC (z3.2-(1:Int))) r9),(z3.2-(1:Int))))else Aa (Lr.i64) (z1.2+(1:Int))<|nx2 ((z3.1,(z1.2+(1:Int))))else Aa (Lr.i64) (z1.2+(1:Int))<|nx2 ((z3.1,(z1.2+(1:Int))))) ((z1.1,z1.2))else Ac (z1.1)) ((x2,(x0+(1:Int))))
def kp(l:List Nat)(r:List (Nat×SP)):List (Nat×SP):=l.map (λi=>(i, .Am))++r
def bs(l:List (Nat->Bd))(fu:Nat):List Bd:=l.map (· fu)
def n0:Nat->Option A':=λ_=>C7
def g0:Nat->List Gh:=λ_=>[]
def z0:Nat->Nat:=λ_=>0
theorem bA{a b:Bool}(h:(a&&b)=Bp):a=Bp/\b=Bp:=by simpa using h
abbrev WB(l:List Bd)(la:Nat->Option A')(pr po:Nat->List Gh)(ct:Nat->Nat)(kb:Nat)(fn:Func):Cx NL:=⟨TP,wL l,la,λ_=>C7,pr,po,kb,fn.ntmps,ct⟩
def Lx(fn:Func):Bool:= !(fn.name== "runtime.NumGoroutine")&& !fn.body.isNone
theorem cp(hf:TP.funcs[f]?=Ac fn)(h:Lx fn=Bp):TY TP f:=⟨fn,hf,by have:=(bA h).1;simpa using this,by have:=(bA h).2;simpa using this⟩
theorem oY{rk:Nat}{F G:BJ NL pi.hs->Option (BJ NL po.hs)}(h:Cr TP f (⟨pi,po,rk,gone,F⟩:PQ NL))(e:∀x,F x=G x):Cr TP f (⟨pi,po,rk,gone,G⟩:PQ NL):=(funext e:F=G)▸h
theorem okwI{F G:BJ NL pi.hs->Option (List (DQ NL ts)×Bool)}(h:I9 TP f (⟨pi,y,ts,F⟩:IQ NL))(e:∀x,F x=G x):I9 TP f (⟨pi,y,ts,G⟩:IQ NL):=(funext e:F=G)▸h
theorem okwJ{F G:BJ NL pi.hs->Option (List (DQ NL ts)×Option Bool)}(h:I8 TP f (⟨pi,y,ts,rb,F⟩:JQ NL))(e:∀x,F x=G x):I8 TP f (⟨pi,y,ts,rb,G⟩:JQ NL):=(funext e:F=G)▸h
def si{q:PQ NL}(h:Cr TP f q):Bd:=⟨f, .PS [q],λ_ hq=>Aaf.1 hq▸h⟩
def bdI{q:IQ NL}(h:I9 TP f q):Bd:=⟨f, .its [q],λ_ hq=>Aaf.1 hq▸h⟩
def bdJ{q:JQ NL}(h:I8 TP f q):Bd:=⟨f, .qH [q],λ_ hq=>Aaf.1 hq▸h⟩
abbrev G9(f:Nat)(pi po:A')(rk:Nat)(gone:List Nat):Type:= {F:BJ NL pi.hs->Option (BJ NL po.hs)//Cr TP f (⟨pi,po,rk,gone,F⟩:PQ NL)}
def sP(l:List Bd)(fu:Nat)(hf:TP.funcs[f]?=Ac fn)(pi po:A')(rk:Nat)(gone:List Nat)(la:Nat->Option A':=n0)(pr pt:Nat->List Gh:=g0)(ct:Nat->Nat:=z0)(h:(Lx fn&&Yt (WB l la pr pt ct pi.nk fn) pi po gone)=Bp:=by kernel_rfl):G9 f pi po rk gone:=⟨SN (WB l la pr pt ct pi.nk fn) fu fn pi po rk,b7 (cx:=WB l la pr pt ct pi.nk fn) (mp:=qj) (ZO l) follows (cp hf (bA h).1) hf rfl (bA h).2⟩
def tP(hf:TP.funcs[f]?=Ac fn){rk:Nat}(h:Lx fn=Bp:=by kernel_rfl):G9 f pi po rk gone:=⟨λ_=>C7,cp hf h,λ_ _ h=>by cases h⟩
def C2{rk:Nat}(x:G9 f pi po rk gone):Bd:=si x.2
def bP(l:List (Nat->Bd))(hf:TP.funcs[f]?=Ac fn)(pi po:A')(rk:Nat)(gone:List Nat)(G:Nat->BJ NL pi.hs->Option (BJ NL po.hs))(la:Nat->Option A':=n0)(pr pt:Nat->List Gh:=g0)(ct:Nat->Nat:=z0)(h:∀fu,(Lx fn&&Yt (WB (bs l fu) la pr pt ct pi.nk fn) pi po gone)=Bp:=by intro fu;kernel_rfl)(e:∀fu x,(sP (bs l fu) fu hf pi po rk gone la pr pt ct (h fu)).1 x=G fu x:=by intro fu x;kernel_rfl)(fu:Nat):Bd:=si (oY (sP (bs l fu) fu hf pi po rk gone la pr pt ct (h fu)).2 (e fu))
abbrev GrI(f:Nat)(pi:A')(y:Nat)(ts:List Ty):Type:= {F:BJ NL pi.hs->Option (List (DQ NL ts)×Bool)//I9 TP f (⟨pi,y,ts,F⟩:IQ NL)}
def sI(l:List Bd)(fu:Nat)(hf:TP.funcs[f]?=Ac fn)(pi:A')(y:Nat)(ts:List Ty)(la:Nat->Option A':=n0)(pr pt:Nat->List Gh:=g0)(ct:Nat->Nat:=z0)(h:(Lx fn&&jf (WB l la pr pt ct pi.nk fn) pi y)=Bp:=by kernel_rfl):GrI f pi y ts:=⟨Wu (WB l la pr pt ct pi.nk fn) fu fn pi y ts,b9 (cx:=WB l la pr pt ct pi.nk fn) (mp:=qj) (ZO l) follows (cp hf (bA h).1) hf rfl (bA h).2⟩
def bI(l:List (Nat->Bd))(hf:TP.funcs[f]?=Ac fn)(pi:A')(y:Nat)(ts:List Ty)(G:Nat->BJ NL pi.hs->Option (List (DQ NL ts)×Bool))(la:Nat->Option A':=n0)(pr pt:Nat->List Gh:=g0)(ct:Nat->Nat:=z0)(h:∀fu,(Lx fn&&jf (WB (bs l fu) la pr pt ct pi.nk fn) pi y)=Bp:=by intro fu;kernel_rfl)(e:∀fu x,(sI (bs l fu) fu hf pi y ts la pr pt ct (h fu)).1 x=G fu x:=by intro fu x;kernel_rfl)(fu:Nat):Bd:=bdI (okwI (sI (bs l fu) fu hf pi y ts la pr pt ct (h fu)).2 (e fu))
abbrev GrJ(f:Nat)(pi:A')(y:Nat)(ts:List Ty)(rb:Bool):Type:= {F:BJ NL pi.hs->Option (List (DQ NL ts)×Option Bool)//I8 TP f (⟨pi,y,ts,rb,F⟩:JQ NL)}
def sJ(l:List Bd)(fu:Nat)(hf:TP.funcs[f]?=Ac fn)(pi:A')(y:Nat)(ts:List Ty)(rb:Bool)(la:Nat->Option A':=n0)(pr pt:Nat->List Gh:=g0)(ct:Nat->Nat:=z0)(h:(Lx fn&&je (WB l la pr pt ct pi.nk fn) pi y)=Bp:=by kernel_rfl):GrJ f pi y ts rb:=⟨Wt (WB l la pr pt ct pi.nk fn) fu fn pi y ts rb,b8 (cx:=WB l la pr pt ct pi.nk fn) (mp:=qj) (ZO l) follows (cp hf (bA h).1) hf rfl (bA h).2⟩
def tJ(hf:TP.funcs[f]?=Ac fn)(h:Lx fn=Bp:=by kernel_rfl):GrJ f pi y ts rb:=⟨λ_=>C7,cp hf h,λ_ _ h=>by cases h⟩
def xF(x:GrJ f pi y ts rb):Bd:=bdJ x.2
def bJ(l:List (Nat->Bd))(hf:TP.funcs[f]?=Ac fn)(pi:A')(y:Nat)(ts:List Ty)(rb:Bool)(G:Nat->BJ NL pi.hs->Option (List (DQ NL ts)×Option Bool))(la:Nat->Option A':=n0)(pr pt:Nat->List Gh:=g0)(ct:Nat->Nat:=z0)(h:∀fu,(Lx fn&&je (WB (bs l fu) la pr pt ct pi.nk fn) pi y)=Bp:=by intro fu;kernel_rfl)(e:∀fu x,(sJ (bs l fu) fu hf pi y ts rb la pr pt ct (h fu)).1 x=G fu x:=by intro fu x;kernel_rfl)(fu:Nat):Bd:=bdJ (okwJ (sJ (bs l fu) fu hf pi y ts rb la pr pt ct (h fu)).2 (e fu))
def z_:List Ty->Nat->List (Nat×SP)
 | [],_=>[]
 |t::l,i=>(i, .v i t)::z_ l (i+1)
def NR(l:List Ty):A':=⟨l.map .Ae,z_ l 0,[],0⟩
end
section
variable{f:Nat}{fn:Func}{rs:List Ty}{R α:Type}{ps:List Ty}
abbrev qQ(ps rs:List Ty)(F:BJ NL (NR ps).hs->Option (BJ NL (NR rs).hs)):PQ NL:=⟨NR ps,NR rs,rs.length,[],F⟩
abbrev Gq(f:Nat)(ps rs:List Ty):Type:=G9 f (NR ps) (NR rs) rs.length []
def sQ(l:List Bd)(fu:Nat)(hf:TP.funcs[f]?=Ac fn)(ps rs:List Ty)(la:Nat->Option A':=n0)(pr pt:Nat->List Gh:=g0)(ct:Nat->Nat:=z0)(h:(Lx fn&&Yt (WB l la pr pt ct 0 fn) (NR ps) (NR rs) [])=Bp:=by kernel_rfl):Gq f ps rs:=sP l fu hf (NR ps) (NR rs) rs.length [] la pr pt ct h
def tQ(hf:TP.funcs[f]?=Ac fn)(h:Lx fn=Bp:=by kernel_rfl):Gq f ps rs:=tP hf h
def De(x:Gq f ps rs):Bd:=C2 x
def bQ(l:List (Nat->Bd))(hf:TP.funcs[f]?=Ac fn)(ps rs:List Ty)(G:Nat->BJ NL (NR ps).hs->Option (BJ NL (NR rs).hs))(la:Nat->Option A':=n0)(pr pt:Nat->List Gh:=g0)(ct:Nat->Nat:=z0)(h:∀fu,(Lx fn&&Yt (WB (bs l fu) la pr pt ct 0 fn) (NR ps) (NR rs) [])=Bp:=by intro fu;kernel_rfl)(e:∀fu x,(sQ (bs l fu) fu hf ps rs la pr pt ct (h fu)).1 x=G fu x:=by intro fu x;kernel_rfl)(fu:Nat):Bd:=si (oY (sQ (bs l fu) fu hf ps rs la pr pt ct (h fu)).2 (e fu))
theorem exQ{F:BJ NL (NR []).hs->Option (BJ NL (NR rs).hs)}{v:BJ NL (NR rs).hs}(h:∀q∈[qQ [] rs F],Cr TP f q)(e:F () =Ac v):Cr TP f (qQ [] rs λ_=>Ac v):=⟨(h _ (Aaf.2 rfl)).cq,λx y hy η H O Y vs nd i=>((h _ (Aaf.2 rfl)).ok x y (by cases hy;exact e) η H O Y vs nd ⟨i.len,i.sl,i.ks,i.ro,i.inv⟩).mono λv H' O' _ ⟨a,b,c,o⟩=>⟨a,b,c,o.env,o.nd,o.ks,o.ro,o.st,o.res⟩⟩
abbrev Lt0:=Bool×List (Int×Int×Int)
abbrev AE:=Vl×Vl
abbrev BC:=List (Aq×Int×AE)×List (A5×AE)
abbrev BP:=List AE×List AE
@[simp] abbrev iB  (b:Bool) (x y:R):R:=cond b x y
@[simp] abbrev iF  (p:Prop) [Decidable p] (x y:R):R:=cond (Di p) x y
def IG(y:α)(a b:Option (List α×Bool)):Option (List α×Bool):=match a with
 |some ([],Bp)=>match b with
  |some l=>Ac (y::l.1,l.2)
  |none=>Ac ([y],Aj)
 |_=>C7
def xo{α:Type}(kb:Bool->Option (List α×Option Bool)):List α->Option Bool->Option (List α×Option Bool)
 | [],Ac b=>kb b
 | [],C7=>C7
 |y::l,b=>match xo kb l b with
  |some r=>Ac (y::r.1,r.2)
  |none=>Ac ([y],C7)
def rA{α:Type}(kb:Bool->Option (List α×Bool)):List α->Option Bool->Option (List α×Bool)
 | [],Ac b=>kb b
 | [],C7=>C7
 |y::l,b=>match rA kb l b with
  |some r=>Ac (y::r.1,r.2)
  |none=>Ac ([y],Aj)
def qc(n:Nat)(z:Option R)(s:Nat->Option R):Option R:=match n with
 |0=>z
 |n+1=>s n
def F0(c:Nat)(a:A5):Option Bool:=Ad c (λ(b:Nat) d=>iF ((b:Int)<a.length) (Ab (idx a b) λe=>iF ((12:Int)<e.2.length) (Ac Aj)<|d (b+1))<|some (Di ((a.length:Int)<=8))) (0)
def B0:=bQ [] Tryz.func68 [y3] [.bool] F0 (la:=lk [(2,⟨[.nat],[(1, .Am),(3, .AD 0 200)],[(0, .c 0)],1⟩)])
def F1(b:Nat)(a:FC):Option Bool:=iF ((a.2.2.2.1.1.length:Int)<=5) (iF ((a.2.2.2.1.2.length:Int)<=5) (Ab (F0 b a.2.2.2.2) Ac)<|some Aj)<|some Aj
def B1:=bQ [B0] Tryz.func67 [y8] [.bool] F1
abbrev FT2:Type:=Gq 41 [BD,Ak,Ak] [Ak]×Gq 31 [Dq,Ak,Ak] [Ak]
def G2(n:Nat):FT2:=Nat.rec (motive:=λ_=>FT2) (tQ Tryz.func41,tQ Tryz.func31) (λfu ⟨g0,g1⟩=>(sQ (De g1::bs [B1,B0] fu) fu Tryz.func41 [BD,Ak,Ak] [Ak] (la:=lk [(5,⟨[.Ae Ak, .nat],(kp [1,2,3] [(7, .v 0 Ak),(8, .AD 1 501)]),[(0, .c 0)],1⟩),(12,⟨[.Ae Ak, .nat],(kp [1,2,3] [(7, .v 0 Ak),(10, .AD 1 1201)]),[(0, .c 0)],1⟩),(19,⟨[.Ae Dq, .nat],(kp [1,2,3,7,10,11] [(12, .AH 2),(13, .AD 1 1901)]),[(1, .c 0),(0, .c 0),(2, .row 35 0)],3⟩),(25,⟨[.Ae Dq, .nat],(kp [1,2,3,7,10,11] [(12, .AH 2),(14, .AD 1 2501)]),[(2, .row 35 0),(1, .c 0),(0, .c 0)],3⟩)]) (pt:=lg [(18,[.own 12 35 Bq])]),sQ [De g0] fu Tryz.func31 [Dq,Ak,Ak] [Ak] (la:=lk [(3,⟨[.Ae Ak, .nat],(kp [0,1,2] [(7, .v 0 Ak),(8, .AD 1 301)]),[],0⟩)]))) n
def B2(fu:Nat):=De (G2 fu).1
abbrev F3(fu:Nat)(x:(Vl)×(Int)×(Int)):Option Int:=(G2 fu).1.1 x
def B3(fu:Nat):=De (G2 fu).2
abbrev F2(fu:Nat)(x:(List AE)×(Int)×(Int)):Option Int:=(G2 fu).2.1 x
def D3(e:Nat)(c:Vl)(i:Int)(a:Int):Option Int:=iF (i<1) (Aa .i64 (a+1)<|some ((a+1)))<|iF (a<1) (Aa .i64 (a+1)<|some ((a+1)))<|Ab (F1 e (Vl.sc c)) λn=>iB (!n) (Aa .i64 (a+1)<|some ((a+1)))<|iF ((3:Int)<(Vl.lists c).length) (Aa .i64 (a+1)<|some ((a+1)))<|iF ((3:Int)<(Vl.structs c).length) (Aa .i64 (a+1)<|some ((a+1)))<|Ad e (λ(b:Int×Nat) o=>iF ((b.2:Int)<(Vl.lists c).length) (Ab (idx (Vl.lists c) (b.2:Int)) λp=>iF ((3:Int)<p.1.length) (Aa .i64 (a+1)<|some ((a+1)))<|Ab (idx (Vl.lists c) (b.2:Int)) λq=>iF ((2:Int)<q.2.length) (Aa .i64 (a+1)<|some ((a+1)))<|Ab (idx (Vl.lists c) (b.2:Int)) λj=>Ag (0+EW j.1<=4294967296)<|Ab (idx (Vl.lists c) (b.2:Int)) λk=>Ag (EW ([]++j.1)+EW k.2<=4294967296)<|Aa .i64 (i-1)<|Aa .i64 (a-b.1)<|Ab (F2 e ((([]++j.1)++k.2),(i-1),(a-b.1))) λl=>Aa .i64 (b.1+l)<|o ((b.1+l),b.2+1))<|Ad e (λ(d:Int×Nat) r=>iF ((d.2:Int)<(Vl.structs c).length) (iF (d.1<=a) (Ab (idx (Vl.structs c) (d.2:Int)) λf=>iF ((4:Int)<f.1.length) (Aa .i64 (a+1)<|some ((a+1)))<|iF ((4:Int)<f.2.length) (Aa .i64 (a+1)<|some ((a+1)))<|Ad e (λ(g:List AE×Nat) s=>iF ((g.2:Int)<f.1.length) (Ab (idx f.1 g.2) λt=>iF ((60:Int)<t.1.length) (Aa .i64 (a+1)<|some ((a+1)))<|Ab (idx f.1 g.2) λu=>Ag (EW g.1+1<=4294967296)<|s ((g.1++[u.2.2]),g.2+1))<|Ad e (λ(h:List AE×Nat) v=>iF ((h.2:Int)<f.2.length) (Ab (idx f.2 h.2) λw=>Ab (F0 e w.1) λx=>iB (!x) (Aa .i64 (a+1)<|some ((a+1)))<|Ab (idx f.2 h.2) λy=>Ag (EW h.1+1<=4294967296)<|v ((h.1++[y.2]),h.2+1))<|Aa .i64 (i-1)<|Aa .i64 (a-d.1)<|Ab (F2 e (h.1,(i-1),(a-d.1))) λm=>Aa .i64 (d.1+m)<|r (((d.1+m),d.2+1))) ((g.1,0))) (([],0)))<|some d.1)<|some d.1) ((b.1,0))) ((1,0))
theorem d3(fu x0 x1 x2):F3 (fu+1) (x0,x1,x2)=D3 fu x0 x1 x2:=by kernel_rfl
def D2(d:Nat)(e:List AE)(f:Int)(c:Int):Option Int:=Ad d (λ(a:Int×Nat) g=>iF ((a.2:Int)<e.length) (iF (a.1<=c) (Ab (idx e a.2) λi=>Aa .i64 (c-a.1)<|Ab (F3 d (i.1,f,(c-a.1))) λb=>Aa .i64 (a.1+b)<|iF (a.1+b<=c) (Ab (idx e a.2) λj=>Aa .i64 (c-(a.1+b))<|Ab (F3 d (j.2,f,(c-(a.1+b)))) λh=>Aa .i64 (a.1+b+h)<|g (((a.1+b)+h),a.2+1))<|g ((a.1+b),a.2+1))<|some a.1)<|some a.1) ((0,0))
theorem d2(fu x0 x1 x2):F2 (fu+1) (x0,x1,x2)=D2 fu x0 x1 x2:=by kernel_rfl
def FSm(a:Nat)(b:AE):Option Bool:=Ab (F2 a ([b],3,60)) λc=>Ac (Di (c<=60))
def B4:=bQ [B3] Tryz.func9 [Bq] [.bool] FSm
def F5(c:Nat):Int×Int->Option Vl|(a,b)=>Ac (Vl.mk Aj (Aj,Aj,Aj,([(a,b)],[]),[]) [] [])
def B5:=bQ [] Tryz.func33 [Ak,Ak] [BD] F5 (pt:=lg [(1,[.M5 4 4])])
def F6(b:Nat)(a:Vl):Option AE:=Ac (a,a)
def B6:=bQ [] Tryz.func32 [BD] [Bq] F6
def F7(c:Nat)(b:Aq):Option A5:=Ad c (λ(a:A5×Int) d=>iF (a.2<(b.length:Int)) (Ab (Ez b a.2) λe=>Ab (Ez b a.2) λf=>Aa .i64 (a.2+1)<|Ag (EW a.1+1<=Ai)<|Aa .i64 (a.2+1)<|d ((a.1++[(Aj,[(e,f,(a.2+1))])]),(a.2+1)))<|Ag (EW a.1+1<=Ai)<|some ((a.1++[(Bp,[])]))) (([],0))
def B7:=bQ [] Tryz.func58 [.str] [y3] F7 (la:=lk [(3,⟨[.Ae Je, .Ae Ak],(kp [0,2,3] [(4, .v 1 Ak)]),[(1, .Ah 27 [(1, .AH 2)]),(0, .c 0),(2, .row 119 0)],3⟩)]) (pt:=lg [(2,[.Ey 3 0 119 Ls]),(7,[.M5 2 0])])
def F8(a:Nat)(_:Unit):Option A5:=Ac ([(Bp,[(0,255,0)])])
def B8:=bQ [] Tryz.func79 [] [y3] F8 (pt:=lg [(1,[.M5 0 0])])
def F9(f:Nat)(c:A5):Option Bool:=Ad f (λ(d:Nat) h=>iF ((d:Int)<c.length) (Ab (idx c d) λe=>Ad f (λ(a:Nat) g=>iF ((a:Int)<e.2.length) (Ab (idx e.2 a) λb=>iF (b.2.1<b.1) (Ac Aj)<|iF (b.2.2<0) (Ac Aj)<|iF ((c.length:Int)<=b.2.2) (Ac Aj)<|iF ((0:Int)<a) (Aa .i64 ((a:Int)-1)<|Ab (idx e.2 ((a:Int)-1)) λi=>iF (b.1<=i.2.1) (Ac Aj)<|g (a+1))<|g (a+1))<|h (d+1)) (0))<|some Bp) (0)
def B9:=bQ [] Tryz.func103 [Je] [.bool] F9 (la:=lk [(2,⟨[.nat],(kp [0,7,8] [(9, .AD 0 200)]),[],0⟩),(5,⟨[.nat],(kp [0,4,7,8,9,14,15] [(16, .AD 0 500)]),[(0, .c 0)],1⟩)])
def yx(f:Nat)(d:A5):Option (List Bool):=Ag (EW d<=Ai)<|Ad f (λ(g:List Bool×Nat) k=>iF ((g.2:Int)<d.length) (Ad f (λ(a:List Bool×Nat) h=>iF ((a.2:Int)<d.length) (Ab (idx d a.2) λe=>Ab (idx a.1 a.2) λl=>iB l (Ab (idx a.1 a.2) λs=>Ad f (λ(b:List Bool×Nat) i=>iF ((b.2:Int)<e.2.length) (Ab (idx e.2 b.2) λm=>Ab (idx b.1 a.2) λn=>iB n (Ab (idx b.1 a.2) λt=>i ((b.1.set a.2 Bp),b.2+1))<|Ab (idx b.1 m.2.2) λo=>Ab (idx b.1 a.2) λu=>i ((b.1.set a.2 o),b.2+1))<|h ((b.1,a.2+1))) (((a.1.set a.2 Bp),0)))<|Ab (idx a.1 a.2) λv=>Ad f (λ(c:List Bool×Nat) j=>iF ((c.2:Int)<e.2.length) (Ab (idx e.2 c.2) λp=>Ab (idx c.1 a.2) λq=>iB q (Ab (idx c.1 a.2) λw=>j ((c.1.set a.2 Bp),c.2+1))<|Ab (idx c.1 p.2.2) λr=>Ab (idx c.1 a.2) λx=>j ((c.1.set a.2 r),c.2+1))<|h ((c.1,a.2+1))) (((a.1.set a.2 e.1),0)))<|k ((a.1,g.2+1))) ((g.1,0)))<|some g.1) (((Uh (EW d) Aj),0))
def B10:=bQ [] Tryz.func197 [Je] [El] yx (la:=lk [(3,⟨[.Ae El, .nat],(kp [0,3,12] [(13, .AD 1 301)]),[(0, .row 4 0)],1⟩),(5,⟨[.Ae El, .nat],(kp [0,3,12,13,15,16] [(17, .AD 1 501)]),[(0, .row 4 0)],1⟩),(9,⟨[.Ae El, .nat],(kp [0,3,4,12,13,15,16,17,34,35] [(36, .AD 1 901)]),[(0, .row 4 0)],2⟩)]) (pt:=lg [(15,[.fz 2])])
def F11(f:Nat)(g:A5):Option A5:=Ad f (λ(b:List Int×A5×Nat) i=>iF ((b.2.2:Int)<b.1.length) (Ab (idx b.1 b.2.2) λj=>Ab (idx g j) λk=>Ab (idx b.1 b.2.2) λl=>Ab (idx g l) λh=>Ad f (λ(a:List Int×List (Int×Int×Int)×Nat) e=>iF ((a.2.2:Int)<h.2.length) (Ab (idx h.2 a.2.2) λc=>Ad f (λ(d:Int) m=>iF (d<(a.1.length:Int)) (Ab (idx a.1 d) λn=>iF (n≠c.2.2) (Aa .i64 (d+1)<|m (d+1))<|iF (d=(a.1.length:Int)) (Ag (EW a.1+1<=Ai)<|Ag (EW a.2.1+1<=Ai)<|e ((a.1++[c.2.2]),(a.2.1++[(c.1,c.2.1,d)]),a.2.2+1))<|Ag (EW a.2.1+1<=Ai)<|e (a.1,(a.2.1++[(c.1,c.2.1,d)]),a.2.2+1))<|iF (d=(a.1.length:Int)) (Ag (EW a.1+1<=Ai)<|Ag (EW a.2.1+1<=Ai)<|e ((a.1++[c.2.2]),(a.2.1++[(c.1,c.2.1,d)]),a.2.2+1))<|Ag (EW a.2.1+1<=Ai)<|e ((a.1,(a.2.1++[(c.1,c.2.1,d)]),a.2.2+1))) ((0:Int)))<|Ag (EW b.2.1+1<=Ai)<|i ((a.1,(b.2.1++[(k.1,a.2.1)]),b.2.2+1))) ((b.1,[],0)))<|some b.2.1) (([(0:Int)],[],0))
def B11:=bQ [] Tryz.func199 [Je] [Je] F11 (la:=lk [(4,⟨[.Ae Ei, .Ae Je, .nat],[(0, .Am),(3, .AH 0),(4, .AH 1),(5, .AD 2 402)],[(0, .row 3 0),(1, .row 119 1)],2⟩),(8,⟨[.Ae Ei, .Ae Kg, .nat],[(0, .Am),(3, .AH 0),(4, .Am),(5, .Am),(6, .Am),(33, .Am),(34, .Am),(35, .AD 2 802)],[(2, .Ah 119 [(1, .Am),(1, .AH 3)]),(1, .c 0),(0, .row 3 0),(3, .row 116 1)],4⟩),(11,⟨[.Ae Ak],(kp [0,3,4,5,6,8] [(9, .v 0 Ak),(33, .Am),(34, .Am),(35, .Am)]),[(4, .c 0),(2, .c 0),(3, .c 0),(1, .c 0),(0, .c 0)],5⟩)]) (pt:=lg [(3,[.own 4 119 Ls]),(7,[.Ey 6 1 116 Px]),(18,[.fz 2])])
def F12(c:Nat)(d:A5):Option A5:=Ab (yx c d) λh=>Ad c (λ(b:A5×Nat) i=>iF ((b.2:Int)<d.length) (Ab (idx d b.2) λe=>Ad c (λ(a:List (Int×Int×Int)×Nat) f=>iF ((a.2:Int)<e.2.length) (Ab (idx e.2 a.2) λg=>Ab (idx h g.2.2) λj=>iB j (Ag (EW a.1+1<=Ai)<|f ((a.1++[g]),a.2+1))<|f (a.1,a.2+1))<|Ag (EW b.1+1<=Ai)<|i (((b.1++[(e.1,a.1)]),b.2+1))) (([],0)))<|some b.1) (([],0))
def B12:=bQ [B10] Tryz.func198 [Je] [Je] F12 (la:=lk [(4,⟨[.Ae Je, .nat],[(3, .Am),(4, .AH 0),(12, .Am),(13, .Am),(14, .AD 1 401)],[(0, .row 119 0)],1⟩),(8,⟨[.Ae Kg, .nat],(kp [3,4,7,12,13,14,22,23] [(24, .AD 1 801)]),[(2, .Ah 119 [(1, .Am),(1, .AH 3)]),(0, .c 0),(3, .row 116 0)],4⟩)]) (pt:=lg [(3,[.own 4 119 Ls]),(7,[.Ey 7 1 116 Px]),(15,[.fz 2])])
def F13(e:Nat)(f:A5):Option (List Int):=Ag ((0:Int)<=0/\(0:Int)< ↑257)<|Ag (0+aC (0:Int)*1<257)<|Ad e (λ(c:List Bool×Nat) i=>iF ((c.2:Int)<f.length) (Ab (idx f c.2) λg=>Ad e (λ(d:List Bool×Nat) j=>iF ((d.2:Int)<g.2.length) (Ab (idx g.2 d.2) λb=>Ag ((0:Int)<=b.1/\b.1<(↑257:Int))<|Ag (0+aC b.1*1<257)<|Aa .i64 (b.2.1+1)<|Ag ((0:Int)<=b.2.1+1/\b.2.1+1< ↑257)<|Ag (0+aC (b.2.1+1)*1<257)<|j (((lD d.1 (0+aC b.1*1) Bp).set (0+aC (b.2.1+1)*1) Bp),d.2+1))<|i ((d.1,c.2+1))) ((c.1,0)))<|Ad e (λ(a:List Int×Int) h=>iF (a.2<256) (Ag ((0:Int)<=a.2/\a.2<(↑257:Int))<|Ab (idx c.1 (↑(0+aC a.2*1):Int)) λk=>iB k (Ag (EW a.1+1<=Ai)<|Aa .i64 (a.2+1)<|h ((a.1++[a.2]),(a.2+1)))<|Aa .i64 (a.2+1)<|h (a.1,(a.2+1)))<|some a.1) (([],(0:Int)))) (((lD (Uh 257 Aj) 0 Bp),0))
def B13:=bQ [] Tryz.func200 [Je] [FU] F13 (la:=lk [(4,⟨[.Ae (.ar 257 .bool), .nat],(kp [3,11,12] [(13, .AD 1 401)]),[(0, .Ah 242 [(257, .v 0 (.ar 257 .bool))])],1⟩),(7,⟨[.Ae (.ar 257 .bool), .nat],(kp [3,11,12,13,18,19] [(20, .AD 1 701)]),[(0, .Ah 242 [(257, .v 0 (.ar 257 .bool))])],2⟩),(15,⟨[.Ae Ei, .Ae Ak],[(3, .Am),(8, .AH 1),(9, .v 1 Ak)],[(0, .c 0),(1, .row 3 0)],2⟩)]) (pt:=lg [(14,[.own 8 3 Ak]),(19,[.fz 2])])
def uI(g:Nat):A5×Int×Int->Option Int|(h,c,d)=>iF (c<0) (Ac ((-1:Int)))<|Ab (idx h c) λe=>Ad g (λ(a:Nat) f=>iF ((a:Int)<e.2.length) (Ab (idx e.2 a) λb=>iF (b.1<=d) (iF (d<=b.2.1) (Ac b.2.2)<|f (a+1))<|f (a+1))<|some ((-1:Int))) (0)
def B14:=bQ [] Tryz.func104 [Je,Ak,NO] [Ak] uI (la:=lk [(4,⟨[.nat],(kp [2,15,16] [(17, .AD 0 400)]),[],0⟩)])
def F15(d:Nat):List Int×List Int->Option Bool|(b,c)=>iF ((b.length:Int)≠c.length) (Ac Aj)<|Ad d (λ(a:Nat) e=>iF ((a:Int)<b.length) (Ab (idx b a) λf=>Ab (idx c a) λg=>iF (f≠g) (Ac Aj)<|e (a+1))<|some Bp) (0)
def B15:=bQ [] Tryz.func293 [FU,FU] [.bool] F15 (la:=lk [(4,⟨[.nat],(kp [0,1,12] [(13, .AD 0 400)]),[],0⟩)])
def F16(b:Nat):List (List Int)×List Int->Option Int|(c,d)=>Ad b (λ(a:Nat) e=>iF ((a:Int)<c.length) (Ab (idx c a) λf=>Ab (F15 b (f,d)) λg=>iB g (Ac ((a:Int)))<|e (a+1))<|some ((-1:Int))) (0)
def B16:=bQ [B15] Tryz.func253 [Kf,FU] [Ak] F16 (la:=lk [(2,⟨[.nat],(kp [0,1,7] [(8, .AD 0 200)]),[],0⟩)])
def F17(e:Nat):A5×List Int->Option (List Int)|(d,h)=>Ag (EW d<=Ai)<|Ad e (λ(b:List Int×Nat) i=>iF ((b.2:Int)<d.length) (Ab (idx d b.2) λn=>iB n.1 (Ab (idx b.1 b.2) λr=>i ((b.1.set b.2 ((1:Int))),b.2+1))<|i (b.1,b.2+1))<|Ad e (λ(f:List Int×Nat×Nat) o=>iF ((f.2.2:Int)<d.length) (Ag (EW d<=Ai)<|Ad e (λ(a:List Int×List (List Int)×Nat) j=>iF ((a.2.2:Int)<d.length) (Ab (idx f.1 a.2.2) λp=>Ad e (λ(c:List Int×Nat) k=>iF ((c.2:Int)<h.length) (Ab (idx h c.2) λl=>Aa .u8 l<|Ab (uI e (d,(a.2.2:Int),l)) λg=>iF ((0:Int)<=g) (Ab (idx f.1 g) λq=>Ag (EW c.1+1<=Ai)<|k ((c.1++[q]),c.2+1))<|Ag (EW c.1+1<=Ai)<|k ((c.1++[g]),c.2+1))<|Ab (F16 e (a.2.1,c.1)) λm=>iF (m<0) (Ag (EW a.2.1+1<=Ai)<|Ab (idx a.1 a.2.2) λs=>j ((a.1.set a.2.2 ((a.2.1.length:Int))),(a.2.1++[c.1]),a.2.2+1))<|Ab (idx a.1 a.2.2) λt=>j (((a.1.set a.2.2 m),a.2.1,a.2.2+1))) (([p],0)))<|iF ((a.2.1.length:Int)=f.2.1) (Ac a.1)<|o ((a.1,EW a.2.1,f.2.2+1))) (((Uh (EW d) (0:Int)),[],0)))<|some f.1) ((b.1,0,0))) (((Uh (EW d) (0:Int)),0))
def B17:=bQ [B14,B16] Tryz.func201 [Je,FU] [FU] F17 (la:=lk [(3,⟨[.Ae Ei, .nat],(kp [0,1,5,20,21] [(22, .AD 1 301)]),[(0, .row 3 0)],1⟩),(10,⟨[.Ae Ei, .nat, .nat],(kp [0,1] [(5, .AH 0),(8, .AD 1 1001),(34, .Am),(35, .AD 2 1002)]),[(0, .row 3 0)],1⟩),(14,⟨[.Ae Ei, .Ae Kf, .nat],(kp [0,1,5,8] [(9, .AH 2),(10, .Am),(34, .Am),(35, .Am),(41, .Am),(42, .AD 2 1402)]),[(1, .row 3 0),(0, .c 0),(2, .row 158 1)],3⟩),(18,⟨[.Ae Ei, .nat],(kp [0,1,5,8,9,10,11] [(12, .AH 3),(34, .Am),(35, .Am),(41, .Am),(42, .Am),(50, .Am),(51, .Am),(52, .AD 1 1801)]),[(3, .row 3 0),(1, .c 0),(2, .c 0),(0, .c 0)],4⟩)]) (pr:=lg [(28,[.fz 12])]) (pt:=lg [(13,[.own 9 158 FU]),(35,[.fz 4])])
def yo(d:Nat):List Int×List Int×Int->Option Int|(b,c,e)=>Ad d (λ(a:Nat) f=>iF ((a:Int)<b.length) (Ab (idx b a) λg=>Ab (idx c g) λh=>Ab (idx c e) λi=>iF (h=i) (Ac ((a:Int)))<|f (a+1))<|some ((b.length:Int))) (0)
def B18:=bQ [] Tryz.func202 [FU,FU,Ak] [Ak] yo (la:=lk [(2,⟨[.nat],(kp [0,1,2,9,10] [(11, .AD 0 200)]),[],0⟩)])
def vJ(e:Nat)(k:A5):Option (A5×Int):=Ab (F9 e k) λv=>iB (!v) (Ac (([],11)))<|iF ((k.length:Int)=0) (Ac (([],0)))<|Ab (yx e k) λw=>Ab (idx w 0) λx=>iB (!x) (Ac (([],0)))<|Ab (F11 e k) λy=>Ab (F12 e y) λl=>Ab (F13 e l) λj=>Ab (F17 e (l,j)) λm=>Ad e (λ(g:List Int×A5×Nat) z=>iF ((g.2.2:Int)<g.1.length) (Ab (idx g.1 g.2.2) λA=>Ab (idx l A) λB=>Ad e (λ(a:List Int×List (Int×Int×Int)×Nat) c=>iF ((a.2.2:Int)<j.length) (Ab (idx j a.2.2) λb=>Ab (idx a.1 g.2.2) λE=>Aa .u8 b<|Ab (uI e (l,E,b)) λf=>iF (f<0) (c (a.1,a.2.1,a.2.2+1))<|iF ((↑(a.2.2+1):Int)<(j.length:Int)) (Ab (idx j (↑(a.2.2+1):Int)) λd=>Aa .i64 (d-1)<|Ab (yo e (a.1,m,f)) λh=>iF (h=(a.1.length:Int)) (Ag (EW a.1+1<=Ai)<|Aa .i64 ((a.2.1.length:Int)-1)<|iF ((0:Int)<=a.2.1.length-1) (Ab (idx a.2.1 ((a.2.1.length:Int)-1)) λG=>iF (G.2.2=h) (Ab (idx a.2.1 ((a.2.1.length:Int)-1)) λn=>Aa .i64 (n.2.1+1)<|iF (n.2.1+1=b) (Aa .u8 (d-1)<|Ab (idx a.2.1 ((a.2.1.length:Int)-1)) λo=>c ((a.1++[f]),(a.2.1.set (aC ((a.2.1.length:Int)-1)) (o.1,(d-1),o.2.2)),a.2.2+1))<|Aa .u8 b<|Aa .u8 (d-1)<|Ag (EW a.2.1+1<=Ai)<|c ((a.1++[f]),(a.2.1++[(b,(d-1),h)]),a.2.2+1))<|Aa .u8 b<|Aa .u8 (d-1)<|Ag (EW a.2.1+1<=Ai)<|c ((a.1++[f]),(a.2.1++[(b,(d-1),h)]),a.2.2+1))<|Aa .u8 b<|Aa .u8 (d-1)<|Ag (EW a.2.1+1<=Ai)<|c ((a.1++[f]),(a.2.1++[(b,(d-1),h)]),a.2.2+1))<|Aa .i64 ((a.2.1.length:Int)-1)<|iF ((0:Int)<=a.2.1.length-1) (Ab (idx a.2.1 ((a.2.1.length:Int)-1)) λH=>iF (H.2.2=h) (Ab (idx a.2.1 ((a.2.1.length:Int)-1)) λp=>Aa .i64 (p.2.1+1)<|iF (p.2.1+1=b) (Aa .u8 (d-1)<|Ab (idx a.2.1 ((a.2.1.length:Int)-1)) λq=>c (a.1,(a.2.1.set (aC ((a.2.1.length:Int)-1)) (q.1,(d-1),q.2.2)),a.2.2+1))<|Aa .u8 b<|Aa .u8 (d-1)<|Ag (EW a.2.1+1<=Ai)<|c (a.1,(a.2.1++[(b,(d-1),h)]),a.2.2+1))<|Aa .u8 b<|Aa .u8 (d-1)<|Ag (EW a.2.1+1<=Ai)<|c (a.1,(a.2.1++[(b,(d-1),h)]),a.2.2+1))<|Aa .u8 b<|Aa .u8 (d-1)<|Ag (EW a.2.1+1<=Ai)<|c (a.1,(a.2.1++[(b,(d-1),h)]),a.2.2+1))<|Ab (yo e (a.1,m,f)) λi=>iF (i=(a.1.length:Int)) (Ag (EW a.1+1<=Ai)<|Aa .i64 ((a.2.1.length:Int)-1)<|iF ((0:Int)<=a.2.1.length-1) (Ab (idx a.2.1 ((a.2.1.length:Int)-1)) λI=>iF (I.2.2=i) (Ab (idx a.2.1 ((a.2.1.length:Int)-1)) λr=>Aa .i64 (r.2.1+1)<|iF (r.2.1+1=b) (Aa .u8 ((255:Int))<|Ab (idx a.2.1 ((a.2.1.length:Int)-1)) λs=>c ((a.1++[f]),(a.2.1.set (aC ((a.2.1.length:Int)-1)) (s.1,255,s.2.2)),a.2.2+1))<|Aa .u8 b<|Aa .u8 ((255:Int))<|Ag (EW a.2.1+1<=Ai)<|c ((a.1++[f]),(a.2.1++[(b,255,i)]),a.2.2+1))<|Aa .u8 b<|Aa .u8 ((255:Int))<|Ag (EW a.2.1+1<=Ai)<|c ((a.1++[f]),(a.2.1++[(b,255,i)]),a.2.2+1))<|Aa .u8 b<|Aa .u8 ((255:Int))<|Ag (EW a.2.1+1<=Ai)<|c ((a.1++[f]),(a.2.1++[(b,255,i)]),a.2.2+1))<|Aa .i64 ((a.2.1.length:Int)-1)<|iF ((0:Int)<=a.2.1.length-1) (Ab (idx a.2.1 ((a.2.1.length:Int)-1)) λJ=>iF (J.2.2=i) (Ab (idx a.2.1 ((a.2.1.length:Int)-1)) λt=>Aa .i64 (t.2.1+1)<|iF (t.2.1+1=b) (Aa .u8 ((255:Int))<|Ab (idx a.2.1 ((a.2.1.length:Int)-1)) λu=>c (a.1,(a.2.1.set (aC ((a.2.1.length:Int)-1)) (u.1,255,u.2.2)),a.2.2+1))<|Aa .u8 b<|Aa .u8 ((255:Int))<|Ag (EW a.2.1+1<=Ai)<|c (a.1,(a.2.1++[(b,255,i)]),a.2.2+1))<|Aa .u8 b<|Aa .u8 ((255:Int))<|Ag (EW a.2.1+1<=Ai)<|c (a.1,(a.2.1++[(b,255,i)]),a.2.2+1))<|Aa .u8 b<|Aa .u8 ((255:Int))<|Ag (EW a.2.1+1<=Ai)<|c (a.1,(a.2.1++[(b,255,i)]),a.2.2+1))<|Ag (EW g.2.1+1<=Ai)<|z ((a.1,(g.2.1++[(B.1,a.2.1)]),g.2.2+1))) ((g.1,[],0)))<|some ((g.2.1,0))) (([(0:Int)],[],0))
def B19:=bQ [B9,B14,B10,B12,B11,B13,B17,B18] Tryz.func145 [Je] [y3,Ak] vJ (la:=lk [(11,⟨[.Ae Ei, .Ae Je, .nat],(kp [2,4,5,6] [(7, .AH 1),(8, .Am),(9, .AD 2 1102)]),[(2, .Ah 27 [(1, .AH 3)]),(1, .row 3 0),(0, .c 0),(3, .row 119 1)],4⟩),(15,⟨[.Ae Ei, .Ae Kg, .nat],(kp [2,4,5,6] [(7, .AH 1),(8, .Am),(9, .Am),(10, .Am),(56, .Am),(57, .Am),(58, .AD 2 1502)]),[(4, .Ah 119 [(1, .Am),(1, .AH 5)]),(2, .c 0),(3, .c 0),(1, .row 3 0),(0, .c 0),(5, .row 116 1)],6⟩)]) (pt:=lg [(10,[.Ey 8 0 119 Ls]),(14,[.Ey 10 1 116 Px]),(31,[.M5 2 0])])
def F20(h:Nat):A5×A5->Option Bool|(d,i)=>iF ((d.length:Int)≠i.length) (Ac Aj)<|Ad h (λ(a:Nat) j=>iF ((a:Int)<d.length) (Ab (idx d a) λb=>Ab (idx i a) λe=>iB (!b.1==e.1) (Ac Aj)<|iF ((b.2.length:Int)≠e.2.length) (Ac Aj)<|Ad h (λ(c:Nat) k=>iF ((c:Int)<b.2.length) (Ab (idx b.2 c) λf=>Ab (idx e.2 c) λg=>iB (!decide (f.1::(f.2.1::[f.2.2])=g.1::(g.2.1::[g.2.2]))) (Ac Aj)<|k (c+1))<|j (a+1)) (0))<|some Bp) (0)
def B20:=bQ [] Tryz.func146 [y3,y3] [.bool] F20 (la:=lk [(4,⟨[.nat],(kp [2,3,18] [(19, .AD 0 400)]),[(1, .c 0),(0, .c 0)],2⟩),(10,⟨[.nat],(kp [2,3,6,7,18,19,48] [(49, .AD 0 1000)]),[(3, .c 0),(2, .c 0),(1, .c 0),(0, .c 0)],4⟩)])
def yn(a:Nat)(b:A5):Option Bool:=Ab (vJ a b) λc=>iF (c.2=0) (Ab (F20 a (b,c.1)) Ac)<|some Aj
def B21:=bQ [B19,B20] Tryz.func106 [y3] [.bool] yn
def ym(b:Nat)(a:A5):Option A5:=Ab (yn b a) λc=>iB (!c) (Ac [])<|some a
def B22:=bQ [B21] Tryz.func160 [y3] [y3] ym
def yk(b:Nat)(a:A5):Option Int:=iF ((a.length:Int)=0) (Ac ((-1:Int)))<|some 0
def B23:=bQ [] Tryz.func161 [y3] [Ak] yk
def vI(d:Nat):A5×Int->Option Bool|(b,a)=>iF ((0:Int)<=a) (Ab (idx b a) λc=>Ac c.1)<|some Aj
def B24:=bQ [] Tryz.func163 [y3,Ak] [.bool] vI
def F25(d:Nat):Int×Bool×Bool->Option Bool|(c,a,b)=>iF (c=38) (iB a (Ac b)<|some Aj)<|iF (c=124) (iB a (Ac Bp)<|some b)<|iB a (Ac ((!b)))<|some Aj
def B25:=bQ [] Tryz.func162 [NO, .bool, .bool] [.bool] F25
def ob(i:Nat):List A5×List Int×Int->Option Int|(j,k,h)=>Ad i (λ(c:Int×Nat) l=>iF ((c.2:Int)<j.length) (Ab (idx k c.2) λm=>iF (m<0) (l (c.1,c.2+1))<|Ab (idx j c.2) λn=>Ab (idx k c.2) λo=>Ab (idx n o) λd=>Ad i (λ(a:Int×Nat) g=>iF ((a.2:Int)<d.2.length) (Ab (idx d.2 a.2) λp=>iF (h<p.1) (Ab (idx d.2 a.2) λb=>Aa .i64 (if b.1<a.1 then b.1 else a.1)<|Ab (idx d.2 a.2) λq=>iF (h<=q.2.1) (Ab (idx d.2 a.2) λe=>Aa .i64 (e.2.1+1)<|Aa .i64 (if e.2.1+1<if b.1<a.1 then b.1 else a.1 then e.2.1+1 else if b.1<a.1 then b.1 else a.1)<|g ((if(e.2.1+1)<(if b.1<a.1 then b.1 else a.1)then e.2.1+1 else if b.1<a.1 then b.1 else a.1),a.2+1))<|g ((if b.1<a.1 then b.1 else a.1),a.2+1))<|Ab (idx d.2 a.2) λr=>iF (h<=r.2.1) (Ab (idx d.2 a.2) λf=>Aa .i64 (f.2.1+1)<|Aa .i64 (if f.2.1+1<a.1 then f.2.1+1 else a.1)<|g ((if(f.2.1+1)<a.1 then f.2.1+1 else a.1),a.2+1))<|g (a.1,a.2+1))<|l ((a.1,c.2+1))) ((c.1,0)))<|some c.1) ((256,0))
def B26:=bQ [] Tryz.func164 [(.sl y3),FU,Ak] [Ak] ob (la:=lk [(3,⟨[.Ae Ak, .nat],(kp [0,1,2] [(7, .v 0 Ak),(8, .AD 1 301)]),[],0⟩),(8,⟨[.Ae Ak, .nat],(kp [0,1,2] [(7, .v 0 Ak),(8, .Am),(9, .Am),(10, .AD 1 801)]),[],0⟩)])
def vH(g:Nat):A5×Int×Int->Option Int|(d,b,e)=>iF (b<0) (Ac ((-1:Int)))<|Ad g (λ(a:Nat) f=>Ab (idx d b) λh=>iF ((a:Int)<h.2.length) (Ab (idx d b) λi=>Ab (idx i.2 a) λc=>iF (c.1<=e) (iF (e<=c.2.1) (Ac c.2.2)<|f (a+1))<|f (a+1))<|some ((-1:Int))) (0)
def B27:=bQ [] Tryz.func165 [y3,Ak,Ak] [Ak] vH (la:=lk [(4,⟨[.nat],(kp [1,2,3] [(7, .AD 0 400)]),[(0, .c 0)],1⟩)])
def F28(e:Nat):(List (Int×Int))×Int×Int->Option Int|(b,c)=>Ad e (λ(a:Nat) f=>iF ((a:Int)<b.length) (Ab (idx b a) λd=>iF ((d.1::[d.2])=(c.1::[c.2])) (Ac ((a:Int)))<|f (a+1))<|some ((-1:Int))) (0)
def B28:=bQ [] Tryz.func166 [BI,Ew] [Ak] F28 (la:=lk [(2,⟨[.nat],(kp [0,3] [(5, .AD 0 200)]),[(0, .c 0)],1⟩)])
def F29(b:Nat):A5×A5×Int->Option A5|(l,m,n)=>Ab (ym b l) λf=>Ab (ym b m) λg=>Ab (yk b f) λo=>Ab (yk b g) λp=>Ad b (λ(c:List (Int×Int)×A5×Nat) q=>iF ((c.2.2:Int)<c.1.length) (Ab (idx c.1 c.2.2) λe=>Ag ((0:Int)<=0/\(0:Int)< ↑2)<|Ab (vI b (f,e.1)) λr=>Ag ((0:Int)<=1/\(1:Int)< ↑2)<|Ab (vI b (g,e.2)) λs=>Ab (F25 b (n,r,s)) λt=>Ad b (λ(a:List (Int×Int)×List (Int×Int×Int)×Int) h=>iF (a.2.2<256) (Ag ((0:Int)<=0/\(0:Int)< ↑2)<|Ag ((0:Int)<=1/\(1:Int)< ↑2)<|Ab (ob b ([f,g],[e.1,e.2],a.2.2)) λd=>Ag ((0:Int)<=0/\(0:Int)< ↑2)<|Ab (vH b (f,e.1,a.2.2)) λi=>Ag ((0:Int)<=1/\(1:Int)< ↑2)<|Ab (vH b (g,e.2,a.2.2)) λj=>Ab (F28 b (a.1,i,j)) λk=>iF (k<0) (Ag (EW a.1+1<=Ai)<|Aa .u8 a.2.2<|Aa .i64 (d-1)<|Aa .u8 (d-1)<|Ag (EW a.2.1+1<=Ai)<|h ((a.1++[(i,j)]),(a.2.1++[(a.2.2,(d-1),(a.1.length:Int))]),d))<|Aa .u8 a.2.2<|Aa .i64 (d-1)<|Aa .u8 (d-1)<|Ag (EW a.2.1+1<=Ai)<|h (a.1,(a.2.1++[(a.2.2,(d-1),k)]),d))<|Ag (EW c.2.1+1<=Ai)<|q ((a.1,(c.2.1++[(t,a.2.1)]),c.2.2+1))) ((c.1,[],0)))<|Ab (vJ b c.2.1) λu=>Ac u.1) (([(o,p)],[],0))
def B29:=bQ [B19,B22,B23,B25,B24,B26,B27,B28] Tryz.func111 [y3,y3,NO] [y3] F29 (la:=lk [(5,⟨[.Ae BI, .Ae Je, .nat],(kp [2,6,7,8] [(9, .AH 5),(10, .AH 6),(11, .AD 2 502)]),[(5, .row 185 0),(4, .c 0),(3, .c 0),(2, .c 0),(6, .row 119 1)],7⟩),(10,⟨[.Ae BI, .Ae Kg, .Ae Ak],(kp [2,6,7,8] [(9, .AH 5),(10, .Am),(11, .Am),(12, .Am),(13, .Am),(14, .v 2 Ak)]),[(8, .Ah 119 [(1, .Am),(1, .AH 9)]),(7, .c 0),(6, .c 0),(5, .row 185 0),(4, .c 0),(3, .c 0),(2, .c 0),(9, .row 116 1)],10⟩)]) (pr:=lg [(20,[.fz 10])]) (pt:=lg [(4,[.own 10 119 Ls]),(9,[.Ey 13 1 116 Px])])
def Xc(a:Nat):A5×A5->Option A5|(b,c)=>Ab (F29 a (b,c,45)) Ac
def B30:=bQ [B29] Tryz.func78 [y3,y3] [y3] Xc
def F31(a:Nat)(b:A5):Option A5:=Ab (F8 a ()) λc=>Ab (Xc a (c,b)) Ac
def B31:=bQ [B30,B8] Tryz.func57 [y3] [y3] F31
def F32(a:Nat)(_:Unit):Option AE:=Ab (F6 a (Vl.mk Bp (Aj,Aj,Aj,([],[]),[]) [] [])) Ac
def B32:=bQ [B6] Tryz.func36 [] [Bq] F32
def F33(a:Nat):Aq×AE->Option Vl|(b,c)=>Ab (F7 a b) λd=>Ab (F31 a d) λe=>Ab (F32 a ()) λf=>Ac (Vl.mk Aj (Aj,Aj,Aj,([],[]),[]) [] [([(b,1,c)],[(e,f)])])
def B33:=bQ [B32,B31,B7] Tryz.func34 [.str,Bq] [BD] F33 (pt:=lg [(2,[.M5 4 8])])
def F34(c:Nat):Int×(Int×Int)×Bool->Option (Int×Int×Bool)|(b,a)=>Aa .i64 (a.1.1+1)<|Aa .i64 (if b>a.1.2 then b else a.1.2)<|some ((a.1.1+1),(if a.1.2<b then b else a.1.2),a.2)
def B34:=bP [] Tryz.func231 ⟨[.Ae Ak, .Ae (.st zU)],[(0, .loc 0 0),(1, .v 0 Ak)],[(0, .Ah 150 [(3, .v 1 (.st zU))])],1⟩ ⟨[.Ae Ak, .Ae Ak, .Ae .bool],[],[(0, .Ah 150 [(1, .v 0 Ak),(1, .v 1 Ak),(1, .v 2 .bool)])],1⟩ 0 [] F34
def ya(b:Nat)(a:FC):Option Bool:=iB (!a.1) (iB (!a.2.1) (iB (!a.2.2.1) (Aa .i64 ((a.2.2.2.1.1.length:Int)+(a.2.2.2.1.2.length:Int))<|Aa .i64 ((a.2.2.2.1.1.length:Int)+(a.2.2.2.1.2.length:Int)+(a.2.2.2.2.length:Int))<|some (Di (((a.2.2.2.1.1.length:Int)+(a.2.2.2.1.2.length:Int)+(a.2.2.2.2.length:Int))=0)))<|some Aj)<|some Aj)<|some Aj
def B35:=bQ [] Tryz.func48 [y8] [.bool] ya
def F36(e:Nat)(b:List (Aq×Int×AE)):Option Bool:=Ad e (λ(a:Nat) c=>iF ((a:Int)<b.length) (Ab (idx b a) λd=>iF (d.2.1≠1) (iF (d.2.1≠2) (Ac Aj)<|iF ((0:Int)<a) (Aa .i64 ((a:Int)-1)<|Ab (idx b ((a:Int)-1)) λf=>iB (!Go.Op.bytesLess f.1 d.1) (Ac Aj)<|c (a+1))<|c (a+1))<|iF ((0:Int)<a) (Aa .i64 ((a:Int)-1)<|Ab (idx b ((a:Int)-1)) λg=>iB (!Go.Op.bytesLess g.1 d.1) (Ac Aj)<|c (a+1))<|c (a+1))<|some Bp) (0)
def B36:=bQ [] Tryz.func278 [Md] [.bool] F36 (la:=lk [(2,⟨[.nat],(kp [0,5,6] [(7, .AD 0 200)]),[],0⟩)])
def x_(f:Nat)(c:A5):Option Bool:=Ad f (λ(d:Nat) h=>iF ((d:Int)<c.length) (Ab (idx c d) λe=>Ad f (λ(a:Nat) g=>iF ((a:Int)<e.2.length) (Ab (idx e.2 a) λb=>iF (b.2.1<b.1) (Ac Aj)<|iF (b.2.2<0) (Ac Aj)<|iF ((c.length:Int)<=b.2.2) (Ac Aj)<|iF ((0:Int)<a) (Aa .i64 ((a:Int)-1)<|Ab (idx e.2 ((a:Int)-1)) λi=>iF (b.1<=i.2.1) (Ac Aj)<|g (a+1))<|g (a+1))<|h (d+1)) (0))<|some Bp) (0)
def B37:=bQ [] Tryz.func102 [Je] [.bool] x_ (la:=lk [(2,⟨[.nat],(kp [0,7,8] [(9, .AD 0 200)]),[],0⟩),(5,⟨[.nat],(kp [0,4,7,8,9,14,15] [(16, .AD 0 500)]),[(0, .c 0)],1⟩)])
def F38(e:Nat)(f:A5):Option (List Int):=Ag ((0:Int)<=0/\(0:Int)< ↑257)<|Ag (0+aC (0:Int)*1<257)<|Ad e (λ(c:List Bool×Nat) i=>iF ((c.2:Int)<f.length) (Ab (idx f c.2) λg=>Ad e (λ(d:List Bool×Nat) j=>iF ((d.2:Int)<g.2.length) (Ab (idx g.2 d.2) λb=>Ag ((0:Int)<=b.1/\b.1<(↑257:Int))<|Ag (0+aC b.1*1<257)<|Aa .i64 (b.2.1+1)<|Ag ((0:Int)<=b.2.1+1/\b.2.1+1< ↑257)<|Ag (0+aC (b.2.1+1)*1<257)<|j (((lD d.1 (0+aC b.1*1) Bp).set (0+aC (b.2.1+1)*1) Bp),d.2+1))<|i ((d.1,c.2+1))) ((c.1,0)))<|Ad e (λ(a:List Int×Int) h=>iF (a.2<256) (Ag ((0:Int)<=a.2/\a.2<(↑257:Int))<|Ab (idx c.1 (↑(0+aC a.2*1):Int)) λk=>iB k (Ag (EW a.1+1<=Ai)<|Aa .i64 (a.2+1)<|h ((a.1++[a.2]),(a.2+1)))<|Aa .i64 (a.2+1)<|h (a.1,(a.2+1)))<|some a.1) (([],(0:Int)))) (((lD (Uh 257 Aj) 0 Bp),0))
def B38:=bQ [] Tryz.func347 [Je] [FU] F38 (la:=lk [(4,⟨[.Ae (.ar 257 .bool), .nat],(kp [3,11,12] [(13, .AD 1 401)]),[(0, .Ah 242 [(257, .v 0 (.ar 257 .bool))])],1⟩),(7,⟨[.Ae (.ar 257 .bool), .nat],(kp [3,11,12,13,18,19] [(20, .AD 1 701)]),[(0, .Ah 242 [(257, .v 0 (.ar 257 .bool))])],2⟩),(15,⟨[.Ae Ei, .Ae Ak],[(3, .Am),(8, .AH 1),(34, .v 1 Ak)],[(0, .c 0),(1, .row 3 0)],2⟩)]) (pt:=lg [(14,[.own 8 3 Ak]),(20,[.fz 2])])
def F39(f:Nat)(g:A5):Option (List Int×List Int×List (List Int)×List Bool):=Ab (F38 f g) λd=>Ad f (λ(a:List (List Int)×List Bool×Nat) l=>iF ((a.2.2:Int)<g.length) (Ab (idx g a.2.2) λh=>Ag (EW d<=Ai)<|Ad f (λ(b:List Int×Nat) m=>iF ((b.2:Int)<d.length) (Ab (idx d b.2) λk=>Ab (idx b.1 b.2) λo=>Ad f (λ(c:List Int×Nat) i=>iF ((c.2:Int)<h.2.length) (Ab (idx h.2 c.2) λj=>iF (j.1<=k) (iF (k<=j.2.1) (Ab (idx c.1 b.2) λp=>i ((c.1.set b.2 j.2.2),c.2+1))<|i (c.1,c.2+1))<|i (c.1,c.2+1))<|m ((c.1,b.2+1))) (((b.1.set b.2 ((g.length:Int))),0)))<|Ag (EW a.1+1<=Ai)<|Ag (EW a.2.1+1<=Ai)<|l (((a.1++[b.1]),(a.2.1++[h.1]),a.2.2+1))) (((Uh (EW d) (0:Int)),0)))<|Ag (EW d<=Ai)<|Ad f (λ(e:List Int×Nat) n=>iF ((e.2:Int)<((Uh (EW d) (0:Int)).length:Int)) (Ab (idx e.1 e.2) λq=>n ((e.1.set e.2 ((g.length:Int))),e.2+1))<|Ag (EW a.1+1<=Ai)<|Ag (EW a.2.1+1<=Ai)<|some ((d,[],(a.1++[e.1]),(a.2.1++[Aj])))) (((Uh (EW d) (0:Int)),0))) (([],[],0))
def B39:=bP [B38] Tryz.func285 ⟨[.Ae Je],[(0, .v 0 Je)],[],0⟩ ⟨[.Ae FU, .Ae FU, .Ae Kf, .Ae El],[(0, .loc 0 0)],[(0, .Ah 314 [(1, .v 0 FU),(1, .AH 1),(1, .AH 2),(1, .v 1 FU)]),(1, .row 158 2),(2, .row 4 3)],3⟩ 1 [] F39 (la:=lk [(4,⟨[.Ae Kf, .Ae El, .nat],(kp [3,4,20,21] [(22, .AD 2 402)]),[(0, .Ah 314 [(1, .Am),(1, .AH 1),(1, .AH 2),(1, .Am)]),(1, .row 158 0),(2, .row 4 1)],3⟩),(8,⟨[.Ae Ei, .nat],(kp [3,4,6,7,20,21,22,35,36] [(37, .AD 1 801)]),[(4, .row 3 0),(3, .c 0),(0, .c 0),(2, .c 0),(1, .c 0)],5⟩),(12,⟨[.Ae Ei, .nat],(kp [3,4,6,7,8,9,20,21,22,35,36,37,47,48] [(49, .AD 1 1201)]),[(4, .row 3 0),(3, .c 0),(0, .c 0),(2, .c 0),(1, .c 0)],5⟩),(23,⟨[.Ae Ei, .nat],(kp [3,4,12,101] [(102, .AD 1 2301)]),[(3, .row 3 0),(0, .c 0),(2, .c 0),(1, .c 0)],4⟩)]) (pr:=lg [(18,[.fz 7]),(27,[.fz 12])]) (pt:=lg [(3,[.Ey 17 1 158 FU, .Ey 17 2 4 .bool])])
def B40(_:Nat):Bd:=si iq
abbrev F40(_:Nat)(x:Int):Option Aq:=Vc.F x
theorem d40(fu:Nat)(x:Int):F40 fu x=Aa Lr.i64 x (Ac (Lib.itoa x)):=rfl
def B41(_:Nat):Bd:=si ir
abbrev F41(_:Nat)(x:List Int):Option (List Int):=Ac x
theorem d41(fu:Nat)(x:List Int):F41 fu x=Ac x:=rfl
def x9(d:Nat):Aq×List Int->Option (Int×List Int)|(a,e)=>Ab (F41 d e) λc=>Ag (EW c+EW a<=1099511627776)<|some ((a.length:Int),(c++((List.map (λb=>(↑(UInt8.toNat b):Int)) a))))
def B42:=bP [B41] Tryz.func393 ⟨[.Ae .str, .Ae Py],[(0, .loc 0 0),(1, .v 0 .str)],[(0, .Ah 348 [(1, .px [0] .sf),(1, .AH 1)]),(1, .row 5 1)],2⟩ ⟨[.Ae Ak, .Ae Py],[(0, .v 0 Ak),(1, .Am)],[(0, .Ah 348 [(1, .px [0] .sf),(1, .AH 2)]),(2, .row 5 1)],3⟩ 2 [1] x9
def F43(b:Nat)(a:List Int):Option Aq:=Ag ((a.length:Int)=a.length/\EW a=EW a)<|some (List.map (λn=>UInt8.ofNat (aC n)) a)
def B43:=bP [] Tryz.func395 ⟨[.Ae Py],[(0, .loc 0 0)],[(0, .Ah 348 [(1, .px [0] .sf),(1, .AH 1)]),(1, .row 5 0)],2⟩ ⟨[.Ae .str],[(0, .v 0 .str)],[(0, .Ah 348 [(1, .px [0] .sf),(1, .AH 1)])],2⟩ 1 [1] F43
def F44(a:Nat):(List Int×List (List Int)×List Bool×List Int)×Int->Option Aq|(c,d)=>Ab (idx c.2.2.2 d) λg=>Ab (F40 a g) λh=>Ab (x9 a (h,[])) λi=>Ab (idx c.2.1 d) λe=>Ad a (λ(b:List Int×Nat) j=>iF ((b.2:Int)<e.length) (Ab (idx e b.2) λk=>Ab (idx c.2.2.2 k) λl=>Ab (F40 a l) λf=>Ag (EW ([44]:Aq)+EW f<=1099511627776)<|Ab (x9 a ((44:UInt8)::f,b.1)) λm=>j (m.2,b.2+1))<|Ab (F43 a b.1) Ac) ((i.2,0))
def B44:=bP [B42,B40,B43] Tryz.func348 ⟨[.Ae vk, .Ae Ak],[(0, .pd 0 vk 0),(1, .v 1 Ak)],[],0⟩ ⟨[.Ae .str],[(0, .v 0 .str)],[],0⟩ 1 [] F44 (la:=lk [(4,⟨[.Ae Py, .nat],(kp [0,5,23,24] [(25, .AD 1 401)]),[(0, .Ah 348 [(1, .px [0] .sf),(1, .AH 2)]),(2, .row 5 0)],3⟩)]) (pr:=lg [(2,[.Ey 5 1 5 NO])])
def F45(e:Nat):List Int×List Int×List (List Int)×List Bool->Option (List Int×List (List Int)×List Bool×List Int)|(g,m,c,f)=>Ag (EW c<=Ai)<|Ad e (λ(b:List Int×Nat) h=>iF ((b.2:Int)<f.length) (Ab (idx f b.2) λk=>iB k (Ab (idx b.1 b.2) λn=>h ((b.1.set b.2 ((1:Int))),b.2+1))<|h (b.1,b.2+1))<|Ad e (λ(i:List Int×Int) l=>Ag (EW c<=Ai)<|Ad e (λ(a:List Int×List (Aq×Int)×Nat) j=>iF ((a.2.2:Int)<c.length) (Ab (F44 e ((g,c,f,i.1),(a.2.2:Int))) λd=>Ag (EW d<=1099511627776)<|iB (!(Option.isSome (AB a.2.1 d))) (Ag (EW d<=1099511627776/\EW a.2.1<=1099511627776)<|Ab (idx a.1 a.2.2) λo=>j ((a.1.set a.2.2 ((a.2.1.length:Int))),Bw a.2.1 d ((a.2.1.length:Int)),a.2.2+1))<|Ab (idx a.1 a.2.2) λp=>j ((a.1.set a.2.2 (qa (AB a.2.1 d) (0:Int))),a.2.1,a.2.2+1))<|iF ((a.2.1.length:Int)=i.2) (Ac ((g,c,f,a.1)))<|l ((a.1,(a.2.1.length:Int)))) (((Uh (EW c) (0:Int)),[],0))) ((b.1,(0:Int)))) (((Uh (EW c) (0:Int)),0))
def B45:=bP [B44] Tryz.func286 ⟨[.Ae FU, .Ae FU, .Ae Kf, .Ae El],[(0, .loc 0 0)],[(0, .Ah 314 [(1, .v 0 FU),(1, .AH 1),(1, .AH 2),(1, .v 1 FU)]),(1, .row 158 2),(2, .row 4 3)],3⟩ ⟨[.Ae FU, .Ae Kf, .Ae El, .Ae FU],[],[(0, .Ah 314 [(1, .v 0 FU),(1, .AH 1),(1, .AH 2),(1, .AH 3)]),(1, .row 158 1),(2, .row 4 2),(3, .row 3 3)],4⟩ 0 [] F45 (la:=lk [(2,⟨[.Ae Ei, .nat],(kp [0,24,25] [(26, .AD 1 201)]),[(2, .c 0),(0, .c 0),(3, .row 3 0),(1, .c 0)],4⟩),(9,⟨[.Ae Ei, .Ae Ak],[(0, .Am),(4, .v 1 Ak),(5, .Am)],[(0, .Ah 314 (kp [1,1,1] [(1, .AH 3)])),(3, .row 3 0),(2, .c 0),(1, .c 0)],4⟩),(12,⟨[.Ae Ei, .Ae Xo, .nat],(kp [0,4,5,6,7,52] [(53, .AD 2 1202)]),[(5, .row 3 0),(4, .map 9 1),(0, .c 0),(3, .c 0),(2, .c 0),(1, .c 0)],6⟩)])
def F46(d:Nat)(b:List Int×List (List Int)×List Bool×List Int):Option (List Bool):=Ag (EW b.2.1<=Ai)<|Ad d (λ(e:List Bool×Bool) j=>iB e.2 (Ad d (λ(a:List Bool×Bool×Nat) f=>iF ((a.2.2:Int)<b.2.1.length) (Ab (idx b.2.2.1 a.2.2) λk=>Ab (idx b.2.1 a.2.2) λg=>Ad d (λ(c:Bool×Nat) h=>iF ((c.2:Int)<g.length) (Ab (idx g c.2) λl=>iB c.1 (h (Bp,c.2+1))<|Ab (idx b.2.2.2 l) λm=>Ab (idx a.1 m) λn=>h (n,c.2+1))<|iB c.1 (Ab (idx b.2.2.2 a.2.2) λo=>Ab (idx a.1 o) λp=>iB (!p) (Ab (idx b.2.2.2 a.2.2) λi=>Ab (idx a.1 i) λq=>f ((a.1.set (aC i) Bp),Bp,a.2.2+1))<|f (a.1,a.2.1,a.2.2+1))<|f ((a.1,a.2.1,a.2.2+1))) ((k,0)))<|j ((a.1,a.2.1))) ((e.1,Aj,0)))<|some e.1) (((Uh (EW b.2.1) Aj),Bp))
def B46:=bP [] Tryz.func349 ⟨[.Ae vk],[(0, .pd 0 vk 0)],[],0⟩ ⟨[.Ae El],[(0, .AH 0)],[(0, .row 4 0)],1⟩ 1 [] F46 (la:=lk [(3,⟨[.Ae El, .Ae .bool],(kp [0,3] [(4, .v 1 .bool)]),[(0, .row 4 0)],1⟩),(6,⟨[.Ae El, .Ae .bool, .nat],(kp [0,3] [(4, .v 1 .bool),(20, .Am),(21, .AD 2 602)]),[(0, .row 4 0)],1⟩),(10,⟨[.Ae .bool, .nat],(kp [0,3,4,5] [(6, .v 0 .bool),(20, .Am),(21, .Am),(37, .Am),(38, .Am),(39, .AD 1 1001)]),[(0, .c 0)],1⟩)])
def YG(d:Nat):(List Int×List (List Int)×List Bool×List Int)×Int->Option Int|(c,a)=>Aa .i64 (a+1)<|iF (a+1<c.1.length) (Aa .i64 (a+1)<|Ab (idx c.1 (a+1)) λb=>Aa .i64 (b-1)<|Aa .u8 (b-1)<|some ((b-1)))<|some 255
def B47:=bP [] Tryz.func350 ⟨[.Ae vk, .Ae Ak],[(0, .pd 0 vk 0),(1, .v 1 Ak)],[],0⟩ ⟨[.Ae NO],[(0, .v 0 NO)],[],0⟩ 1 [] YG
def F48(h:Nat):List Int×List (List Int)×List Bool×List Int->Option (A5×List Int×List (List Int)×List Bool×List Int)|(c,e,f,d)=>Ab (F46 h (c,e,f,d)) λk=>Ab (idx d 0) λx=>Ab (idx k x) λy=>iB (!y) (Ac (([],c,e,f,d)))<|Ab (idx d 0) λl=>Aa .i64 l<|Ag (0<=1099511627776)<|Ad h (λ(g:List (Int×Int)×List Int×A5×Nat) z=>iF ((g.2.2.2:Int)<g.2.1.length) (Ab (idx g.2.1 g.2.2.2) λA=>Ab (idx f A) λB=>Ab (idx g.2.1 g.2.2.2) λE=>Ab (idx e E) λm=>Ad h (λ(a:List (Int×Int)×List Int×List (Int×Int×Int)×Nat) i=>iF ((a.2.2.2:Int)<m.length) (Ab (idx m a.2.2.2) λj=>Ab (idx d j) λb=>Ab (idx k b) λG=>iB (!G) (i (a.1,a.2.1,a.2.2.1,a.2.2.2+1))<|Aa .i64 b<|iB (!(Option.isSome (AB a.1 b))) (Aa .i64 b<|Ag (EW a.1<=1099511627776)<|Ag (EW a.2.1+1<=Ai)<|iF ((0:Int)<a.2.2.1.length) (Aa .i64 ((a.2.2.1.length:Int)-1)<|Ab (idx a.2.2.1 ((a.2.2.1.length:Int)-1)) λH=>Aa .i64 b<|iF (H.2.2=qa (AB (Bw a.1 b (a.2.1.length:Int)) b) (0:Int)) (Aa .i64 ((a.2.2.1.length:Int)-1)<|Ab (idx a.2.2.1 ((a.2.2.1.length:Int)-1)) λn=>Aa .i64 (n.2.1+1)<|Ab (idx c a.2.2.2) λI=>iF (n.2.1+1=I) (Aa .i64 ((a.2.2.1.length:Int)-1)<|Ab (YG h ((c,e,f,d),(a.2.2.2:Int))) λJ=>Ab (idx a.2.2.1 ((a.2.2.1.length:Int)-1)) λo=>i (Bw a.1 b (a.2.1.length:Int),(a.2.1++[j]),(a.2.2.1.set (aC ((a.2.2.1.length:Int)-1)) (o.1,J,o.2.2)),a.2.2.2+1))<|Ab (idx c a.2.2.2) λp=>Aa .u8 p<|Ab (YG h ((c,e,f,d),(a.2.2.2:Int))) λK=>Aa .i64 b<|Ag (EW a.2.2.1+1<=Ai)<|i (Bw a.1 b (a.2.1.length:Int),(a.2.1++[j]),(a.2.2.1++[(p,K,qa (AB (Bw a.1 b (a.2.1.length:Int)) b) (0:Int))]),a.2.2.2+1))<|Ab (idx c a.2.2.2) λq=>Aa .u8 q<|Ab (YG h ((c,e,f,d),(a.2.2.2:Int))) λL=>Aa .i64 b<|Ag (EW a.2.2.1+1<=Ai)<|i (Bw a.1 b (a.2.1.length:Int),(a.2.1++[j]),(a.2.2.1++[(q,L,qa (AB (Bw a.1 b (a.2.1.length:Int)) b) (0:Int))]),a.2.2.2+1))<|Ab (idx c a.2.2.2) λr=>Aa .u8 r<|Ab (YG h ((c,e,f,d),(a.2.2.2:Int))) λM=>Aa .i64 b<|Ag (EW a.2.2.1+1<=Ai)<|i (Bw a.1 b (a.2.1.length:Int),(a.2.1++[j]),(a.2.2.1++[(r,M,qa (AB (Bw a.1 b (a.2.1.length:Int)) b) (0:Int))]),a.2.2.2+1))<|iF ((0:Int)<a.2.2.1.length) (Aa .i64 ((a.2.2.1.length:Int)-1)<|Ab (idx a.2.2.1 ((a.2.2.1.length:Int)-1)) λO=>Aa .i64 b<|iF (O.2.2=qa (AB a.1 b) (0:Int)) (Aa .i64 ((a.2.2.1.length:Int)-1)<|Ab (idx a.2.2.1 ((a.2.2.1.length:Int)-1)) λs=>Aa .i64 (s.2.1+1)<|Ab (idx c a.2.2.2) λQ=>iF (s.2.1+1=Q) (Aa .i64 ((a.2.2.1.length:Int)-1)<|Ab (YG h ((c,e,f,d),(a.2.2.2:Int))) λS=>Ab (idx a.2.2.1 ((a.2.2.1.length:Int)-1)) λt=>i (a.1,a.2.1,(a.2.2.1.set (aC ((a.2.2.1.length:Int)-1)) (t.1,S,t.2.2)),a.2.2.2+1))<|Ab (idx c a.2.2.2) λu=>Aa .u8 u<|Ab (YG h ((c,e,f,d),(a.2.2.2:Int))) λU=>Aa .i64 b<|Ag (EW a.2.2.1+1<=Ai)<|i (a.1,a.2.1,(a.2.2.1++[(u,U,qa (AB a.1 b) (0:Int))]),a.2.2.2+1))<|Ab (idx c a.2.2.2) λv=>Aa .u8 v<|Ab (YG h ((c,e,f,d),(a.2.2.2:Int))) λV=>Aa .i64 b<|Ag (EW a.2.2.1+1<=Ai)<|i (a.1,a.2.1,(a.2.2.1++[(v,V,qa (AB a.1 b) (0:Int))]),a.2.2.2+1))<|Ab (idx c a.2.2.2) λw=>Aa .u8 w<|Ab (YG h ((c,e,f,d),(a.2.2.2:Int))) λW=>Aa .i64 b<|Ag (EW a.2.2.1+1<=Ai)<|i (a.1,a.2.1,(a.2.2.1++[(w,W,qa (AB a.1 b) (0:Int))]),a.2.2.2+1))<|Ag (EW g.2.2.1+1<=Ai)<|z ((a.1,a.2.1,(g.2.2.1++[(B,a.2.2.1)]),g.2.2.2+1))) ((g.1,g.2.1,[],0)))<|some ((g.2.2.1,c,e,f,d))) ((Bw [] l (0:Int),[(0:Int)],[],0))
def B48:=bP [B46,B47] Tryz.func287 ⟨[.Ae FU, .Ae Kf, .Ae El, .Ae FU],[(0, .loc 0 0)],[(0, .Ah 314 [(1, .v 0 FU),(1, .AH 1),(1, .AH 2),(1, .AH 3)]),(1, .row 158 1),(2, .row 4 2),(3, .row 3 3)],4⟩ ⟨[.Ae y3, .Ae FU, .Ae Kf, .Ae El, .Ae FU],[(0, .v 0 y3)],[(0, .Ah 314 [(1, .v 1 FU),(1, .AH 1),(1, .AH 2),(1, .AH 3)]),(1, .row 158 2),(2, .row 4 3),(3, .row 3 4)],4⟩ 1 [] F48 (la:=lk [(8,⟨[.Ae BI, .Ae Ei, .Ae Je, .nat],(kp [0,2,3] [(4, .AH 6),(5, .Am),(6, .Am),(7, .AD 3 803)]),[(8, .Ah 27 [(1, .AH 9)]),(7, .map 3 0),(6, .row 3 1),(5, .c 0),(4, .c 0),(0, .c 0),(3, .c 0),(2, .c 0),(1, .c 0),(9, .row 119 2)],10⟩),(12,⟨[.Ae BI, .Ae Ei, .Ae Kg, .nat],(kp [0,2,3] [(4, .AH 6),(5, .Am),(6, .Am),(7, .Am),(8, .Am),(63, .Am),(64, .Am),(65, .AD 3 1203)]),[(10, .Ah 119 [(1, .Am),(1, .AH 11)]),(8, .c 0),(9, .c 0),(7, .map 3 0),(6, .row 3 1),(5, .c 0),(4, .c 0),(0, .c 0),(3, .c 0),(2, .c 0),(1, .c 0),(11, .row 116 2)],12⟩)]) (pt:=lg [(7,[.Ey 6 0 119 Ls]),(11,[.Ey 8 1 116 Px]),(26,[.M5 2 0])])
def oa(a:Nat)(d:A5):Option (A5×Int):=Ab (x_ a d) λe=>iB (!e) (Ac (([],11)))<|iF ((d.length:Int)=0) (Ac (([],0)))<|Ab (F39 a d) λb=>Ab (F45 a (b.1,b.2.1,b.2.2.1,b.2.2.2)) λc=>Ab (F48 a (c.1,c.2.1,c.2.2.1,c.2.2.2)) λf=>Ac (f.1,0)
def B49:=bQ [B37,B39,B45,B48] Tryz.func242 [Je] [y3,Ak] oa
def F50(f:Nat):(List (Int×Int×Int))×List (Int×Int×Int)->Option Bool|(b,e)=>iF ((b.length:Int)≠e.length) (Ac Aj)<|Ad f (λ(a:Nat) g=>iF ((a:Int)<b.length) (Ab (idx b a) λc=>Ab (idx e a) λd=>iB (!decide (c.1::(c.2.1::[c.2.2])=d.1::(d.2.1::[d.2.2]))) (Ac Aj)<|g (a+1))<|some Bp) (0)
def B50:=bQ [] Tryz.func229 [Kg,Kg] [.bool] F50 (la:=lk [(4,⟨[.nat],(kp [0,1,12] [(13, .AD 0 400)]),[],0⟩)])
def F51(c:Nat):Lt0×Lt0->Option Bool|(a,b)=>iB (a.1==b.1) (Ab (F50 c (a.2,b.2)) Ac)<|some Aj
def B51:=bQ [B50] Tryz.func228 [Ls,Ls] [.bool] F51
def F52(c:Nat):A5×A5->Option Bool|(b,d)=>iF ((b.length:Int)≠d.length) (Ac Aj)<|Ad c (λ(a:Nat) e=>iF ((a:Int)<b.length) (Ab (idx b a) λf=>Ab (idx d a) λg=>Ab (F51 c (f,g)) λh=>iB (!h) (Ac Aj)<|e (a+1))<|some Bp) (0)
def B52:=bP [B51] Tryz.func227 ⟨[.Ae Je, .Ae Je],[(0, .v 0 Je),(1, .v 1 Je),(2, .AK 228 [] [])],[],0⟩ ⟨[.Ae .bool],[(0, .v 0 .bool)],[],0⟩ 1 [] F52 (la:=lk [(4,⟨[.nat],(kp [1,2,15,16] [(17, .AD 0 400)]),[],0⟩)])
def x8(a:Nat):A5×A5->Option Bool|(b,c)=>Ab (F52 a (b,c)) Ac
def B53:=bQ [B52] Tryz.func168 [y3,y3] [.bool] x8
def vG(a:Nat)(b:A5):Option Bool:=Ab (oa a b) λc=>iF (c.2=0) (Ab (x8 a (b,c.1)) Ac)<|some Aj
def B54:=bQ [B53,B49] Tryz.func187 [y3] [.bool] vG
def B55(_:Nat):Bd:=si qT
abbrev F58(_:Nat)(x:Int×Int×List Int):Option (List Int):=YE x
theorem d58i(fu:Nat)(x:Int)(l:List Int):F58 fu (x,10,l)=Ag (l.length+21<=140737488355328) (Aa Lr.i64 x (Ac (l++(Lib.itoa x).map λb=>((b.toNat:Nat):Int)))):=by
 show YE (x,10,l)=_
 unfold YE Ag;simp
def x7(b:Nat)(c:List Int):Option Aq:=Ad b (λ(a:List Int×Nat) d=>iF ((a.2:Int)<c.length) (Ab (idx c a.2) λe=>Ag (EW a.1+1<=Ai)<|Ab (F58 b (e,10,(a.1++[(44:Int)]))) λf=>d (f,a.2+1))<|some ((List.map (λn=>UInt8.ofNat (aC n)) a.1))) (([],0))
def B56:=bQ [B55] Tryz.func343 [FU] [.str] x7 (la:=lk [(3,⟨[.Ae Py, .nat],[(3, .AH 0),(6, .Am),(7, .Am),(8, .AD 1 301)],[(0, .row 5 0)],1⟩)]) (pr:=lg [(7,[.fz 3])]) (pt:=lg [(2,[.own 3 5 NO])])
def F60(f:Nat):BC×List Int->Option Int|(c,d)=>Ad f (λ(a:Int×Nat) e=>iF ((a.2:Int)<c.2.length) (Ab (idx c.2 a.2) λh=>Ab (idx d a.2) λi=>iF ((0:Int)<=i) (Ab (idx d a.2) λj=>Ab (idx h.1 j) λk=>iB k.1 (Aa .i64 (a.1+1)<|e ((a.1+1),a.2+1))<|e (a.1,a.2+1))<|e (a.1,a.2+1))<|Ad f (λ(b:Int×Nat) g=>iF ((b.2:Int)<c.1.length) (Ab (idx c.1 b.2) λl=>Aa .i64 ((c.2.length:Int)+(b.2:Int))<|Ab (idx d ((c.2.length:Int)+(b.2:Int))) λm=>iF (m=(l.1.length:Int)) (Aa .i64 (b.1+1)<|g ((b.1+1),b.2+1))<|g (b.1,b.2+1))<|some b.1) ((a.1,0))) ((0,0))
def B57:=bQ [] Tryz.func344 [BQ,FU] [Ak] F60 (la:=lk [(3,⟨[.Ae Ak, .nat],(kp [1,2] [(5, .v 0 Ak),(11, .Am),(12, .Am),(13, .AD 1 301)]),[(0, .c 0)],1⟩),(9,⟨[.Ae Ak, .nat],(kp [1,2] [(5, .v 0 Ak),(39, .Am),(40, .Am),(41, .AD 1 901)]),[(0, .c 0)],1⟩)])
def F61(h:Nat):BC×List Int->Option (List Int)|(e,k)=>Ad h (λ(c:List Bool×Nat) n=>iF ((c.2:Int)<e.2.length) (Ab (idx e.2 c.2) λq=>Ab (idx k c.2) λr=>iF (r<0) (n (c.1,c.2+1))<|Ab (idx k c.2) λs=>Ab (idx q.1 s) λo=>Ad h (λ(f:List Bool×Nat) t=>iF ((f.2:Int)<o.2.length) (Ab (idx o.2 f.2) λd=>Aa .i64 (d.2.1+1)<|Ag ((0:Int)<=d.1/\d.1<(↑257:Int))<|Ag (0+aC d.1*1<257)<|Ag ((0:Int)<=d.2.1+1/\d.2.1+1< ↑257)<|Ag (0+aC (d.2.1+1)*1<257)<|t (((lD f.1 (0+aC d.1*1) Bp).set (0+aC (d.2.1+1)*1) Bp),f.2+1))<|n ((f.1,c.2+1))) ((c.1,0)))<|Ad h (λ(b:List Bool×Nat) l=>iF ((b.2:Int)<e.1.length) (Ab (idx e.1 b.2) λm=>Aa .i64 ((e.2.length:Int)+(b.2:Int))<|Ab (idx k ((e.2.length:Int)+(b.2:Int))) λi=>iF ((0:Int)<=i) (iF (i<(m.1.length:Int)) (Ab (Ez m.1 i) λj=>Ab (Ez m.1 i) λg=>Aa .i64 (g+1)<|Ag ((0:Int)<=j/\j<(↑257:Int))<|Ag (0+aC j*1<257)<|Ag ((0:Int)<=g+1/\g+1< ↑257)<|Ag (0+aC (g+1)*1<257)<|l (((lD b.1 (0+aC j*1) Bp).set (0+aC (g+1)*1) Bp),b.2+1))<|l (b.1,b.2+1))<|l (b.1,b.2+1))<|Ad h (λ(a:List Int×Int) p=>iF (a.2<256) (Ag ((0:Int)<=a.2/\a.2<(↑257:Int))<|Ab (idx b.1 (↑(0+aC a.2*1):Int)) λu=>iB u (Aa .u8 a.2<|Ag (EW a.1+1<=Ai)<|Aa .i64 (a.2+1)<|p ((a.1++[a.2]),(a.2+1)))<|Aa .i64 (a.2+1)<|p (a.1,(a.2+1)))<|some a.1) (([],(0:Int)))) ((c.1,0))) (((lD (Uh 257 Aj) 0 Bp),0))
def B58:=bQ [] Tryz.func345 [BQ,FU] [Py] F61 (la:=lk [(3,⟨[.Ae (.ar 257 .bool), .nat],(kp [1,2,5,17,18] [(19, .AD 1 301)]),[(1, .Ah 242 [(257, .v 0 (.ar 257 .bool))]),(0, .c 0)],2⟩),(7,⟨[.Ae (.ar 257 .bool), .nat],(kp [1,2,5,17,18,19,38,39] [(40, .AD 1 701)]),[(1, .Ah 242 [(257, .v 0 (.ar 257 .bool))]),(0, .c 0)],3⟩),(13,⟨[.Ae (.ar 257 .bool), .nat],(kp [1,2,5,55,56] [(57, .AD 1 1301)]),[(1, .Ah 242 [(257, .v 0 (.ar 257 .bool))]),(0, .c 0)],2⟩),(21,⟨[.Ae Py, .Ae Ak],[(5, .Am),(13, .AH 2),(92, .v 1 Ak)],[(1, .c 0),(2, .row 5 0)],3⟩)]) (pt:=lg [(20,[.own 13 5 NO]),(26,[.fz 4])])
def F62(h:Nat):BC×List Int×Int->Option (List Int)|(d,f,j)=>Ag (EW f<=Ai)<|Ad h (λ(e:List Int×Nat) p=>iF ((e.2:Int)<((Uh (EW f) (0:Int)).length:Int)) (Ab (idx e.1 e.2) λu=>p ((e.1.set e.2 (Int.negSucc (0))),e.2+1))<|Ad h (λ(b:List Int×Nat) m=>iF ((b.2:Int)<d.2.length) (Ab (idx d.2 b.2) λq=>Ab (idx f b.2) λr=>iF (r<0) (m (b.1,b.2+1))<|Ab (idx f b.2) λs=>Ab (idx q.1 s) λn=>Ad h (λ(c:List Int×Nat) k=>iF ((c.2:Int)<n.2.length) (Ab (idx n.2 c.2) λl=>iF (l.1<=j) (iF (j<=l.2.1) (Ab (idx c.1 b.2) λv=>k ((c.1.set b.2 l.2.2),c.2+1))<|k (c.1,c.2+1))<|k (c.1,c.2+1))<|m ((c.1,b.2+1))) ((b.1,0)))<|Ad h (λ(a:List Int×Nat) i=>iF ((a.2:Int)<d.1.length) (Ab (idx d.1 a.2) λo=>Aa .i64 ((d.2.length:Int)+(a.2:Int))<|Ab (idx f ((d.2.length:Int)+(a.2:Int))) λg=>iF ((0:Int)<=g) (iF (g<(o.1.length:Int)) (Ab (Ez o.1 g) λt=>iF (t=j) (Aa .i64 (g+1)<|Ab (idx a.1 ((d.2.length:Int)+(a.2:Int))) λw=>i ((a.1.set (aC ((d.2.length:Int)+(a.2:Int))) ((g+1))),a.2+1))<|i (a.1,a.2+1))<|i (a.1,a.2+1))<|i (a.1,a.2+1))<|some a.1) ((b.1,0))) ((e.1,0))) (((Uh (EW f) (0:Int)),0))
def B59:=bQ [] Tryz.func346 [BQ,FU,NO] [FU] F62 (la:=lk [(3,⟨[.Ae Ei, .nat],(kp [1,2,3,7,21] [(22, .AD 1 301)]),[(1, .row 3 0),(0, .c 0)],2⟩),(8,⟨[.Ae Ei, .nat],(kp [1,2,3,7,30,31] [(32, .AD 1 801)]),[(1, .row 3 0),(0, .c 0)],2⟩),(12,⟨[.Ae Ei, .nat],(kp [1,2,3,7,9,30,31,32,51,52] [(53, .AD 1 1201)]),[(1, .row 3 0),(0, .c 0)],3⟩),(19,⟨[.Ae Ei, .nat],(kp [1,2,3,7,75,76] [(77, .AD 1 1901)]),[(1, .row 3 0),(0, .c 0)],2⟩)]) (pt:=lg [(26,[.fz 6])])
def F63(d:Nat)(a:BC):Option Bool:=Ad d (λ(f:Nat) m=>iF ((f:Int)<a.2.length) (Ab (idx a.2 f) λh=>iF ((h.1.length:Int)=0) (Ac Aj)<|Ab (vG d h.1) λn=>iB (!n) (Ac Aj)<|m (f+1))<|Aa .i64 ((a.2.length:Int)+(a.1.length:Int))<|Ag ((0:Int)<=a.2.length+(a.1.length:Int))<|Ag (aC ((a.2.length:Int)+(a.1.length:Int))<=Ai)<|Ab (idx [(Uh (aC ((a.2.length:Int)+(a.1.length:Int))) (0:Int))] (0:Int)) λo=>Ab (x7 d o) λi=>Ag (EW i<=1099511627776/\0<=1099511627776)<|Ad d (λ(c:List (Aq×Bool)×List (List Int)) p=>iF ((0:Int)<c.2.length) (Aa .i64 ((c.2.length:Int)-1)<|Ab (idx c.2 ((c.2.length:Int)-1)) λg=>Aa .i64 ((c.2.length:Int)-1)<|Ag ((0:Int)<=c.2.length-1/\(c.2.length:Int)-1<=c.2.length)<|Ab (F60 d (a,g)) λq=>iF (q≠1) (Ac Aj)<|Ab (F61 d (a,g)) λj=>Ad d (λ(b:List (Aq×Bool)×List (List Int)×Nat) k=>iF ((b.2.2:Int)<j.length) (Ab (idx j b.2.2) λr=>Ab (F62 d (a,g,r)) λl=>Ab (x7 d l) λe=>Ag (EW e<=1099511627776)<|iB (!Option.getD (AB b.1 e) Aj) (Ag (EW e<=1099511627776/\EW b.1<=1099511627776)<|Ag (EW b.2.1+1<=Ai)<|k (Bw b.1 e Bp,(b.2.1++[l]),b.2.2+1))<|k (b.1,b.2.1,b.2.2+1))<|p ((b.1,b.2.1))) ((c.1,(List.take (aC ((c.2.length:Int)-1)) c.2),0)))<|some Bp) ((Bw [] i Bp,[(Uh (aC ((a.2.length:Int)+(a.1.length:Int))) (0:Int))]))) (0)
def B60:=bQ [B54,B56,B57,B58,B59] Tryz.func279 [BQ] [.bool] F63 (la:=lk [(2,⟨[.nat],(kp [1,13,14] [(15, .AD 0 200)]),[(0, .c 0)],1⟩),(9,⟨[.Ae (.sl y20), .Ae Kf],[(1, .Am),(5, .AH 2),(6, .Am)],[(3, .map 9 0),(2, .row 306 1),(0, .c 0)],4⟩),(15,⟨[.Ae (.sl y20), .Ae Kf, .nat],[(1, .Am),(5, .AH 4),(6, .Am),(7, .Am),(66, .Am),(67, .Am),(68, .AD 2 1502)],[(3, .map 9 0),(4, .row 306 1),(0, .c 0)],5⟩)])
def R61(fu:Nat):=sQ (bs [] fu) fu Tryz.func310 [(.int .u64)] [Ak]
def B61(fu:Nat):=De (R61 fu)
abbrev DW(fu:Nat)(x:(Int)):Option Int:=(R61 fu).1 x
def s5(a:Nat)(b:Int):Option Int:=Ab (DW a b) Ac
def B62:=bQ [B61] Tryz.func261 [(.int .u64)] [Ak] s5
def F66(b:Nat)(a:Int):Option Bool:=Ac (Di (a≠a))
def B63:=bQ [] Tryz.func289 [Ak] [.bool] F66
def F67(c:Nat):Int×Int->Option Int|(a,b)=>Ab (F66 c a) λe=>Ab (F66 c b) λd=>iB e (iB d (Ac 0)<|some ((-1:Int)))<|iB d (Ac 1)<|iF (a<b) (Ac ((-1:Int)))<|iF (b<a) (Ac 1)<|some 0
def B64:=bQ [B63] Tryz.func245 [Ak,Ak] [Ak] F67
def F68(a:Nat):(Int×Int)×Int×Int->Option Int|(b,c)=>Ab (F67 a (b.1,c.1)) Ac
def B65:=bQ [B64] Tryz.func244 [Ew,Ew] [Ak] F68
def D69(fu:Nat)(x0 x1:Int)(x2:List (Int×Int)):=Su (λx y=>F68 fu (x,y)) fu x0 x1 x2
abbrev F69 fu:=u3 (D69 fu)
theorem d69(fu x0 x1 x2):F69 fu (x0,x1,x2)=D69 fu x0 x1 x2:=rfl
def B66:=bP [B65] Tryz.func351 ⟨[.Ae Ak, .Ae Ak, .Ae BI],[(0, .AH 0),(1, .v 0 Ak),(2, .v 1 Ak),(3, .AK 244 [] [])],[(0, .row 88 2)],1⟩ ⟨[.Ae BI],[],[(0, .row 88 0)],1⟩ 0 [] F69 (la:=lk [(1,⟨[.Ae BI, .Ae Ak],(kp [0,1,2,3] [(8, .v 1 Ak)]),[(0, .row 88 0)],1⟩),(4,⟨[.Ae BI, .Ae Ak],(kp [0,1,2,3,8] [(9, .v 1 Ak)]),[(0, .row 88 0)],1⟩)])
def F70(c:Nat):Int×Int×Int×List (Int×Int)->Option (List (Int×Int))|(a,b,d,e)=>Ad c (λ(g:PUnit) h=>Aa .i64 (b-a)<|iF (b-a<=12) (Ab (F69 c (a,b,e)) Ac)<|iF (d=0) C7<|none) (())
def B67:=bP [B66] Tryz.func288 ⟨[.Ae Ak, .Ae Ak, .Ae Ak, .Ae BI],[(0, .AH 0),(1, .v 0 Ak),(2, .v 1 Ak),(3, .v 2 Ak),(4, .AK 244 [] [])],[(0, .row 88 3)],1⟩ ⟨[.Ae BI],[],[(0, .row 88 0)],1⟩ 0 [] F70 (la:=lk [(2,⟨[],(kp [0,1,2,3,4,10,11] []),[(0, .c 0)],1⟩)])
def x6(b:Nat)(a:List (Int×Int)):Option (List (Int×Int)):=Ab (s5 b (Int.ofNat (EW a %w8 (18446744073709551616:Int)))) λc=>Ab (F70 b (0,(a.length:Int),c,a)) Ac
def B68:=bP [B62,B67] Tryz.func243 ⟨[.Ae BI],[(0, .AH 0),(1, .AK 244 [] [])],[(0, .row 88 0)],1⟩ ⟨[.Ae BI],[],[(0, .row 88 0)],1⟩ 0 [] x6
def xZ(b:Nat)(a:Int):Option Int:=Aa .i64 (a+1)<|some (a+1)
def B69:=bQ [] Tryz.func189 [Ak] [Ak] xZ
def F73(e:Nat)(b:List (Int×Int)):Option (List (Int×Int)):=Ag (EW b<=Ai)<|Ag (min (EW b) (EW (Uh (EW b) ((0:Int),(0:Int))))<=1099511627776)<|Ab (x6 e (((List.take (min (EW b) (EW (Uh (EW b) ((0:Int),(0:Int))))) b)++(List.drop (min (EW b) (EW (Uh (EW b) ((0:Int),(0:Int))))) (Uh (EW b) ((0:Int),(0:Int))))))) λg=>Ad e (λ(a:List (Int×Int)×Nat) f=>iF ((a.2:Int)<g.length) (Ab (idx g a.2) λc=>iF ((0:Int)<a.1.length) (Aa .i64 ((a.1.length:Int)-1)<|Ab (idx a.1 ((a.1.length:Int)-1)) λh=>Ab (xZ e h.2) λi=>iF (c.1<=i) (Aa .i64 ((a.1.length:Int)-1)<|Aa .i64 ((a.1.length:Int)-1)<|Ab (idx a.1 ((a.1.length:Int)-1)) λd=>Aa .i64 (if c.2>d.2 then c.2 else d.2)<|Ab (idx a.1 ((a.1.length:Int)-1)) λj=>f ((a.1.set (aC ((a.1.length:Int)-1)) (j.1,(if d.2<c.2 then c.2 else d.2))),a.2+1))<|Ag (EW a.1+1<=Ai)<|f ((a.1++[c]),a.2+1))<|Ag (EW a.1+1<=Ai)<|f ((a.1++[c]),a.2+1))<|some a.1) (([],0))
def B70:=bP [B69,B68] Tryz.func188 ⟨[.Ae BI],[(0, .v 0 BI),(1, .AK 189 [] [])],[],0⟩ ⟨[.Ae BI],[(0, .v 0 BI)],[],0⟩ 1 [] F73 (la:=lk [(6,⟨[.Ae BI, .nat],[(1, .Am),(6, .AH 1),(18, .Am),(19, .Am),(20, .AD 1 601)],[(0, .c 0),(1, .row 88 0)],2⟩)]) (pt:=lg [(5,[.own 6 88 Ew]),(13,[.fz 4])])
def xY(b:Nat)(a:Int):Option Int:=Aa .i64 (a+1)<|Ag ((10000:Int)≠0)<|Aa .i64 (jz (a+1) (10000:Int))<|iF (jz (a+1) (10000:Int)=0) (Aa .i64 (a+2)<|some ((a+2)))<|Aa .i64 (a+1)<|some (a+1)
def B71:=bQ [] Tryz.func190 [Ak] [Ak] xY
def F75(e:Nat)(b:List (Int×Int)):Option (List (Int×Int)):=Ag (EW b<=Ai)<|Ag (min (EW b) (EW (Uh (EW b) ((0:Int),(0:Int))))<=1099511627776)<|Ab (x6 e (((List.take (min (EW b) (EW (Uh (EW b) ((0:Int),(0:Int))))) b)++(List.drop (min (EW b) (EW (Uh (EW b) ((0:Int),(0:Int))))) (Uh (EW b) ((0:Int),(0:Int))))))) λg=>Ad e (λ(a:List (Int×Int)×Nat) f=>iF ((a.2:Int)<g.length) (Ab (idx g a.2) λc=>iF ((0:Int)<a.1.length) (Aa .i64 ((a.1.length:Int)-1)<|Ab (idx a.1 ((a.1.length:Int)-1)) λh=>Ab (xY e h.2) λi=>iF (c.1<=i) (Aa .i64 ((a.1.length:Int)-1)<|Aa .i64 ((a.1.length:Int)-1)<|Ab (idx a.1 ((a.1.length:Int)-1)) λd=>Aa .i64 (if c.2>d.2 then c.2 else d.2)<|Ab (idx a.1 ((a.1.length:Int)-1)) λj=>f ((a.1.set (aC ((a.1.length:Int)-1)) (j.1,(if d.2<c.2 then c.2 else d.2))),a.2+1))<|Ag (EW a.1+1<=Ai)<|f ((a.1++[c]),a.2+1))<|Ag (EW a.1+1<=Ai)<|f ((a.1++[c]),a.2+1))<|some a.1) (([],0))
def B72:=bP [B71,B68] Tryz.func188 ⟨[.Ae BI],[(0, .v 0 BI),(1, .AK 190 [] [])],[],0⟩ ⟨[.Ae BI],[(0, .v 0 BI)],[],0⟩ 1 [] F75 (la:=lk [(6,⟨[.Ae BI, .nat],[(1, .Am),(6, .AH 1),(18, .Am),(19, .Am),(20, .AD 1 601)],[(0, .c 0),(1, .row 88 0)],2⟩)]) (pt:=lg [(5,[.own 6 88 Ew]),(13,[.fz 4])])
def Xb(f:Nat)(g:Bc):Option Bc:=Ad f (λ(d:List (Int×Int)×Nat) h=>iF ((d.2:Int)<g.1.length) (Ab (idx g.1 d.2) λc=>Aa .i64 (if(-100000000000:Int)>c.1 then(-100000000000:Int)else c.1)<|Aa .i64 (if(100000000000:Int)<c.2 then(100000000000:Int)else c.2)<|iF ((if c.1<(-100000000000:Int)then(-100000000000:Int)else c.1)<=(if(100000000000:Int)<c.2 then(100000000000:Int)else c.2)) (Ag (EW d.1+1<=Ai)<|h ((d.1++[((if c.1<(-100000000000:Int)then(-100000000000:Int)else c.1),(if(100000000000:Int)<c.2 then(100000000000:Int)else c.2))]),d.2+1))<|h (d.1,d.2+1))<|Ad f (λ(b:List (Int×Int)×Nat) e=>iF ((b.2:Int)<g.2.length) (Ab (idx g.2 b.2) λa=>Aa .i64 (if(-1000000000000000:Int)>a.1 then(-1000000000000000:Int)else a.1)<|Aa .i64 (if(1000000000000000:Int)<a.2 then(1000000000000000:Int)else a.2)<|Ag ((10000:Int)≠0)<|Aa .i64 (jz ((if a.1<(-1000000000000000:Int)then(-1000000000000000:Int)else a.1)) (10000:Int))<|iF (jz ((if a.1<(-1000000000000000:Int)then(-1000000000000000:Int)else a.1)) (10000:Int)=0) (Aa .i64 ((if a.1<(-1000000000000000:Int)then(-1000000000000000:Int)else a.1)+1)<|Ag ((10000:Int)≠0)<|Aa .i64 (jz ((if(1000000000000000:Int)<a.2 then(1000000000000000:Int)else a.2)) (10000:Int))<|iF (jz ((if(1000000000000000:Int)<a.2 then(1000000000000000:Int)else a.2)) (10000:Int)=0) (Aa .i64 ((if(1000000000000000:Int)<a.2 then(1000000000000000:Int)else a.2)-1)<|iF ((((if a.1<(-1000000000000000:Int)then(-1000000000000000:Int)else a.1))+1)<=(((if(1000000000000000:Int)<a.2 then(1000000000000000:Int)else a.2))-1)) (Ag (EW b.1+1<=Ai)<|e ((b.1++[((((if a.1<(-1000000000000000:Int)then(-1000000000000000:Int)else a.1))+1),(((if(1000000000000000:Int)<a.2 then(1000000000000000:Int)else a.2))-1))]),b.2+1))<|e (b.1,b.2+1))<|iF ((((if a.1<(-1000000000000000:Int)then(-1000000000000000:Int)else a.1))+1)<=(if(1000000000000000:Int)<a.2 then(1000000000000000:Int)else a.2)) (Ag (EW b.1+1<=Ai)<|e ((b.1++[((((if a.1<(-1000000000000000:Int)then(-1000000000000000:Int)else a.1))+1),(if(1000000000000000:Int)<a.2 then(1000000000000000:Int)else a.2))]),b.2+1))<|e (b.1,b.2+1))<|Ag ((10000:Int)≠0)<|Aa .i64 (jz ((if(1000000000000000:Int)<a.2 then(1000000000000000:Int)else a.2)) (10000:Int))<|iF (jz ((if(1000000000000000:Int)<a.2 then(1000000000000000:Int)else a.2)) (10000:Int)=0) (Aa .i64 ((if(1000000000000000:Int)<a.2 then(1000000000000000:Int)else a.2)-1)<|iF ((if a.1<(-1000000000000000:Int)then(-1000000000000000:Int)else a.1)<=(((if(1000000000000000:Int)<a.2 then(1000000000000000:Int)else a.2))-1)) (Ag (EW b.1+1<=Ai)<|e ((b.1++[((if a.1<(-1000000000000000:Int)then(-1000000000000000:Int)else a.1),(((if(1000000000000000:Int)<a.2 then(1000000000000000:Int)else a.2))-1))]),b.2+1))<|e (b.1,b.2+1))<|iF ((if a.1<(-1000000000000000:Int)then(-1000000000000000:Int)else a.1)<=(if(1000000000000000:Int)<a.2 then(1000000000000000:Int)else a.2)) (Ag (EW b.1+1<=Ai)<|e ((b.1++[((if a.1<(-1000000000000000:Int)then(-1000000000000000:Int)else a.1),(if(1000000000000000:Int)<a.2 then(1000000000000000:Int)else a.2))]),b.2+1))<|e (b.1,b.2+1))<|Ab (F73 f d.1) λi=>Ab (F75 f b.1) λj=>Ac ((i,j))) (([],0))) (([],0))
def zf:=bQ [B70,B72] Tryz.func138 [Fb] [Fb] Xb (la:=lk [(3,⟨[.Ae BI, .nat],(kp [1,2] [(3, .AH 2),(4, .Am),(10, .Am),(11, .Am),(12, .AD 1 301)]),[(1, .c 0),(0, .c 0),(2, .row 88 0)],3⟩),(10,⟨[.Ae BI, .nat],(kp [2,3] [(4, .AH 3),(34, .Am),(35, .Am),(36, .AD 1 1001)]),[(2, .c 0),(1, .c 0),(3, .row 88 0)],4⟩)]) (pr:=lg [(20,[.fz 3, .fz 4])]) (pt:=lg [(2,[.own 3 88 Ew]),(9,[.own 4 88 Ew])])
def s4(f:Nat):(List (Int×Int))×List (Int×Int)->Option Bool|(b,c)=>iF ((b.length:Int)≠c.length) (Ac Aj)<|Ad f (λ(a:Nat) g=>iF ((a:Int)<b.length) (Ab (idx b a) λd=>Ab (idx c a) λe=>iB (!decide (d.1::[d.2]=e.1::[e.2])) (Ac Aj)<|g (a+1))<|some Bp) (0)
def B74:=bQ [] Tryz.func167 [BI,BI] [.bool] s4 (la:=lk [(4,⟨[.nat],(kp [0,1,12] [(13, .AD 0 400)]),[],0⟩)])
def F78(a:Nat):Bc×Bc->Option Bool|(b,c)=>Ab (s4 a (b.1,c.1)) λd=>iB d (Ab (s4 a (b.2,c.2)) Ac)<|some Aj
def B75:=bQ [B74] Tryz.func241 [Fb,Fb] [.bool] F78
def F79(a:Nat)(b:Bc):Option Bool:=Ab (Xb a b) λc=>Ab (F78 a (b,c)) Ac
def B76:=bQ [zf,B75] Tryz.func186 [Fb] [.bool] F79
def dZ(a:Nat)(b:FC):Option Bool:=Ab (F79 a b.2.2.2.1) λc=>iB c (Ab (vG a b.2.2.2.2) Ac)<|some Aj
def B77:=bQ [B76,B54] Tryz.func137 [y8] [.bool] dZ
def F81(b:Nat)(a:Vl):Option Bool:=iB (Vl.any a) (Ab (ya b (Vl.sc a)) λf=>iB f (Aa .i64 (((Vl.lists a).length:Int)+((Vl.structs a).length:Int))<|some (Di ((((Vl.lists a).length:Int)+((Vl.structs a).length:Int))=0)))<|some Aj)<|Ad b (λ(c:Nat) g=>iF ((c:Int)<(Vl.lists a).length) (Ab (idx (Vl.lists a) (c:Int)) λh=>iF ((1:Int)<h.2.length) (Ac Aj)<|g (c+1))<|Ad b (λ(d:Nat) i=>iF ((d:Int)<(Vl.structs a).length) (Ab (idx (Vl.structs a) (d:Int)) λe=>Ab (F36 b e.1) λj=>iB (!j) (Ac Aj)<|Ab (F63 b e) λk=>iB (!k) (Ac Aj)<|i (d+1))<|Ab (dZ b (Vl.sc a)) Ac) (0)) (0)
def B78:=bQ [B35,B77,B36,B60] Tryz.func232 [BD] [.bool] F81 (la:=lk [(4,⟨[.nat],(kp [1,23,24] [(25, .AD 0 400)]),[(0, .c 0)],1⟩),(10,⟨[.nat],(kp [1,35,36] [(37, .AD 0 1000)]),[(0, .c 0)],1⟩)])
def F82(b:Nat)(a:Int):Option (List AE):=iF (a<0) C7<|Aa .i64 ((↑0:Int)-(↑0:Int))<|Aa .i64 (a-((↑0:Int)-(↑0:Int)))<|iF ((0:Int)<a-((↑0:Int)-(↑0:Int))) (Ag ((0:Int)<=a-((↑0:Int)-(↑0:Int)))<|qc (aC (a-((↑0:Int)-(↑0:Int)))) (C7) λn1=>Ag (n1+1<=4294967296)<|Ag ((0:Int)<= ↑0/\(↑0:Int)<=((Uh (n1+1) (Vl.mk Aj (Aj,Aj,Aj,([],[]),[]) [] [],Vl.mk Aj (Aj,Aj,Aj,([],[]),[]) [] [])).length:Int))<|some [])<|some []
def B79:=bP [] Tryz.func230 ⟨[.Ae Ak],[(0, .nl),(1, .v 0 Ak)],[],0⟩ ⟨[.Ae Dq],[(0, .AH 0)],[(0, .row 35 0)],1⟩ 1 [] F82 (pt:=lg [(6,[.own 4 35 Bq])])
def xX(d:Nat)(c:List (List AE)):Option (List AE):=Ad d (λ(a:Int×Nat) g=>iF ((a.2:Int)<c.length) (Ab (idx c a.2) λe=>Aa .i64 (a.1+(e.length:Int))<|iF (a.1+(e.length:Int)<0) C7<|g ((a.1+(e.length:Int)),a.2+1))<|Ab (F82 d a.1) λh=>Ad d (λ(b:List AE×Nat) i=>iF ((b.2:Int)<c.length) (Ab (idx c b.2) λf=>Ag (EW b.1+EW f<=4294967296)<|i ((b.1++f),b.2+1))<|some b.1) ((h,0))) ((0,0))
def B80:=bQ [B79] Tryz.func169 [y21] [Dq] xX (la:=lk [(3,⟨[.Ae Ak, .nat],[(0, .Am),(3, .v 0 Ak),(9, .Am),(10, .Am),(11, .AD 1 301)],[],0⟩),(11,⟨[.Ae Dq, .nat],[(6, .AH 0),(25, .Am),(26, .Am),(27, .AD 1 1101)],[(0, .row 35 0)],1⟩)]) (pt:=lg [(15,[.fz 2])])
def fq(b:Nat)(a:BP):Option (List AE):=Ab (xX b [a.1,a.2]) Ac
def B81:=bQ [B80] Tryz.func114 [Cc] [Dq] fq
def F85(d:Nat)(c:BC):Option (List AE):=Ad d (λ(a:List AE×Nat) e=>iF ((a.2:Int)<c.1.length) (Ab (idx c.1 a.2) λf=>Ag (EW a.1+1<=4294967296)<|e ((a.1++[f.2.2]),a.2+1))<|Ad d (λ(b:List AE×Nat) g=>iF ((b.2:Int)<c.2.length) (Ab (idx c.2 b.2) λh=>Ag (EW b.1+1<=4294967296)<|g ((b.1++[h.2]),b.2+1))<|some b.1) ((a.1,0))) (([],0))
def B82:=bQ [] Tryz.func280 [BQ] [Dq] F85 (la:=lk [(3,⟨[.Ae Dq, .nat],[(1, .Am),(3, .AH 1),(9, .Am),(10, .Am),(11, .AD 1 301)],[(0, .c 0),(1, .row 35 0)],2⟩),(8,⟨[.Ae Dq, .nat],[(3, .AH 1),(22, .Am),(23, .Am),(24, .AD 1 801)],[(1, .row 35 0)],2⟩)]) (pt:=lg [(2,[.own 3 35 Bq]),(12,[.fz 2])])
def F86(c:Nat)(d:Vl):Option (List AE):=Ad c (λ(a:List AE×Nat) g=>iF ((a.2:Int)<(Vl.lists d).length) (Ab (idx (Vl.lists d) (a.2:Int)) λh=>Ab (fq c h) λe=>Ag (EW a.1+EW e<=4294967296)<|g ((a.1++e),a.2+1))<|Ad c (λ(b:List AE×Nat) i=>iF ((b.2:Int)<(Vl.structs d).length) (Ab (idx (Vl.structs d) (b.2:Int)) λj=>Ab (F85 c j) λf=>Ag (EW b.1+EW f<=4294967296)<|i ((b.1++f),b.2+1))<|some b.1) ((a.1,0))) (([],0))
def B83:=bQ [B81,B82] Tryz.func233 [BD] [Dq] F86 (la:=lk [(3,⟨[.Ae Dq, .nat],[(1, .Am),(3, .AH 1),(9, .Am),(10, .Am),(11, .AD 1 301)],[(0, .c 0),(1, .row 35 0)],2⟩),(8,⟨[.Ae Dq, .nat],[(3, .AH 1),(21, .Am),(22, .Am),(23, .AD 1 801)],[(1, .row 35 0)],2⟩)]) (pt:=lg [(2,[.own 3 35 Bq]),(12,[.fz 2])])
def F87(e:Nat):Int×Int×Int×Bool->Option (Int×Int×Bool)|(a,c,b,d)=>Aa .i64 (c+1)<|Aa .i64 (if a>b then a else b)<|some ((c+1),(if b<a then a else b),d)
def B84:=bP [] Tryz.func231 ⟨[.Ae Ak, .Ae Ak, .Ae Ak, .Ae .bool],[(0, .loc 0 0),(1, .v 0 Ak)],[(0, .Ah 150 [(1, .v 1 Ak),(1, .v 2 Ak),(1, .v 3 .bool)])],1⟩ ⟨[.Ae Ak, .Ae Ak, .Ae .bool],[],[(0, .Ah 150 [(1, .v 0 Ak),(1, .v 1 Ak),(1, .v 2 .bool)])],1⟩ 0 [] F87
def wm:A':=⟨[.Ae BD, .Ae Ak, .Ae Ak, .Ae Ak, .Ae .bool],[(0, .loc 0 0),(1, .v 0 BD),(2, .v 1 Ak)],[(0, .Ah 150 [(1, .v 2 Ak),(1, .v 3 Ak),(1, .v 4 .bool)])],1⟩
def wh:A':=⟨[.Ae Ak, .Ae Ak, .Ae .bool],[],[(0, .Ah 150 [(1, .v 0 Ak),(1, .v 1 Ak),(1, .v 2 .bool)])],1⟩
abbrev xV:Type:=G9 174 wm wh 0 []
def G85(n:Nat):xV:=Nat.rec (motive:=λ_=>xV) (tP Tryz.func174) (λfu g0=>sP (C2 g0::bs [B84,B78,B83] fu) fu Tryz.func174 wm wh 0 [] (la:=lk [(5,⟨[.Ae Ak, .Ae Ak, .Ae .bool, .nat],(kp [0,2,24,25] [(26, .AD 3 503)]),[(0, .Ah 150 [(1, .v 0 Ak),(1, .v 1 Ak),(1, .v 2 .bool)])],2⟩)])) n
def B85(fu:Nat):=C2 (G85 fu)
abbrev sZ(fu:Nat)(x:(Vl)×(Int)×(Int)×(Int)×(Bool)):Option (Int×Int×Bool):=(G85 fu).1 x
def D88(c:Nat)(g:Vl)(d:Int)(j:Int)(k:Int)(l:Bool):Option (Int×Int×Bool):=Ab (F87 c (d,j,k,l)) λb=>iF ((16:Int)<d) (Ac ((b.1,b.2.1,Bp)))<|Ab (F81 c g) λm=>iB (!m) (Ac ((b.1,b.2.1,Bp)))<|Ab (F86 c g) λh=>Ad c (λ(a:Int×Int×Bool×Nat) n=>iF ((a.2.2.2:Int)<h.length) (Ab (idx h a.2.2.2) λi=>Aa .i64 (d+1)<|Ab (sZ c (i.1,(d+1),a.1,a.2.1,a.2.2.1)) λe=>Aa .i64 (d+1)<|Ab (sZ c (i.2,(d+1),e.1,e.2.1,e.2.2)) λf=>n (f.1,f.2.1,f.2.2,a.2.2.2+1))<|some ((a.1,a.2.1,a.2.2.1))) ((b.1,b.2.1,b.2.2,0))
theorem d88(fu x0 x1 x2 x3 x4):sZ (fu+1) (x0,x1,x2,x3,x4)=D88 fu x0 x1 x2 x3 x4:=by kernel_rfl
def F89(c:Nat):Vl×Int×(Int×Int)×Bool->Option (Int×Int×Bool)|(g,d,j)=>Ab (F34 c (d,j)) λb=>iF ((16:Int)<d) (Ac ((b.1,b.2.1,Bp)))<|Ab (F81 c g) λk=>iB (!k) (Ac ((b.1,b.2.1,Bp)))<|Ab (F86 c g) λh=>Ad c (λ(a:Int×Int×Bool×Nat) l=>iF ((a.2.2.2:Int)<h.length) (Ab (idx h a.2.2.2) λi=>Aa .i64 (d+1)<|Ab (sZ c (i.1,(d+1),a.1,a.2.1,a.2.2.1)) λe=>Aa .i64 (d+1)<|Ab (sZ c (i.2,(d+1),e.1,e.2.1,e.2.2)) λf=>l (f.1,f.2.1,f.2.2,a.2.2.2+1))<|some ((a.1,a.2.1,a.2.2.1))) ((b.1,b.2.1,b.2.2,0))
def B86:=bP [B85,B34,B78,B83] Tryz.func174 ⟨[.Ae BD, .Ae Ak, .Ae (.st zU)],[(0, .loc 0 0),(1, .v 0 BD),(2, .v 1 Ak)],[(0, .Ah 150 [(3, .v 2 (.st zU))])],1⟩ ⟨[.Ae Ak, .Ae Ak, .Ae .bool],[],[(0, .Ah 150 [(1, .v 0 Ak),(1, .v 1 Ak),(1, .v 2 .bool)])],1⟩ 0 [] F89 (la:=lk [(5,⟨[.Ae Ak, .Ae Ak, .Ae .bool, .nat],(kp [0,2,24,25] [(26, .AD 3 503)]),[(0, .Ah 150 [(1, .v 0 Ak),(1, .v 1 Ak),(1, .v 2 .bool)])],2⟩)])
def F90(b:Nat)(c:Vl):Option (Int×Int×Bool):=Ab (F89 b (c,1,(0,0),Aj)) λa=>Ac (a.1,a.2.1,a.2.2)
def B87:=bP [B86] Tryz.func116 ⟨[.Ae BD],[(0, .v 0 BD)],[],0⟩ ⟨[.Ae Ak, .Ae Ak, .Ae .bool],[(0, .loc 0 0)],[(0, .Ah 150 [(1, .v 0 Ak),(1, .v 1 Ak),(1, .v 2 .bool)])],1⟩ 1 [] F90
def sY(a:Nat)(b:Vl):Option Bool:=Ab (F90 a b) λc=>Ac (!c.2.2)
def B88:=bQ [B87] Tryz.func81 [BD] [.bool] sY
def F92(a:Nat)(b:AE):Option Bool:=Ab (sY a b.1) λc=>iB c (Ab (sY a b.2) Ac)<|some Aj
def B89:=bQ [B88] Tryz.func60 [Bq] [.bool] F92
def n_(b:Nat)(a:FC):Option FC:=Ab (dZ b a) λc=>iB (!c) (Ac ((Aj,Aj,Aj,([],[]),[])))<|some a
def B90:=bQ [B77] Tryz.func99 [y8] [y8] n_
def vF(c:Nat):Bool×Bool->Option Bool|(a,b)=>iB a (Ac Bp)<|some b
def B91:=bQ [] Tryz.func255 [.bool, .bool] [.bool] vF
def F95(b:Nat)(a:Int):Option (List (Int×Int)):=iF (a<0) C7<|Aa .i64 ((↑0:Int)-(↑0:Int))<|Aa .i64 (a-((↑0:Int)-(↑0:Int)))<|iF ((0:Int)<a-((↑0:Int)-(↑0:Int))) (Ag ((0:Int)<=a-((↑0:Int)-(↑0:Int)))<|qc (aC (a-((↑0:Int)-(↑0:Int)))) (C7) λn1=>Ag (n1+1<=Ai)<|Ag ((0:Int)<= ↑0/\(↑0:Int)<=((Uh (n1+1) ((0:Int),(0:Int))).length:Int))<|some [])<|some []
def B92:=bP [] Tryz.func359 ⟨[.Ae Ak],[(0, .nl),(1, .v 0 Ak)],[],0⟩ ⟨[.Ae BI],[(0, .AH 0)],[(0, .row 88 0)],1⟩ 1 [] F95 (pt:=lg [(6,[.own 4 88 Ew])])
def vE(d:Nat)(c:List (List (Int×Int))):Option (List (Int×Int)):=Ad d (λ(a:Int×Nat) g=>iF ((a.2:Int)<c.length) (Ab (idx c a.2) λe=>Aa .i64 (a.1+(e.length:Int))<|iF (a.1+(e.length:Int)<0) C7<|g ((a.1+(e.length:Int)),a.2+1))<|Ab (F95 d a.1) λh=>Ad d (λ(b:List (Int×Int)×Nat) i=>iF ((b.2:Int)<c.length) (Ab (idx c b.2) λf=>Ag (EW b.1+EW f<=Ai)<|i ((b.1++f),b.2+1))<|some b.1) ((h,0))) ((0,0))
def B93:=bQ [B92] Tryz.func294 [y23] [BI] vE (la:=lk [(3,⟨[.Ae Ak, .nat],[(0, .Am),(3, .v 0 Ak),(9, .Am),(10, .Am),(11, .AD 1 301)],[],0⟩),(11,⟨[.Ae BI, .nat],[(6, .AH 0),(25, .Am),(26, .Am),(27, .AD 1 1101)],[(0, .row 88 0)],1⟩)]) (pt:=lg [(15,[.fz 2])])
def F97(a:Nat):Bc×Bc->Option Bc|(b,c)=>Ab (vE a [b.1,c.1]) λd=>Ab (vE a [b.2,c.2]) λe=>Ab (Xb a (d,e)) Ac
def B94:=bQ [zf,B93] Tryz.func256 [Fb,Fb] [Fb] F97
def Q7(b:Nat)(a:A5):Option A5:=Ab (vG b a) λc=>iB (!c) (Ac [])<|some a
def u5:=bQ [B54] Tryz.func192 [y3] [y3] Q7
def R96(fu:Nat):=sP (bs [] fu) fu Tryz.func295 ⟨[.Ae Kg],[(0, .v 0 Kg)],[],0⟩ ⟨[.Ae Kg],[(0, .AH 0)],[(0, .row 116 0)],1⟩ 1 [] (pt:=lg [(2,[.own 2 116 Px])])
def B96(fu:Nat):=C2 (R96 fu)
abbrev F99(fu:Nat)(x:List (Int×Int×Int)):Option (List (Int×Int×Int)):=(R96 fu).1 x
theorem d99n(fu:Nat):F99 fu []=Ac []:=by kernel_rfl
theorem d99c(fu:Nat)(x:Int×Int×Int)(l:List (Int×Int×Int)):F99 fu (x::l)=Ag (0+(x::l).length<=Ai) (Ac (x::l)):=by kernel_rfl
def Zb(b:Nat)(c:A5):Option A5:=Ad b (λ(a:A5×Nat) e=>iF ((a.2:Int)<c.length) (Ab (idx c a.2) λd=>Ab (F99 b d.2) λf=>Ag (EW a.1+1<=Ai)<|e ((a.1++[(d.1,f)]),a.2+1))<|some a.1) (([],0))
def B97:=bQ [B96] Tryz.func257 [y3] [y3] Zb (la:=lk [(3,⟨[.Ae Je, .nat],(kp [2,3,7,8] [(9, .AD 1 301)]),[(2, .Ah 27 [(1, .AH 3)]),(1, .c 0),(3, .row 119 0)],4⟩)]) (pt:=lg [(2,[.Ey 3 0 119 Ls]),(7,[.M5 2 0])])
def N5(d:Nat):A5×Int->Option Bool|(b,a)=>iF ((0:Int)<=a) (iF (a<(b.length:Int)) (Ab (idx b a) λc=>Ac c.1)<|some Aj)<|some Aj
def B98:=bQ [] Tryz.func298 [y3,Ak] [.bool] N5
def uW(c:Nat):Bool×Bool->Option Bool|(a,b)=>iB a (Ac Bp)<|some b
def B99:=bQ [] Tryz.func259 [.bool, .bool] [.bool] uW
def N4(h:Nat):A5×Int×List Bool->Option (List Bool)|(e,c,d)=>iF (c<0) (Ac d)<|iF ((e.length:Int)<=c) (Ac d)<|Ab (idx e c) λf=>Ad h (λ(b:List Bool×Nat) g=>iF ((b.2:Int)<f.2.length) (Ab (idx f.2 b.2) λa=>Ag ((0:Int)<=a.1/\a.1<(↑256:Int))<|Ag (0+aC a.1*1<256)<|iF (a.2.1<255) (Aa .u8 (a.2.1+1)<|Ag ((0:Int)<=a.2.1+1/\a.2.1+1< ↑256)<|Ag (0+aC (a.2.1+1)*1<256)<|g (((lD b.1 (0+aC a.1*1) Bp).set (0+aC (a.2.1+1)*1) Bp),b.2+1))<|g ((b.1.set (0+aC a.1*1) Bp),b.2+1))<|some b.1) ((d,0))
def vj:=bP [] Tryz.func299 ⟨[.Ae y3, .Ae Ak, .Ae (.ar 256 .bool)],[(0, .v 0 y3),(1, .v 1 Ak),(2, .loc 0 0)],[(0, .Ah 276 [(256, .v 2 (.ar 256 .bool))])],1⟩ ⟨[.Ae (.ar 256 .bool)],[],[(0, .Ah 276 [(256, .v 0 (.ar 256 .bool))])],1⟩ 0 [] N4 (la:=lk [(3,⟨[.Ae (.ar 256 .bool), .nat],(kp [2,22,23] [(24, .AD 1 301)]),[(0, .Ah 276 [(256, .v 0 (.ar 256 .bool))])],2⟩)])
def N3(h:Nat):A5×Int×Int->Option Int|(d,b,e)=>iF (b<0) (Ac ((-1:Int)))<|iF ((d.length:Int)<=b) (Ac ((-1:Int)))<|Ab (idx d b) λf=>Ad h (λ(a:Nat) g=>iF ((a:Int)<f.2.length) (Ab (idx f.2 a) λc=>iF (c.1<=e) (iF (e<=c.2.1) (Ac c.2.2)<|g (a+1))<|g (a+1))<|some ((-1:Int))) (0)
def vi:=bQ [] Tryz.func300 [y3,Ak,NO] [Ak] N3 (la:=lk [(4,⟨[.nat],(kp [2,23,24] [(25, .AD 0 400)]),[],1⟩)])
def uV(e:Nat):(List (Int×Int))×Int×Int->Option Int|(b,c)=>Ad e (λ(a:Nat) f=>iF ((a:Int)<b.length) (Ab (idx b a) λd=>iF (c.1::[c.2]=d.1::[d.2]) (Ac ((a:Int)))<|f (a+1))<|some ((-1:Int))) (0)
def B102:=bQ [] Tryz.func297 [BI,Ew] [Ak] uV (la:=lk [(2,⟨[.nat],(kp [0,3,7] [(8, .AD 0 200)]),[(0, .c 0)],1⟩)])
def Za(d:Nat):(Int×Int)×List (Int×Int)->Option (Int×List (Int×Int))|(b,a)=>Ab (uV d (a,b)) λc=>iF (c<0) (Ag (EW a+1<=Ai)<|some (((a.length:Int),(a++[b]))))<|some (c,a)
def vh:=bP [B102] Tryz.func296 ⟨[.Ae Ew, .Ae BI],[(0, .v 0 Ew),(1, .loc 0 0)],[(0, .Ah 273 [(1, .AH 1)]),(1, .row 272 1)],2⟩ ⟨[.Ae Ak, .Ae BI],[(0, .v 0 Ak)],[(0, .Ah 273 [(1, .AH 2)]),(2, .row 272 1)],3⟩ 1 [1] Za
def yw(b:Nat):A5×A5->Option A5|(k,l)=>Ab (Q7 b k) λf=>Ab (Q7 b l) λg=>Ad b (λ(c:List (Int×Int)×A5×Nat) m=>iF ((c.2.2:Int)<c.1.length) (Ab (idx c.1 c.2.2) λd=>Ab (N5 b (f,d.1)) λn=>Ab (N5 b (g,d.2)) λo=>Ab (uW b (n,o)) λp=>Ab (N4 b (f,d.1,(lD (Uh 256 Aj) 0 Bp))) λq=>Ab (N4 b (g,d.2,q)) λr=>Ad b (λ(a:List (Int×Int)×List (Int×Int×Int)×Int) h=>iF (a.2.2<256) (Ag ((0:Int)<=a.2.2/\a.2.2<(↑256:Int))<|Ab (idx r (↑(0+aC a.2.2*1):Int)) λs=>iB s (Aa .u8 a.2.2<|Aa .u8 a.2.2<|Ab (N3 b (f,d.1,a.2.2)) λt=>Aa .u8 a.2.2<|Ab (N3 b (g,d.2,a.2.2)) λu=>Ab (Za b ((t,u),a.1)) λe=>Ag (EW a.2.1+1<=Ai)<|Aa .i64 (((a.2.1++[(a.2.2,0,e.1)]).length:Int)-1)<|Aa .u8 a.2.2<|Ab (idx (a.2.1++[(a.2.2,0,e.1)]) (((a.2.1++[(a.2.2,0,e.1)]).length:Int)-1)) λi=>Aa .i64 (a.2.2+1)<|h (e.2,((a.2.1++[(a.2.2,0,e.1)]).set (aC (((a.2.1++[(a.2.2,0,e.1)]).length:Int)-1)) (i.1,a.2.2,i.2.2)),(a.2.2+1)))<|Aa .i64 ((a.2.1.length:Int)-1)<|Aa .u8 a.2.2<|Ab (idx a.2.1 ((a.2.1.length:Int)-1)) λj=>Aa .i64 (a.2.2+1)<|h (a.1,(a.2.1.set (aC ((a.2.1.length:Int)-1)) (j.1,a.2.2,j.2.2)),(a.2.2+1)))<|Ag (EW c.2.1+1<=Ai)<|m ((a.1,(c.2.1++[(p,a.2.1)]),c.2.2+1))) ((c.1,[],0)))<|Ab (oa b c.2.1) λv=>Ac v.1) (([(0,0)],[],0))
def B104:=bP [u5,B49,B99,vh,B98,vj,vi] Tryz.func258 ⟨[.Ae y3, .Ae y3],[(0, .v 0 y3),(1, .v 1 y3),(2, .AK 259 [] [])],[],0⟩ ⟨[.Ae y3],[(0, .v 0 y3)],[],0⟩ 1 [] yw (la:=lk [(6,⟨[.Ae BI, .Ae Je, .nat],(kp [2,3,4,6,7,8] [(9, .AH 5),(10, .AD 2 602)]),[(4, .Ah 273 [(1, .AH 3)]),(3, .row 272 0),(2, .c 0),(1, .c 0),(0, .c 0),(5, .row 119 1)],6⟩),(14,⟨[.Ae BI, .Ae Kg, .Ae Ak],(kp [2,3,4,6,7,8,9,10,11,12,13] [(54, .v 2 Ak)]),[(8, .c 0),(7, .Ah 119 [(1, .Am),(1, .AH 9)]),(6, .c 0),(5, .c 0),(4, .Ah 273 [(1, .AH 3)]),(3, .row 272 0),(2, .c 0),(1, .c 0),(0, .c 0),(9, .row 116 1)],10⟩)]) (pr:=lg [(21,[.fz 9])]) (pt:=lg [(5,[.own 9 119 Ls]),(13,[.Ey 12 1 116 Px])])
def Vu(a:Nat):A5×A5->Option A5|(b,c)=>iF ((b.length:Int)=0) (Ab (Q7 a c) λd=>Ab (Zb a d) Ac)<|iF ((c.length:Int)=0) (Ab (Q7 a b) λf=>Ab (Zb a f) Ac)<|Ab (yw a (b,c)) Ac
def zT:=bQ [u5,B97,B104] Tryz.func206 [y3,y3] [y3] Vu
def uU(a:Nat):FC×FC->Option FC|(d,e)=>Ab (n_ a d) λb=>Ab (n_ a e) λc=>Ab (vF a (b.1,c.1)) λf=>Ab (vF a (b.2.1,c.2.1)) λg=>Ab (vF a (b.2.2.1,c.2.2.1)) λh=>Ab (F97 a (b.2.2.2.1,c.2.2.2.1)) λi=>Ab (Vu a (b.2.2.2.2,c.2.2.2.2)) λj=>Ac (f,g,h,i,j)
def B106:=bP [B90,zT,B91,B94] Tryz.func254 ⟨[.Ae y8, .Ae y8],[(0, .v 0 y8),(1, .v 1 y8),(2, .AK 255 [] []),(3, .AK 256 [] []),(4, .AK 206 [] [])],[],0⟩ ⟨[.Ae y8],[(0, .v 0 y8)],[],0⟩ 1 [] uU
def uT(a:Nat):FC×FC->Option FC|(b,c)=>Ab (uU a (b,c)) Ac
def B107:=bQ [B106] Tryz.func203 [y8,y8] [y8] uT
def uS(a:Nat)(b:FC):Option FC:=Ab (uT a (b,Aj,Aj,Aj,([],[]),[])) Ac
def B108:=bQ [B107] Tryz.func147 [y8] [y8] uS
def eX(c:Nat):(Int×Int)×Int->Option Int|(a,b)=>iF ((0:Int)<a.1) (Ac a.1)<|iF (a.2<0) (Ac a.2)<|some b
def B109:=bQ [] Tryz.func141 [Ew,Ak] [Ak] eX
def Vt(c:Nat):Int×Int->Option Bool|(a,b)=>Aa .i64 ((0:Int)-a)<|Aa .i64 (if(0:Int)-a>a then(0:Int)-a else a)<|Aa .i64 ((0:Int)-b)<|Aa .i64 (if(0:Int)-b>b then(0:Int)-b else b)<|iF ((if(0:Int)-a>a then(0:Int)-a else a)<if(0:Int)-b>b then(0:Int)-b else b) (Ac Bp)<|iF ((if(0:Int)-a>a then(0:Int)-a else a)=if(0:Int)-b>b then(0:Int)-b else b) (Ac (Di (b<a)))<|some Aj
def zS:=bQ [] Tryz.func140 [Ak,Ak] [.bool] Vt
def eW(d:Nat):Int×Bool×Int->Option (Bool×Int)|(a,b,c)=>iB (!b) (Ac ((Bp,a)))<|Ab (Vt d (a,c)) λe=>iB e (Ac ((Bp,a)))<|some (b,c)
def B111:=bP [zS] Tryz.func139 ⟨[.Ae Ak, .Ae .bool, .Ae Ak],[(0, .v 0 Ak),(1, .loc 0 0),(2, .loc 1 0)],[(0, .Ah 4 [(1, .v 1 .bool)]),(1, .Ah 2 [(1, .v 2 Ak)])],2⟩ ⟨[.Ae .bool, .Ae Ak],[],[(0, .Ah 4 [(1, .v 0 .bool)]),(1, .Ah 2 [(1, .v 1 Ak)])],2⟩ 0 [] eW
def Vs(a:Nat)(h:Bc):Option (Int×Bool):=Ab (Xb a h) λd=>Ad a (λ(b:Int×Bool×Nat) i=>iF ((b.2.2:Int)<d.1.length) (Ab (idx d.1 b.2.2) λj=>Ab (eX a (j,0)) λe=>Aa .i64 (e*10000)<|Ab (eW a ((e*10000),b.2.1,b.1)) λf=>i (f.2,f.1,b.2.2+1))<|Ad a (λ(c:Int×Bool×Nat) k=>iF ((c.2.2:Int)<d.2.length) (Ab (idx d.2 c.2.2) λl=>Ab (eX a (l,1)) λm=>Ab (eW a (m,c.2.1,c.1)) λg=>k (g.2,g.1,c.2.2+1))<|some ((c.1,c.2.1))) ((b.1,b.2.1,0))) ((0,Aj,0))
def zR:=bQ [zf,B111,B109] Tryz.func100 [Fb] [Ak, .bool] Vs (la:=lk [(5,⟨[.Ae Ak, .Ae .bool, .nat],(kp [4,5,6,7,16,17] [(18, .AD 2 502)]),[(2, .Ah 2 [(1, .v 0 Ak)]),(3, .Ah 4 [(1, .v 1 .bool)]),(1, .c 0)],4⟩),(10,⟨[.Ae Ak, .Ae .bool, .nat],(kp [5,6,7,29,30] [(31, .AD 2 1002)]),[(2, .Ah 2 [(1, .v 0 Ak)]),(3, .Ah 4 [(1, .v 1 .bool)])],4⟩)])
def yu(b:Nat)(a:A5):Option A5:=Ac a
def B113:=bP [] Tryz.func191 ⟨[.Ae y3],[(0, .v 0 y3)],[],0⟩ ⟨[.Ae y3],[(0, .AK 246 [] [0])],[(0, .Ah 27 [(1, .v 0 y3)])],1⟩ 1 [] yu
def uR(d:Nat):A5×List Bool->Option (List Bool)|(c,g)=>Ag (EW c<=Ai)<|Ad d (λ(a:List Bool×Nat) h=>iF ((a.2:Int)<c.length) (Ab (idx c a.2) λe=>Ad d (λ(b:List Bool×Nat) f=>iF ((b.2:Int)<e.2.length) (Ab (idx e.2 b.2) λi=>Ab (idx b.1 a.2) λj=>iB j (Ab (idx b.1 a.2) λl=>f ((b.1.set a.2 Bp),b.2+1))<|Ab (idx g i.2.2) λk=>Ab (idx b.1 a.2) λm=>f ((b.1.set a.2 k),b.2+1))<|h ((b.1,a.2+1))) ((a.1,0)))<|some a.1) (((Uh (EW c) Aj),0))
def B114:=bQ [] Tryz.func247 [y3,El] [El] uR (la:=lk [(3,⟨[.Ae El, .nat],(kp [1,2,5,15] [(16, .AD 1 301)]),[(1, .row 4 0),(0, .c 0)],2⟩),(6,⟨[.Ae El, .nat],(kp [1,2,5,6,15,16,24,25] [(26, .AD 1 601)]),[(1, .row 4 0),(0, .c 0)],2⟩)]) (pt:=lg [(11,[.fz 4])])
def uQ(c:Nat):List Bool×Bool->Option Int|(b,d)=>Ad c (λ(a:Nat) e=>iF ((a:Int)<b.length) (Ab (idx b a) λf=>iB (d==f) (Ac ((a:Int)))<|e (a+1))<|some ((-1:Int))) (0)
def B115:=bQ [] Tryz.func290 [El, .bool] [Ak] uQ (la:=lk [(2,⟨[.nat],(kp [0,1,7] [(8, .AD 0 200)]),[],0⟩)])
def eV(a:Nat):List Bool×Bool->Option Bool|(b,c)=>Ab (uQ a (b,c)) λd=>Ac (Di ((0:Int)<=d))
def B116:=bQ [B115] Tryz.func248 [El, .bool] [.bool] eV
def m_:A':=⟨[.Ae Ak, .Ae Ak, .Ae Py, .Ae y3, .Ae vL],[(0, .v 0 Ak),(1, .v 1 Ak),(2, .v 2 Py),(3, .loc 0 0),(4, .loc 1 0),(5, .loc 2 0),(6, .loc 3 0)],[(0, .Ah 72 [(1, .mp 4)]),(1, .Ah 27 [(1, .v 3 y3)]),(2, .Ah 237 [(1, .AH 5)]),(3, .Ah 267 [(1, .AK 291 [] [0,1,2,3])]),(5, .row 75 4)],6⟩
abbrev n9:Type:=GrJ 291 m_ 4 [.str] Bp
def xU(n:Nat):n9:=Nat.rec (motive:=λ_=>n9) (tJ Tryz.func291) (λfu g0=>sJ [xF g0] fu Tryz.func291 m_ 4 [.str] Bp (la:=lk [(4,⟨[.nat],(kp [1,2,5,6,25,26] [(27, .AD 0 400)]),[(3, .c 0),(2, .c 0),(5, .c 0),(1, .c 0),(0, .c 0)],6⟩),(7,⟨[.Ae Ak],(kp [1,2,5,6,12] [(13, .v 0 Ak),(25, .Am),(26, .Am),(27, .Am)]),[(6, .c 0),(3, .c 0),(2, .c 0),(5, .c 0),(1, .c 0),(0, .c 0)],7⟩)]) (ct:=lz [(9,15)])) n
def B117(fu:Nat):=xF (xU fu)
abbrev Y_(fu:Nat)(x:(Int)×(Int)×(List Int)×A5×(List (List Bool))):Option (List Aq×Option Bool):=(xU fu).1 x
def uX(f:Nat)(l:Int)(b:Int)(a:List Int)(g:A5)(h:List (List Bool)):Option (List Aq×Option Bool):=iF (b=0) (Ac (([(List.map (λn=>UInt8.ofNat (aC n)) a)],Ac Bp)))<|Ab (idx g l) λi=>Ad f (λ(d:Nat) j=>iF ((d:Int)<i.2.length) (Ab (idx i.2 d) λe=>Ad f (λ(c:Int) m=>iF (c<=e.2.1) (Aa .i64 (b-1)<|Ab (idx h (b-1)) λo=>Ab (idx o e.2.2) λp=>iB p (Aa .i64 (b-1)<|Ag ((a.length:Int)=a.length/\(a.length:Int)=a.length)<|Aa .u8 c<|Ag (EW a+1<=Ai/\0<1)<|Ab (Y_ f (e.2.2,(b-1),(a++[c]),g,h)) λk=>xo (λb10=>iB (!b10) (Ac (([],Ac Aj)))<|Aa .i64 (c+1)<|m ((c+1))) (k.1) (k.2))<|j (d+1))<|j (d+1)) (e.1))<|some (([],Ac Bp))) (0)
theorem d120(fu x0 x1 x2 x3 x4):Y_ (fu+1) (x0,x1,x2,x3,x4)=uX fu x0 x1 x2 x3 x4:=by kernel_rfl
def Y9(c:Nat):A5×Nat×Nat×Int×List (List Bool)->Option (List Aq×Option Bool)|(d,e,f,g,a)=>Ag ((0:Int)<=0/\(0:Int)<f)<|Ab (idx a ((e:Int)+0)) λh=>Ab (idx h 0) λi=>iB (!i) (Ac (([],Ac Bp)))<|Ab (Y_ c (0,g,[],d,a)) λb=>xo (λb4=>Ac (([],Ac b4))) (b.1) b.2
def B118:=bJ [B117] Tryz.func249 ⟨[.Ae y3, .nat, .nat, .Ae Ak, .Ae vL],[(0, .v 0 y3),(1, .px [0] (.sub 1 2 El)),(2, .v 3 Ak),(3, .mp 1),(4, .AH 0)],[(0, .row 75 4)],2⟩ 1 [.str] Bp Y9
def TT(b:Nat)(c:A5):Option (List Aq×Bool):=Ad b (λ(d:List Bool×Nat) i=>iF ((d.2:Int)<c.length) (Ab (idx c d.2) λj=>Ag (EW d.1+1<=Ai)<|i ((d.1++[j.1]),d.2+1))<|Ag (0+1<=Ai)<|Ad b (λ(a:List (List Bool)×Int) f=>iF ((0:Int)<c.length) (iF ((0:Int)<a.2) (Aa .i64 (a.2-1)<|Ab (idx a.1 (a.2-1)) λk=>Ab (uR b (c,k)) λe=>Ag (EW a.1+1<=Ai)<|Ab (idx (a.1++[e]) a.2) λl=>Ab (eV b (l,Bp)) λm=>iB (!m) (Ac (([],Bp)))<|Aa .i64 (a.2+1)<|Aa .i64 (a.2+1)<|Ag (((0:Int)<=a.2/\a.2<a.2+1)/\a.2+1=a.2+1/\a.2+1<=(a.1++[e]).length)<|Ab (Y9 b (c,aC a.2,aC (a.2+1-a.2),a.2,(a.1++[e]))) λg=>rA (λb11=>iB (!b11) (Ac (([],Bp)))<|Aa .i64 (a.2+1)<|f (((a.1++[e]),(a.2+1)))) (g.1) (g.2))<|Ab (idx a.1 a.2) λn=>Ab (eV b (n,Bp)) λo=>iB (!o) (Ac (([],Bp)))<|Aa .i64 (a.2+1)<|Aa .i64 (a.2+1)<|Ag (((0:Int)<=a.2/\a.2<a.2+1)/\a.2+1=a.2+1/\a.2+1<=a.1.length)<|Ab (Y9 b (c,aC a.2,aC (a.2+1-a.2),a.2,a.1)) λh=>rA (λb15=>iB (!b15) (Ac (([],Bp)))<|Aa .i64 (a.2+1)<|f ((a.1,(a.2+1)))) (h.1) (h.2))<|some (([],Bp))) (([d.1],0))) (([],0))
def B119:=bI [B114,B116,B118] Tryz.func246 ⟨[.Ae y3],[(0, .Am),(1, .loc 0 0)],[(0, .Ah 27 [(1, .v 0 y3)])],1⟩ 0 [.str] TT (la:=lk [(3,⟨[.Ae El, .nat],(kp [0,1,3] [(4, .AH 2),(9, .Am),(10, .AD 1 301)]),[(0, .c 0),(2, .row 4 0)],3⟩),(9,⟨[.Ae (.sl El), .Ae Ak],(kp [0,1] [(3, .AH 4),(6, .v 1 Ak)]),[(4, .row 75 0),(0, .c 0)],5⟩)]) (pr:=lg [(7,[.fz 4])]) (pt:=lg [(2,[.own 4 4 .bool])]) (ct:=lz [(13,18)])
def Y4(c:Nat):A5×Int->Option (List Aq)|(e,a)=>iF (a<1) (Ac [])<|Ab (Q7 c e) λf=>Ab (yu c f) λg=>Ab (TT c g) λd=>IC (λ(y4:Aq) (b:List Aq) h=>Ag (EW b+1<=Ai)<|Aa .i64 (if(1000:Int)<a then(1000:Int)else a)<|iF (((b++[y4]).length:Int)=if(1000:Int)<a then(1000:Int)else a) (Ac ((b++[y4])))<|h ((b++[y4]))) (λi=>Rg d.2<|some i) (d.1) ([])
def B120:=bQ [B113,u5,B119] Tryz.func142 [y3,Ak] [Lt] Y4 (la:=lk [(5,⟨[.Ae Lt],(kp [3,4,5,12] []),[(0, .c 0),(1, .c 0),(2, .Ah 45 [(1, .AH 5)]),(5, .row 9 0)],6⟩)]) (pt:=lg [(4,[.Ey 5 0 9 .str]),(8,[.fz 4])])
def Vr(b:Nat)(c:A5):Option (Aq×Bool):=Ab (Y4 b (c,1)) λa=>iF ((a.length:Int)=0) (Ac (([],Aj)))<|Ab (idx a 0) λd=>Ac (d,Bp)
def zQ:=bQ [B120] Tryz.func101 [y3] [.str, .bool] Vr
def uP(b:Nat)(e:FC):Option (Int×Int×Aq×List Empty×List (Aq×Empty)×Bool):=Ab (n_ b e) λa=>Ab (Vs b a.2.2.2.1) λc=>Ab (Vr b a.2.2.2.2) λd=>iB a.1 (Ac ((1,0,[],[],[],Bp)))<|iB a.2.1 (Ac ((2,0,[],[],[],Bp)))<|iB a.2.2.1 (Ac ((2,1,[],[],[],Bp)))<|iB c.2 (Ac ((3,c.1,[],[],[],Bp)))<|iB d.2 (Ac ((4,0,d.1,[],[],Bp)))<|some (0,0,[],[],[],Aj)
def B122:=bP [B90,zR,zQ] Tryz.func71 ⟨[.Ae y8],[(0, .v 0 y8)],[],0⟩ ⟨[.Ae Ak, .Ae Ak, .Ae .str, .Ae (.sl (.nm 1)), .Ae (.sl (.st y25)), .Ae .bool],[(0, .sv [(1,0,Ak),(1,1,Ak),(1,2, .str),(1,3,(.sl (.nm 1))),(1,4,(.sl (.st y25)))]),(1, .v 5 .bool)],[],0⟩ 2 [] uP
def Y2(a:Nat)(b:FC):Option Bool:=Ab (uP a b) λc=>Ac (!c.2.2.2.2.2)
def vg:=bQ [B122] Tryz.func49 [y8] [.bool] Y2
def Vq(b:Nat)(a:Vl):Option Bool:=iB (!Vl.any a) (Aa .i64 (((Vl.lists a).length:Int)+((Vl.structs a).length:Int))<|iF (((Vl.lists a).length:Int)+((Vl.structs a).length:Int)=0) (Ab (ya b (Vl.sc a)) λc=>iB c (Ac Bp)<|Ab (Y2 b (Vl.sc a)) Ac)<|some Aj)<|some Aj
def ll:=bQ [B35,vg] Tryz.func23 [BD] [.bool] Vq
def kZ(c:Nat):FC×FC->Option Bool|(a,b)=>iB (a.1==b.1) (iB (a.2.1==b.2.1) (iB (a.2.2.1==b.2.2.1) (Ab (s4 c (a.2.2.2.1.1,b.2.2.2.1.1)) λd=>iB d (Ab (s4 c (a.2.2.2.1.2,b.2.2.2.1.2)) λe=>iB e (Ab (x8 c (a.2.2.2.2,b.2.2.2.2)) Ac)<|some Aj)<|some Aj)<|some Aj)<|some Aj)<|some Aj
def B125:=bQ [B74,B53] Tryz.func112 [y8,y8] [.bool] kZ
def mZ:A':=⟨[.Ae Dq, .Ae Dq],[(0, .v 0 Dq),(1, .v 1 Dq),(2, .AK 59 [] [])],[],0⟩
def mi:A':=⟨[.Ae .bool],[(0, .v 0 .bool)],[],0⟩
def mY:A':=⟨[.Ae Md, .Ae Md],[(0, .v 0 Md),(1, .v 1 Md),(2, .AK 171 [] [])],[],0⟩
def mh:A':=⟨[.Ae .bool],[(0, .v 0 .bool)],[],0⟩
def mX:A':=⟨[.Ae Gt, .Ae Gt],[(0, .v 0 Gt),(1, .v 1 Gt),(2, .AK 173 [] [])],[],0⟩
def mg:A':=⟨[.Ae .bool],[(0, .v 0 .bool)],[],0⟩
abbrev n8:Type:=G9 113 mZ mi 1 []×Gq 171 [ES,ES] [.bool]×G9 170 mY mh 1 []×Gq 173 [FV,FV] [.bool]×G9 172 mX mg 1 []×Gq 115 [BQ,BQ] [.bool]×Gq 80 [BD,BD] [.bool]×Gq 59 [Bq,Bq] [.bool]
def QY(n:Nat):n8:=Nat.rec (motive:=λ_=>n8) (tP Tryz.func113,tQ Tryz.func171,tP Tryz.func170,tQ Tryz.func173,tP Tryz.func172,tQ Tryz.func115,tQ Tryz.func80,tQ Tryz.func59) (λfu ⟨g0,g1,g2,g3,g4,g5,g6,g7⟩=>(sP [De g7] fu Tryz.func113 mZ mi 1 [] (la:=lk [(4,⟨[.nat],(kp [1,2,15,16] [(17, .AD 0 400)]),[],0⟩)]),sQ [De g7] fu Tryz.func171 [ES,ES] [.bool],sP [De g1] fu Tryz.func170 mY mh 1 [] (la:=lk [(4,⟨[.nat],(kp [1,2,15,16] [(17, .AD 0 400)]),[],0⟩)]),sQ (De g7::bs [B53] fu) fu Tryz.func173 [FV,FV] [.bool],sP [De g3] fu Tryz.func172 mX mg 1 [] (la:=lk [(4,⟨[.nat],(kp [1,2,15,16] [(17, .AD 0 400)]),[],0⟩)]),sQ [C2 g2,C2 g4] fu Tryz.func115 [BQ,BQ] [.bool],sQ (C2 g0::De g5::bs [B125,B81] fu) fu Tryz.func80 [BD,BD] [.bool] (la:=lk [(4,⟨[.nat],(kp [2,3,42] [(43, .AD 0 400)]),[(1, .c 0),(0, .c 0)],2⟩),(11,⟨[.nat],(kp [2,3,74] [(75, .AD 0 1100)]),[(1, .c 0),(0, .c 0)],2⟩)]),sQ [De g6] fu Tryz.func59 [Bq,Bq] [.bool])) n
abbrev uO(fu:Nat)(x:(List AE)×(List AE)):Option Bool:=(QY fu).1.1 x
abbrev kY(fu:Nat)(x:(Aq×Int×AE)×(Aq×Int×AE)):Option Bool:=(QY fu).2.1.1 x
abbrev uN(fu:Nat)(x:(List (Aq×Int×AE))×(List (Aq×Int×AE))):Option Bool:=(QY fu).2.2.1.1 x
abbrev kX(fu:Nat)(x:(A5×AE)×(A5×AE)):Option Bool:=(QY fu).2.2.2.1.1 x
abbrev uM(fu:Nat)(x:(List (A5×AE))×(List (A5×AE))):Option Bool:=(QY fu).2.2.2.2.1.1 x
abbrev uL(fu:Nat)(x:BC×BC):Option Bool:=(QY fu).2.2.2.2.2.1.1 x
abbrev eU(fu:Nat)(x:(Vl)×(Vl)):Option Bool:=(QY fu).2.2.2.2.2.2.1.1 x
def zP(fu:Nat):=De (QY fu).2.2.2.2.2.2.2
abbrev NH(fu:Nat)(x:AE×AE):Option Bool:=(QY fu).2.2.2.2.2.2.2.1 x
def D129(c:Nat)(b:List AE)(d:List AE):Option Bool:=iF ((b.length:Int)≠d.length) (Ac Aj)<|Ad c (λ(a:Nat) e=>iF ((a:Int)<b.length) (Ab (idx b a) λf=>Ab (idx d a) λg=>Ab (NH c (f,g)) λh=>iB (!h) (Ac Aj)<|e (a+1))<|some Bp) (0)
theorem d129(fu x0 x1):uO (fu+1) (x0,x1)=D129 fu x0 x1:=by kernel_rfl
def D130(c:Nat)(a:Aq×Int×AE)(b:Aq×Int×AE):Option Bool:=iF (a.1=b.1) (iF (a.2.1=b.2.1) (Ab (NH c (a.2.2,b.2.2)) Ac)<|some Aj)<|some Aj
theorem d130(fu x0 x1):kY (fu+1) (x0,x1)=D130 fu x0 x1:=by kernel_rfl
def D131(c:Nat)(b:List (Aq×Int×AE))(d:List (Aq×Int×AE)):Option Bool:=iF ((b.length:Int)≠d.length) (Ac Aj)<|Ad c (λ(a:Nat) e=>iF ((a:Int)<b.length) (Ab (idx b a) λf=>Ab (idx d a) λg=>Ab (kY c (f,g)) λh=>iB (!h) (Ac Aj)<|e (a+1))<|some Bp) (0)
theorem d131(fu x0 x1):uN (fu+1) (x0,x1)=D131 fu x0 x1:=by kernel_rfl
def zc(a:Nat)(b:A5×AE)(c:A5×AE):Option Bool:=Ab (x8 a (b.1,c.1)) λd=>iB d (Ab (NH a (b.2,c.2)) Ac)<|some Aj
theorem d132(fu x0 x1):kX (fu+1) (x0,x1)=zc fu x0 x1:=by kernel_rfl
def zb(c:Nat)(b:List (A5×AE))(d:List (A5×AE)):Option Bool:=iF ((b.length:Int)≠d.length) (Ac Aj)<|Ad c (λ(a:Nat) e=>iF ((a:Int)<b.length) (Ab (idx b a) λf=>Ab (idx d a) λg=>Ab (kX c (f,g)) λh=>iB (!h) (Ac Aj)<|e (a+1))<|some Bp) (0)
theorem d133(fu x0 x1):uM (fu+1) (x0,x1)=zb fu x0 x1:=by kernel_rfl
def D134(a:Nat)(b:BC)(c:BC):Option Bool:=Ab (uN a (b.1,c.1)) λd=>iB d (Ab (uM a (b.2,c.2)) Ac)<|some Aj
theorem d134(fu x0 x1):uL (fu+1) (x0,x1)=D134 fu x0 x1:=by kernel_rfl
def D135(b:Nat)(a:Vl)(c:Vl):Option Bool:=iB (!Vl.any a==Vl.any c) (Ac Aj)<|Ab (kZ b (Vl.sc a,Vl.sc c)) λh=>iB (!h) (Ac Aj)<|iF (((Vl.lists a).length:Int)≠((Vl.lists c).length:Int)) (Ac Aj)<|iF (((Vl.structs a).length:Int)≠((Vl.structs c).length:Int)) (Ac Aj)<|Ad b (λ(d:Nat) i=>iF ((d:Int)<(Vl.lists a).length) (Ab (idx (Vl.lists a) (d:Int)) λf=>Ab (idx (Vl.lists c) (d:Int)) λg=>iF ((f.1.length:Int)≠g.1.length) (Ac Aj)<|Ab (fq b f) λj=>Ab (fq b g) λk=>Ab (uO b (j,k)) λl=>iB (!l) (Ac Aj)<|i (d+1))<|Ad b (λ(e:Nat) m=>iF ((e:Int)<(Vl.structs a).length) (Ab (idx (Vl.structs a) (e:Int)) λn=>Ab (idx (Vl.structs c) (e:Int)) λo=>Ab (uL b (n,o)) λp=>iB (!p) (Ac Aj)<|m (e+1))<|some Bp) (0)) (0)
theorem d135(fu x0 x1):eU (fu+1) (x0,x1)=D135 fu x0 x1:=by kernel_rfl
def D136(a:Nat)(b:AE)(c:AE):Option Bool:=Ab (eU a (b.1,c.1)) λd=>iB d (Ab (eU a (b.2,c.2)) Ac)<|some Aj
theorem d136(fu x0 x1):NH (fu+1) (x0,x1)=D136 fu x0 x1:=by kernel_rfl
def eT(a:Nat):AE×AE->Option Bool|(b,c)=>Ab (NH a (b,c)) Ac
def ve:=bQ [zP] Tryz.func72 [Bq,Bq] [.bool] eT
def uK(b:Nat):(A5×AE)×AE->Option (Bool×AE)|(c,a)=>Ab (eT b (c.2,a)) λd=>Ac (d,a)
def B135:=bP [ve] Tryz.func205 ⟨[.Ae FV, .Ae Bq],[(0, .v 0 FV),(1, .loc 0 0)],[(0, .Ah 35 [(18, .v 1 Bq)])],1⟩ ⟨[.Ae .bool, .Ae Bq],[(0, .v 0 .bool)],[(0, .Ah 35 [(18, .v 1 Bq)])],1⟩ 1 [] uK
def uJ(d:Nat):(List (A5×AE))×AE->Option (Int×List (A5×AE)×AE)|(b,e)=>Ad d (λ(a:AE×Nat) f=>iF ((a.2:Int)<b.length) (Ab (idx b a.2) λg=>Ab (uK d (g,a.1)) λc=>iB c.1 (Ac (((a.2:Int),b,c.2)))<|f (c.2,a.2+1))<|some (((-1:Int),b,a.1))) ((e,0))
def B136:=bP [B135] Tryz.func204 ⟨[.Ae Gt, .Ae Bq],[(0, .AH 0),(1, .AK 205 [] [1])],[(0, .row 92 0),(1, .Ah 35 [(18, .v 1 Bq)])],2⟩ ⟨[.Ae Ak, .Ae Gt, .Ae Bq],[(0, .v 0 Ak)],[(0, .row 92 1),(1, .Ah 35 [(18, .v 2 Bq)])],2⟩ 1 [] uJ (la:=lk [(2,⟨[.Ae Bq, .nat],(kp [0,1,7] [(8, .AD 1 201)]),[(1, .Ah 35 [(18, .v 0 Bq)]),(0, .c 0)],2⟩)])
def uH(c:Nat):Bool×Bool->Option Bool|(a,b)=>iB a (Ac ((!b)))<|some Aj
def B137:=bQ [] Tryz.func311 [.bool, .bool] [.bool] uH
def yt(b:Nat):A5×A5->Option A5|(k,l)=>Ab (Q7 b k) λf=>Ab (Q7 b l) λg=>Ad b (λ(c:List (Int×Int)×A5×Nat) m=>iF ((c.2.2:Int)<c.1.length) (Ab (idx c.1 c.2.2) λd=>Ab (N5 b (f,d.1)) λn=>Ab (N5 b (g,d.2)) λo=>Ab (uH b (n,o)) λp=>Ab (N4 b (f,d.1,(lD (Uh 256 Aj) 0 Bp))) λq=>Ab (N4 b (g,d.2,q)) λr=>Ad b (λ(a:List (Int×Int)×List (Int×Int×Int)×Int) h=>iF (a.2.2<256) (Ag ((0:Int)<=a.2.2/\a.2.2<(↑256:Int))<|Ab (idx r (↑(0+aC a.2.2*1):Int)) λs=>iB s (Aa .u8 a.2.2<|Aa .u8 a.2.2<|Ab (N3 b (f,d.1,a.2.2)) λt=>Aa .u8 a.2.2<|Ab (N3 b (g,d.2,a.2.2)) λu=>Ab (Za b ((t,u),a.1)) λe=>Ag (EW a.2.1+1<=Ai)<|Aa .i64 (((a.2.1++[(a.2.2,0,e.1)]).length:Int)-1)<|Aa .u8 a.2.2<|Ab (idx (a.2.1++[(a.2.2,0,e.1)]) (((a.2.1++[(a.2.2,0,e.1)]).length:Int)-1)) λi=>Aa .i64 (a.2.2+1)<|h (e.2,((a.2.1++[(a.2.2,0,e.1)]).set (aC (((a.2.1++[(a.2.2,0,e.1)]).length:Int)-1)) (i.1,a.2.2,i.2.2)),(a.2.2+1)))<|Aa .i64 ((a.2.1.length:Int)-1)<|Aa .u8 a.2.2<|Ab (idx a.2.1 ((a.2.1.length:Int)-1)) λj=>Aa .i64 (a.2.2+1)<|h (a.1,(a.2.1.set (aC ((a.2.1.length:Int)-1)) (j.1,a.2.2,j.2.2)),(a.2.2+1)))<|Ag (EW c.2.1+1<=Ai)<|m ((a.1,(c.2.1++[(p,a.2.1)]),c.2.2+1))) ((c.1,[],0)))<|Ab (oa b c.2.1) λv=>Ac v.1) (([(0,0)],[],0))
def B138:=bP [u5,B49,vh,B98,vj,vi,B137] Tryz.func258 ⟨[.Ae y3, .Ae y3],[(0, .v 0 y3),(1, .v 1 y3),(2, .AK 311 [] [])],[],0⟩ ⟨[.Ae y3],[(0, .v 0 y3)],[],0⟩ 1 [] yt (la:=lk [(6,⟨[.Ae BI, .Ae Je, .nat],(kp [2,3,4,6,7,8] [(9, .AH 5),(10, .AD 2 602)]),[(4, .Ah 273 [(1, .AH 3)]),(3, .row 272 0),(2, .c 0),(1, .c 0),(0, .c 0),(5, .row 119 1)],6⟩),(14,⟨[.Ae BI, .Ae Kg, .Ae Ak],(kp [2,3,4,6,7,8,9,10,11,12,13] [(54, .v 2 Ak)]),[(8, .c 0),(7, .Ah 119 [(1, .Am),(1, .AH 9)]),(6, .c 0),(5, .c 0),(4, .Ah 273 [(1, .AH 3)]),(3, .row 272 0),(2, .c 0),(1, .c 0),(0, .c 0),(9, .row 116 1)],10⟩)]) (pr:=lg [(21,[.fz 9])]) (pt:=lg [(5,[.own 9 119 Ls]),(13,[.Ey 12 1 116 Px])])
def YZ(a:Nat):A5×A5->Option A5|(b,c)=>iF ((b.length:Int)=0) (Ac [])<|iF ((c.length:Int)=0) (Ab (Q7 a b) λd=>Ab (Zb a d) Ac)<|Ab (yt a (b,c)) Ac
def zO:=bQ [u5,B97,B138] Tryz.func262 [y3,y3] [y3] YZ
def eS(b:Nat)(a:Int):Option Bool:=Ac (Di (a≠a))
def B140:=bQ [] Tryz.func312 [Ak] [.bool] eS
def Vp(c:Nat):Int×Int->Option Int|(a,b)=>Ab (eS c a) λe=>Ab (eS c b) λd=>iB e (iB d (Ac 0)<|some ((-1:Int)))<|iB d (Ac 1)<|iF (a<b) (Ac ((-1:Int)))<|iF (b<a) (Ac 1)<|some 0
def vd:=bQ [B140] Tryz.func264 [Ak,Ak] [Ak] Vp
def uG(b:Nat)(a:Aq):Option Bool:=Ac (Bool.rec Bp Aj (Di (a=a)))
def B142:=bQ [] Tryz.func313 [.str] [.bool] uG
def YY(c:Nat):Aq×Aq->Option Int|(a,b)=>Ab (uG c a) λe=>Ab (uG c b) λd=>iB e (iB d (Ac 0)<|some ((-1:Int)))<|iB d (Ac 1)<|iB (gq a b) (Ac ((-1:Int)))<|iB (!(gq a b||decide (a=b))) (Ac 1)<|some 0
def zN:=bQ [B142] Tryz.func265 [.str, .str] [Ak] YY
def eR(d:Nat)(b:List Int):Option Int:=Ad d (λ(a:Nat) e=>iF ((a:Int)<b.length) (Ab (idx b a) λc=>iF (c≠0) (Ac c)<|e (a+1))<|some 0) (0)
def B144:=bQ [] Tryz.func263 [FU] [Ak] eR (la:=lk [(3,⟨[.nat],(kp [3,6,7] [(8, .AD 0 300)]),[],0⟩)])
def YX(a:Nat):A5×A5->Option Int|(f,g)=>Ab (Q7 a f) λd=>Ab (Q7 a g) λe=>Ab (YZ a (d,e)) λh=>Ab (Vr a h) λb=>Ab (YZ a (e,d)) λi=>Ab (Vr a i) λc=>iB (!b.2) (iB (!c.2) (Ac 0)<|iB (!c.2) (Ac ((-1:Int)))<|iB (!b.2) (Ac 1)<|Ab (Vp a ((b.1.length:Int),(c.1.length:Int))) λj=>Ab (YY a (b.1,c.1)) λk=>Ab (eR a [j,k]) Ac)<|iB (!c.2) (Ac ((-1:Int)))<|iB (!b.2) (Ac 1)<|Ab (Vp a ((b.1.length:Int),(c.1.length:Int))) λm=>Ab (YY a (b.1,c.1)) λn=>Ab (eR a [m,n]) Ac
def vb:=bQ [zQ,u5,zO,B144,vd,zN] Tryz.func209 [y3,y3] [Ak] YX
def kW(a:Nat):(A5×AE)×A5×AE->Option Int|(b,c)=>Ab (YX a (b.1,c.1)) Ac
def B146:=bQ [vb] Tryz.func208 [FV,FV] [Ak] kW
def D150(fu:Nat)(x0 x1:Int)(x2:List (A5×AE)):=Su (λx y=>kW fu (x,y)) fu x0 x1 x2
abbrev yr fu:=u3 (D150 fu)
def B147:=bP [B146] Tryz.func301 ⟨[.Ae Ak, .Ae Ak, .Ae Gt],[(0, .AH 0),(1, .v 0 Ak),(2, .v 1 Ak),(3, .AK 208 [] [])],[(0, .row 92 2)],1⟩ ⟨[.Ae Gt],[],[(0, .row 92 0)],1⟩ 0 [] yr (la:=lk [(1,⟨[.Ae Gt, .Ae Ak],(kp [0,1,2,3] [(8, .v 1 Ak)]),[(0, .row 92 0)],1⟩),(4,⟨[.Ae Gt, .Ae Ak],(kp [0,1,2,3,8] [(9, .v 1 Ak)]),[(0, .row 92 0)],1⟩)])
def uF(c:Nat):Int×Int×Int×List (A5×AE)->Option (List (A5×AE))|(a,b,d,e)=>Ad c (λ(g:PUnit) h=>Aa .i64 (b-a)<|iF (b-a<=12) (Ab (yr c (a,b,e)) Ac)<|iF (d=0) C7<|none) (())
def B148:=bP [B147] Tryz.func260 ⟨[.Ae Ak, .Ae Ak, .Ae Ak, .Ae Gt],[(0, .AH 0),(1, .v 0 Ak),(2, .v 1 Ak),(3, .v 2 Ak),(4, .AK 208 [] [])],[(0, .row 92 3)],1⟩ ⟨[.Ae Gt],[],[(0, .row 92 0)],1⟩ 0 [] uF (la:=lk [(2,⟨[],(kp [0,1,2,3,4,10,11] []),[(0, .c 0)],1⟩)])
def kV(b:Nat)(a:List (A5×AE)):Option (List (A5×AE)):=Ab (s5 b (Int.ofNat (EW a %w8 (18446744073709551616:Int)))) λc=>Ab (uF b (0,(a.length:Int),c,a)) Ac
def B149:=bP [B148,B62] Tryz.func207 ⟨[.Ae Gt],[(0, .AH 0),(1, .AK 208 [] [])],[(0, .row 92 0)],1⟩ ⟨[.Ae Gt],[],[(0, .row 92 0)],1⟩ 0 [] kV
def YW(f:Nat):BP×Int->Option (AE×Bool)|(a,b)=>iF ((0:Int)<=b) (iF (b<(a.1.length:Int)) (Ab (idx a.1 b) λc=>Ac ((c,Bp)))<|iF ((0:Int)<=b) (iF ((0:Int)<a.2.length) (Ab (idx a.2 0) λd=>Ac ((d,Bp)))<|some (((Vl.mk Aj (Aj,Aj,Aj,([],[]),[]) [] [],Vl.mk Aj (Aj,Aj,Aj,([],[]),[]) [] []),Aj)))<|some (((Vl.mk Aj (Aj,Aj,Aj,([],[]),[]) [] [],Vl.mk Aj (Aj,Aj,Aj,([],[]),[]) [] []),Aj)))<|iF ((0:Int)<=b) (iF ((0:Int)<a.2.length) (Ab (idx a.2 0) λe=>Ac ((e,Bp)))<|some (((Vl.mk Aj (Aj,Aj,Aj,([],[]),[]) [] [],Vl.mk Aj (Aj,Aj,Aj,([],[]),[]) [] []),Aj)))<|some ((Vl.mk Aj (Aj,Aj,Aj,([],[]),[]) [] [],Vl.mk Aj (Aj,Aj,Aj,([],[]),[]) [] []),Aj)
def B150:=bQ [] Tryz.func213 [Cc,Ak] [Bq, .bool] YW
def YV(c:Nat):Bool×Bool->Option Bool|(a,b)=>iB a (Ac ((!b)))<|some Aj
def B151:=bQ [] Tryz.func274 [.bool, .bool] [.bool] YV
def yq(a:Nat)(_:Unit):Option Bc:=Ac ([((-100000000000:Int),100000000000)],[])
def B152:=bQ [] Tryz.func340 [] [Fb] yq (pt:=lg [(1,[.M5 0 0])])
def Vo(a:Nat)(_:Unit):Option Bc:=Ab (yq a ()) λb=>Ac (b.1,[((-999999999999999:Int),999999999999999)])
def zM:=bQ [B152] Tryz.func271 [] [Fb] Vo (pt:=lg [(3,[.M5 0 1])])
def uE(c:Nat):(List (Int×Int))×Int×Int->Option ((Int×Int)×List (Int×Int))|(a,b)=>Ac (b,a)
def B154:=bP [] Tryz.func389 ⟨[.Ae BI, .Ae Ew],[(0, .v 0 BI),(1, .v 1 Ew),(2, .AK 189 [] []),(3, .AK 390 [] [])],[],0⟩ ⟨[.Ae Ew, .Ae BI],[(0, .AK 405 [] [0,1,2,3])],[(0, .Ah 88 [(2, .v 0 Ew)]),(1, .Ah 22 [(1, .v 1 BI)]),(2, .Ah 207 [(1, .AK 390 [] [])]),(3, .Ah 207 [(1, .AK 189 [] [])])],4⟩ 1 [] uE
def uD(b:Nat)(a:Int):Option Int:=Aa .i64 (a-1)<|some (a-1)
def B155:=bQ [] Tryz.func390 [Ak] [Ak] uD
def uC(b:Nat):(Int×Int)×List (Int×Int)->Option (List (Int×Int)×Bool)|(c,e)=>Ad b (λ(a:Int×Nat) f=>iF ((a.2:Int)<e.length) (Ab (idx e a.2) λd=>Ab (uD b d.1) λg=>iF (a.1<=g) (IG ((a.1,g)) (Ac (([],Bp))) (Ab (xZ b d.2) λh=>f ((h,a.2+1))))<|Ab (xZ b d.2) λi=>f (i,a.2+1))<|iF (a.1<=c.2) (IG ((a.1,c.2)) (Ac (([],Bp))) (Ac (([],Bp))))<|some (([],Bp))) ((c.1,0))
def B156:=bI [B69,B155] Tryz.func405 ⟨[.Ae Ew, .Ae BI],[(0, .Am),(1, .loc 0 0),(2, .loc 1 0),(3, .loc 2 0),(4, .loc 3 0)],[(0, .Ah 88 [(2, .v 0 Ew)]),(1, .Ah 22 [(1, .v 1 BI)]),(2, .Ah 207 [(1, .AK 390 [] [])]),(3, .Ah 207 [(1, .AK 189 [] [])])],4⟩ 0 [Ew] uC (la:=lk [(2,⟨[.Ae Ak, .nat],(kp [0,1,3,4] [(6, .v 0 Ak),(13, .Am),(14, .Am),(15, .AD 1 201)]),[(3, .c 0),(2, .c 0),(0, .c 0),(1, .c 0)],5⟩)])
def uB(e:Nat):(Int×Int)×List (Int×Int)->Option (List (Int×Int)×(Int×Int)×List (Int×Int))|(a,b)=>Ab (uC e (a,b)) λc=>IC (λ(y2:Int×Int) (d:List (Int×Int)) f=>Ag (EW d+1<=Ai)<|f ((d++[y2]))) (λg=>Rg c.2<|some ((g,a,b))) (c.1) ([])
def B157:=bP [B156] Tryz.func404 ⟨[.Ae Ew, .Ae BI],[(0, .nl),(1, .AK 405 [] [0,1,2,3])],[(0, .Ah 88 [(2, .v 0 Ew)]),(1, .Ah 22 [(1, .v 1 BI)]),(2, .Ah 207 [(1, .AK 390 [] [])]),(3, .Ah 207 [(1, .AK 189 [] [])])],4⟩ ⟨[.Ae BI, .Ae Ew, .Ae BI],[(0, .v 0 BI)],[(0, .Ah 88 [(2, .v 1 Ew)]),(1, .Ah 22 [(1, .v 2 BI)]),(2, .Ah 207 [(1, .AK 390 [] [])]),(3, .Ah 207 [(1, .AK 189 [] [])])],4⟩ 1 [] uB (la:=lk [(2,⟨[.Ae BI],(kp [2,4,6] []),[(4, .Ah 22 [(1, .AH 6)]),(6, .row 88 0)],7⟩)]) (pt:=lg [(1,[.Ey 2 0 88 Ew]),(4,[.fz 4])])
def uA(b:Nat):(Int×Int)×List (Int×Int)->Option (List (Int×Int)×(Int×Int)×List (Int×Int))|(c,d)=>Ab (uB b (c,d)) λa=>Ac (a.1,a.2.1,a.2.2)
def B158:=bP [B157] Tryz.func388 ⟨[.Ae Ew, .Ae BI],[(0, .AK 405 [] [0,1,2,3])],[(0, .Ah 88 [(2, .v 0 Ew)]),(1, .Ah 22 [(1, .v 1 BI)]),(2, .Ah 207 [(1, .AK 390 [] [])]),(3, .Ah 207 [(1, .AK 189 [] [])])],4⟩ ⟨[.Ae BI, .Ae Ew, .Ae BI],[(0, .v 0 BI)],[(0, .Ah 88 [(2, .v 1 Ew)]),(1, .Ah 22 [(1, .v 2 BI)]),(2, .Ah 207 [(1, .AK 390 [] [])]),(3, .Ah 207 [(1, .AK 189 [] [])])],4⟩ 1 [] uA
def uz(c:Nat):(List (Int×Int))×Int×Int->Option ((Int×Int)×List (Int×Int))|(a,b)=>Ac (b,a)
def B159:=bP [] Tryz.func389 ⟨[.Ae BI, .Ae Ew],[(0, .v 0 BI),(1, .v 1 Ew),(2, .AK 190 [] []),(3, .AK 391 [] [])],[],0⟩ ⟨[.Ae Ew, .Ae BI],[(0, .AK 405 [] [0,1,2,3])],[(0, .Ah 88 [(2, .v 0 Ew)]),(1, .Ah 22 [(1, .v 1 BI)]),(2, .Ah 207 [(1, .AK 391 [] [])]),(3, .Ah 207 [(1, .AK 190 [] [])])],4⟩ 1 [] uz
def uy(b:Nat)(a:Int):Option Int:=Aa .i64 (a-1)<|Ag ((10000:Int)≠0)<|Aa .i64 (jz (a-1) (10000:Int))<|iF (jz (a-1) (10000:Int)=0) (Aa .i64 (a-2)<|some ((a-2)))<|Aa .i64 (a-1)<|some (a-1)
def B160:=bQ [] Tryz.func391 [Ak] [Ak] uy
def ux(b:Nat):(Int×Int)×List (Int×Int)->Option (List (Int×Int)×Bool)|(c,e)=>Ad b (λ(a:Int×Nat) f=>iF ((a.2:Int)<e.length) (Ab (idx e a.2) λd=>Ab (uy b d.1) λg=>iF (a.1<=g) (IG ((a.1,g)) (Ac (([],Bp))) (Ab (xY b d.2) λh=>f ((h,a.2+1))))<|Ab (xY b d.2) λi=>f (i,a.2+1))<|iF (a.1<=c.2) (IG ((a.1,c.2)) (Ac (([],Bp))) (Ac (([],Bp))))<|some (([],Bp))) ((c.1,0))
def B161:=bI [B71,B160] Tryz.func405 ⟨[.Ae Ew, .Ae BI],[(0, .Am),(1, .loc 0 0),(2, .loc 1 0),(3, .loc 2 0),(4, .loc 3 0)],[(0, .Ah 88 [(2, .v 0 Ew)]),(1, .Ah 22 [(1, .v 1 BI)]),(2, .Ah 207 [(1, .AK 391 [] [])]),(3, .Ah 207 [(1, .AK 190 [] [])])],4⟩ 0 [Ew] ux (la:=lk [(2,⟨[.Ae Ak, .nat],(kp [0,1,3,4] [(6, .v 0 Ak),(13, .Am),(14, .Am),(15, .AD 1 201)]),[(3, .c 0),(2, .c 0),(0, .c 0),(1, .c 0)],5⟩)])
def uw(e:Nat):(Int×Int)×List (Int×Int)->Option (List (Int×Int)×(Int×Int)×List (Int×Int))|(a,b)=>Ab (ux e (a,b)) λc=>IC (λ(y2:Int×Int) (d:List (Int×Int)) f=>Ag (EW d+1<=Ai)<|f ((d++[y2]))) (λg=>Rg c.2<|some ((g,a,b))) (c.1) ([])
def B162:=bP [B161] Tryz.func404 ⟨[.Ae Ew, .Ae BI],[(0, .nl),(1, .AK 405 [] [0,1,2,3])],[(0, .Ah 88 [(2, .v 0 Ew)]),(1, .Ah 22 [(1, .v 1 BI)]),(2, .Ah 207 [(1, .AK 391 [] [])]),(3, .Ah 207 [(1, .AK 190 [] [])])],4⟩ ⟨[.Ae BI, .Ae Ew, .Ae BI],[(0, .v 0 BI)],[(0, .Ah 88 [(2, .v 1 Ew)]),(1, .Ah 22 [(1, .v 2 BI)]),(2, .Ah 207 [(1, .AK 391 [] [])]),(3, .Ah 207 [(1, .AK 190 [] [])])],4⟩ 1 [] uw (la:=lk [(2,⟨[.Ae BI],(kp [2,4,6] []),[(4, .Ah 22 [(1, .AH 6)]),(6, .row 88 0)],7⟩)]) (pt:=lg [(1,[.Ey 2 0 88 Ew]),(4,[.fz 4])])
def uv(b:Nat):(Int×Int)×List (Int×Int)->Option (List (Int×Int)×(Int×Int)×List (Int×Int))|(c,d)=>Ab (uw b (c,d)) λa=>Ac (a.1,a.2.1,a.2.2)
def B163:=bP [B162] Tryz.func388 ⟨[.Ae Ew, .Ae BI],[(0, .AK 405 [] [0,1,2,3])],[(0, .Ah 88 [(2, .v 0 Ew)]),(1, .Ah 22 [(1, .v 1 BI)]),(2, .Ah 207 [(1, .AK 391 [] [])]),(3, .Ah 207 [(1, .AK 190 [] [])])],4⟩ ⟨[.Ae BI, .Ae Ew, .Ae BI],[(0, .v 0 BI)],[(0, .Ah 88 [(2, .v 1 Ew)]),(1, .Ah 22 [(1, .v 2 BI)]),(2, .Ah 207 [(1, .AK 391 [] [])]),(3, .Ah 207 [(1, .AK 190 [] [])])],4⟩ 1 [] uv
def kU(a:Nat)(f:Bc):Option Bc:=Ab (Xb a f) λb=>Ab (Vo a ()) λc=>Ab (idx c.1 0) λg=>Ab (uE a (b.1,g)) λd=>Ab (uA a (d.1,d.2)) λh=>Ab (idx c.2 0) λi=>Ab (uz a (b.2,i)) λe=>Ab (uv a (e.1,e.2)) λj=>Ab (Xb a (h.1,j.1)) Ac
def B164:=bQ [zf,zM,B158,B163,B154,B159] Tryz.func342 [Fb] [Fb] kU
def YU(e:Nat):(List (Int×Int))×List (Int×Int)->Option (List (Int×Int))|(f,g)=>Ad e (λ(d:List (Int×Int)×Nat) i=>iF ((d.2:Int)<f.length) (Ab (idx f d.2) λa=>Ad e (λ(c:List (Int×Int)×Nat) h=>iF ((c.2:Int)<g.length) (Ab (idx g c.2) λb=>Aa .i64 (if b.1>a.1 then b.1 else a.1)<|Aa .i64 (if b.2<a.2 then b.2 else a.2)<|iF ((if a.1<b.1 then b.1 else a.1)<=(if b.2<a.2 then b.2 else a.2)) (Ag (EW c.1+1<=Ai)<|h ((c.1++[((if a.1<b.1 then b.1 else a.1),(if b.2<a.2 then b.2 else a.2))]),c.2+1))<|h (c.1,c.2+1))<|i ((c.1,d.2+1))) ((d.1,0)))<|some d.1) (([],0))
def B165:=bQ [] Tryz.func387 [BI,BI] [BI] YU (la:=lk [(3,⟨[.Ae BI, .nat],[(1, .Am),(5, .AH 0),(11, .Am),(12, .Am),(13, .AD 1 301)],[(0, .row 88 0)],1⟩),(6,⟨[.Ae BI, .nat],[(1, .Am),(5, .AH 0),(7, .Am),(11, .Am),(12, .Am),(13, .Am),(17, .Am),(18, .Am),(19, .AD 1 601)],[(1, .c 0),(0, .row 88 0)],2⟩)]) (pt:=lg [(2,[.own 5 88 Ew]),(13,[.fz 4])])
def uu(a:Nat):Bc×Bc->Option Bc|(d,e)=>Ab (Xb a d) λb=>Ab (Xb a e) λc=>Ab (YU a (b.1,c.1)) λf=>Ab (YU a (b.2,c.2)) λg=>Ab (Xb a (f,g)) Ac
def B166:=bQ [zf,B165] Tryz.func341 [Fb,Fb] [Fb] uu
def YT(a:Nat):Bc×Bc->Option Bc|(b,c)=>Ab (kU a c) λd=>Ab (uu a (b,d)) Ac
def zL:=bQ [B166,B164] Tryz.func275 [Fb,Fb] [Fb] YT
def uq(a:Nat):FC×FC->Option FC|(d,e)=>Ab (n_ a d) λb=>Ab (n_ a e) λc=>Ab (YV a (b.1,c.1)) λf=>Ab (YV a (b.2.1,c.2.1)) λg=>Ab (YV a (b.2.2.1,c.2.2.1)) λh=>Ab (YT a (b.2.2.2.1,c.2.2.2.1)) λi=>Ab (YZ a (b.2.2.2.2,c.2.2.2.2)) λj=>Ac (f,g,h,i,j)
def B168:=bP [B90,zO,B151,zL] Tryz.func254 ⟨[.Ae y8, .Ae y8],[(0, .v 0 y8),(1, .v 1 y8),(2, .AK 274 [] []),(3, .AK 275 [] []),(4, .AK 262 [] [])],[],0⟩ ⟨[.Ae y8],[(0, .v 0 y8)],[],0⟩ 1 [] uq
def kT(a:Nat):FC×FC->Option FC|(b,c)=>Ab (uq a (b,c)) Ac
def B169:=bQ [B168] Tryz.func222 [y8,y8] [y8] kT
def kS(a:Nat):FC×FC->Option Bool|(b,c)=>Ab (kT a (b,c)) λd=>Ab (Y2 a d) Ac
def B170:=bQ [vg,B169] Tryz.func157 [y8,y8] [.bool] kS
def kR(d:Nat):A5×Aq->Option Bool|(b,e)=>iF ((b.length:Int)=0) (Ac Aj)<|Ab (x_ d b) λi=>iB (!i) (Ac Aj)<|Ad d (λ(a:Int×Int) j=>iF (a.2<(e.length:Int)) (Ab (idx b a.1) λg=>Ad d (λ(c:Nat) h=>iF ((c:Int)<g.2.length) (Ab (idx g.2 c) λf=>Ab (Ez e a.2) λk=>iF (f.1<=k) (Ab (Ez e a.2) λl=>iF (l<=f.2.1) (Aa .i64 (a.2+1)<|j (f.2.2,(a.2+1)))<|h (c+1))<|h (c+1))<|some Aj) (0))<|Ab (idx b a.1) λm=>Ac m.1) ((0,0))
def B171:=bQ [B37] Tryz.func73 [y3, .str] [.bool] kR (la:=lk [(5,⟨[.Ae Ak, .Ae Ak],(kp [1,2] [(5, .v 0 Ak),(20, .Am),(21, .v 1 Ak)]),[(0, .c 0)],1⟩),(8,⟨[.nat],(kp [1,2,6,20,21,29,30] [(31, .AD 0 800)]),[(0, .c 0)],1⟩)])
def YS(b:Nat):BC×Aq->Option (AE×Int)|(a,f)=>Ad b (λ(c:Nat) h=>iF ((c:Int)<a.1.length) (Ab (idx a.1 c) λd=>iF (d.1=f) (Ac ((d.2.2,d.2.1)))<|h (c+1))<|Ad b (λ(e:Nat) i=>iF ((e:Int)<a.2.length) (Ab (idx a.2 e) λg=>Ab (kR b (g.1,f)) λj=>iB j (Ac ((g.2,3)))<|i (e+1))<|some (((Vl.mk Aj (Aj,Aj,Aj,([],[]),[]) [] [],Vl.mk Aj (Aj,Aj,Aj,([],[]),[]) [] []),3))) (0)) (0)
def B172:=bQ [B171] Tryz.func51 [BQ, .str] [Bq,Ak] YS (la:=lk [(2,⟨[.nat],(kp [1,2,4,11,12] [(13, .AD 0 200)]),[(1, .c 0),(0, .c 0)],2⟩),(8,⟨[.nat],(kp [1,4,27,28] [(29, .AD 0 800)]),[(1, .c 0)],2⟩)])
def uo(c:Nat):Bool×Bool->Option Bool|(a,b)=>iB a (Ac b)<|some Aj
def B173:=bQ [] Tryz.func269 [.bool, .bool] [.bool] uo
def yp(b:Nat):A5×A5->Option A5|(k,l)=>Ab (Q7 b k) λf=>Ab (Q7 b l) λg=>Ad b (λ(c:List (Int×Int)×A5×Nat) m=>iF ((c.2.2:Int)<c.1.length) (Ab (idx c.1 c.2.2) λd=>Ab (N5 b (f,d.1)) λn=>Ab (N5 b (g,d.2)) λo=>Ab (uo b (n,o)) λp=>Ab (N4 b (f,d.1,(lD (Uh 256 Aj) 0 Bp))) λq=>Ab (N4 b (g,d.2,q)) λr=>Ad b (λ(a:List (Int×Int)×List (Int×Int×Int)×Int) h=>iF (a.2.2<256) (Ag ((0:Int)<=a.2.2/\a.2.2<(↑256:Int))<|Ab (idx r (↑(0+aC a.2.2*1):Int)) λs=>iB s (Aa .u8 a.2.2<|Aa .u8 a.2.2<|Ab (N3 b (f,d.1,a.2.2)) λt=>Aa .u8 a.2.2<|Ab (N3 b (g,d.2,a.2.2)) λu=>Ab (Za b ((t,u),a.1)) λe=>Ag (EW a.2.1+1<=Ai)<|Aa .i64 (((a.2.1++[(a.2.2,0,e.1)]).length:Int)-1)<|Aa .u8 a.2.2<|Ab (idx (a.2.1++[(a.2.2,0,e.1)]) (((a.2.1++[(a.2.2,0,e.1)]).length:Int)-1)) λi=>Aa .i64 (a.2.2+1)<|h (e.2,((a.2.1++[(a.2.2,0,e.1)]).set (aC (((a.2.1++[(a.2.2,0,e.1)]).length:Int)-1)) (i.1,a.2.2,i.2.2)),(a.2.2+1)))<|Aa .i64 ((a.2.1.length:Int)-1)<|Aa .u8 a.2.2<|Ab (idx a.2.1 ((a.2.1.length:Int)-1)) λj=>Aa .i64 (a.2.2+1)<|h (a.1,(a.2.1.set (aC ((a.2.1.length:Int)-1)) (j.1,a.2.2,j.2.2)),(a.2.2+1)))<|Ag (EW c.2.1+1<=Ai)<|m ((a.1,(c.2.1++[(p,a.2.1)]),c.2.2+1))) ((c.1,[],0)))<|Ab (oa b c.2.1) λv=>Ac v.1) (([(0,0)],[],0))
def B174:=bP [u5,B49,B173,vh,B98,vj,vi] Tryz.func258 ⟨[.Ae y3, .Ae y3],[(0, .v 0 y3),(1, .v 1 y3),(2, .AK 269 [] [])],[],0⟩ ⟨[.Ae y3],[(0, .v 0 y3)],[],0⟩ 1 [] yp (la:=lk [(6,⟨[.Ae BI, .Ae Je, .nat],(kp [2,3,4,6,7,8] [(9, .AH 5),(10, .AD 2 602)]),[(4, .Ah 273 [(1, .AH 3)]),(3, .row 272 0),(2, .c 0),(1, .c 0),(0, .c 0),(5, .row 119 1)],6⟩),(14,⟨[.Ae BI, .Ae Kg, .Ae Ak],(kp [2,3,4,6,7,8,9,10,11,12,13] [(54, .v 2 Ak)]),[(8, .c 0),(7, .Ah 119 [(1, .Am),(1, .AH 9)]),(6, .c 0),(5, .c 0),(4, .Ah 273 [(1, .AH 3)]),(3, .row 272 0),(2, .c 0),(1, .c 0),(0, .c 0),(9, .row 116 1)],10⟩)]) (pr:=lg [(21,[.fz 9])]) (pt:=lg [(5,[.own 9 119 Ls]),(13,[.Ey 12 1 116 Px])])
def um(c:Nat):A5×A5->Option A5|(a,b)=>iF ((a.length:Int)=0) (Ac [])<|iF ((b.length:Int)=0) (Ac [])<|Ab (yp c (a,b)) Ac
def B175:=bQ [B174] Tryz.func217 [y3,y3] [y3] um
def mW:A':=⟨[.Ae Cc, .Ae Cc],[(0, .v 0 Cc),(1, .loc 0 0),(2, .loc 1 0)],[(0, .Ah 129 [(1, .AK 151 [] [])]),(1, .Ah 77 [(2, .v 1 Cc)])],2⟩
def mf:A':=⟨[.Ae .bool, .Ae Cc],[(0, .v 0 .bool)],[(0, .Ah 129 [(1, .AK 151 [] [])]),(1, .Ah 77 [(2, .v 1 Cc)])],2⟩
def mV:A':=⟨[.Ae Ek, .Ae Cc],[(0, .v 0 Ek),(1, .AK 224 [] [0,1])],[(0, .Ah 129 [(1, .AK 151 [] [])]),(1, .Ah 77 [(2, .v 1 Cc)])],2⟩
def me:A':=⟨[.Ae Ak, .Ae Cc],[(0, .v 0 Ak)],[(0, .Ah 129 [(1, .AK 151 [] [])]),(1, .Ah 77 [(2, .v 1 Cc)])],2⟩
def mU:A':=⟨[.Ae Ek, .Ae Cc],[(0, .v 0 Ek),(1, .AK 224 [] [0,1])],[(0, .Ah 129 [(1, .AK 151 [] [])]),(1, .Ah 77 [(2, .v 1 Cc)])],2⟩
def mc:A':=⟨[.Ae .bool, .Ae Cc],[(0, .v 0 .bool)],[(0, .Ah 129 [(1, .AK 151 [] [])]),(1, .Ah 77 [(2, .v 1 Cc)])],2⟩
def mT:A':=⟨[.Ae Ek, .Ae Ek],[(0, .v 0 Ek),(1, .v 1 Ek),(2, .AK 151 [] [])],[],0⟩
def mb:A':=⟨[.Ae .bool],[(0, .v 0 .bool)],[],0⟩
def mQ:A':=⟨[.Ae BQ, .Ae BQ],[(0, .v 0 BQ),(1, .loc 0 0),(2, .loc 1 0)],[(0, .Ah 132 [(1, .AK 154 [] [])]),(1, .Ah 65 [(2, .v 1 BQ)])],2⟩
def ma:A':=⟨[.Ae .bool, .Ae BQ],[(0, .v 0 .bool)],[(0, .Ah 132 [(1, .AK 154 [] [])]),(1, .Ah 65 [(2, .v 1 BQ)])],2⟩
def mP:A':=⟨[.Ae Ej, .Ae BQ],[(0, .v 0 Ej),(1, .AK 226 [] [0,1])],[(0, .Ah 132 [(1, .AK 154 [] [])]),(1, .Ah 65 [(2, .v 1 BQ)])],2⟩
def l_:A':=⟨[.Ae Ak, .Ae BQ],[(0, .v 0 Ak)],[(0, .Ah 132 [(1, .AK 154 [] [])]),(1, .Ah 65 [(2, .v 1 BQ)])],2⟩
def mO:A':=⟨[.Ae Ej, .Ae BQ],[(0, .v 0 Ej),(1, .AK 226 [] [0,1])],[(0, .Ah 132 [(1, .AK 154 [] [])]),(1, .Ah 65 [(2, .v 1 BQ)])],2⟩
def l9:A':=⟨[.Ae .bool, .Ae BQ],[(0, .v 0 .bool)],[(0, .Ah 132 [(1, .AK 154 [] [])]),(1, .Ah 65 [(2, .v 1 BQ)])],2⟩
def mN:A':=⟨[.Ae Ej, .Ae Ej],[(0, .v 0 Ej),(1, .v 1 Ej),(2, .AK 154 [] [])],[],0⟩
def lZ:A':=⟨[.Ae .bool],[(0, .v 0 .bool)],[],0⟩
abbrev n7:Type:=G9 224 mW mf 1 []×G9 276 mV me 1 []×G9 223 mU mc 1 []×G9 158 mT mb 1 []×Gq 154 [BQ,BQ] [.bool]×G9 226 mQ ma 1 []×G9 277 mP l_ 1 []×G9 225 mO l9 1 []×G9 159 mN lZ 1 []×Gq 110 [BD,BD] [.bool]×Gq 214 [Bq,Bq] [.bool]×Gq 151 [Cc,Cc] [.bool]
def I_(n:Nat):n7:=Nat.rec (motive:=λ_=>n7) (tP Tryz.func224,tP Tryz.func276,tP Tryz.func223,tP Tryz.func158,tQ Tryz.func154,tP Tryz.func226,tP Tryz.func277,tP Tryz.func225,tP Tryz.func159,tQ Tryz.func110,tQ Tryz.func214,tQ Tryz.func151) (λfu ⟨g0,g1,g2,g3,g4,g5,g6,g7,g8,g9,g10,g11⟩=>(sP [De g11] fu Tryz.func224 mW mf 1 [],sP [C2 g0] fu Tryz.func276 mV me 1 [] (la:=lk [(2,⟨[.Ae Cc, .nat],(kp [0,1,7] [(8, .AD 1 201)]),[(1, .Ah 77 [(2, .v 0 Cc)]),(0, .Ah 129 [(1, .AK 151 [] [])])],2⟩)]),sP [C2 g1] fu Tryz.func223 mU mc 1 [],sP [C2 g2] fu Tryz.func158 mT mb 1 [] (la:=lk [(2,⟨[.nat],(kp [1,5,9,10] [(11, .AD 0 200)]),[(0, .Ah 129 [(1, .AK 151 [] [])])],1⟩)]),sQ (De g10::bs [B172,B175] fu) fu Tryz.func154 [BQ,BQ] [.bool] (la:=lk [(2,⟨[.nat],(kp [2,3,28,29] [(30, .AD 0 200)]),[(2, .c 0),(1, .c 0),(0, .c 0)],3⟩),(5,⟨[.nat],(kp [2,3,28,29,30,34,35] [(36, .AD 0 500)]),[(2, .c 0),(1, .c 0),(0, .c 0)],3⟩),(14,⟨[.nat],(kp [3,66,67] [(68, .AD 0 1400)]),[(1, .c 0)],3⟩),(17,⟨[.nat],(kp [3,14,66,67,68,73,74] [(75, .AD 0 1700)]),[(3, .c 0),(1, .c 0)],4⟩)]),sP [De g4] fu Tryz.func226 mQ ma 1 [],sP [C2 g5] fu Tryz.func277 mP l_ 1 [] (la:=lk [(2,⟨[.Ae BQ, .nat],(kp [0,1,7] [(8, .AD 1 201)]),[(1, .Ah 65 [(2, .v 0 BQ)]),(0, .Ah 132 [(1, .AK 154 [] [])])],2⟩)]),sP [C2 g6] fu Tryz.func225 mO l9 1 [],sP [C2 g7] fu Tryz.func159 mN lZ 1 [] (la:=lk [(2,⟨[.nat],(kp [1,5,9,10] [(11, .AD 0 200)]),[(0, .Ah 132 [(1, .AK 154 [] [])])],1⟩)]),sQ (C2 g3::C2 g8::bs [ve,B170] fu) fu Tryz.func110 [BD,BD] [.bool],sQ [De g9] fu Tryz.func214 [Bq,Bq] [.bool],sQ (De g10::bs [B150] fu) fu Tryz.func151 [Cc,Cc] [.bool] (la:=lk [(5,⟨[.nat],(kp [2,3,41,42] [(43, .AD 0 500)]),[(1, .c 0),(0, .c 0)],2⟩)]))) n
abbrev kQ(fu:Nat)(x:BP×BP):Option (Bool×BP):=(I_ fu).1.1 x
abbrev kP(fu:Nat)(x:(List BP)×BP):Option (Int×BP):=(I_ fu).2.1.1 x
abbrev kO(fu:Nat)(x:(List BP)×BP):Option (Bool×BP):=(I_ fu).2.2.1.1 x
abbrev kN(fu:Nat)(x:(List BP)×(List BP)):Option Bool:=(I_ fu).2.2.2.1.1 x
def B180(fu:Nat):=De (I_ fu).2.2.2.2.1
abbrev Vn(fu:Nat)(x:BC×BC):Option Bool:=(I_ fu).2.2.2.2.1.1 x
abbrev kM(fu:Nat)(x:BC×BC):Option (Bool×BC):=(I_ fu).2.2.2.2.2.1.1 x
abbrev kL(fu:Nat)(x:(List BC)×BC):Option (Int×BC):=(I_ fu).2.2.2.2.2.2.1.1 x
abbrev kK(fu:Nat)(x:(List BC)×BC):Option (Bool×BC):=(I_ fu).2.2.2.2.2.2.2.1.1 x
abbrev kJ(fu:Nat)(x:(List BC)×(List BC)):Option Bool:=(I_ fu).2.2.2.2.2.2.2.2.1.1 x
def B185(fu:Nat):=De (I_ fu).2.2.2.2.2.2.2.2.2.1
abbrev TR(fu:Nat)(x:(Vl)×(Vl)):Option Bool:=(I_ fu).2.2.2.2.2.2.2.2.2.1.1 x
abbrev LG(fu:Nat)(x:AE×AE):Option Bool:=(I_ fu).2.2.2.2.2.2.2.2.2.2.1.1 x
def B187(fu:Nat):=De (I_ fu).2.2.2.2.2.2.2.2.2.2.2
abbrev Vm(fu:Nat)(x:BP×BP):Option Bool:=(I_ fu).2.2.2.2.2.2.2.2.2.2.2.1 x
def D179(b:Nat)(c:BP)(a:BP):Option (Bool×BP):=Ab (Vm b (a,c)) λd=>Ac (d,a)
theorem d179(fu x0 x1):kQ (fu+1) (x0,x1)=D179 fu x0 x1:=by kernel_rfl
def D180(c:Nat)(d:List BP)(e:BP):Option (Int×BP):=Ad c (λ(a:BP×Nat) f=>iF ((a.2:Int)<d.length) (Ab (idx d a.2) λg=>Ab (kQ c (g,a.1)) λb=>iB b.1 (Ac (((a.2:Int),b.2)))<|f (b.2,a.2+1))<|some (((-1:Int),a.1))) ((e,0))
theorem d180(fu x0 x1):kP (fu+1) (x0,x1)=D180 fu x0 x1:=by kernel_rfl
def D181(b:Nat)(c:List BP)(d:BP):Option (Bool×BP):=Ab (kP b (c,d)) λa=>Ac (Di ((0:Int)<=a.1),a.2)
theorem d181(fu x0 x1):kO (fu+1) (x0,x1)=D181 fu x0 x1:=by kernel_rfl
def D182(b:Nat)(c:List BP)(d:List BP):Option Bool:=Ad b (λ(a:Nat) e=>iF ((a:Int)<c.length) (Ab (idx c a) λf=>Ab (kO b (d,f)) λg=>iB (!g.1) (Ac Aj)<|e (a+1))<|some Bp) (0)
theorem d182(fu x0 x1):kN (fu+1) (x0,x1)=D182 fu x0 x1:=by kernel_rfl
def D183(a:Nat)(b:BC)(c:BC):Option Bool:=Ag ((b.1.length:Int)=b.1.length/\(b.1.length:Int)=b.1.length)<|Ad a (λ(e:Nat) o=>iF ((e:Int)< ↑(2)) (Ab (idx [b.1,c.1] (e:Int)) λh=>Ad a (λ(f:Nat) p=>iF ((f:Int)<h.length) (Ab (idx h f) λi=>Ab (YS a (b,i.1)) λj=>Ab (YS a (c,i.1)) λk=>iF (k.2<j.2) (Ac Aj)<|Ab (LG a (j.1,k.1)) λq=>iB (!q) (Ac Aj)<|p (f+1))<|o (e+1)) (0))<|Ad a (λ(g:Nat) r=>iF ((g:Int)<b.2.length) (Ab (idx b.2 g) λl=>Ad a (λ(d:Nat) m=>iF ((d:Int)<c.2.length) (Ab (idx c.2 d) λn=>Ab (LG a (l.2,n.2)) λs=>iB (!s) (Ab (um a (l.1,n.1)) λt=>iF ((0:Int)<t.length) (Ac Aj)<|m (d+1))<|m (d+1))<|r (g+1)) (0))<|some Bp) (0)) (0)
theorem d183(fu x0 x1):Vn (fu+1) (x0,x1)=D183 fu x0 x1:=by kernel_rfl
def D184(b:Nat)(c:BC)(a:BC):Option (Bool×BC):=Ab (Vn b (a,c)) λd=>Ac (d,a)
theorem d184(fu x0 x1):kM (fu+1) (x0,x1)=D184 fu x0 x1:=by kernel_rfl
def D185(c:Nat)(d:List BC)(e:BC):Option (Int×BC):=Ad c (λ(a:BC×Nat) f=>iF ((a.2:Int)<d.length) (Ab (idx d a.2) λg=>Ab (kM c (g,a.1)) λb=>iB b.1 (Ac (((a.2:Int),b.2)))<|f (b.2,a.2+1))<|some (((-1:Int),a.1))) ((e,0))
theorem d185(fu x0 x1):kL (fu+1) (x0,x1)=D185 fu x0 x1:=by kernel_rfl
def D186(b:Nat)(c:List BC)(d:BC):Option (Bool×BC):=Ab (kL b (c,d)) λa=>Ac (Di ((0:Int)<=a.1),a.2)
theorem d186(fu x0 x1):kK (fu+1) (x0,x1)=D186 fu x0 x1:=by kernel_rfl
def D187(b:Nat)(c:List BC)(d:List BC):Option Bool:=Ad b (λ(a:Nat) e=>iF ((a:Int)<c.length) (Ab (idx c a) λf=>Ab (kK b (d,f)) λg=>iB (!g.1) (Ac Aj)<|e (a+1))<|some Bp) (0)
theorem d187(fu x0 x1):kJ (fu+1) (x0,x1)=D187 fu x0 x1:=by kernel_rfl
def D188(c:Nat)(b:Vl)(a:Vl):Option Bool:=iB (Vl.any b) (Ac (Vl.any a))<|iB (Vl.any a) (Ac (Vl.any a))<|Ab (eT c ((b,Vl.mk Aj (Aj,Aj,Aj,([],[]),[]) [] []),a,Vl.mk Aj (Aj,Aj,Aj,([],[]),[]) [] [])) λd=>iB d (Ac Bp)<|Ab (kS c (Vl.sc b,Vl.sc a)) λe=>iB (!e) (Ac Aj)<|Ab (kN c (Vl.lists b,Vl.lists a)) λf=>iB f (Ab (kJ c (Vl.structs b,Vl.structs a)) Ac)<|some Aj
theorem d188(fu x0 x1):TR (fu+1) (x0,x1)=D188 fu x0 x1:=by kernel_rfl
def D189(a:Nat)(b:AE)(c:AE):Option Bool:=Ab (TR a (b.1,c.1)) λd=>iB d (Ab (TR a (b.2,c.2)) Ac)<|some Aj
theorem d189(fu x0 x1):LG (fu+1) (x0,x1)=D189 fu x0 x1:=by kernel_rfl
def D190(b:Nat)(a:BP)(c:BP):Option Bool:=iF ((a.1.length:Int)<c.1.length) (Ac Aj)<|iB (!decide ((0:Int)<c.2.length)) (iF ((c.1.length:Int)<a.1.length) (Ac Aj)<|iF ((0:Int)<a.2.length) (Ac Aj)<|Ad b (λ(d:Nat) f=>iF ((d:Int)<a.1.length) (Ab (idx a.1 d) λg=>Ab (YW b (c,(d:Int))) λh=>Ab (LG b (g,h.1)) λi=>iB (!i) (Ac Aj)<|f (d+1))<|iF ((a.2.length:Int)=0) (Ac Bp)<|Ab (idx a.2 0) λj=>Ab (idx c.2 0) λk=>Ab (LG b (j,k)) Ac) (0))<|Ad b (λ(e:Nat) m=>iF ((e:Int)<a.1.length) (Ab (idx a.1 e) λn=>Ab (YW b (c,(e:Int))) λo=>Ab (LG b (n,o.1)) λp=>iB (!p) (Ac Aj)<|m (e+1))<|iF ((a.2.length:Int)=0) (Ac Bp)<|Ab (idx a.2 0) λq=>Ab (idx c.2 0) λr=>Ab (LG b (q,r)) Ac) (0)
theorem d190(fu x0 x1):Vm (fu+1) (x0,x1)=D190 fu x0 x1:=by kernel_rfl
def uk(b:Nat)(a:BP):Option Vl:=Ac (Vl.mk Aj (Aj,Aj,Aj,([],[]),[]) [a] [])
def B188:=bQ [] Tryz.func152 [Cc] [BD] uk (pt:=lg [(1,[.M5 2 7])])
def kI(c:Nat):Bool×Bool->Option Int|(a,b)=>iB (a==b) (Ac 0)<|iB a (Ac ((-1:Int)))<|some 1
def zK:=bQ [] Tryz.func324 [.bool, .bool] [Ak] kI
def uj(c:Nat):Vl×Vl->Option (Int×AE)|(a,b)=>Ab (kI c (Vl.any a,Vl.any b)) λd=>Ac (d,a,b)
def B190:=bP [zK] Tryz.func323 ⟨[.Ae BD, .Ae BD],[(0, .loc 0 0),(1, .loc 1 0)],[(0, .Ah 33 [(9, .v 0 BD)]),(1, .Ah 33 [(9, .v 1 BD)])],2⟩ ⟨[.Ae Ak, .Ae BD, .Ae BD],[(0, .v 0 Ak)],[(0, .Ah 33 [(9, .v 1 BD)]),(1, .Ah 33 [(9, .v 2 BD)])],2⟩ 1 [] uj
def LF(a:Nat):Bc×Bc->Option Int|(d,e)=>Ab (YT a (d,e)) λf=>Ab (Vs a f) λb=>Ab (YT a (e,d)) λg=>Ab (Vs a g) λc=>iB (!b.2) (iB (!c.2) (Ac 0)<|iB (!c.2) (Ac ((-1:Int)))<|iB b.2 (Ab (Vt a (b.1,c.1)) λh=>iB h (Ac ((-1:Int)))<|some 1)<|some 1)<|iB (!c.2) (Ac ((-1:Int)))<|iB b.2 (Ab (Vt a (b.1,c.1)) λi=>iB i (Ac ((-1:Int)))<|some 1)<|some 1
def B191:=bQ [zR,zS,zL] Tryz.func270 [Fb,Fb] [Ak] LF
def TQ(d:Nat):FC×FC->Option Int|(a,b)=>Ab (dZ d a) λg=>iB (!g) (Ac 0)<|Ab (dZ d b) λh=>iB (!h) (Ac 0)<|Ad d (λ(c:Int) i=>iF (c<3) (Ag ((0:Int)<=c/\c<(↑3:Int))<|Ab (idx [(a.1,b.1),(a.2.1,b.2.1),(a.2.2.1,b.2.2.1)] c) λe=>iF ((e.1::[e.2])=(Bp::[Aj])) (Ac ((-1:Int)))<|iF ((e.1::[e.2])=(Aj::[Bp])) (Ac 1)<|Aa .i64 (c+1)<|i (c+1))<|Ab (LF d (a.2.2.2.1,b.2.2.2.1)) λf=>iF (f≠0) (Ac f)<|Ab (YX d (a.2.2.2.2,b.2.2.2.2)) Ac) ((0:Int))
def zJ:=bQ [B77,vb,B191] Tryz.func218 [y8,y8] [Ak] TQ (la:=lk [(4,⟨[.Ae Ak],(kp [2,3,32] [(33, .v 0 Ak)]),[(1, .c 0),(0, .c 0)],2⟩)])
def ui(c:Nat):Vl×Vl->Option (Int×AE)|(a,b)=>Ab (TQ c (Vl.sc a,Vl.sc b)) λd=>Ac (d,a,b)
def B193:=bP [zJ] Tryz.func325 ⟨[.Ae BD, .Ae BD],[(0, .loc 0 0),(1, .loc 1 0)],[(0, .Ah 33 [(9, .v 0 BD)]),(1, .Ah 33 [(9, .v 1 BD)])],2⟩ ⟨[.Ae Ak, .Ae BD, .Ae BD],[(0, .v 0 Ak)],[(0, .Ah 33 [(9, .v 1 BD)]),(1, .Ah 33 [(9, .v 2 BD)])],2⟩ 1 [] ui
def uh(c:Nat):BP×BP->Option (Int×BP×BP)|(a,b)=>Ab (Vp c ((a.1.length:Int),(b.1.length:Int))) λd=>Ac (d,a,b)
def B194:=bP [vd] Tryz.func368 ⟨[.Ae Cc, .Ae Cc],[(0, .loc 0 0),(1, .loc 1 0)],[(0, .Ah 77 [(2, .v 0 Cc)]),(1, .Ah 77 [(2, .v 1 Cc)])],2⟩ ⟨[.Ae Ak, .Ae Cc, .Ae Cc],[(0, .v 0 Ak)],[(0, .Ah 77 [(2, .v 1 Cc)]),(1, .Ah 77 [(2, .v 2 Cc)])],2⟩ 1 [] uh
def ug(c:Nat):BP×BP->Option (Int×BP×BP)|(a,b)=>Ab (kI c (Di ((0:Int)<a.2.length),Di ((0:Int)<b.2.length))) λd=>Ac (d,a,b)
def B195:=bP [zK] Tryz.func369 ⟨[.Ae Cc, .Ae Cc],[(0, .loc 0 0),(1, .loc 1 0)],[(0, .Ah 77 [(2, .v 0 Cc)]),(1, .Ah 77 [(2, .v 1 Cc)])],2⟩ ⟨[.Ae Ak, .Ae Cc, .Ae Cc],[(0, .v 0 Ak)],[(0, .Ah 77 [(2, .v 1 Cc)]),(1, .Ah 77 [(2, .v 2 Cc)])],2⟩ 1 [] ug
def kH(c:Nat):(Aq×Int×AE)×Aq×Int×AE->Option (Int×(Aq×Int×AE)×Aq×Int×AE)|(a,b)=>Ab (YY c (a.1,b.1)) λd=>Ac (d,a,b)
def B196:=bP [zN] Tryz.func376 ⟨[.Ae ES, .Ae ES],[(0, .loc 0 0),(1, .loc 1 0)],[(0, .Ah 69 [(20, .v 0 ES)]),(1, .Ah 69 [(20, .v 1 ES)])],2⟩ ⟨[.Ae Ak, .Ae ES, .Ae ES],[(0, .v 0 Ak)],[(0, .Ah 69 [(20, .v 1 ES)]),(1, .Ah 69 [(20, .v 2 ES)])],2⟩ 1 [] kH
def kG(c:Nat):(Aq×Int×AE)×Aq×Int×AE->Option (Int×(Aq×Int×AE)×Aq×Int×AE)|(a,b)=>Ab (Vp c (a.2.1,b.2.1)) λd=>Ac (d,a,b)
def B197:=bP [vd] Tryz.func377 ⟨[.Ae ES, .Ae ES],[(0, .loc 0 0),(1, .loc 1 0)],[(0, .Ah 69 [(20, .v 0 ES)]),(1, .Ah 69 [(20, .v 1 ES)])],2⟩ ⟨[.Ae Ak, .Ae ES, .Ae ES],[(0, .v 0 Ak)],[(0, .Ah 69 [(20, .v 1 ES)]),(1, .Ah 69 [(20, .v 2 ES)])],2⟩ 1 [] kG
def kF(c:Nat):(A5×AE)×A5×AE->Option (Int×(A5×AE)×A5×AE)|(a,b)=>Ab (YX c (a.1,b.1)) λd=>Ac (d,a,b)
def B198:=bP [vb] Tryz.func382 ⟨[.Ae FV, .Ae FV],[(0, .loc 0 0),(1, .loc 1 0)],[(0, .Ah 92 [(19, .v 0 FV)]),(1, .Ah 92 [(19, .v 1 FV)])],2⟩ ⟨[.Ae Ak, .Ae FV, .Ae FV],[(0, .v 0 Ak)],[(0, .Ah 92 [(19, .v 1 FV)]),(1, .Ah 92 [(19, .v 2 FV)])],2⟩ 1 [] kF
def mM:A':=⟨[.Ae Bq, .Ae Bq],[(0, .loc 0 0),(1, .loc 1 0)],[(0, .Ah 35 [(18, .v 0 Bq)]),(1, .Ah 35 [(18, .v 1 Bq)])],2⟩
def lY:A':=⟨[.Ae Ak, .Ae Bq, .Ae Bq],[(0, .v 0 Ak)],[(0, .Ah 35 [(18, .v 1 Bq)]),(1, .Ah 35 [(18, .v 2 Bq)])],2⟩
def mL:A':=⟨[.Ae Bq, .Ae Bq],[(0, .loc 0 0),(1, .loc 1 0)],[(0, .Ah 35 [(18, .v 0 Bq)]),(1, .Ah 35 [(18, .v 1 Bq)])],2⟩
def lX:A':=⟨[.Ae Ak, .Ae Bq, .Ae Bq],[(0, .v 0 Ak)],[(0, .Ah 35 [(18, .v 1 Bq)]),(1, .Ah 35 [(18, .v 2 Bq)])],2⟩
def mK:A':=⟨[.Ae Bq, .Ae Bq],[(0, .px [0] (.hc 2))],[(0, .Ah 121 [(1, .AK 401 [] [1,2]),(1, .AK 402 [] [1,2])]),(1, .Ah 35 [(18, .v 0 Bq)]),(2, .Ah 35 [(18, .v 1 Bq)])],3⟩
def lW:A':=⟨[.Ae Ak, .Ae Bq, .Ae Bq],[(0, .v 0 Ak)],[(0, .Ah 121 [(1, .AK 401 [] [1,2]),(1, .AK 402 [] [1,2])]),(1, .Ah 35 [(18, .v 1 Bq)]),(2, .Ah 35 [(18, .v 2 Bq)])],3⟩
def mI:A':=⟨[.Ae Dq, .Ae Dq],[(0, .v 0 Dq),(1, .v 1 Dq),(2, .AK 372 [] [])],[],0⟩
def lV:A':=⟨[.Ae Ak],[(0, .v 0 Ak)],[],0⟩
def mH:A':=⟨[.Ae Cc, .Ae Cc],[(0, .loc 0 0),(1, .loc 1 0)],[(0, .Ah 77 [(2, .v 0 Cc)]),(1, .Ah 77 [(2, .v 1 Cc)])],2⟩
def lU:A':=⟨[.Ae Ak, .Ae Cc, .Ae Cc],[(0, .v 0 Ak)],[(0, .Ah 77 [(2, .v 1 Cc)]),(1, .Ah 77 [(2, .v 2 Cc)])],2⟩
def mG:A':=⟨[.Ae Cc, .Ae Cc],[(0, .px [0] (.hc 3))],[(0, .Ah 121 [(1, .AK 368 [] [1,2]),(1, .AK 369 [] [1,2]),(1, .AK 370 [] [1,2])]),(1, .Ah 77 [(2, .v 0 Cc)]),(2, .Ah 77 [(2, .v 1 Cc)])],3⟩
def lT:A':=⟨[.Ae Ak, .Ae Cc, .Ae Cc],[(0, .v 0 Ak)],[(0, .Ah 121 [(1, .AK 368 [] [1,2]),(1, .AK 369 [] [1,2]),(1, .AK 370 [] [1,2])]),(1, .Ah 77 [(2, .v 1 Cc)]),(2, .Ah 77 [(2, .v 2 Cc)])],3⟩
def mF:A':=⟨[.Ae Ek, .Ae Ek],[(0, .v 0 Ek),(1, .v 1 Ek),(2, .AK 328 [] [])],[],0⟩
def lS:A':=⟨[.Ae Ak],[(0, .v 0 Ak)],[],0⟩
def mE:A':=⟨[.Ae BD, .Ae BD],[(0, .loc 0 0),(1, .loc 1 0)],[(0, .Ah 33 [(9, .v 0 BD)]),(1, .Ah 33 [(9, .v 1 BD)])],2⟩
def lR:A':=⟨[.Ae Ak, .Ae BD, .Ae BD],[(0, .v 0 Ak)],[(0, .Ah 33 [(9, .v 1 BD)]),(1, .Ah 33 [(9, .v 2 BD)])],2⟩
def mD:A':=⟨[.Ae ES, .Ae ES],[(0, .loc 0 0),(1, .loc 1 0)],[(0, .Ah 69 [(20, .v 0 ES)]),(1, .Ah 69 [(20, .v 1 ES)])],2⟩
def lQ:A':=⟨[.Ae Ak, .Ae ES, .Ae ES],[(0, .v 0 Ak)],[(0, .Ah 69 [(20, .v 1 ES)]),(1, .Ah 69 [(20, .v 2 ES)])],2⟩
def mA:A':=⟨[.Ae ES, .Ae ES],[(0, .px [0] (.hc 3))],[(0, .Ah 121 [(1, .AK 376 [] [1,2]),(1, .AK 377 [] [1,2]),(1, .AK 378 [] [1,2])]),(1, .Ah 69 [(20, .v 0 ES)]),(2, .Ah 69 [(20, .v 1 ES)])],3⟩
def lP:A':=⟨[.Ae Ak, .Ae ES, .Ae ES],[(0, .v 0 Ak)],[(0, .Ah 121 [(1, .AK 376 [] [1,2]),(1, .AK 377 [] [1,2]),(1, .AK 378 [] [1,2])]),(1, .Ah 69 [(20, .v 1 ES)]),(2, .Ah 69 [(20, .v 2 ES)])],3⟩
def mz:A':=⟨[.Ae Md, .Ae Md],[(0, .v 0 Md),(1, .v 1 Md),(2, .AK 375 [] [])],[],0⟩
def lO:A':=⟨[.Ae Ak],[(0, .v 0 Ak)],[],0⟩
def my:A':=⟨[.Ae BQ, .Ae BQ],[(0, .loc 0 0),(1, .loc 1 0)],[(0, .Ah 65 [(2, .v 0 BQ)]),(1, .Ah 65 [(2, .v 1 BQ)])],2⟩
def lN:A':=⟨[.Ae Ak, .Ae BQ, .Ae BQ],[(0, .v 0 Ak)],[(0, .Ah 65 [(2, .v 1 BQ)]),(1, .Ah 65 [(2, .v 2 BQ)])],2⟩
def mx:A':=⟨[.Ae FV, .Ae FV],[(0, .loc 0 0),(1, .loc 1 0)],[(0, .Ah 92 [(19, .v 0 FV)]),(1, .Ah 92 [(19, .v 1 FV)])],2⟩
def lM:A':=⟨[.Ae Ak, .Ae FV, .Ae FV],[(0, .v 0 Ak)],[(0, .Ah 92 [(19, .v 1 FV)]),(1, .Ah 92 [(19, .v 2 FV)])],2⟩
def mw:A':=⟨[.Ae FV, .Ae FV],[(0, .px [0] (.hc 2))],[(0, .Ah 121 [(1, .AK 382 [] [1,2]),(1, .AK 383 [] [1,2])]),(1, .Ah 92 [(19, .v 0 FV)]),(2, .Ah 92 [(19, .v 1 FV)])],3⟩
def lL:A':=⟨[.Ae Ak, .Ae FV, .Ae FV],[(0, .v 0 Ak)],[(0, .Ah 121 [(1, .AK 382 [] [1,2]),(1, .AK 383 [] [1,2])]),(1, .Ah 92 [(19, .v 1 FV)]),(2, .Ah 92 [(19, .v 2 FV)])],3⟩
def mv:A':=⟨[.Ae Gt, .Ae Gt],[(0, .v 0 Gt),(1, .v 1 Gt),(2, .AK 381 [] [])],[],0⟩
def lK:A':=⟨[.Ae Ak],[(0, .v 0 Ak)],[],0⟩
def mu:A':=⟨[.Ae BQ, .Ae BQ],[(0, .loc 0 0),(1, .loc 1 0)],[(0, .Ah 65 [(2, .v 0 BQ)]),(1, .Ah 65 [(2, .v 1 BQ)])],2⟩
def lJ:A':=⟨[.Ae Ak, .Ae BQ, .Ae BQ],[(0, .v 0 Ak)],[(0, .Ah 65 [(2, .v 1 BQ)]),(1, .Ah 65 [(2, .v 2 BQ)])],2⟩
def mr:A':=⟨[.Ae BQ, .Ae BQ],[(0, .px [0] (.hc 2))],[(0, .Ah 121 [(1, .AK 373 [] [1,2]),(1, .AK 379 [] [1,2])]),(1, .Ah 65 [(2, .v 0 BQ)]),(2, .Ah 65 [(2, .v 1 BQ)])],3⟩
def lI:A':=⟨[.Ae Ak, .Ae BQ, .Ae BQ],[(0, .v 0 Ak)],[(0, .Ah 121 [(1, .AK 373 [] [1,2]),(1, .AK 379 [] [1,2])]),(1, .Ah 65 [(2, .v 1 BQ)]),(2, .Ah 65 [(2, .v 2 BQ)])],3⟩
def mq:A':=⟨[.Ae Ej, .Ae Ej],[(0, .v 0 Ej),(1, .v 1 Ej),(2, .AK 331 [] [])],[],0⟩
def lH:A':=⟨[.Ae Ak],[(0, .v 0 Ak)],[],0⟩
def mo:A':=⟨[.Ae BD, .Ae BD],[(0, .loc 0 0),(1, .loc 1 0)],[(0, .Ah 33 [(9, .v 0 BD)]),(1, .Ah 33 [(9, .v 1 BD)])],2⟩
def lG:A':=⟨[.Ae Ak, .Ae BD, .Ae BD],[(0, .v 0 Ak)],[(0, .Ah 33 [(9, .v 1 BD)]),(1, .Ah 33 [(9, .v 2 BD)])],2⟩
def mn:A':=⟨[.Ae BD, .Ae BD],[(0, .px [0] (.hc 4))],[(0, .Ah 121 [(1, .AK 323 [] [1,2]),(1, .AK 325 [] [1,2]),(1, .AK 326 [] [1,2]),(1, .AK 329 [] [1,2])]),(1, .Ah 33 [(9, .v 0 BD)]),(2, .Ah 33 [(9, .v 1 BD)])],3⟩
def lF:A':=⟨[.Ae Ak, .Ae BD, .Ae BD],[(0, .v 0 Ak)],[(0, .Ah 121 [(1, .AK 323 [] [1,2]),(1, .AK 325 [] [1,2]),(1, .AK 326 [] [1,2]),(1, .AK 329 [] [1,2])]),(1, .Ah 33 [(9, .v 1 BD)]),(2, .Ah 33 [(9, .v 2 BD)])],3⟩
abbrev n6:Type:=G9 401 mM lY 1 []×G9 402 mL lX 1 []×G9 322 mK lW 1 []×Gq 372 [Bq,Bq] [Ak]×G9 371 mI lV 1 []×G9 370 mH lU 1 []×G9 322 mG lT 1 []×Gq 328 [Cc,Cc] [Ak]×G9 327 mF lS 1 []×G9 326 mE lR 1 []×G9 378 mD lQ 1 []×G9 322 mA lP 1 []×Gq 375 [ES,ES] [Ak]×G9 374 mz lO 1 []×G9 373 my lN 1 []×G9 383 mx lM 1 []×G9 322 mw lL 1 []×Gq 381 [FV,FV] [Ak]×G9 380 mv lK 1 []×G9 379 mu lJ 1 []×G9 322 mr lI 1 []×Gq 331 [BQ,BQ] [Ak]×G9 330 mq lH 1 []×G9 329 mo lG 1 []×G9 322 mn lF 1 []×Gq 267 [BD,BD] [Ak]
def D'(n:Nat):n6:=Nat.rec (motive:=λ_=>n6) (tP Tryz.func401,tP Tryz.func402,tP Tryz.func322,tQ Tryz.func372,tP Tryz.func371,tP Tryz.func370,tP Tryz.func322,tQ Tryz.func328,tP Tryz.func327,tP Tryz.func326,tP Tryz.func378,tP Tryz.func322,tQ Tryz.func375,tP Tryz.func374,tP Tryz.func373,tP Tryz.func383,tP Tryz.func322,tQ Tryz.func381,tP Tryz.func380,tP Tryz.func379,tP Tryz.func322,tQ Tryz.func331,tP Tryz.func330,tP Tryz.func329,tP Tryz.func322,tQ Tryz.func267) (λfu ⟨g0,g1,g2,g3,g4,g5,g6,g7,g8,g9,g10,g11,g12,g13,g14,g15,g16,g17,g18,g19,g20,g21,g22,g23,g24,g25⟩=>(sP [De g25] fu Tryz.func401 mM lY 1 [],sP [De g25] fu Tryz.func402 mL lX 1 [],sP [C2 g0,C2 g1] fu Tryz.func322 mK lW 1 [],sQ [C2 g2] fu Tryz.func372 [Bq,Bq] [Ak],sP [De g3] fu Tryz.func371 mI lV 1 [] (la:=lk [(2,⟨[.nat],(kp [0,1,2,11,12] [(13, .AD 0 200)]),[],0⟩)]),sP (C2 g4::bs [B81] fu) fu Tryz.func370 mH lU 1 [],sP (C2 g5::bs [B194,B195] fu) fu Tryz.func322 mG lT 1 [],sQ [C2 g6] fu Tryz.func328 [Cc,Cc] [Ak],sP [De g7] fu Tryz.func327 mF lS 1 [] (la:=lk [(2,⟨[.nat],(kp [0,1,2,11,12] [(13, .AD 0 200)]),[],0⟩)]),sP [C2 g8] fu Tryz.func326 mE lR 1 [],sP [De g3] fu Tryz.func378 mD lQ 1 [],sP (C2 g10::bs [B196,B197] fu) fu Tryz.func322 mA lP 1 [],sQ [C2 g11] fu Tryz.func375 [ES,ES] [Ak],sP [De g12] fu Tryz.func374 mz lO 1 [] (la:=lk [(2,⟨[.nat],(kp [0,1,2,11,12] [(13, .AD 0 200)]),[],0⟩)]),sP [C2 g13] fu Tryz.func373 my lN 1 [],sP [De g3] fu Tryz.func383 mx lM 1 [],sP (C2 g15::bs [B198] fu) fu Tryz.func322 mw lL 1 [],sQ [C2 g16] fu Tryz.func381 [FV,FV] [Ak],sP [De g17] fu Tryz.func380 mv lK 1 [] (la:=lk [(2,⟨[.nat],(kp [0,1,2,11,12] [(13, .AD 0 200)]),[],0⟩)]),sP [C2 g18] fu Tryz.func379 mu lJ 1 [],sP [C2 g14,C2 g19] fu Tryz.func322 mr lI 1 [],sQ [C2 g20] fu Tryz.func331 [BQ,BQ] [Ak],sP [De g21] fu Tryz.func330 mq lH 1 [] (la:=lk [(2,⟨[.nat],(kp [0,1,2,11,12] [(13, .AD 0 200)]),[],0⟩)]),sP [C2 g22] fu Tryz.func329 mo lG 1 [],sP (C2 g9::C2 g23::bs [B190,B193] fu) fu Tryz.func322 mn lF 1 [],sQ [C2 g24] fu Tryz.func267 [BD,BD] [Ak])) n
abbrev uf(fu:Nat)(x:AE×AE):Option (Int×AE×AE):=(D' fu).1.1 x
abbrev ue(fu:Nat)(x:AE×AE):Option (Int×AE×AE):=(D' fu).2.1.1 x
abbrev uc(fu:Nat)(x:AE×AE):Option (Int×AE×AE):=(D' fu).2.2.1.1 x
abbrev YR(fu:Nat)(x:AE×AE):Option Int:=(D' fu).2.2.2.1.1 x
abbrev ua(fu:Nat)(x:(List AE)×(List AE)):Option Int:=(D' fu).2.2.2.2.1.1 x
abbrev t_(fu:Nat)(x:BP×BP):Option (Int×BP×BP):=(D' fu).2.2.2.2.2.1.1 x
abbrev tZ(fu:Nat)(x:BP×BP):Option (Int×BP×BP):=(D' fu).2.2.2.2.2.2.1.1 x
abbrev tY(fu:Nat)(x:BP×BP):Option Int:=(D' fu).2.2.2.2.2.2.2.1.1 x
abbrev tX(fu:Nat)(x:(List BP)×(List BP)):Option Int:=(D' fu).2.2.2.2.2.2.2.2.1.1 x
abbrev tW(fu:Nat)(x:(Vl)×(Vl)):Option (Int×AE):=(D' fu).2.2.2.2.2.2.2.2.2.1.1 x
abbrev tU(fu:Nat)(x:(Aq×Int×AE)×(Aq×Int×AE)):Option (Int×(Aq×Int×AE)×Aq×Int×AE):=(D' fu).2.2.2.2.2.2.2.2.2.2.1.1 x
abbrev tT(fu:Nat)(x:(Aq×Int×AE)×(Aq×Int×AE)):Option (Int×(Aq×Int×AE)×Aq×Int×AE):=(D' fu).2.2.2.2.2.2.2.2.2.2.2.1.1 x
abbrev tS(fu:Nat)(x:(Aq×Int×AE)×(Aq×Int×AE)):Option Int:=(D' fu).2.2.2.2.2.2.2.2.2.2.2.2.1.1 x
abbrev tR(fu:Nat)(x:(List (Aq×Int×AE))×(List (Aq×Int×AE))):Option Int:=(D' fu).2.2.2.2.2.2.2.2.2.2.2.2.2.1.1 x
abbrev tO(fu:Nat)(x:BC×BC):Option (Int×BC×BC):=(D' fu).2.2.2.2.2.2.2.2.2.2.2.2.2.2.1.1 x
abbrev tN(fu:Nat)(x:(A5×AE)×(A5×AE)):Option (Int×(A5×AE)×A5×AE):=(D' fu).2.2.2.2.2.2.2.2.2.2.2.2.2.2.2.1.1 x
abbrev tM(fu:Nat)(x:(A5×AE)×(A5×AE)):Option (Int×(A5×AE)×A5×AE):=(D' fu).2.2.2.2.2.2.2.2.2.2.2.2.2.2.2.2.1.1 x
abbrev tL(fu:Nat)(x:(A5×AE)×(A5×AE)):Option Int:=(D' fu).2.2.2.2.2.2.2.2.2.2.2.2.2.2.2.2.2.1.1 x
abbrev tK(fu:Nat)(x:(List (A5×AE))×(List (A5×AE))):Option Int:=(D' fu).2.2.2.2.2.2.2.2.2.2.2.2.2.2.2.2.2.2.1.1 x
abbrev tI(fu:Nat)(x:BC×BC):Option (Int×BC×BC):=(D' fu).2.2.2.2.2.2.2.2.2.2.2.2.2.2.2.2.2.2.2.1.1 x
abbrev tH(fu:Nat)(x:BC×BC):Option (Int×BC×BC):=(D' fu).2.2.2.2.2.2.2.2.2.2.2.2.2.2.2.2.2.2.2.2.1.1 x
abbrev tG(fu:Nat)(x:BC×BC):Option Int:=(D' fu).2.2.2.2.2.2.2.2.2.2.2.2.2.2.2.2.2.2.2.2.2.1.1 x
abbrev tF(fu:Nat)(x:(List BC)×(List BC)):Option Int:=(D' fu).2.2.2.2.2.2.2.2.2.2.2.2.2.2.2.2.2.2.2.2.2.2.1.1 x
abbrev tE(fu:Nat)(x:(Vl)×(Vl)):Option (Int×AE):=(D' fu).2.2.2.2.2.2.2.2.2.2.2.2.2.2.2.2.2.2.2.2.2.2.2.1.1 x
abbrev tD(fu:Nat)(x:(Vl)×(Vl)):Option (Int×AE):=(D' fu).2.2.2.2.2.2.2.2.2.2.2.2.2.2.2.2.2.2.2.2.2.2.2.2.1.1 x
def B224(fu:Nat):=De (D' fu).2.2.2.2.2.2.2.2.2.2.2.2.2.2.2.2.2.2.2.2.2.2.2.2.2
abbrev eQ(fu:Nat)(x:(Vl)×(Vl)):Option Int:=(D' fu).2.2.2.2.2.2.2.2.2.2.2.2.2.2.2.2.2.2.2.2.2.2.2.2.2.1 x
def D202(c:Nat)(a:AE)(b:AE):Option (Int×AE×AE):=Ab (eQ c (a.1,b.1)) λd=>Ac (d,a,b)
theorem d202(fu x0 x1):uf (fu+1) (x0,x1)=D202 fu x0 x1:=by kernel_rfl
def D203(c:Nat)(a:AE)(b:AE):Option (Int×AE×AE):=Ab (eQ c (a.2,b.2)) λd=>Ac (d,a,b)
theorem d203(fu x0 x1):ue (fu+1) (x0,x1)=D203 fu x0 x1:=by kernel_rfl
def D204(c:Nat)(d:AE)(e:AE):Option (Int×AE×AE):=iF ((0:Int)< ↑2) (Ag ((0:Int)<=0/\(0:Int)< ↑2)<|Ab (uf c (d,e)) λa=>iF (a.1≠0) (Ac ((a.1,a.2.1,a.2.2)))<|Aa .i64 ((0:Int)+1)<|iF ((0:Int)+1< ↑2) (Ag ((0:Int)<=0+1/\(0:Int)+1< ↑2)<|Ab (ue c (a.2.1,a.2.2)) λb=>iF (b.1≠0) (Ac ((b.1,b.2.1,b.2.2)))<|Aa .i64 ((0:Int)+1+1)<|iF ((0:Int)+1+1< ↑2) (Ag ((0:Int)<=0+1+1/\(0:Int)+1+1< ↑2)<|none)<|some ((0,b.2.1,b.2.2)))<|some ((0,a.2.1,a.2.2)))<|some (0,d,e)
theorem d204(fu x0 x1):uc (fu+1) (x0,x1)=D204 fu x0 x1:=by kernel_rfl
def D205(a:Nat)(b:AE)(c:AE):Option Int:=Ab (uc a (b,c)) λd=>Ac d.1
theorem d205(fu x0 x1):YR (fu+1) (x0,x1)=D205 fu x0 x1:=by kernel_rfl
def D206(d:Nat)(b:List AE)(c:List AE):Option Int:=Ad d (λ(a:Nat) f=>iF ((a:Int)<b.length) (Ab (idx b a) λg=>iF ((c.length:Int)<=a) (Ac 1)<|Ab (idx c a) λh=>Ab (YR d (g,h)) λe=>iF (e≠0) (Ac e)<|f (a+1))<|iF ((b.length:Int)<c.length) (Ac ((-1:Int)))<|some 0) (0)
theorem d206(fu x0 x1):ua (fu+1) (x0,x1)=D206 fu x0 x1:=by kernel_rfl
def D207(a:Nat)(b:BP)(c:BP):Option (Int×BP×BP):=Ab (fq a b) λd=>Ab (fq a c) λe=>Ab (ua a (d,e)) λf=>Ac (f,b,c)
theorem d207(fu x0 x1):t_ (fu+1) (x0,x1)=D207 fu x0 x1:=by kernel_rfl
def D208(d:Nat)(e:BP)(f:BP):Option (Int×BP×BP):=iF ((0:Int)< ↑3) (Ag ((0:Int)<=0/\(0:Int)< ↑3)<|Ab (uh d (e,f)) λa=>iF (a.1≠0) (Ac ((a.1,a.2.1,a.2.2)))<|Aa .i64 ((0:Int)+1)<|iF ((0:Int)+1< ↑3) (Ag ((0:Int)<=0+1/\(0:Int)+1< ↑3)<|Ab (ug d (a.2.1,a.2.2)) λb=>iF (b.1≠0) (Ac ((b.1,b.2.1,b.2.2)))<|Aa .i64 ((0:Int)+1+1)<|iF ((0:Int)+1+1< ↑3) (Ag ((0:Int)<=0+1+1/\(0:Int)+1+1< ↑3)<|Ab (t_ d (b.2.1,b.2.2)) λc=>iF (c.1≠0) (Ac ((c.1,c.2.1,c.2.2)))<|Aa .i64 ((0:Int)+1+1+1)<|iF ((0:Int)+1+1+1< ↑3) (Ag ((0:Int)<=0+1+1+1/\(0:Int)+1+1+1< ↑3)<|none)<|some ((0,c.2.1,c.2.2)))<|some ((0,b.2.1,b.2.2)))<|some ((0,a.2.1,a.2.2)))<|some (0,e,f)
theorem d208(fu x0 x1):tZ (fu+1) (x0,x1)=D208 fu x0 x1:=by kernel_rfl
def D209(a:Nat)(b:BP)(c:BP):Option Int:=Ab (tZ a (b,c)) λd=>Ac d.1
theorem d209(fu x0 x1):tY (fu+1) (x0,x1)=D209 fu x0 x1:=by kernel_rfl
def D210(d:Nat)(b:List BP)(c:List BP):Option Int:=Ad d (λ(a:Nat) f=>iF ((a:Int)<b.length) (Ab (idx b a) λg=>iF ((c.length:Int)<=a) (Ac 1)<|Ab (idx c a) λh=>Ab (tY d (g,h)) λe=>iF (e≠0) (Ac e)<|f (a+1))<|iF ((b.length:Int)<c.length) (Ac ((-1:Int)))<|some 0) (0)
theorem d210(fu x0 x1):tX (fu+1) (x0,x1)=D210 fu x0 x1:=by kernel_rfl
def D211(c:Nat)(a:Vl)(b:Vl):Option (Int×AE):=Ab (tX c (Vl.lists a,Vl.lists b)) λd=>Ac (d,a,b)
theorem d211(fu x0 x1):tW (fu+1) (x0,x1)=D211 fu x0 x1:=by kernel_rfl
def za(c:Nat)(a:Aq×Int×AE)(b:Aq×Int×AE):Option (Int×(Aq×Int×AE)×Aq×Int×AE):=Ab (YR c (a.2.2,b.2.2)) λd=>Ac (d,a,b)
theorem d212(fu x0 x1):tU (fu+1) (x0,x1)=za fu x0 x1:=by kernel_rfl
def y_(d:Nat)(e:Aq×Int×AE)(f:Aq×Int×AE):Option (Int×(Aq×Int×AE)×Aq×Int×AE):=iF ((0:Int)< ↑3) (Ag ((0:Int)<=0/\(0:Int)< ↑3)<|Ab (kH d (e,f)) λa=>iF (a.1≠0) (Ac ((a.1,a.2.1,a.2.2)))<|Aa .i64 ((0:Int)+1)<|iF ((0:Int)+1< ↑3) (Ag ((0:Int)<=0+1/\(0:Int)+1< ↑3)<|Ab (kG d (a.2.1,a.2.2)) λb=>iF (b.1≠0) (Ac ((b.1,b.2.1,b.2.2)))<|Aa .i64 ((0:Int)+1+1)<|iF ((0:Int)+1+1< ↑3) (Ag ((0:Int)<=0+1+1/\(0:Int)+1+1< ↑3)<|Ab (tU d (b.2.1,b.2.2)) λc=>iF (c.1≠0) (Ac ((c.1,c.2.1,c.2.2)))<|Aa .i64 ((0:Int)+1+1+1)<|iF ((0:Int)+1+1+1< ↑3) (Ag ((0:Int)<=0+1+1+1/\(0:Int)+1+1+1< ↑3)<|none)<|some ((0,c.2.1,c.2.2)))<|some ((0,b.2.1,b.2.2)))<|some ((0,a.2.1,a.2.2)))<|some (0,e,f)
theorem d213(fu x0 x1):tT (fu+1) (x0,x1)=y_ fu x0 x1:=by kernel_rfl
def D214(a:Nat)(b:Aq×Int×AE)(c:Aq×Int×AE):Option Int:=Ab (tT a (b,c)) λd=>Ac d.1
theorem d214(fu x0 x1):tS (fu+1) (x0,x1)=D214 fu x0 x1:=by kernel_rfl
def yZ(d:Nat)(b:List (Aq×Int×AE))(c:List (Aq×Int×AE)):Option Int:=Ad d (λ(a:Nat) f=>iF ((a:Int)<b.length) (Ab (idx b a) λg=>iF ((c.length:Int)<=a) (Ac 1)<|Ab (idx c a) λh=>Ab (tS d (g,h)) λe=>iF (e≠0) (Ac e)<|f (a+1))<|iF ((b.length:Int)<c.length) (Ac ((-1:Int)))<|some 0) (0)
theorem d215(fu x0 x1):tR (fu+1) (x0,x1)=yZ fu x0 x1:=by kernel_rfl
def yY(c:Nat)(a:BC)(b:BC):Option (Int×BC×BC):=Ab (tR c (a.1,b.1)) λd=>Ac (d,a,b)
theorem d216(fu x0 x1):tO (fu+1) (x0,x1)=yY fu x0 x1:=by kernel_rfl
def yX(c:Nat)(a:A5×AE)(b:A5×AE):Option (Int×(A5×AE)×A5×AE):=Ab (YR c (a.2,b.2)) λd=>Ac (d,a,b)
theorem d217(fu x0 x1):tN (fu+1) (x0,x1)=yX fu x0 x1:=by kernel_rfl
def yW(c:Nat)(d:A5×AE)(e:A5×AE):Option (Int×(A5×AE)×A5×AE):=iF ((0:Int)< ↑2) (Ag ((0:Int)<=0/\(0:Int)< ↑2)<|Ab (kF c (d,e)) λa=>iF (a.1≠0) (Ac ((a.1,a.2.1,a.2.2)))<|Aa .i64 ((0:Int)+1)<|iF ((0:Int)+1< ↑2) (Ag ((0:Int)<=0+1/\(0:Int)+1< ↑2)<|Ab (tN c (a.2.1,a.2.2)) λb=>iF (b.1≠0) (Ac ((b.1,b.2.1,b.2.2)))<|Aa .i64 ((0:Int)+1+1)<|iF ((0:Int)+1+1< ↑2) (Ag ((0:Int)<=0+1+1/\(0:Int)+1+1< ↑2)<|none)<|some ((0,b.2.1,b.2.2)))<|some ((0,a.2.1,a.2.2)))<|some (0,d,e)
theorem d218(fu x0 x1):tM (fu+1) (x0,x1)=yW fu x0 x1:=by kernel_rfl
def D219(a:Nat)(b:A5×AE)(c:A5×AE):Option Int:=Ab (tM a (b,c)) λd=>Ac d.1
theorem d219(fu x0 x1):tL (fu+1) (x0,x1)=D219 fu x0 x1:=by kernel_rfl
def yV(d:Nat)(b:List (A5×AE))(c:List (A5×AE)):Option Int:=Ad d (λ(a:Nat) f=>iF ((a:Int)<b.length) (Ab (idx b a) λg=>iF ((c.length:Int)<=a) (Ac 1)<|Ab (idx c a) λh=>Ab (tL d (g,h)) λe=>iF (e≠0) (Ac e)<|f (a+1))<|iF ((b.length:Int)<c.length) (Ac ((-1:Int)))<|some 0) (0)
theorem d220(fu x0 x1):tK (fu+1) (x0,x1)=yV fu x0 x1:=by kernel_rfl
def yU(c:Nat)(a:BC)(b:BC):Option (Int×BC×BC):=Ab (tK c (a.2,b.2)) λd=>Ac (d,a,b)
theorem d221(fu x0 x1):tI (fu+1) (x0,x1)=yU fu x0 x1:=by kernel_rfl
def yT(c:Nat)(d:BC)(e:BC):Option (Int×BC×BC):=iF ((0:Int)< ↑2) (Ag ((0:Int)<=0/\(0:Int)< ↑2)<|Ab (tO c (d,e)) λa=>iF (a.1≠0) (Ac ((a.1,a.2.1,a.2.2)))<|Aa .i64 ((0:Int)+1)<|iF ((0:Int)+1< ↑2) (Ag ((0:Int)<=0+1/\(0:Int)+1< ↑2)<|Ab (tI c (a.2.1,a.2.2)) λb=>iF (b.1≠0) (Ac ((b.1,b.2.1,b.2.2)))<|Aa .i64 ((0:Int)+1+1)<|iF ((0:Int)+1+1< ↑2) (Ag ((0:Int)<=0+1+1/\(0:Int)+1+1< ↑2)<|none)<|some ((0,b.2.1,b.2.2)))<|some ((0,a.2.1,a.2.2)))<|some (0,d,e)
theorem d222(fu x0 x1):tH (fu+1) (x0,x1)=yT fu x0 x1:=by kernel_rfl
def D223(a:Nat)(b:BC)(c:BC):Option Int:=Ab (tH a (b,c)) λd=>Ac d.1
theorem d223(fu x0 x1):tG (fu+1) (x0,x1)=D223 fu x0 x1:=by kernel_rfl
def yS(d:Nat)(b:List BC)(c:List BC):Option Int:=Ad d (λ(a:Nat) f=>iF ((a:Int)<b.length) (Ab (idx b a) λg=>iF ((c.length:Int)<=a) (Ac 1)<|Ab (idx c a) λh=>Ab (tG d (g,h)) λe=>iF (e≠0) (Ac e)<|f (a+1))<|iF ((b.length:Int)<c.length) (Ac ((-1:Int)))<|some 0) (0)
theorem d224(fu x0 x1):tF (fu+1) (x0,x1)=yS fu x0 x1:=by kernel_rfl
def yR(c:Nat)(a:Vl)(b:Vl):Option (Int×AE):=Ab (tF c (Vl.structs a,Vl.structs b)) λd=>Ac (d,a,b)
theorem d225(fu x0 x1):tE (fu+1) (x0,x1)=yR fu x0 x1:=by kernel_rfl
def D226(e:Nat)(f:Vl)(g:Vl):Option (Int×AE):=iF ((0:Int)< ↑4) (Ag ((0:Int)<=0/\(0:Int)< ↑4)<|Ab (uj e (f,g)) λa=>iF (a.1≠0) (Ac ((a.1,a.2.1,a.2.2)))<|Aa .i64 ((0:Int)+1)<|iF ((0:Int)+1< ↑4) (Ag ((0:Int)<=0+1/\(0:Int)+1< ↑4)<|Ab (ui e (a.2.1,a.2.2)) λb=>iF (b.1≠0) (Ac ((b.1,b.2.1,b.2.2)))<|Aa .i64 ((0:Int)+1+1)<|iF ((0:Int)+1+1< ↑4) (Ag ((0:Int)<=0+1+1/\(0:Int)+1+1< ↑4)<|Ab (tW e (b.2.1,b.2.2)) λc=>iF (c.1≠0) (Ac ((c.1,c.2.1,c.2.2)))<|Aa .i64 ((0:Int)+1+1+1)<|iF ((0:Int)+1+1+1< ↑4) (Ag ((0:Int)<=0+1+1+1/\(0:Int)+1+1+1< ↑4)<|Ab (tE e (c.2.1,c.2.2)) λd=>iF (d.1≠0) (Ac ((d.1,d.2.1,d.2.2)))<|Aa .i64 ((0:Int)+1+1+1+1)<|iF ((0:Int)+1+1+1+1< ↑4) (Ag ((0:Int)<=0+1+1+1+1/\(0:Int)+1+1+1+1< ↑4)<|none)<|some ((0,d.2.1,d.2.2)))<|some ((0,c.2.1,c.2.2)))<|some ((0,b.2.1,b.2.2)))<|some ((0,a.2.1,a.2.2)))<|some (0,f,g)
theorem d226(fu x0 x1):tD (fu+1) (x0,x1)=D226 fu x0 x1:=by kernel_rfl
def D227(a:Nat)(b:Vl)(c:Vl):Option Int:=Ab (tD a (b,c)) λd=>Ac d.1
theorem d227(fu x0 x1):eQ (fu+1) (x0,x1)=D227 fu x0 x1:=by kernel_rfl
def kE(a:Nat):Vl×Vl->Option Int|(b,c)=>Ab (sY a b) λd=>iB (!d) (Ac 0)<|Ab (sY a c) λe=>iB (!e) (Ac 0)<|Ab (eQ a (b,c)) Ac
def zI:=bQ [B88,B224] Tryz.func212 [BD,BD] [Ak] kE
def eP(a:Nat):BP×BP->Option Int|(b,c)=>Ab (uk a b) λd=>Ab (uk a c) λe=>Ab (kE a (d,e)) Ac
def B226:=bP [B188,zI] Tryz.func211 ⟨[.Ae Cc, .Ae Cc],[(0, .v 0 Cc),(1, .v 1 Cc),(2, .loc 0 0)],[(0, .Ah 128 [(1, .AK 152 [] [])])],1⟩ ⟨[.Ae Ak],[(0, .v 0 Ak)],[(0, .Ah 128 [(1, .AK 152 [] [])])],1⟩ 1 [] eP
def D230(fu:Nat)(x0 x1:Int)(x2:List BP):=Su (λx y=>eP fu (x,y)) fu x0 x1 x2
abbrev yj fu:=u3 (D230 fu)
def B227:=bP [B226] Tryz.func314 ⟨[.Ae Ak, .Ae Ak, .Ae Ek],[(0, .AH 0),(1, .v 0 Ak),(2, .v 1 Ak),(3, .AK 211 [] [1])],[(0, .row 77 2),(1, .Ah 128 [(1, .AK 152 [] [])])],2⟩ ⟨[.Ae Ek],[],[(0, .row 77 0),(1, .Ah 128 [(1, .AK 152 [] [])])],2⟩ 0 [] yj (la:=lk [(1,⟨[.Ae Ek, .Ae Ak],(kp [0,1,2,3] [(8, .v 1 Ak)]),[(1, .Ah 128 [(1, .AK 152 [] [])]),(0, .row 77 0)],2⟩),(4,⟨[.Ae Ek, .Ae Ak],(kp [0,1,2,3,8] [(9, .v 1 Ak)]),[(1, .Ah 128 [(1, .AK 152 [] [])]),(0, .row 77 0)],2⟩)])
def tC(c:Nat):Int×Int×Int×List BP->Option (List BP)|(a,b,d,e)=>Ad c (λ(g:PUnit) h=>Aa .i64 (b-a)<|iF (b-a<=12) (Ab (yj c (a,b,e)) Ac)<|iF (d=0) C7<|none) (())
def B228:=bP [B227] Tryz.func266 ⟨[.Ae Ak, .Ae Ak, .Ae Ak, .Ae Ek],[(0, .AH 0),(1, .v 0 Ak),(2, .v 1 Ak),(3, .v 2 Ak),(4, .AK 211 [] [1])],[(0, .row 77 3),(1, .Ah 128 [(1, .AK 152 [] [])])],2⟩ ⟨[.Ae Ek],[],[(0, .row 77 0),(1, .Ah 128 [(1, .AK 152 [] [])])],2⟩ 0 [] tC (la:=lk [(2,⟨[],(kp [0,1,2,3,4,10,11] []),[(1, .c 0),(0, .c 0)],2⟩)])
def eN(b:Nat)(a:List BP):Option (List BP):=Ab (s5 b (Int.ofNat (EW a %w8 (18446744073709551616:Int)))) λc=>Ab (tC b (0,(a.length:Int),c,a)) Ac
def B229:=bP [B62,B228] Tryz.func210 ⟨[.Ae Ek],[(0, .AH 0),(1, .AK 211 [] [1])],[(0, .row 77 0),(1, .Ah 128 [(1, .AK 152 [] [])])],2⟩ ⟨[.Ae Ek],[],[(0, .row 77 0),(1, .Ah 128 [(1, .AK 152 [] [])])],2⟩ 0 [] eN
def tB(c:Nat)(d:List BP):Option (List BP):=Ad c (λ(a:List BP×Nat) e=>iF ((a.2:Int)<d.length) (Ab (idx d a.2) λf=>Ad c (λ(b:Nat) g=>iF ((b:Int)<d.length) (Ab (idx d b) λh=>iF ((a.2:Int)≠b) (Ab (Vm c (f,h)) λi=>iB i (iF ((b:Int)<a.2) (e (a.1,a.2+1))<|Ab (Vm c (h,f)) λj=>iB (!j) (e (a.1,a.2+1))<|g (b+1))<|g (b+1))<|g (b+1))<|Ag (EW a.1+1<=Ai)<|e (((a.1++[f]),a.2+1))) (0))<|Ab (eN c a.1) Ac) (([],0))
def B230:=bP [B187,B229] Tryz.func150 ⟨[.Ae Ek],[(0, .v 0 Ek),(1, .AK 151 [] []),(2, .AK 152 [] [])],[],0⟩ ⟨[.Ae Ek],[(0, .v 0 Ek)],[],0⟩ 1 [] tB (la:=lk [(3,⟨[.Ae Ek, .nat],(kp [0,1,5] [(7, .AH 1),(12, .Am),(13, .Am),(14, .AD 1 301)]),[(0, .c 0),(1, .row 77 0)],2⟩),(6,⟨[.nat],(kp [0,1,5,7,8,9,12,13,14,19,20] [(21, .AD 0 600)]),[(2, .c 0),(1, .c 0),(0, .c 0)],3⟩)]) (pt:=lg [(2,[.own 7 77 Cc]),(13,[.fz 6])])
def tA(b:Nat)(a:BC):Option Vl:=Ac (Vl.mk Aj (Aj,Aj,Aj,([],[]),[]) [] [a])
def B231:=bQ [] Tryz.func155 [BQ] [BD] tA (pt:=lg [(1,[.M5 2 8])])
def eM(a:Nat):BC×BC->Option Int|(b,c)=>Ab (tA a b) λd=>Ab (tA a c) λe=>Ab (kE a (d,e)) Ac
def B232:=bP [B231,zI] Tryz.func216 ⟨[.Ae BQ, .Ae BQ],[(0, .v 0 BQ),(1, .v 1 BQ),(2, .loc 0 0)],[(0, .Ah 131 [(1, .AK 155 [] [])])],1⟩ ⟨[.Ae Ak],[(0, .v 0 Ak)],[(0, .Ah 131 [(1, .AK 155 [] [])])],1⟩ 1 [] eM
def D236(fu:Nat)(x0 x1:Int)(x2:List BC):=Su (λx y=>eM fu (x,y)) fu x0 x1 x2
abbrev yh fu:=u3 (D236 fu)
def B233:=bP [B232] Tryz.func332 ⟨[.Ae Ak, .Ae Ak, .Ae Ej],[(0, .AH 0),(1, .v 0 Ak),(2, .v 1 Ak),(3, .AK 216 [] [1])],[(0, .row 65 2),(1, .Ah 131 [(1, .AK 155 [] [])])],2⟩ ⟨[.Ae Ej],[],[(0, .row 65 0),(1, .Ah 131 [(1, .AK 155 [] [])])],2⟩ 0 [] yh (la:=lk [(1,⟨[.Ae Ej, .Ae Ak],(kp [0,1,2,3] [(8, .v 1 Ak)]),[(1, .Ah 131 [(1, .AK 155 [] [])]),(0, .row 65 0)],2⟩),(4,⟨[.Ae Ej, .Ae Ak],(kp [0,1,2,3,8] [(9, .v 1 Ak)]),[(1, .Ah 131 [(1, .AK 155 [] [])]),(0, .row 65 0)],2⟩)])
def tz(c:Nat):Int×Int×Int×List BC->Option (List BC)|(a,b,d,e)=>Ad c (λ(g:PUnit) h=>Aa .i64 (b-a)<|iF (b-a<=12) (Ab (yh c (a,b,e)) Ac)<|iF (d=0) C7<|none) (())
def B234:=bP [B233] Tryz.func268 ⟨[.Ae Ak, .Ae Ak, .Ae Ak, .Ae Ej],[(0, .AH 0),(1, .v 0 Ak),(2, .v 1 Ak),(3, .v 2 Ak),(4, .AK 216 [] [1])],[(0, .row 65 3),(1, .Ah 131 [(1, .AK 155 [] [])])],2⟩ ⟨[.Ae Ej],[],[(0, .row 65 0),(1, .Ah 131 [(1, .AK 155 [] [])])],2⟩ 0 [] tz (la:=lk [(2,⟨[],(kp [0,1,2,3,4,10,11] []),[(1, .c 0),(0, .c 0)],2⟩)])
def eL(b:Nat)(a:List BC):Option (List BC):=Ab (s5 b (Int.ofNat (EW a %w8 (18446744073709551616:Int)))) λc=>Ab (tz b (0,(a.length:Int),c,a)) Ac
def B235:=bP [B62,B234] Tryz.func215 ⟨[.Ae Ej],[(0, .AH 0),(1, .AK 216 [] [1])],[(0, .row 65 0),(1, .Ah 131 [(1, .AK 155 [] [])])],2⟩ ⟨[.Ae Ej],[],[(0, .row 65 0),(1, .Ah 131 [(1, .AK 155 [] [])])],2⟩ 0 [] eL
def tx(c:Nat)(d:List BC):Option (List BC):=Ad c (λ(a:List BC×Nat) e=>iF ((a.2:Int)<d.length) (Ab (idx d a.2) λf=>Ad c (λ(b:Nat) g=>iF ((b:Int)<d.length) (Ab (idx d b) λh=>iF ((a.2:Int)≠b) (Ab (Vn c (f,h)) λi=>iB i (iF ((b:Int)<a.2) (e (a.1,a.2+1))<|Ab (Vn c (h,f)) λj=>iB (!j) (e (a.1,a.2+1))<|g (b+1))<|g (b+1))<|g (b+1))<|Ag (EW a.1+1<=Ai)<|e (((a.1++[f]),a.2+1))) (0))<|Ab (eL c a.1) Ac) (([],0))
def B236:=bP [B180,B235] Tryz.func153 ⟨[.Ae Ej],[(0, .v 0 Ej),(1, .AK 154 [] []),(2, .AK 155 [] [])],[],0⟩ ⟨[.Ae Ej],[(0, .v 0 Ej)],[],0⟩ 1 [] tx (la:=lk [(3,⟨[.Ae Ej, .nat],(kp [0,1,5] [(7, .AH 1),(12, .Am),(13, .Am),(14, .AD 1 301)]),[(0, .c 0),(1, .row 65 0)],2⟩),(6,⟨[.nat],(kp [0,1,5,7,8,9,12,13,14,19,20] [(21, .AD 0 600)]),[(2, .c 0),(1, .c 0),(0, .c 0)],3⟩)]) (pt:=lg [(2,[.own 7 65 BQ]),(13,[.fz 6])])
def yg(a:Nat)(_:Unit):Option A5:=Ac ([(Bp,[(0,255,0)])])
def B237:=bQ [] Tryz.func272 [] [y3] yg (pt:=lg [(1,[.M5 0 0])])
def kD(a:Nat)(_:Unit):Option FC:=Ab (Vo a ()) λb=>Ab (yg a ()) λc=>Ac (Bp,Bp,Bp,b,c)
def B238:=bQ [zM,B237] Tryz.func219 [] [y8] kD
def eK(b:Nat)(a:AE):Option Bool:=iB (Vl.any a.1) (Ac (Vl.any a.2))<|some Aj
def zH:=bQ [] Tryz.func273 [Bq] [.bool] eK
def tv(b:Nat)(a:BP):Option Bool:=iF ((a.1.length:Int)=0) (iF ((a.2.length:Int)=1) (Ab (idx a.2 0) λc=>Ab (eK b c) Ac)<|some Aj)<|some Aj
def B240:=bQ [zH] Tryz.func220 [Cc] [.bool] tv
def tu(b:Nat)(a:BC):Option Bool:=iF ((a.1.length:Int)=0) (iF ((a.2.length:Int)=1) (Ab (idx a.2 0) λc=>Ab (eK b c.2) Ac)<|some Aj)<|some Aj
def B241:=bQ [zH] Tryz.func221 [BQ] [.bool] tu
def kC(b:Nat)(a:Vl):Option Bool:=iF (((Vl.lists a).length:Int)=1) (iF (((Vl.structs a).length:Int)=1) (Ab (kD b ()) λc=>Ab (TQ b (Vl.sc a,c)) λd=>iF (d=0) (Ab (idx (Vl.lists a) (0:Int)) λe=>Ab (tv b e) λf=>iB f (Ab (idx (Vl.structs a) (0:Int)) λg=>Ab (tu b g) Ac)<|some Aj)<|some Aj)<|some Aj)<|some Aj
def B242:=bQ [zJ,B238,B240,B241] Tryz.func156 [BD] [.bool] kC
abbrev n5:Type:=Gq 148 [Cc] [Cc, .bool, .bool]×Gq 149 [BQ] [BQ, .bool, .bool]×Gq 109 [BD] [BD, .bool]×Gq 77 [Bq] [Bq, .bool]
def dV(n:Nat):n5:=Nat.rec (motive:=λ_=>n5) (tQ Tryz.func148,tQ Tryz.func149,tQ Tryz.func109,tQ Tryz.func77) (λfu ⟨g0,g1,g2,g3⟩=>(sQ (De g3::bs [ll] fu) fu Tryz.func148 [Cc] [Cc, .bool, .bool] (la:=lk [(4,⟨[.Ae Dq, .Ae .bool, .nat],(kp [1,2,5] [(6, .v 1 .bool),(16, .Am),(17, .Am),(18, .AD 2 402)]),[(2, .Ah 77 [(1, .AH 3),(1, .Am)]),(1, .c 0),(0, .c 0),(3, .row 35 0)],4⟩),(13,⟨[.Ae Dq, .nat],(kp [2,5,6,45,46] [(47, .AD 1 1301)]),[(2, .Ah 77 [(1, .Am),(1, .AH 4)]),(3, .c 0),(1, .c 0),(4, .row 35 0)],5⟩)]) (pt:=lg [(3,[.Ey 5 0 35 Bq]),(12,[.Ey 5 1 35 Bq]),(21,[.M5 2 0, .M5 2 1])]),sQ (De g3::bs [ll,B136,zT,B149] fu) fu Tryz.func149 [BQ] [BQ, .bool, .bool] (la:=lk [(4,⟨[.Ae Md, .Ae .bool, .nat],(kp [1,2,5] [(6, .v 1 .bool),(17, .Am),(18, .Am),(19, .AD 2 402)]),[(2, .Ah 65 [(1, .AH 3),(1, .Am)]),(1, .c 0),(0, .c 0),(3, .row 69 0)],4⟩),(14,⟨[.Ae Gt, .nat],(kp [2,5,6,49,50] [(51, .AD 1 1401)]),[(2, .Ah 65 [(1, .Am),(1, .AH 4)]),(3, .c 0),(1, .c 0),(4, .row 92 0)],5⟩)]) (pt:=lg [(3,[.Ey 5 0 69 ES]),(13,[.Ey 5 1 92 FV]),(25,[.M5 2 0, .M5 2 1])]),sQ (De g0::De g1::bs [B108,B230,B236,B242] fu) fu Tryz.func109 [BD] [BD, .bool] (la:=lk [(6,⟨[.Ae Ek, .nat],(kp [1,2,4] [(5, .AH 3),(25, .Am),(26, .Am),(27, .AD 1 601)]),[(2, .c 0),(1, .c 0),(0, .c 0),(3, .row 77 0)],4⟩),(16,⟨[.Ae Ej, .nat],(kp [2,4,5] [(11, .AH 4),(47, .Am),(48, .Am),(49, .AD 1 1601)]),[(3, .c 0),(2, .c 0),(1, .c 0),(4, .row 65 0)],5⟩)]) (pr:=lg [(24,[.fz 5, .fz 11])]) (pt:=lg [(5,[.own 5 77 Cc]),(15,[.own 11 65 BQ])]),sQ (De g2::bs [B185] fu) fu Tryz.func77 [Bq] [Bq, .bool])) n
abbrev kB(fu:Nat)(x:BP):Option (BP×Bool×Bool):=(dV fu).1.1 x
abbrev kA(fu:Nat)(x:BC):Option (BC×Bool×Bool):=(dV fu).2.1.1 x
abbrev YQ(fu:Nat)(x:(Vl)):Option (Vl×Bool):=(dV fu).2.2.1.1 x
def B246(fu:Nat):=De (dV fu).2.2.2
abbrev LD(fu:Nat)(x:AE):Option (AE×Bool):=(dV fu).2.2.2.1 x
def D246(c:Nat)(d:BP):Option (BP×Bool×Bool):=Ad c (λ(a:List AE×Bool×Nat) g=>iF ((a.2.2:Int)<d.1.length) (Ab (idx d.1 a.2.2) λi=>Ab (LD c i) λe=>iB (!e.2) (Ac ((([],[]),Aj,Aj)))<|iB a.2.1 (Ab (Vq c e.1.1) λj=>Ag (EW a.1+1<=4294967296)<|g ((a.1++[e.1]),(!j),a.2.2+1))<|Ag (EW a.1+1<=4294967296)<|g ((a.1++[e.1]),Aj,a.2.2+1))<|Ad c (λ(b:List AE×Nat) h=>iF ((b.2:Int)<d.2.length) (Ab (idx d.2 b.2) λk=>Ab (LD c k) λf=>iB (!f.2) (Ac ((([],[]),Aj,Aj)))<|Ab (Vq c f.1.1) λl=>iB (!l) (Ag (EW b.1+1<=4294967296)<|h ((b.1++[f.1]),b.2+1))<|h (b.1,b.2+1))<|some (((a.1,b.1),a.2.1,Bp))) (([],0))) (([],Bp,0))
theorem d246(fu x0):kB (fu+1) x0=D246 fu x0:=by kernel_rfl
def D247(c:Nat)(f:BC):Option (BC×Bool×Bool):=Ad c (λ(a:List (Aq×Int×AE)×Bool×Nat) i=>iF ((a.2.2:Int)<f.1.length) (Ab (idx f.1 a.2.2) λe=>Ab (LD c e.2.2) λg=>iB (!g.2) (Ac ((([],[]),Aj,Aj)))<|iB a.2.1 (Ab (Vq c g.1.1) λl=>Ag (EW a.1+1<=4294967296)<|i ((a.1++[(e.1,e.2.1,g.1)]),(!l),a.2.2+1))<|Ag (EW a.1+1<=4294967296)<|i ((a.1++[(e.1,e.2.1,g.1)]),Aj,a.2.2+1))<|Ad c (λ(d:List (A5×AE)×Nat) j=>iF ((d.2:Int)<f.2.length) (Ab (idx f.2 d.2) λh=>Ab (LD c h.2) λk=>iB (!k.2) (Ac ((([],[]),Aj,Aj)))<|Ab (uJ c (d.1,k.1)) λb=>iF (b.1<0) (Ab (Vu c (h.1,[])) λm=>Ag (EW b.2.1+1<=4294967296)<|j ((b.2.1++[(m,b.2.2)]),d.2+1))<|Ab (idx b.2.1 b.1) λn=>Ab (Vu c (n.1,h.1)) λo=>Ab (idx b.2.1 b.1) λp=>j ((b.2.1.set (aC b.1) (o,p.2)),d.2+1))<|Ab (kV c d.1) λq=>Ac (((a.1,q),a.2.1,Bp))) (([],0))) (([],Bp,0))
theorem d247(fu x0):kA (fu+1) x0=D247 fu x0:=by kernel_rfl
def D248(a:Nat)(d:Vl):Option (Vl×Bool):=iB (Vl.any d) (Ac ((d,Bp)))<|Ab (uS a (Vl.sc d)) λg=>Ad a (λ(b:List BP×Nat) h=>iF ((b.2:Int)<(Vl.lists d).length) (Ab (idx (Vl.lists d) (b.2:Int)) λl=>Ab (kB a l) λe=>iB (!e.2.2) (Ac ((Vl.mk Aj (Aj,Aj,Aj,([],[]),[]) [] [],Aj)))<|iB e.2.1 (Ag (EW b.1+1<=Ai)<|h ((b.1++[e.1]),b.2+1))<|h (b.1,b.2+1))<|Ad a (λ(c:List BC×Nat) i=>iF ((c.2:Int)<(Vl.structs d).length) (Ab (idx (Vl.structs d) (c.2:Int)) λm=>Ab (kA a m) λf=>iB (!f.2.2) (Ac ((Vl.mk Aj (Aj,Aj,Aj,([],[]),[]) [] [],Aj)))<|iB f.2.1 (Ag (EW c.1+1<=Ai)<|i ((c.1++[f.1]),c.2+1))<|i (c.1,c.2+1))<|Ab (tB a b.1) λj=>Ab (tx a c.1) λk=>Ab (kC a (Vl.mk Aj g j k)) λn=>iB n (Ac ((Vl.mk Bp (Aj,Aj,Aj,([],[]),[]) [] [],Bp)))<|some ((Vl.mk Aj g j k,Bp))) (([],0))) (([],0))
theorem d248(fu x0):YQ (fu+1) x0=D248 fu x0:=by kernel_rfl
end
end
end Go.GV
