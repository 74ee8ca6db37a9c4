/- Part 4 of the texts of this claim: what its theorem leans on. -/
import Derived.Test.YtejdlmphkeeekaaGreatDoorZClosingClosed3
import Derived.Test.YtejdlmphkeeekaaGreatDoorZClosingClosed1
import Derived.Shelf.Strconv.AppendUint10
import Derived.Shelf.Strconv.AppendIntPublic10
import Derived.KernelRfl
set_option linter.all false
open Option renaming some→Ac,none→Dc
open Bool renaming false→Ak,true→Br
open Go renaming Value→Ce,Operand→Er,TypeId→Gn,Program→GO,World→IK,execOp→Kr,Oper→K5,IntKind→Lm
open Decidable renaming decide→Ds
set_option maxRecDepth 100000
set_option maxHeartbeats 4000000
open List renaming length→FB,replicate→T9,range→aO,set→lh
open Nat renaming beq→Hg,blt→aT,ble→iJ
open Int renaming toNat→ae,tmod→ji,natAbs→xc
open Go.Op renaming bytesLess→fX
open Go.Result renaming andThen→iT
open Option renaming getD→qe
open Go.Fence renaming wide→qF
namespace Go.GV
open Go Go.GK
section
variable {N : Df}
section
variable{C:List (SV N.T)}{P:GO}{w:IK}{CR:List (SR N.T)}{n:Nat}{Of:Fm}{st:St N.T}{η:Nat->Ce}{H:Hp}{a:Act}{τ:Nat->Nat}{Rr:Nat->Option (SR N.T)}{fn:Func}
def rsA(P:GO)(C:List (SV N.T))(CR:List (SR N.T))(st:St N.T):ResultVar->Option (SV N.T)
 | .tmp s=>Ac (CC C st.L s)
 | .cell c e=>match CC C st.L c,L6 N P e with
  | .loc b 0,Ac a=>match An CR st.O b with
   |some (.Af _ l)=>match KL N C 64 a l with
    |some (x, .nl)=>Ac (.d a x)
    |_=>match a.agg with
     |true=>match whole l&&Hg (T0 N l) (a.sz N)with
      |true=>Ac l
      |false=>Dc
     |false=>match E0 N C l 0 Dc with
      |some (.d _ _)=>Dc
      |z=>z
   |_=>Dc
  |_,_=>Dc
def we(P:GO)(C:List (SV N.T))(CR:List (SR N.T))(st:St N.T):List ResultVar->Option (List (SV N.T))
 | []=>Ac []
 |v::l=>match rsA P C CR st v,we P C CR st l with
  |some a,Ac r=>Ac (a::r)
  |_,_=>Dc
theorem fI[C9 N P]{bs:List (Nat×Ce)}{v:ResultVar}{s:SV N.T}(h:Sat C CR n Of bs st η H a w)(f:rsA P C CR st v=Ac s):∃u,(ld a.tmps v).run P w= .ok u w/\s.is C η H u:=by
 cases v with
 |tmp t=>
  cases f;exact⟨_,by rfl,h.lk t⟩
 |cell J ty=>
  simp only[rsA]at f;split at f
  ·rename_i b I hs ht;split at f
   ·rename_i g l hb;obtain⟨d,U,p,bytes,zv,M⟩:=Ka ht;have W:=h.lk J;rw[hs]at W;obtain⟨B,e1,R⟩:=W;obtain⟨Y,hn,r,_,q⟩:=h.own;rcases q b _ hb with e|⟨X,h1,B',cs,E,e4,F⟩;· grind
    rw[e1]at E;have E:B=B':=by grind[ptr]
    subst E;subst e4;obtain⟨i,T,_⟩:=Jj Of.O hn h1;have D:I.agg=Br->cs.toList.length=I.sz N->(ld a.tmps (.cell J ty)).run P w= .ok (.agg cs) w:=λha k=>by
     have:=Dr (P:=P) (w:=w) (a:=⟨B,0,Dc⟩) (vs:=cs.toList) U (by grind) (by rw[k];omega) (λj u hj=>by rw[Addr.add_lit];exact r.LU T (by simpa using hj));simp_all[ld,ptr,asAddr]
    have ld1:I.agg=Ak->∀u,cs[0]?=Ac u->(ld a.tmps (.cell J ty)).run P w= .ok u w:=λha u h0=>by have:=Dq (P:=P) (w:=w) (a:=⟨B,0,Dc⟩) U (by rw[p,ha]) (r.LU T h0);simp only[ld,R,ptr];simpa [asAddr]using this
    split at f
    ·rename_i x hx;cases f;obtain⟨c1,Q,S,G,o⟩:=EL (cs:=cs.toList) hx F;have o:Ce.agg Q.toArray= .agg #[]:=o;have o:Q=[]:=by simpa using o
     subst o;rw[Adf]at S;rw[<-S]at G;have k:=Bh G;cases ha:I.agg with
     |true=>exact⟨.agg cs,D ha k,cs.toList,G,by unfold CU;rw[ha]⟩
     |false=>
      rw[Zk ha]at k;obtain⟨u,V⟩:∃u,cs.toList=[u]:=Adb.1 k
      exact⟨u,ld1 ha u (by
         have:cs.toList[0]?=Ac u:=by rw[V];rfl
         simpa using this),cs.toList,G,by unfold CU;rw[ha];exact V⟩
    ·split at f
     ·rename_i ha;split at f;· rename_i O;cases f;rw[AS]at O;have:=HR (cs:=cs.toList) O.1 F;exact⟨.agg cs,D ha (by rw[<-this];exact AI O.2),F⟩
      ·cases f
     ·rename_i ha;have f:E0 N C l 0 Dc=Ac s/\∀t y,s≠ .d t y:=by
       revert f;cases hz:E0 N C l 0 Dc with
       |none=>intro f;cases f
       |some z=>cases z<;>intro f<;>cases f<;>exact⟨rfl,λ_ _ e=>by cases e⟩
      obtain⟨c,L,hc⟩:=Dv (cs:=cs.toList) f.1 F;obtain⟨u,k1,k2,k3⟩:=L;rcases k3 with⟨ty',y,rfl,e⟩|⟨ho,hn'⟩;· exact absurd rfl (f.2 _ _)
      ·have:c=[u]:=by rw[<-k2,A' ho]
       subst this;refine⟨u,ld1 ha u ?_,k1⟩;match K:cs.toList,hc with
       |z::zs,hc=>
        have:cs.toList[0]?=Ac u:=by rw[K];simpa using hc
        simpa using this
   grind
  grind
theorem Px{P:GO} [C9 N P]{C:List (SV N.T)}{CR:List (SR N.T)}{n:Nat}{Of:Fm}{bs:List (Nat×Ce)}{st:St N.T}{η:Nat->Ce}{H:Hp}{a:Act}{w:IK}(h:Sat C CR n Of bs st η H a w):∀ {l:List ResultVar} {c:List (SV N.T)},we P C CR st l=Ac c->∃vs:List Ce,vs.length=c.length/\(l.mapM (ld a.tmps)).run P w= .ok vs w/\∀(i:Nat) (s:SV N.T),c[i]?=Ac s->∃v,vs[i]?=Ac v/\s.is C η H v
 | [],c,b=>by cases b;simp
 |v::l,c,b=>by
  simp only[we]at b;split at b;· rename_i s r e f;obtain⟨u,o,p⟩:=fI h e;obtain⟨vs,g,j,k⟩:=Px h f;refine⟨u::vs,by grind,by simp_all,λi m d=>?_⟩;grind
  grind
def exP(P:GO)(l:List ResultVar)(b:Nat)(a:A9)(d:Nat)(st:St N.T):Option (BK N a.hs):=match we P [] [] st l with
 |some c=>
  let m:=Hh [] (An [] st.O) (λi=>c.getD i .no) a
  match(Hg c.length d&&iJ d 3)&&(Lv (a.sl.map (·.1)) (aO d)&&(aO b).all λk=>Hg (AZ m k) k)with
  |true=>JN [] (An [] st.O) (λi=>c.getD i .no) m a
  |false=>Dc
 |none=>Dc
def SK(cx:Cx N)(fu:Nat)(f:Func)(a b:A9)(d:Nat)(x:BK N a.hs):Option (BK N b.hs):=match f.body with
 |none=>Dc
 |some c=>den cx (noP b.hs) fu c cx.kb Ak [] [] (FE N a x) (exP cx.P f.results.toList a.nk b d) (λ_ _=>Dc) (exP cx.P f.results.toList a.nk b d)
def Yg(cx:Cx N)(a b:A9)(gone:List Nat):Bool:=(iJ a.sl.length cx.n&&(Lv (a.sl.map (·.1)) (aO a.sl.length)&&(a.sl.all λp=>p.2.pl)))&&((a.ro.all λp=>aT p.1 a.nk)&&(Cp (b.ro.map (·.1))&&((a.ro.all λp=>Cf (b.ro.map (·.1)) p.1||Cf gone p.1)&&iJ a.nk cx.kb)))
theorem ZU(a:List HT)(x:BK N a) :∀j,D' τ Rr (res C (CB N a x j)):=by
 have:∀(a:List HT) (x:BK N a) (j:Nat),CB N a x j= .no\/∃h y,CB N a x j=eL N h y:=by
  intro a;induction a with
  |nil=>exact λ_ _=> .inl rfl
  |cons t b c=>
   intro x j;cases b with
   |nil=>cases j with
    |zero=>exact .inr ⟨t,x,rfl⟩
    |succ j=>exact .inl rfl
   |cons u b=>cases j with
    |zero=>exact .inr ⟨t,x.1,rfl⟩
    |succ j=>exact c x.2 j
 intro j;rcases this a x j with e|⟨h,y,e⟩;· rw[e];trivial
 ·rw[e];cases h<;>trivial
theorem inst_pl{a:List HT}{x:BK N a}{p:SP}(h:p.pl=Br) :D' τ Rr (res C (inst N a x p)):=by
 cases p with
 |v j t=>exact ZU _ _ j
 |nat j=>exact ZU _ _ j
 |AE _=>trivial
 |loc _ _=>trivial
 |AA _ _ _=>trivial
 |Al=>trivial
 |nl=>trivial
 |mp _=>trivial
 |pd j t off=>
  show D' τ Rr (res C (match CB N a x j with| .d t x=>SV.pd t x off|_=> .no));split<;>trivial
 |px b z=>cases z with
  |sf=>trivial
  |hc _=>trivial
  |sub j n t=>
   show D' τ Rr (res C (match CB N a x j,CB N a x n with| .na i, .na m=>SV.px b (.sub i m t)|_,_=> .px b .any));split<;>trivial
 |sv c=>cases c<;>trivial
 |_=>cases h
theorem fB{a:A9}{c i:Nat}(h:a.sl.map (·.1)=aO c)(hi:i<c):(i,Ii a.sl i)∈a.sl:=by
 have d:i∈keys a.sl:=by grind[keys]
 obtain⟨x,b⟩:=Du d;grind[Ii,A5]
theorem Hd{a:Array Ce}{l:List Ce}(u:(fn.results.toList.mapM (ld a)).run P w= .ok l w):(results fn a).run P w= .ok (if h:l.toArray.size=1 then l.toArray[0]else .tuple l.toArray) w:=by rw[Mq];obtain⟨r,e⟩:∃r:List ResultVar,fn.results=r.toArray:=⟨fn.results.toList,by simp⟩;rw[e]at u⊢;simp at u;simp[u]
theorem bK{cx:Cx N} [mp:C9 N cx.P](hΦ:∀f q,cx.Φ f=Ac q->Bw cx.P f q)(hm:cx.P.follows .mixedOrders=Br){fu f:Nat}{b n:A9}{B:Nat}{gone:List Nat}(he:TO cx.P f)(hf:cx.P.funcs[f]?=Ac fn)(hn:fn.ntmps=cx.n)(hc:Yg cx b n gone=Br):Ch cx.P f ⟨b,n,B,gone,SK cx fu fn b n B⟩:=by
 unfold Yg at hc;simp only[AS]at hc;obtain⟨⟨c1,c2,c3⟩,c4,c5,c6,c7⟩:=hc;refine⟨he,λx y hy η H Of Y vs hnd hin=>?_⟩;obtain⟨i1,i2,i3,i4,hiv⟩:=hin;unfold SK at hy;split at hy;· grind
 ·rename_i c hb;let bs:List (Nat×Ce):=(aO b.nk).map λk=>(k,η k);have T:∀p∈bs,p.1<b.nk/\η p.1=p.2:=λp g=>by
   grind
  have hro:∀p∈b.ro,p.1<b.nk:=λp g=>by simpa using IT.1 c4 p g
  refine Tw.ofM hf hb hn (by grind) λa w U hsh=>?_;have fin:Kn [] [] cx.n (Xw Of y) bs H (exP cx.P fn.results.toList b.nk n B) (bodyPostM qF 0 cx.P fn (Ret H λv D O'=> ∃η' Y',O'=Y'.map (·.2)++Of/\x_ ⟨b,n,B,gone,SK cx fu fn b n B⟩ y η η' D Y Y' v) .ret):=λOf1 r1 st A D a' J I hg S _ E=>by
   obtain⟨e0,M,rfl⟩:=hg;rw[e0]at E;show LeavesInM _ _ _ _ _ _ a'.defers _ _;rw[S.defers];refine Jt S λJ S=>?_;unfold exP at E;split at E
   ·rename_i As hAs;simp only at E;generalize hmm:Hh [] (An [] st.O) (λi=>As.getD i .no) n=m at E;split at E
    ·rename_i hck;simp only[AS]at hck;obtain⟨⟨e1,e2⟩,e3,e4⟩:=hck;have e1:=AI e1;have e2:=Aay e2;have e3:=EK e3;have hlen:n.sl.length=B:=by
      have:=congrArg FB e3;grind
     obtain⟨o,u1,u2,u3⟩:=Px S hAs;obtain⟨Y1,y1,y2,y3,y4⟩:=S.own;have hlt:∀p∈n.sl,p.1<B:=λp g=>by have:p.1∈n.sl.map (·.1):=By.2 ⟨p,g,rfl⟩;grind
     obtain⟨r1,r2,r3⟩:=LR (C:=[]) (η:=A) (H:=D) (Y:=Y1) (vs:=o) E (by rw[u1,e1,hlen]) (λp g=>by
      have I:p.1<As.length:=by rw[e1];exact hlt p g
      obtain⟨v,v1,V⟩:=u3 p.1 As[p.1] (IN I);refine⟨v,v1,?_⟩;rw[Aad,IN I];exact V) (λp g sr hsr=>y4 _ sr hsr);have P:∀k,k<b.nk->AZ m k=k:=λk d=>AI (IT.1 e4 k (Abf.2 d));let W:List (Nat×Aw):=n.ro.map λp=>(p.1,(Ax Y1 (AZ m p.1)).getD .emp);have kY2:keys W=n.ro.map (·.1):=by show(n.ro.map _).map _=_;rw[Aaj];rfl
     have nd2:(keys W).Nodup:=by rw[kY2];exact BM c5
     have hsh2:SH J D (W.map (·.2)++Of):=by
      have hz:=SH.Rg y2 (Z:=n.ro.map λp=>(AZ m p.1,(Ax Y1 (AZ m p.1)).getD .emp)) (by
       unfold keys;rw[Aaj];exact r1) (λp g=>by obtain⟨z,hz,rfl⟩:=By.1 g;obtain⟨_,X,hX,_⟩:=r3 z hz;simp only[hX,Acu]);rw[Aaj]at hz;rw[Aaj];exact hz
     have hres:∃v,(results fn a'.tmps).run cx.P J= .ok v J/\(Jl (N:=N) ⟨b,n,B,gone,SK cx fu fn b n B⟩ y).is [] (λc=>A (AZ m c)) D v:=by
      have ul:o.length=B:=by rw[u1,e1]
      have F:∀i,i<B->∃v,o[i]?=Ac v/\(inst N n.hs y (Ii n.sl i)).is [] (λc=>A (AZ m c)) D v:=λi hi=>r2 _ (fB e3 hi)
      refine⟨_,Hd u2,?_⟩;match o,ul,e2,F with
      | [],ul,_,F=>
       subst ul;rfl
      | [u],ul,_,F=>
       subst ul;obtain⟨v,v1,V⟩:=F 0 (by simp);cases v1;exact V
      | [u,u'],ul,_,F=>
       subst ul;obtain⟨v,v1,V⟩:=F 0 (by simp);obtain⟨v',v3,v4⟩:=F 1 (by simp);cases v1;cases v3;exact⟨_,_,rfl,V,v4⟩
      | [u,u',u''],ul,_,F=>
       subst ul;obtain⟨v,v1,V⟩:=F 0 (by simp);obtain⟨v',v3,v4⟩:=F 1 (by simp);obtain⟨v'',v5,v6⟩:=F 2 (by simp);cases v1;cases v3;cases v5;exact⟨_,_,_,rfl,V,v4,v6⟩
      |_::_::_::_::_,ul,h3',_=>simp at ul;omega
     obtain⟨v,g1,g2⟩:=hres;refine⟨v,g1,v,D,W.map (·.2)++Of,rfl,I,hsh2,λc=>A (AZ m c),W,rfl,λk d=>?_,nd2,λk d=> .inr (by rw[kY2]at d;exact d),λp g=>?_,λk d hn1 hn2=>?_,g2⟩;· rw[P k d];exact S.base (k,η k) (By.2 ⟨k,Abf.2 d,rfl⟩)
     ·obtain⟨_,X,hX,h4⟩:=r3 p g;refine⟨X,?_,h4⟩;have:(p.1,(Ax Y1 (AZ m p.1)).getD .emp)∈W:=By.2 ⟨p,g,rfl⟩;rw[CT nd2 this,hX];rfl
     ·rw[i3]at d;obtain⟨p,g,rfl⟩:=By.1 d;have:=IT.1 c6 p g;rw[Adw]at this;rcases this with h|h;· exact absurd (AR.1 h) hn1
      ·exact absurd (AR.1 h) hn2
    grind
   grind
  refine wpIn_wide.1 (CA (R:=BK N n.hs) (bs:=bs) (G:=Xw Of y) (Of:=RV Of []) (r:=y) (ro:=Dc) (yv:=undef) (η:=η) hΦ hm c Xu (λq K=>Abq (T q K).1 (Aay c7)) Xv pZ ⟨rfl,[],rfl⟩ (st:=FE N b x) (H:=H) ⟨hiv,U.defers,U.size,λt sv ht=>?_,λp g=>(T p g).2,Y,hnd,hsh,λk d=>?_,λk sr d=>?_⟩ ⟨λp g=>(T p g).1,λj hj=>?_,⟨λ_=>0,λt=>?_⟩,λk d=>(by cases d),λs hs=>(by cases hs)⟩ hy fin (λi M r st η D a' J _ _ _ _ E=>by cases E) fin)
  ·obtain⟨
       q,K,rfl,rfl⟩:=DI ht;obtain⟨v,S,h2⟩:=i2 q K;have:a.tmps.getD q.1 undef=v:=U.get q.1 v (by
    have key:∀(o:List Ce) (i t:Nat),o[t-i]?=Ac v->i<=t->lk (KM i o) t=Ac v:=by
     intro o;induction o with
     |nil=>intro i t h;simp at h
     |cons u o ih=>
      intro i t h hle;simp only[KM,lk];cases hb:Hg i t with
      |true=>
       have:=AI hb;subst this;simp at h;simp[h]
      |false=>
       have ne:=Abe hb;refine ih (i+1) t ?_ (by omega);rw[show t-i=(t-(i+1))+1 by omega]at h;simpa using h
    exact key vs 0 q.1 S (Abg _));rw[this];exact h2
  ·rw[i3]at d;obtain⟨p,g,rfl⟩:=By.1 d;exact hro p g
  ·unfold An at d;cases I:Ax (FE N b x).O k with
   |none=>rw[I]at d;cases d
   |some s0=>
    rw[I]at d;obtain⟨q,K,e⟩:=By.1 (A5 I);cases e;obtain⟨X,hX,h2⟩:=i4 q K;cases d;refine .inr ⟨X,hX,?_⟩;generalize instR N b.hs x q.2=z at h2;cases z with
    |CD j=>exact h2.elim
    |_=>exact h2
  ·refine CG λhm=>?_;obtain⟨q,K,rfl⟩:=By.1 hm;obtain⟨z,hz,rfl⟩:=By.1 K;have:=hro z hz;have hj:b.nk<=z.1:=hj;omega
  ·unfold CC;cases ht:Ax (FE N b x).L t with
   |none=>trivial
   |some sv=>
    simp only;obtain⟨q,K,rfl,rfl⟩:=DI ht;have hpl:=IT.1 c3 q K;exact inst_pl hpl
end
end
section
variable {N : Df}
section
variable{fn:Func}
def yI(ky:Nat)(ts:List Ty):YL N (List (DT N ts)×Bool):= {ky:=ky,f:=λC b k=>match UQ N C ts b with
 |some y=>match k Ak with
  |some ([],Br)=>match k Br with
   |some l=>Ac (y::l.1,l.2)
   |none=>Ac ([y],Ak)
  |_=>Dc
 |none=>Dc}
def JR:List (Nat×RP)->Nat->List (Nat×SR N.T)
 | [],_=>[]
 |p::l,i=>(p.1, .CD i)::JR l (i+1)
def wW(O:List (Nat×SR N.T)):List (Nat×RP)->Nat->Bool
 | [],_=>Br
 |p::l,i=>(match Ax O p.1 with
  |some (.CD j)=>Hg i j
  |_=>Ak)&&wW O l (i+1)
def exI(a:A9)(ts:List Ty)(st:St N.T):Option (List (DT N ts)×Bool):=match wW st.O a.ro 0 with
 |true=>Ac ([],Br)
 |false=>Dc
def Wg(cx:Cx N)(fu:Nat)(f:Func)(a:A9)(b:Nat)(ts:List Ty)(x:BK N a.hs):Option (List (DT N ts)×Bool):=match f.body,f.results.toList with
 |some c,[]=>den cx (yI a.nk ts) fu c (a.nk+1) Ak [] (a.ro.map λp=>instR N a.hs x p.2) ⟨(b, .mp a.nk)::(FE N a x).L,JR a.ro 0,a.nk+1⟩ (exI a ts) (λ_ _=>Dc) (exI a ts)
 |_,_=>Dc
def iR(cx:Cx N)(a:A9)(c:Nat):Bool:=(iJ a.sl.length cx.n&&(aT c a.sl.length&&(a.sl.all λp=>p.2.pl)))&&((a.sl.all λp=>aT p.1 a.sl.length&&p.2.ks.all λk=>aT k a.nk)&&((a.ro.all λp=>aT p.1 a.nk&&p.2.ks.all λk=>aT k a.nk)&&Cp (a.ro.map (·.1))))
theorem Calls.ofM{P:GO}{n:Nat}{f:FuncId}{c:Code}{vs:List Ce}{w:IK}{X:Ending->IK->Prop}(e:P.funcs[f]?=Ac fn)(d:fn.body=Ac c)(g:fn.ntmps=n)(b:iJ vs.length n=Br)
  (h:∀a,Fr a n (KM 0 vs)->c.wp P (bodyPostM qF 0 P fn X) a w):Calls P f vs.toArray w X:=by
 subst g;exact(callsIn_wide (n:=0)).1 (callsIn_of_wp_marks e d trivial ((wpIn_wide (n:=0)).2 (h _ (Fr.enter vs _ b))) rfl)
theorem Qx{CR:List (SR N.T)}{g:Nat×RP->SR N.T} :∀ {l:List (Nat×RP)} {i:Nat},(l.map (·.1)).Nodup->(∀j p,l[j]?=Ac p->CR[i+j]?=Ac (g p))->∀p∈l,∃j,Ax (JR l i:List (Nat×SR N.T)) p.1=Ac (.CD j)/\CR[j]?=Ac (g p)
 | [],_,_,_,p,h=>by grind
 |q::l,i,b,hc,p,h=>by
  simp only[Aat,Aba]at b;simp only[JR,Ax];cases c:Hg q.1 p.1 with
  |true=>
   have e:=AI c;rcases Aao.1 h with rfl|h;· exact⟨i,rfl,by simpa using hc 0 _ rfl⟩
   grind
  |false=>
   rcases Aao.1 h with rfl|h;· simp at c
   ·exact Qx b.2 (λj p d=>by have:=hc (j+1) p (by grind);grind) p h
theorem Ib:∀ {l:List (Nat×RP)} {i:Nat},keys (JR l i:List (Nat×SR N.T))=l.map (·.1)
 | [],_=>rfl
 |p::l,i=>by show p.1::keys (JR l (i+1):List (Nat×SR N.T))=_;rw[Ib];rfl
theorem cg:∀ {l:List (Nat×RP)} {i k:Nat} {s:SR N.T},Ax (JR l i) k=Ac s->∃p∈l,p.1=k
 |l,i,k,s,h=>by have:=Dd h;grind[Ib]
theorem Uv{O:List (Nat×SR N.T)}{CR:List (SR N.T)}{g:Nat×RP->SR N.T} :∀ {l:List (Nat×RP)} {i:Nat},wW O l i=Br->(∀j p,l[j]?=Ac p->CR[i+j]?=Ac (g p))->∀p∈l,An CR O p.1=Ac (g p)
 | [],_,_,_,p,h=>by grind
 |q::l,i,b,hc,p,h=>by
  simp only[wW,AS]at b;rcases Aao.1 h with rfl|h
  ·have a:=b.1;unfold An;split at a;· rename_i j e;have:=AI a;have:=hc 0 p rfl;grind[Db]
   grind
  ·exact Uv b.2 (λj p c=>by have:=hc (j+1) p (by simpa using c);grind) p h
def itG{R:Type}(a:Hp->List Aw->R->Prop):Hp->Fm->R->Prop:=λH b r=> ∃M O,b=RV O M/\a H O r
theorem bM{cx:Cx N} [mp:C9 N cx.P](hΦ:∀f q,cx.Φ f=Ac q->Bw cx.P f q)(hm:cx.P.follows .mixedOrders=Br){fu f:Nat}{d:A9}{R:Nat}{ts:List Ty}(he:TO cx.P f)(K:cx.P.funcs[f]?=Ac fn)(hn:fn.ntmps=cx.n)(hc:iR cx d R=Br):I6 cx.P f ⟨d,R,ts,Wg cx fu fn d R ts⟩:=by
 unfold iR at hc;simp only[AS]at hc;obtain⟨⟨c1,c2,c3⟩,c4,V,c6⟩:=hc;have c6:=BM c6
 have c4:∀p∈d.sl,p.1<d.sl.length/\∀k∈p.2.ks,k<d.nk:=λp n=>by have:=IT.1 c4 p n;simp_all
 have V:∀p∈d.ro,p.1<d.nk/\∀k∈p.2.ks,k<d.nk:=λp n=>by have:=IT.1 V p n;rw[AS]at this;exact⟨by simpa using this.1,λk m=>by simpa using IT.1 this.2 k m⟩
 refine⟨he,λx ys E G2 yv hone mono2 no2 W η H O Y U w hnd i1 i2 hyi i3 i4 hg hiv hsh=>?_⟩;have E:Wg cx fu fn d R ts x=Ac ys:=E;unfold Wg at E;split at E;case h_2=>grind
 rename_i c Z hrs;generalize hCR:(d.ro.map λp=>instR N d.hs x p.2)=CR at E;have hcr:∀j p,d.ro[j]?=Ac p->CR[0+j]?=Ac (instR N d.hs x p.2):=λj p hj=>by rw[<-hCR,Abm,Acb,hj];rfl
 obtain⟨o,F,ηy⟩:∃o:Nat->Ce,(∀k,k<d.nk->o k=η k)/\o d.nk=yv:=⟨λk=>match Hg k d.nk with
  |true=>yv
  |false=>η k,λk m=>by
   cases Z:Hg k d.nk with
   |true=>grind[Nat.eq_of_beq_eq_true]
   |false=>simp only[Z],by simp only[Agl]⟩;obtain⟨bs,hbs,hbm⟩:∃bs:List (Nat×Ce),(∀p∈bs,p.1<d.nk+1/\o p.1=p.2)/\∀k,k<d.nk+1->(k,o k)∈bs:=⟨(aO (d.nk+1)).map λk=>(k,o k),λp n=>by
  obtain⟨k,m,rfl⟩:=By.1 n;exact⟨Abf.1 m,rfl⟩,λk m=>By.2 ⟨k,Abf.2 m,rfl⟩⟩;obtain⟨G,J⟩:∃G:Hp->Fm->List (DT N ts)×Bool->Prop,G=itG G2:=⟨_,rfl⟩;have hG:∀H B Of r,H.le B->G H Of r->G B Of r:=by subst J;exact λH B Of r hle ⟨M,O,e,g⟩=>⟨M,O,e,mono2 _ _ _ _ hle g⟩
 have hY:QQ cx.P bs (yI d.nk ts) yv G:=by
  subst J;refine⟨λC As k r _=>?_,λC As k r Of H gi ⟨M,O,e,g⟩ K η A U w Q h2 I=>?_⟩;· have:=hbm d.nk (Afg _);rw[ηy]at this;exact this
  ·subst e;have K:(match UQ N C ts As with
    |some y=>match k Ak with
     |some ([],Br)=>match k Br with
      |some l=>Ac (y::l.1,l.2)
      |none=>Ac ([y],Ak)
     |_=>Dc
    |none=>Dc)=Ac r:=K;split at K
   ·rename_i y hy;split at K
    ·rename_i hk0;split at K
     ·rename_i l hk1;cases K;have I:SH w H ((A++M.map BF)++O):=by rw[Aak];exact I
      refine(W H O y l.1 l.2 gi g (A++M.map BF) U w (J0 ts As U y hy Q h2) I).mono λb w' ⟨B,P,k1,k2,k3⟩=>⟨B,RV P M,Lj l b,k1,rfl,by rw[Aak]at k2;exact k2,⟨M,P,rfl,k3⟩,?_⟩;cases b with
      |true=>exact hk1
      |false=>exact hk0
     ·cases K;have I:SH w H ((A++M.map BF)++O):=by rw[Aak];exact I
      refine(W H O y [] Ak gi g (A++M.map BF) U w (J0 ts As U y hy Q h2) I).mono λb w' ⟨B,P,k1,k2,k3⟩=>?_;cases b with
      |true=>exact absurd k3 (no2 _ _)
      |false=>exact⟨B,RV P M,([],Br),k1,rfl,by rw[Aak]at k2;exact k2,⟨M,P,rfl,k3⟩,hk0⟩
    ·cases K
   ·cases K
 refine Calls.ofM K Z hn (by rw[i1];exact c1) λa T=>?_;have fin:Kn [] CR cx.n G bs H (exI d ts) (bodyPostM qF 0 cx.P fn (λe w'=> ∃v B P Y',e= .returned v/\H.le B/\SH w' B (Y'.map (·.2)++P)/\keys Y'=d.ro.map (·.1)/\(∀p∈d.ro,∃X,Ax Y' p.1=Ac X/\(instR N d.hs x p.2).is [] η B p.1 X)/\G2 B P ([],Br)) .ret):=λOf r st η1 B a' w' hl hgg Q _ I=>by
  rw[J]at hgg;obtain⟨M,P,e,g⟩:=hgg;subst e;show LeavesInM _ _ _ _ _ _ a'.defers _ _;rw[Q.defers];refine Jt Q λw' Q=>?_;unfold exI at I;split at I;case h_2=>cases I
  rename_i hio;cases I;obtain⟨Y1,y1,y2,y3,y4⟩:=Q.own;have rr:=Uv (CR:=CR) (g:=λp=>instR N d.hs x p.2) hio hcr;have hx:∀p∈d.ro,∃X,Ax Y1 p.1=Ac X/\(instR N d.hs x p.2).is [] η B p.1 X:=λp n=>by
   rcases y4 p.1 _ (rr p n)with e|⟨X,x1,x2⟩;· obtain⟨X,_,hX⟩:=i4 p n;rw[e]at hX;exact hX.elim
   ·have bb:∀k,k<d.nk->η k=η1 k:=λk m=>by
     have:=Q.base (k,o k) (hbm k (by omega));rw[this,F k m]
    exact⟨X,x1,SR.is.env (bb p.1 (V p n).1) (λk m=>by cases m) (λk m=>bb k ((V p n).2 k (instR_ment _ _ _ k m))) x2⟩
  refine⟨.tuple #[],?_, .tuple #[],B,P,d.ro.map (λp=>(p.1,(Ax Y1 p.1).getD .emp)),rf,hl,?_,?_,λp n=>?_,g⟩
  ·rw[Mq];have:fn.results= #[]:=by simpa using hrs
   rw[this];simp
  ·refine SH.Rg (by simpa [RV]using y2) ?_ λp n=>?_;· unfold keys;rw[Aaj];exact c6
   ·obtain⟨z,hz,rfl⟩:=By.1 n;obtain⟨X,x1,_⟩:=hx z hz;simp only[x1,Acu]
  ·unfold keys;rw[Aaj];rfl
  ·obtain⟨X,x1,x2⟩:=hx p n;refine⟨X,?_,x2⟩;have nd:(keys (d.ro.map (λp=>(p.1,(Ax Y1 p.1).getD .emp)))).Nodup:=by unfold keys;rw[Aaj];exact c6
   rw[CT nd (By.2 ⟨p,n,rfl⟩),x1];rfl
 have key:∀(us:List Ce) (i t:Nat) (v:Ce),us[t-i]?=Ac v->i<=t->lk (KM i us) t=Ac v:=by
  intro us;induction us with
  |nil=>intro i t v h;simp at h
  |cons u us ih=>
   intro i t v h hle;simp only[KM,lk];cases Z:Hg i t with
   |true=>
    have:=AI Z;subst this;simp at h;simp[h]
   |false=>
    have ne:=Abe Z;refine ih (i+1) t v ?_ (by omega);rw[show t-i=(t-(i+1))+1 by omega]at h;simpa using h
 refine wpIn_wide.1 (CA (bs:=bs) (G:=G) (Of:=RV O []) (r:=ys) (ro:=Dc) (yv:=yv) (η:=o) (H:=H) hΦ hm c (λ_=>⟨rfl,by subst J;exact λ_ _ _ D ⟨M,O,e,g⟩=>⟨D::M,O,by subst e;rfl,g⟩⟩) (λq hq=>(hbs q hq).1) hG hY (by subst J;exact⟨[],O,rfl,hg⟩) (st:=⟨(R, .mp d.nk)::(FE N d x).L,JR d.ro 0,d.nk+1⟩) ⟨hiv,T.defers,T.size,λt sv ht=>?_,λp n=>(hbs p n).2,Y,hnd,by simpa [RV]using hsh,λk m=>?_,λk sr m=>?_⟩ ⟨λp n=>(hbs p n).1,λj hj=>?_,⟨λ_=>0,λt=>?_⟩,λk m=>(by cases m),λs hs=>(by cases hs)⟩ E fin (λi Of r st η B a' w' _ _ _ _ I=>by cases I) fin);· simp only[Ax]at ht;cases S:Hg R t with
  |true=>
   rw[S]at ht;cases ht;have:=AI S;subst this;rw[T.get R yv (key U 0 R yv hyi (Abg _))];exact⟨ηy.symm,hone⟩
  |false=>
   rw[S]at ht;obtain⟨q,hq,rfl,rfl⟩:=DI ht;obtain⟨v,Q,h2⟩:=i2 q hq;rw[T.get q.1 v (key U 0 q.1 v Q (Abg _))];have:(inst N d.hs x q.2).is [] o H v:=h2.env (λk m=>by cases m) (λk m=>F k ((c4 q hq).2 k (by rw[<-inst_ment];exact m)));exact SV.BV.imp (λj v ⟨s,e,h⟩=>by simp at e) this
 ·rw[i3]at m;obtain⟨p,n,rfl⟩:=By.1 m;show p.1<d.nk+1;have:=(V p n).1;omega
 ·unfold An at m;split at m;· rename_i s hs;cases m;obtain⟨p,n,rfl⟩:=cg hs;obtain⟨j,e1,e2⟩:=Qx (CR:=CR) (g:=λp=>instR N d.hs x p.2) c6 hcr p n;have hs:Ax (JR d.ro 0) p.1=Ac s:=hs;rw[e1]at hs;cases hs;obtain⟨X,x1,x2⟩:=i4 p n;refine .inr ⟨X,x1,?_⟩;simp only[Db,Aad,e2,Acu];exact SR.is.env (F p.1 (V p n).1) (λk m=>by cases m) (λk m=>F k ((V p n).2 k (instR_ment _ _ _ k m))) x2
  ·cases m
 ·refine CG λhm=>?_;have hm:j∈keys (JR d.ro 0:List (Nat×SR N.T)):=hm;rw[Ib]at hm;obtain⟨p,n,rfl⟩:=By.1 hm;have:=(V p n).1;have hj:d.nk+1<=p.1:=hj;omega
 ·unfold CC;simp only[Ax];cases S:Hg R t with
  |true=>trivial
  |false=>
   simp only;cases ht:Ax (FE N d x).L t with
   |none=>trivial
   |some sv=>
    simp only;obtain⟨q,hq,rfl,rfl⟩:=DI ht;have hpl:=IT.1 c3 q hq;exact inst_pl hpl
end
end
section
variable {N : Df}
def yJ(ky:Nat)(ts:List Ty):YL N (List (DT N ts)×Option Bool):= {ky:=ky,f:=λC b k=>match UQ N C ts b with
 |some y=>match k Ak with
  |some ([],Ac Ak)=>match k Br with
   |some r=>Ac (y::r.1,r.2)
   |none=>Ac ([y],Dc)
  |_=>Dc
 |none=>Dc}
def exJ(P:GO)(CR:List (SR N.T))(l:List ResultVar)(c:Bool)(a:A9)(ts:List Ty)(st:St N.T):Option (List (DT N ts)×Option Bool):=match wW st.O a.ro 0,we P [] CR st l with
 |true,Ac A=>match c,A with
  |true,[s]=>match TM [] .bool s with
   |some b=>Ac ([],Ac b)
   |none=>Dc
  |false,[]=>Ac ([],Ac Ak)
  |_,_=>Dc
 |_,_=>Dc
def Wf(cx:Cx N)(fu:Nat)(f:Func)(a:A9)(d:Nat)(ts:List Ty)(b:Bool)(x:BK N a.hs):Option (List (DT N ts)×Option Bool):=match f.body with
 |some c=>den cx (yJ d ts) fu c a.nk Ak [] (a.ro.map λp=>instR N a.hs x p.2) ⟨(FE N a x).L,JR a.ro 0,a.nk⟩ (exJ cx.P (a.ro.map λp=>instR N a.hs x p.2) f.results.toList b a ts) (λ_ _=>Dc) (exJ cx.P (a.ro.map λp=>instR N a.hs x p.2) f.results.toList b a ts)
 |none=>Dc
def iQ(cx:Cx N)(a:A9)(c:Nat):Bool:=(iJ a.sl.length cx.n&&(aT c a.nk&&(a.sl.all λp=>p.2.pl)))&&((a.sl.all λp=>aT p.1 a.sl.length&&p.2.ks.all λk=>aT k a.nk)&&((a.ro.all λp=>aT p.1 a.nk&&p.2.ks.all λk=>aT k a.nk)&&Cp (a.ro.map (·.1))))
theorem bL{cx:Cx N} [mp:C9 N cx.P](hΦ:∀f q,cx.Φ f=Ac q->Bw cx.P f q)(hm:cx.P.follows .mixedOrders=Br){fu f:Nat}{fn:Func}{d:A9}{P:Nat}{ts:List Ty}{rb:Bool}(he:TO cx.P f)(J:cx.P.funcs[f]?=Ac fn)(hn:fn.ntmps=cx.n)(hc:iQ cx d P=Br):I5 cx.P f ⟨d,P,ts,rb,Wf cx fu fn d P ts rb⟩:=by
 unfold iQ at hc;simp only[AS]at hc;obtain⟨⟨c1,c2,c3⟩,c4,c5,c6⟩:=hc;have c6:=BM c6;have c2:P<d.nk:=by simp_all
 have c5:∀p∈d.ro,p.1<d.nk/\∀k∈p.2.ks,k<d.nk:=λp m=>by have:=IT.1 c5 p m;rw[AS]at this;exact⟨by simpa using this.1,λk n=>by simpa using IT.1 this.2 k n⟩
 refine⟨he,λx ys E η G2 mono2 no2 U H O Y S w hnd i1 i2 i3 i4 hg hiv hsh=>?_⟩;have E:Wf cx fu fn d P ts rb x=Ac ys:=E;unfold Wf at E;split at E;case h_2=>grind
 rename_i c Q;generalize hCR:(d.ro.map λp=>instR N d.hs x p.2)=CR at E;have hcr:∀j p,d.ro[j]?=Ac p->CR[0+j]?=Ac (instR N d.hs x p.2):=λj p hj=>by rw[<-hCR,Abm,Acb,hj];rfl
 obtain⟨bs,V,hbm⟩:∃bs:List (Nat×Ce),(∀p∈bs,p.1<d.nk/\η p.1=p.2)/\∀k,k<d.nk->(k,η k)∈bs:=⟨(aO d.nk).map λk=>(k,η k),λp m=>by grind,λk n=>By.2 ⟨k,Abf.2 n,rfl⟩⟩;obtain⟨G,I⟩:∃G:Hp->Fm->List (DT N ts)×Option Bool->Prop,G=itG G2:=⟨_,rfl⟩;have hG:∀H B Of r,H.le B->G H Of r->G B Of r:=by subst I;exact λH B Of r hle ⟨M,O,e,g⟩=>⟨M,O,e,mono2 _ _ _ _ hle g⟩
 have hY:QQ cx.P bs (yJ P ts) (η P) G:=by
  subst I;refine⟨λC As k r _=>hbm P c2,λC As k r Of H gi ⟨M,O,e,g⟩ J η A S w F h2 o=>?_⟩;subst e;have J:(match UQ N C ts As with
   |some y=>match k Ak with
    |some ([],Ac Ak)=>match k Br with
     |some r=>Ac (y::r.1,r.2)
     |none=>Ac ([y],Dc)
    |_=>Dc
   |none=>Dc)=Ac r:=J;split at J
  ·rename_i y hy;split at J
   ·rename_i hk0;split at J
    ·rename_i l hk1;cases J;have o:SH w H ((A++M.map BF)++O):=by rw[Aak];exact o
     refine(U H O y l.1 l.2 gi g (A++M.map BF) S w (J0 ts As S y hy F h2) o).mono λb T ⟨B,K,k1,R,k3⟩=>⟨B,RV K M,xW l.1 l.2 b,k1,rfl,by rw[Aak]at R;exact R,⟨M,K,rfl,k3⟩,?_⟩;cases b with
     |true=>exact hk1
     |false=>exact hk0
    ·cases J;have o:SH w H ((A++M.map BF)++O):=by rw[Aak];exact o
     refine(U H O y [] Dc gi g (A++M.map BF) S w (J0 ts As S y hy F h2) o).mono λb T ⟨B,K,k1,R,k3⟩=>?_;cases b with
     |true=>exact absurd k3 (no2 _ _)
     |false=>exact⟨B,RV K M,([],Ac Ak),k1,rfl,by rw[Aak]at R;exact R,⟨M,K,rfl,k3⟩,hk0⟩
   ·cases J
  ·cases J
 refine Calls.ofM J Q hn (by rw[i1];exact c1) λa W=>?_;have fin:Kn [] CR cx.n G bs H (exJ cx.P CR fn.results.toList rb d ts) (bodyPostM qF 0 cx.P fn (λe T=> ∃v B K Y' b,e= .returned v/\H.le B/\SH T B (Y'.map (·.2)++K)/\keys Y'=d.ro.map (·.1)/\(∀p∈d.ro,∃X,Ax Y' p.1=Ac X/\(instR N d.hs x p.2).is [] η B p.1 X)/\G2 B K ([],Ac b)/\(rb=Br->v= .bool b)) .ret):=λOf r st η1 B a' T hl hgg F _ o=>by
  rw[I]at hgg;obtain⟨M,K,e,g⟩:=hgg;subst e;show LeavesInM _ _ _ _ _ _ a'.defers _ _;rw[F.defers];refine Jt F λT F=>?_;unfold exJ at o;split at o;case h_2=>cases o
  rename_i A hio hA;obtain⟨l,u1,u2,u3⟩:=Px F hA
  obtain⟨b,v,rfl,hv,hrun⟩:∃b v,r=([],Ac b)/\(rb=Br->v= .bool b)/\(results fn a'.tmps).run cx.P T= .ok v T:=by
   split at o
   ·split at o;· rename_i b Q;cases o;obtain⟨v,e,V⟩:=u3 0 _ rfl;obtain⟨u,rfl⟩:=Adb.1 u1;cases e;obtain⟨cs,e1,e2⟩:=DO (t:= .bool) Q V;subst e1;cases e2;exact⟨b,_,rfl,λ_=>rfl,Hd u2⟩
    ·cases o
   ·cases o;exact⟨Ak,_,rfl,(λe=>by cases e),Hd u2⟩
   ·cases o
  obtain⟨Y1,y1,y2,y3,y4⟩:=F.own;have rr:=Uv (CR:=CR) (g:=λp=>instR N d.hs x p.2) hio hcr;have hx:∀p∈d.ro,∃X,Ax Y1 p.1=Ac X/\(instR N d.hs x p.2).is [] η B p.1 X:=λp m=>by
   rcases y4 p.1 _ (rr p m)with e|⟨X,x1,x2⟩;· obtain⟨X,_,hX⟩:=i4 p m;rw[e]at hX;exact hX.elim
   ·have bb:∀k,k<d.nk->η k=η1 k:=λk n=>by
     have:=F.base (k,η k) (hbm k n);exact this.symm
    exact⟨X,x1,SR.is.env (bb p.1 (c5 p m).1) (λk n=>by cases n) (λk n=>bb k ((c5 p m).2 k (instR_ment _ _ _ k n))) x2⟩
  refine⟨v,hrun,v,B,K,d.ro.map (λp=>(p.1,(Ax Y1 p.1).getD .emp)),b,rf,hl,?_,?_,λp m=>?_,g,hv⟩
  ·refine SH.Rg (by simpa [RV]using y2) ?_ λp m=>?_;· unfold keys;rw[Aaj];exact c6
   ·obtain⟨z,hz,rfl⟩:=By.1 m;obtain⟨X,x1,_⟩:=hx z hz;simp only[x1,Acu]
  ·unfold keys;rw[Aaj];rfl
  ·obtain⟨X,x1,x2⟩:=hx p m;refine⟨X,?_,x2⟩;have nd:(keys (d.ro.map (λp=>(p.1,(Ax Y1 p.1).getD .emp)))).Nodup:=by unfold keys;rw[Aaj];exact c6
   rw[CT nd (By.2 ⟨p,m,rfl⟩),x1];rfl
 have key:∀(us:List Ce) (i t:Nat) (v:Ce),us[t-i]?=Ac v->i<=t->lk (KM i us) t=Ac v:=by
  intro us;induction us with
  |nil=>intro i t v h;simp at h
  |cons u us ih=>
   intro i t v h hle;simp only[KM,lk];cases Q:Hg i t with
   |true=>
    have:=AI Q;subst this;simp at h;simp[h]
   |false=>
    have ne:=Abe Q;refine ih (i+1) t v ?_ (by omega);rw[show t-i=(t-(i+1))+1 by omega]at h;simpa using h
 refine wpIn_wide.1 (CA (bs:=bs) (G:=G) (Of:=RV O []) (r:=ys) (ro:=Dc) (yv:=η P) (η:=η) (H:=H) hΦ hm c (λ_=>⟨rfl,by subst I;exact λ_ _ _ D ⟨M,O,e,g⟩=>⟨D::M,O,by subst e;rfl,g⟩⟩) (λq hq=>(V q hq).1) hG hY (by subst I;exact⟨[],O,rfl,hg⟩) (st:=⟨(FE N d x).L,JR d.ro 0,d.nk⟩) ⟨hiv,W.defers,W.size,λt sv ht=>?_,λp m=>(V p m).2,Y,hnd,by simpa [RV]using hsh,λk n=>?_,λk sr n=>?_⟩ ⟨λp m=>(V p m).1,λj hj=>?_,⟨λ_=>0,λt=>?_⟩,λk n=>(by cases n),λs Z=>(by cases Z)⟩ E fin (λi Of r st η H a' T _ _ _ _ o=>by cases o) fin);· obtain⟨q,hq,rfl,rfl⟩:=DI ht;obtain⟨v,F,h2⟩:=i2 q hq;rw[W.get q.1 v (key S 0 q.1 v F (Abg _))];exact SV.BV.imp (λj v ⟨s,e,h⟩=>by simp at e) h2
 ·rw[i3]at n;obtain⟨p,m,rfl⟩:=By.1 n;exact(c5 p m).1
 ·unfold An at n;split at n;· rename_i s Z;cases n;obtain⟨p,m,rfl⟩:=cg Z;obtain⟨j,e1,e2⟩:=Qx (CR:=CR) (g:=λp=>instR N d.hs x p.2) c6 hcr p m;have Z:Ax (JR d.ro 0) p.1=Ac s:=Z;rw[e1]at Z;cases Z;obtain⟨X,x1,x2⟩:=i4 p m;refine .inr ⟨X,x1,?_⟩;simp only[Db,Aad,e2,Acu];exact x2
  ·cases n
 ·refine CG λhm=>?_;have hm:j∈keys (JR d.ro 0:List (Nat×SR N.T)):=hm;rw[Ib]at hm;obtain⟨p,m,rfl⟩:=By.1 hm;have:=(c5 p m).1;have hj:d.nk<=p.1:=hj;omega
 ·unfold CC;cases ht:Ax (FE N d x).L t with
  |none=>simp only[ht];trivial
  |some sv=>
   simp only[ht];obtain⟨q,hq,rfl,rfl⟩:=DI ht;have hpl:=IT.1 c3 q hq;exact inst_pl hpl
end
def cE(n:Nat):Cd Empty where
 sz:=n
 BS _ x _:=x.elim
 len {_ x _} _:=x.elim
 mono {_ _ x _} _ _:=x.elim
 one {_ x _} _:=x.elim
def idE:List (Nat×Nat)->Nat->Option Nat
 | [],_=>Dc
 |(t,i)::l,u=>match Hg u t with
  |true=>Ac i
  |false=>idE l u
section
variable {X : Type} {s : Nat}
section
variable{H:Hp}{α:Type}{d:Cd α}
abbrev LS(c:Cd X)(t:Ty):Cd (t.den λ_=>X):=Tc (T:=λ_=>X) (λ_=>c) t
def YV(s:Nat):Ty->Nat
 | .st t=>YV s t
 | .pr a b=>YV s a+YV s b
 | .un=>0
 | .bs=>4
 | .nm _=>s
 | .ar n t=>n*YV s t
 |_=>1
theorem FJ{c:Cd X}(h:c.sz=s):∀t,(LS c t).sz=YV s t
 | .int k=>by cases k<;>rfl
 | .bool=>rfl
 | .str=>rfl
 | .sl _=>rfl
 | .st t=>FJ h t
 | .pr a b=>by show(LS c a).sz+(LS c b).sz=_;rw[FJ h a,FJ h b];rfl
 | .un=>rfl
 | .bs=>rfl
 | .nm i=>h
 | .ar n t=>by show n*(LS c t).sz=_;rw[FJ h t];rfl
theorem Jz{α:Type}{c d:Cd α}{H:Hp}(h:∀a cs,c.BS H a cs->d.BS H a cs):∀ {l:List α} {xs:List Ce},A2 c H l xs->A2 d H l xs
 | [],_,k=>k
 |_::_,_,⟨cs,g,e,b,f⟩=>⟨cs,g,e,h _ _ b,Jz h f⟩
theorem fC{c:Cd α}(b:c.sz=d.sz)(h:∀a cs,c.BS H a cs->d.BS H a cs){l:List α}{v:Ce}(k:G5 c H l v):G5 d H l v:=by obtain⟨⟨i,e,f⟩,g⟩:=k;exact⟨⟨i,b▸e,Jz h f⟩,g⟩
theorem Fx{c d:Cd X}(b:c.sz=d.sz){H:Hp}(h:∀a cs,c.BS H a cs->d.BS H a cs):∀(t:Ty) (a:t.den λ_=>X) (cs:List Ce),(LS c t).BS H a cs->(LS d t).BS H a cs
 | .int _,_,_,k=>k
 | .bool,_,_,k=>k
 | .str,_,_,k=>k
 | .sl t,_,_,⟨v,e,k⟩=>⟨v,e,fC (by rw[FJ b t,FJ rfl t]) (Fx b h t) k⟩
 | .st t,a,cs,k=>Fx b h t a cs k
 | .pr t u,_,_,⟨g,i,e,j,l⟩=>⟨g,i,e,Fx b h t _ _ j,Fx b h u _ _ l⟩
 | .un,_,_,k=>k
 | .bs,_,_,k=>k
 | .nm _,a,cs,k=>h a cs k
 | .ar _ t,_,_,k=>⟨k.1,Jz (Fx b h t) k.2⟩
end
variable (B : Ty) (out : X -> B.den λ_ => X) (hB : YV s B = s)
section
variable{H:Hp}{n m:Nat}{a:X}{cs:List Ce}
def cF:Nat-> {c:Cd X//c.sz=s}
 |0=>⟨⟨s,λ_ _ _=>False,λh=>h.elim,λ_ h=>h,λh=>h.elim⟩,rfl⟩
 |n+1=>⟨⟨s,λH a d=>(LS (cF n).1 B).BS H (out a) d,λh=>by rw[<-hB,<-FJ (cF n).2 B];exact(LS _ B).len h,λe h=>(LS _ B).mono e h,λh=>(LS _ B).one h⟩,rfl⟩
theorem WK{H:Hp} :∀ {n:Nat} {a:X} {cs:List Ce},(cF B out hB n).1.BS H a cs->(cF B out hB (n+1)).1.BS H a cs
 |0,_,_,h=>h.elim
 |n+1,_,_,h=>Fx ((cF B out hB n).2.trans (cF B out hB (n+1)).2.symm) (λ_ _=>WK) B _ _ h
theorem xH(h:n<=m)(k:(cF B out hB n).1.BS H a cs):(cF B out hB m).1.BS H a cs:=by
 induction h with
 |refl=>omega
 |step _ c=>grind[WK]
def Yl:Cd X where
 sz:=s
 BS H a c:= ∃n,(cF B out hB n).1.BS H a c
 len h:=by obtain⟨n,h⟩:=h;rw[(cF B out hB n).1.len h];grind
 mono d h:=by obtain⟨n,h⟩:=h;exact⟨n,(cF B out hB n).1.mono d h⟩
 one h:=by obtain⟨n,h⟩:=h;exact(cF B out hB n).1.one h
theorem MN{α:Type}{H:Hp}{c:Nat->Cd α}{d:Cd α}(up:∀ {n m:Nat},n<=m->∀a cs,(c n).BS H a cs->(c m).BS H a cs)(h:∀a cs,d.BS H a cs->∃n,(c n).BS H a cs):∀ {l:List α} {xs:List Ce},A2 d H l xs->∃n,A2 (c n) H l xs
 | [],_,k=>⟨0,k⟩
 |_::_,_,⟨cs,i,e,f,g⟩=>by obtain⟨n,f⟩:=h _ _ f;obtain⟨m,g⟩:=MN up h g;exact⟨max n m,cs,i,e,up (Akx ..) _ _ f,Jz (up (Aji ..)) g⟩
theorem Vn(t:Ty)(h:n<=m)(a:t.den λ_=>X)(cs:List Ce)(k:(LS (cF B out hB n).1 t).BS H a cs):(LS (cF B out hB m).1 t).BS H a cs:=Fx ((cF B out hB n).2.trans (cF B out hB m).2.symm) (λ_ _=>xH B out hB h) t a cs k
theorem Ic{H:Hp} :∀(t:Ty) (a:t.den λ_=>X) (cs:List Ce),(LS (Yl B out hB) t).BS H a cs->∃n,(LS (cF B out hB n).1 t).BS H a cs
 | .int _,_,_,k=>⟨0,k⟩
 | .bool,_,_,k=>⟨0,k⟩
 | .str,_,_,k=>⟨0,k⟩
 | .sl t,_,_,⟨v,e,⟨j,d,b⟩,i⟩=>by obtain⟨n,b⟩:=MN (c:=λn=>LS (cF B out hB n).1 t) (Vn B out hB t) (Ic t) b;refine⟨n,v,e,⟨j,?_,b⟩,i⟩;rw[FJ (cF B out hB n).2 t];rw[FJ (s:=s) (c:=Yl B out hB) rfl t]at d;omega
 | .st t,a,cs,k=>Ic t a cs k
 | .pr t u,_,_,⟨g,h,e,d,b⟩=>by obtain⟨n,d⟩:=Ic t _ _ d;obtain⟨m,b⟩:=Ic u _ _ b;exact⟨max n m,g,h,e,Vn B out hB t (Akx ..) _ _ d,Vn B out hB u (Aji ..) _ _ b⟩
 | .un,_,_,k=>⟨0,k⟩
 | .bs,_,_,k=>⟨0,k⟩
 | .nm _,_,_,k=>k
 | .ar _ t,_,_,⟨d,b⟩=>by obtain⟨n,b⟩:=MN (c:=λn=>LS (cF B out hB n).1 t) (Vn B out hB t) (Ic t) b;exact⟨n,d,b⟩
theorem cU:(Yl B out hB).BS H a cs↔(LS (Yl B out hB) B).BS H (out a) cs:=by
 constructor;· rintro⟨n,h⟩;cases n with
  |zero=>trivial
  |succ n=>exact Fx (c:=(cF B out hB n).1) (d:=Yl B out hB) (cF B out hB n).2 (λ_ _ k=>⟨n,k⟩) B _ _ h
 ·intro h;obtain⟨n,h⟩:=Ic B out hB B _ _ h;exact⟨n+1,h⟩
end
end
abbrev A4:=List (Bool×List (Int×Int×Int))
abbrev Be:=List (Int×Int)×List (Int×Int)
abbrev Ff:=Bool×Bool×Bool×Be×A4
inductive Vl where
 |mk (any:Bool) (sc:Ff) (lists:List (List (Vl×Vl)×List (Vl×Vl))) (structs:List (List (Ay×Int×Vl×Vl)×List (A4×Vl×Vl)))
def Vl.any:Vl->Bool| .mk a _ _ _=>a
def Vl.sc:Vl->Ff| .mk _ s _ _=>s
def Vl.lists:Vl->List (List (Vl×Vl)×List (Vl×Vl))| .mk _ _ l _=>l
def Vl.structs:Vl->List (List (Ay×Int×Vl×Vl)×List (A4×Vl×Vl))| .mk _ _ _ l=>l
abbrev spB:Ty:= .st (.pr (.int .i64) (.int .i64))
abbrev wB:Ty:= .st (.pr (.sl spB) (.sl spB))
abbrev aW:Ty:= .st (.sl (.st (.pr .bool (.sl (.st (.pr (.int .u8) (.pr (.int .u8) (.int .i64))))))))
abbrev scB:Ty:= .st (.pr .bool (.pr .bool (.pr .bool (.pr wB aW))))
abbrev eZ:Ty:= .st (.pr (.nm 0) (.nm 0))
abbrev lcB:Ty:= .st (.pr (.sl eZ) (.sl eZ))
abbrev vfB:Ty:= .st (.pr .str (.pr (.int .i64) eZ))
abbrev clsB:Ty:= .st (.pr aW eZ)
abbrev oG:Ty:= .st (.pr (.sl vfB) (.sl clsB))
abbrev vk:Ty:= .st (.pr .bool (.pr scB (.pr (.sl lcB) (.sl oG))))
def vP(x:Vl):Bool×Ff×List (List (Vl×Vl)×List (Vl×Vl))×List (List (Ay×Int×Vl×Vl)×List (A4×Vl×Vl)):=(x.any,x.sc,x.lists,x.structs)
def vlI(p:Bool×Ff×List (List (Vl×Vl)×List (Vl×Vl))×List (List (Ay×Int×Vl×Vl)×List (A4×Vl×Vl))):Vl:= .mk p.1 p.2.1 p.2.2.1 p.2.2.2
def WJ:Cd Vl:=Yl (s:=9) vk vP rfl
theorem Zi{H:Hp}{a:Vl}{cs:List Ce} :WJ.BS H a cs↔(LS WJ vk).BS H (vP a) cs:=cU vk vP rfl
abbrev tV:Nat->Type
 |0=>Vl
 |_=>Empty
def nV(d:List (Nat×Nat))(f:Nat):Df where
 T:=tV
 body|0=>vk|i+1=> .nm (i+1)
 out|0,x=>vP x|_+1,x=>x
 wX|0,p=>vlI p|_+1,p=>p
 size|0=>9|_+1=>f
 id u:=idE d u
 cd|0=>WJ|_+1=>cE f
 size_eq|0=>rfl|_+1=>rfl
 LG|0,_=>rfl|_+1,_=>rfl
 lay {i H a k} :=match i,a with
  |0,a=>Zi
  |i+1,a=>a.elim
end Go.GV
namespace Go.Proofs
open Go.Shelf Go.RowKit Go.Sort Go.Lib
variable {P : GO} {ρ : Ren}
section
variable{w:IK}{o:K5}{a:Act}{Q:Exit->Act->IK->Prop}
def dA(w:IK)(v v':Ce):Prop:=v'.ownBlock=v.ownBlock\/∀b,v'.ownBlock=Ac b->w.heap.size<=b
theorem MU{d e:IK}{row:Option Nat}(h:w.grownBy d Dc)(k:d.grownBy e row):w.grownBy e row:=by obtain⟨f,g,i,a,j⟩:=h;obtain⟨l,m,n,o,p⟩:=k;exact⟨l.trans f,m.trans g,n.trans i,Aam a o,λb c q=>(p b (Abq c a) q).trans (j b c (by simp))⟩
theorem Ja{D:Array K5}{q:List K5}(I:o.guard=Dc)(s x:Er)(t:Gn)
  (T:o.op= .call {callee:= .builtin .append,args:= #[s,x],argTypes:= #[t,t]})
  (e:Gn) (ii:TypeInfo) (z:Ce) (ht:P.underlying t=Ac (.slice e)) (p:P.info? e=Ac ii) (g3:ii.zero=Ac z)
  (g1:ii.size=1) (g2:ii.bytes=1) (C:z.cells.size=1)
  (v:Ce) (m:Nat) (xs:List Ce) (U:a.eval s=v) (k:w.ownsRow 0 e 1 v m xs)
  (y:Addr) (n c:Nat) (d:List Ce) (V:a.eval x= .slice (Ac y) n c) (M:d.length=n) (f:∀j u,d[j]?=Ac u->w.cell? (y.add j)=Ac u) (h1:∀u∈d,u.oneCell'=Br)
  (Z:m+n<=140737488355328)
  (h:∀v' w',w'.ownsRow 0 e 1 v' (m+n) (xs++d)->w.grownBy w' v.ownBlock->dA w v v'->wpList P D Q q (a.put o.dst v') w'):wpList P D Q (o::q) a w:=by
 refine wpList_plain I λK N=>?_;have i:d.length=n*1:=by omega
 obtain⟨v',w',F,W,X,k3⟩:=run_append_own (P:=P) w 0 t o.type e ii z 1 1 ht p g3 g1 g2 C (by decide) v m xs k y n c d i f h1 (by simp only[maxLen];omega) (by omega) (Abg _);unfold K5.wp;simp[Kr,T,resolve,invoke,builtin,U,V,F,iT];refine N _ _ (h v' w' W X ?_);rcases k.2 with⟨rfl,rfl⟩|⟨g,cap,G,rfl,_,R,S,_,O,J⟩;· right;have L:xs=[]:=Abc (by simpa using k.1);subst L;obtain⟨v2,w2,l,Y,_,_⟩:=run_append_own (P:=P) w w.heap.size t o.type e ii z 1 1 ht p g3 g1 g2 C (by decide) (.slice Dc 0 0) 0 [] (IK.ownsRow_nil w _ e _) y n c d i f h1 (by simp only[maxLen];omega) (by omega) (Aaf _);rw[F]at l;injection l with B H;subst B;subst H;exact λb E=>(IK.ownsRow.lt Y b E).1
 ·by_cases r:m+n<=cap;· left;have l:=run_append_room (P:=P) w t o.type e ii ht p g m cap G R y n c d (by rw[g1];exact i) f h1 r (by rw[g1];omega);rw[F]at l;injection l with B H;rw[B];rfl
  ·right;have l:=run_append_grow (P:=P) w t o.type e ii z ht p g3 ⟨g,0,Dc⟩ m cap xs (by rw[g1];exact k.1) (k.cells (g:=g) rfl) y n c d (by rw[g1];exact i) f (by omega) (by omega) (growslice_fits (by omega) (by rw[g2];omega));rw[F]at l;injection l with B H;intro b E;rw[B]at E;simp[Ce.ownBlock]at E;omega
theorem NF{p:Array K5}{i:List K5}(C:o.guard=Dc)(s x:Er)(t u:Gn)
  (L:o.op= .call {callee:= .builtin .append,args:= #[s,x],argTypes:= #[t,u]})
  (e:Gn) (ii:TypeInfo) (ht:P.underlying t=Ac (.slice e)) (y:P.underlying u=Ac .string) (f:P.info? e=Ac ii) (g3:ii.zero=Ac (.int .u8 0))
  (g1:ii.size=1) (g2:ii.bytes=1)
  (v:Ce) (m:Nat) (xs:List Ce) (M:a.eval s=v) (c:w.ownsRow 0 e 1 v m xs) (str:ByteArray) (N:a.eval x= .string str)
  (I:m+str.size<=140737488355328)
  (h:∀v' w',w'.ownsRow 0 e 1 v' (m+str.size) (xs++strCells str)->w.grownBy w' v.ownBlock->dA w v v'->wpList P p Q i (a.put o.dst v') w'):wpList P p Q (o::i) a w:=by
 refine wpList_plain C λK F=>?_;obtain⟨v',w',r,O,R,T⟩:=Lib.run_append_own_string (P:=P) w 0 t u o.type e ii ht y f g3 g1 g2 v m xs c str (by simp only[maxLen];omega) I (Abg _);unfold K5.wp;simp[Kr,L,resolve,invoke,builtin,M,N,r,iT];refine F _ _ (h v' w' O R ?_);rcases c.2 with⟨rfl,rfl⟩|⟨g,cap,z,rfl,_,H,J,G,B,D⟩;· right;have E:xs=[]:=Abc (by simpa using c.1);subst E;obtain⟨U,V,d,S,_,_⟩:=Lib.run_append_own_string (P:=P) w w.heap.size t u o.type e ii ht y f g3 g1 g2 (.slice Dc 0 0) 0 [] (IK.ownsRow_nil w _ e _) str (by simp only[maxLen];omega) (by omega) (Aaf _);rw[r]at d;injection d with n A;subst n;subst A;exact λb q=>(IK.ownsRow.lt S b q).1
 ·by_cases k:m+str.size<=cap;· left;have d:=Lib.run_append_room_string (P:=P) w t u o.type e ii ht y f g1 g m cap z H str k (by simp at B;omega);rw[r]at d;injection d with n A;rw[n];rfl
  ·right;have d:=Lib.run_append_grow_string (P:=P) w t u o.type e ii (.int .u8 0) ht y f g3 ⟨g,0,Dc⟩ m cap xs (by rw[c.1,g1]) (c.cells (g:=g) rfl) str (by omega) (by omega) (by rw[g2];exact growslice_fits (by omega) (by omega));rw[r]at d;injection d with n A;intro b q;rw[n]at q;simp[Ce.ownBlock]at q;omega
def N1(P:GO)(ρ:Ren)(f:FuncId)(c:Ce)(n:Nat)(a:Ce)(xs:List Ce)(w:IK)(l:List UInt8):Prop:=Calls P f #[a,c, .int .i64 10] w λe w'=> ∃v',e= .returned v'/\w'.ownsRow 0 (ρ.t 5) 1 v' (n+l.length) (xs++Lib.byteCells l)/\w.grownBy w' a.ownBlock/\dA w a v'
theorem UR(L:LaysM.n288 P ρ)(n u:Nat)(I:u<100)(y:Ce)(xs:List Ce)(w:IK)(k:w.ownsRow 0 (ρ.t 5) 1 y n xs)(x:n+20<=140737488355328):N1 P ρ (ρ.f 288) (.int .u64 u) n y xs w (Lib.decDigits u):=by
 have q:=L.mixed;have t5:=L.t5;have X:=L.a5;have z5:=L.z5;have v5:=L.v5;have K:=L.t37;have N:=run_underlying L.t37;have F:=L.a37;have S:=L.z37;have Q:=L.v37;have M:=L.t53;have G:=L.a53;have T:=L.z53;have R:=L.v53;have t3:=L.t3;have V:=L.a3;have z3:=L.z3;have v3:=L.v3;have t4:=L.t4;have W:=L.a4;have z4:=L.z4;have v4:=L.v4;have t9:=L.t9;have Y:=L.a9;have z9:=L.z9;have v9:=L.v9;have z:=L.t171;have r:=L.a171;have D:=L.z171;have B:=L.v171;have Z:=L.t0;have U:=L.a0;have z0:=L.z0;have v0:=L.v0;have A:=L.t173;have s:=L.a173;have E:=L.z173;have C:=L.v173;have t:∀args w,(callFunc (ρ.f 283) args).run P w= .ok (.enter (ρ.f 283) args) w:=enters_of L.f283 (by kernel_rfl) rfl;obtain⟨J,H,m,o,p⟩:=info_parts L.i5;have v:(Lib.decDigits u).length<=20:=by
  rw[Lib.decDigits_length];by_cases i:u<10;· rw[Lib.nDigits_small i];omega
  ·rw[Lib.nDigits_big i,Lib.nDigits_small (show u/10<10 by omega)];omega
 have l:(⟨(Lib.decDigits u).toArray⟩:ByteArray).size=(Lib.decDigits u).length:=by simp[ByteArray.size]
 unfold N1;go_enter L.f288,Body.n288_ntmps ρ;go_wp2_with (first
  |(go_at_fn (ρ.f 283);refine(Any.internal_strconv_small {L with} u I _).mono ?_;rintro e w' ⟨rfl,rfl⟩)
  |(at_builtin;refine NF rfl _ _ (ρ.t 37) (ρ.t 9) rfl (ρ.t 5) J L.t37 L.t9 H m o p _ _ _ rfl k ⟨(Lib.decDigits u).toArray⟩ rfl (by rw[l];omega) ?_));intro O w1 b h j;go_wp2;go_ret;refine⟨O,rfl,?_,h,j⟩;first|exact b|(rw[l]at b;exact b)
theorem dj(L:LaysM.n288 P ρ)(n u:Nat)(hu:100<=u)(i:u<18446744073709551616)(U:Ce)(xs:List Ce)(w:IK)(A:w.ownsRow 0 (ρ.t 5) 1 U n xs)(hlim:n+20<=140737488355328)
  (B:Lib.TabIs P w "internal/strconv.uint64pow10" .u64 Lib.pow10Tab):N1 P ρ (ρ.f 288) (.int .u64 u) n U xs w (Lib.decDigits u):=by
 have S:=L.mixed;have t5:=L.t5;have a5:=L.a5;have z5:=L.z5;have v5:=L.v5;have t37:=L.t37;have u37:=run_underlying L.t37;have a37:=L.a37;have z37:=L.z37;have v37:=L.v37;have t53:=L.t53;have a53:=L.a53;have z53:=L.z53;have v53:=L.v53;have t3:=L.t3;have a3:=L.a3;have z3:=L.z3;have v3:=L.v3;have t4:=L.t4;have a4:=L.a4;have z4:=L.z4;have v4:=L.v4;have t9:=L.t9;have a9:=L.a9;have z9:=L.z9;have v9:=L.v9;have t171:=L.t171;have V:=L.a171;have z171:=L.z171;have v171:=L.v171;have t0:=L.t0;have a0:=L.a0;have z0:=L.z0;have v0:=L.v0;have t173:=L.t173;have X:=L.a173;have z173:=L.z173;have v173:=L.v173;have Y:∀args w,(callFunc (ρ.f 284) args).run P w= .ok (.enter (ρ.f 284) args) w:=enters_of L.f284 (by kernel_rfl) rfl;have Z:∀args w,(callFunc (ρ.f 285) args).run P w= .ok (.enter (ρ.f 285) args) w:=enters_of L.f285 (by kernel_rfl) rfl;obtain⟨i0,hi,O,Q,R⟩:=info_parts L.i5;have D:1<=u:=by omega
 have N:Lib.nDigits u<=20:=by have:=Lib.numDigits_eq u D i;split at this<;>omega
 have y:P.arrayLen (ρ.t 171)=24:=by simp[GO.arrayLen,L.t171]
 have hsl:∀W,(Instr.sliceAt (ρ.t 171) (.pointer (Ac ⟨w.heap.size,0,Dc⟩)) Dc (Ac (.int .i64 (Lib.nDigits u:Int))) Dc).run P W= .ok (.slice (Ac ⟨w.heap.size,0,Dc⟩) (Lib.nDigits u) 24) W:=λW=>by rw[run_sliceAt_array_h W (ρ.t 171) ⟨w.heap.size,0,Dc⟩ (by simp[GO.arrayLen,GO.elem,L.t171]) .i64 (Lib.nDigits u:Int) (by omega) (by rw[y];omega)];go_simp
 have s:=Lib.holds_zero0 w (ρ.t 171) (Lib.nDigits u) (by omega);have f:=Any.internal_strconv_formatBase10 {L with} w.heap.size 0 24 u (Array.replicate (Lib.nDigits u) 0) (w.alloc (.cells Lib.zeros24 (ρ.t 171))) s (by rw[Afk];exact Lib.lt_pow_nDigits u) i (by rw[Afk];omega);rw[Afk]at f;have x:=Lib.hid s;have iu:(100:Int)<=(u:Int):=by omega
 clear s y;unfold N1;go_enter L.f288,Body.n288_ntmps ρ;go_wp2_with (first
  |(go_at_fn (ρ.f 284);refine(Any.internal_strconv_numDigits {L with} u D i _ (Lib.tabIs_alloc B _)).mono ?_;rintro e w' ⟨rfl,rfl⟩));go_at_fn (ρ.f 285);refine f.mono ?_;rintro e w' ⟨rfl,k,v',r,rfl,K⟩;have d:∀j H,(Lib.byteCells (Lib.decDigits u))[j]?=Ac H->((putRow (λ(b:UInt8)=>Ce.int .u8 (b.toNat:Int)) (w.alloc (.cells Lib.zeros24 (ρ.t 171))) w.heap.size 0 r).drewN k).cell? ((⟨w.heap.size,0,Dc⟩:Addr).add j)=Ac H:=by
  intro j H M;have m:j<(Lib.decDigits u).length:=by have h5:=(No.1 M).1;rwa [Lib.byteCells_length]at h5
  have e5:(Lib.byteCells (Lib.decDigits u))[j]?=Ac (Ce.int .u8 ((Lib.decDigits u)[j].toNat:Int)):=by simp[Lib.byteCells,m]
  rw[e5]at M;cases M;rw[Lib.row_is_numeral K j m,Lib.add_plain,IK.cell?_drewN];exact cell?_putRow (λ(b:UInt8)=>Ce.int .u8 (b.toNat:Int)) _ w.heap.size 0 _ r x.out (by rw[K.size,Afk]) j (by rw[K.size];rw[Lib.decDigits_length]at m;exact m)
 obtain⟨T,F⟩:=Lib.fin_at w (.cells Lib.zeros24 (ρ.t 171)) r k 0;have g:((putRow (λ(b:UInt8)=>Ce.int .u8 (b.toNat:Int)) (w.alloc (.cells Lib.zeros24 (ρ.t 171))) w.heap.size 0 r).drewN k).ownsRow 0 (ρ.t 5) 1 U n xs:=by rw[F];exact Lib.ownsRow_grow A k T
 have p:w.grownBy ((putRow (λ(b:UInt8)=>Ce.int .u8 (b.toNat:Int)) (w.alloc (.cells Lib.zeros24 (ρ.t 171))) w.heap.size 0 r).drewN k) Dc:=by rw[F];exact Go.GK.OM w k T
 have q:w.heap.size<=((putRow (λ(b:UInt8)=>Ce.int .u8 (b.toNat:Int)) (w.alloc (.cells Lib.zeros24 (ρ.t 171))) w.heap.size 0 r).drewN k).heap.size:=by rw[F];exact Lib.size_grow w k T
 generalize(putRow (λ(b:UInt8)=>Ce.int .u8 (b.toNat:Int)) (w.alloc (.cells Lib.zeros24 (ρ.t 171))) w.heap.size 0 r).drewN k=W2 at d g p q⊢;clear F x f;go_wp2_with (at_builtin;refine Ja rfl _ _ (ρ.t 37) rfl (ρ.t 5) i0 (.int .u8 0) L.t37 hi O Q R rfl _ _ _ rfl g ⟨w.heap.size,0,Dc⟩ (Lib.nDigits u) 24 (Lib.byteCells (Lib.decDigits u)) rfl ?c0 d ?c2 ?c3 ?_);case c0=>rw[Lib.byteCells_length,Lib.decDigits_length]
 case c2=>intro H C;simp only[Lib.byteCells,By]at C;obtain⟨b,_,rfl⟩:=C;rfl
 case c3=>omega
 intro v2 w3 v t z;go_wp2;go_ret;refine⟨v2,rfl,?_,MU p t,z.imp id λh b hb=>Aam q (h b hb)⟩;rw[Lib.decDigits_length];exact v
theorem xR(L:LaysM.n288 P ρ)(n u:Nat)(e:u<18446744073709551616)(f:Ce)(xs:List Ce)(w:IK)(b:w.ownsRow 0 (ρ.t 5) 1 f n xs)(a:n+20<=140737488355328)
  (d:Lib.TabIs P w "internal/strconv.uint64pow10" .u64 Lib.pow10Tab):N1 P ρ (ρ.f 288) (.int .u64 u) n f xs w (Lib.decDigits u):=by
 by_cases h:u<100;· exact UR L n u h f xs w b a
 ·exact dj L n u (by omega) e f xs w b a d
theorem grownBy_alloc(w:IK)(o:Obj):w.grownBy (w.alloc o) Dc:=
 ⟨rfl,rfl,rfl,by show w.heap.size<=(w.heap.push o).size;rw[Array.size_push];omega,λb a _=>by show(w.heap.push o)[b]?=w.heap[b]?;rw[Array.getElem?_push_lt a,Array.getElem?_eq_getElem a]⟩
theorem appI(L:LaysM.n249 P ρ)(n:Nat)(i:Int)(h0: -9223372036854775808<=i)(h1:i<=9223372036854775807)(C:Ce)(xs:List Ce)(w:IK)(r:w.ownsRow 0 (ρ.t 5) 1 C n xs)(T:n+21<=140737488355328)
  (s:∀w',w.grownBy w' C.ownBlock->Lib.TabIs P w' "internal/strconv.uint64pow10" .u64 Lib.pow10Tab):N1 P ρ (ρ.f 249) (.int .i64 i) n C xs w (Lib.itoa i):=by
 have N:=L.mixed;have t5:=L.t5;have R:=L.a5;have z5:=L.z5;have v5:=L.v5;have t37:=L.t37;have u37:=run_underlying L.t37;have X:=L.a37;have z37:=L.z37;have v37:=L.v37;have t2:=L.t2;have O:=L.a2;have z2:=L.z2;have E:=L.v2;have t3:=L.t3;have Q:=L.a3;have z3:=L.z3;have v3:=L.v3;have t53:=L.t53;have Y:=L.a53;have z53:=L.z53;have v53:=L.v53;have t4:=L.t4;have G:=L.a4;have z4:=L.z4;have v4:=L.v4;have S:∀args w,(callFunc (ρ.f 288) args).run P w= .ok (.enter (ρ.f 288) args) w:=enters_of L.f288 (by kernel_rfl) rfl;obtain⟨i0,hi,J,K,M⟩:=info_parts L.i5;by_cases U:i<0
 ·obtain⟨u,rfl⟩:∃u:Nat,i= -(u:Int):=⟨i.natAbs,by omega⟩;have H:1<=u:=by omega
  have g:u<18446744073709551616:=by omega
  have hwr:Lm.u64.wrap (-Lm.u64.wrap (-(u:Int)))=(u:Int):=by rw[Lm.wrap_u64,Lm.wrap_u64];omega
  rw[Lib.itoa_neg u H];unfold N1;go_enter L.f249,Body.n249_ntmps ρ;go_wp2_with (at_builtin;refine Ja rfl _ _ (ρ.t 37) rfl (ρ.t 5) i0 (.int .u8 0) L.t37 hi J K M rfl _ _ _ rfl (r.alloc _) ⟨w.heap.size,0,Dc⟩ 1 1 [Ce.int .u8 45] rfl rfl (by intro j u' D;match j,D with|0,D=>simp at D;subst D;simp[Addr.add]) (by intro u' B;simp at B;subst B;rfl) (by omega) ?_);intro v1 F x v A;have t:=MU (grownBy_alloc w _) v;have y:Lib.TabIs P F "internal/strconv.uint64pow10" .u64 Lib.pow10Tab:=s F t;have I:w.heap.size<=F.heap.size:=by obtain⟨_,_,_,q,_⟩:=t;exact q
  go_wp2_with (go_at_fn (ρ.f 288);refine(xR {L with} (n+1) u g v1 _ F x (by omega) y).mono ?_;rintro e w2 ⟨E,rfl,f,c,d⟩);go_wp2;go_ret;have z:dA w C v1:=A.imp id λh b p=>by refine Aam ?_ (h b p);obtain⟨_,_,_,q,_⟩:=grownBy_alloc w _;exact q
  refine⟨E,rf,?_,?_,?_⟩
  ·have e1:n+((Lib.decDigits u).length+1)=n+1+(Lib.decDigits u).length:=by omega
   have e2:xs++Lib.byteCells (45::Lib.decDigits u)=xs++[Ce.int .u8 45]++Lib.byteCells (Lib.decDigits u):=by simp[Lib.byteCells]
   rw[e1,e2];exact f
  ·obtain⟨W,O,Q,G,R⟩:=t;obtain⟨Z,b2,b3,b4,b5⟩:=c;refine⟨Z.trans W,b2.trans O,b3.trans Q,Aam G b4,λb p V=>(b5 b (Abq p G) λe=>?_).trans (R b p V)⟩;rcases z with h|h;· exact V (e.trans h)
   ·exact absurd (h b e.symm) (by omega)
  ·rcases d with h|h
   ·rcases z with k|k;· exact .inl (h.trans k)
    ·exact .inr λb p=>k b (by rw[<-h];exact p)
   ·exact .inr λb p=>Aam I (h b p)
 ·obtain⟨u,rfl⟩:∃u:Nat,i=u:=⟨i.toNat,by omega⟩;have g:u<18446744073709551616:=by omega
  rw[Lib.itoa_nonneg];unfold N1;go_enter L.f249,Body.n249_ntmps ρ;go_wp2_with (go_at_fn (ρ.f 288);refine(xR {L with} n u g C xs w r (by omega) (s w (IK.grownBy.refl _ _))).mono ?_;rintro e w2 ⟨E,rfl,f,c,d⟩);go_wp2;first|go_ret|go_ret2
  exact⟨E,rf,f,c,d⟩
theorem appP(L:LaysM.n176 P ρ)(n:Nat)(i:Int)(h0: -9223372036854775808<=i)(h1:i<=9223372036854775807)(k:Ce)(xs:List Ce)(w:IK)(h:w.ownsRow 0 (ρ.t 5) 1 k n xs)(g:n+21<=140737488355328)
  (j:∀w',w.grownBy w' k.ownBlock->Lib.TabIs P w' "internal/strconv.uint64pow10" .u64 Lib.pow10Tab):N1 P ρ (ρ.f 176) (.int .i64 i) n k xs w (Lib.itoa i):=by
 have l:=L.mixed;have A:=L.t5;have x:=L.a5;have G:=L.z5;have C:=L.v5;have q:=L.t37;have r:=run_underlying L.t37;have p:=L.a37;have t:=L.z37;have s:=L.v37;have y:=L.t2;have u:=L.a2;have E:=L.z2;have o:=L.v2;have z:=L.t3;have v:=L.a3;have F:=L.z3;have B:=L.v3;have m:∀args w,(callFunc (ρ.f 249) args).run P w= .ok (.enter (ρ.f 249) args) w:=enters_of L.f249 (by kernel_rfl) rfl;unfold N1;go_enter L.f176,Body.n176_ntmps ρ;go_wp2_with (go_at_fn (ρ.f 249);refine(appI {L with} n i h0 h1 k xs w h g j).mono ?_;rintro e D ⟨o,rfl,d,a,c⟩);go_wp2;go_ret;exact⟨o,rfl,d,a,c⟩
end
end Go.Proofs
namespace Go.GV
open Go Go.GK Go.Proofs
section
variable {N : Df} {P : GO}
def xS(g:Gn):A9:=⟨[.Ae (.int .i64), .Ae (.int .i64), .Ae (.sl (.int .u8))],[(0, .AE 0),(1, .v 0 (.int .i64)),(2, .v 1 (.int .i64))],[(0, .row g 2)],1⟩
def apo(g:Gn):A9:=⟨[.Ae (.sl (.int .u8))],[(0, .AE 1)],[(1, .row g 0)],2⟩
def Ys(x:Int×Int×List Int):Option (List Int):=Ah (x.2.1=10/\x.2.2.length+21<=140737488355328) (Aa .i64 x.1 (Ac (x.2.2++(Lib.itoa x.1).map λb=>((b.toNat:Nat):Int))))
def J3(N:Df)(g:Gn):PQ N:=⟨xS g,apo g,1,[0],λx=>Ys x⟩
theorem aU{H:Hp} :∀(l:List UInt8),A2 (N.c (.int .u8)) H (l.map λb=>((b.toNat:Nat):Int)) (Lib.byteCells l)
 | []=>rfl
 |b::l=>⟨[.int .u8 (b.toNat:Int)],Lib.byteCells l,rfl,D6.2 ⟨rfl,by have:=b.toNat_lt;show 0<=((b.toNat:Nat):Int)/\((b.toNat:Nat):Int)<=255;omega⟩,aU l⟩
theorem Zu{f:Nat}{g:Gn}(hi:∀H,N.inv H->HP P H)(F:TO P f)
  (hc:∀(n:Nat) (i:Int), -9223372036854775808<=i->i<=9223372036854775807->∀(sv:Ce) (xs:List Ce) (w:IK),w.ownsRow 0 g 1 sv n xs->n+21<=140737488355328->(∀w',w.grownBy w' sv.ownBlock->Lib.TabIs P w' "internal/strconv.uint64pow10" .u64 Lib.pow10Tab)->
   Calls P f #[sv, .int .i64 i, .int .i64 10] w λe w'=> ∃v',e= .returned v'/\w'.ownsRow 0 g 1 v' (n+(Lib.itoa i).length) (xs++Lib.byteCells (Lib.itoa i))/\w.grownBy w' sv.ownBlock/\dA w sv v'):
  Ch P f (J3 N g):=⟨F,λx y V η H W Y T hnd L=>by
 obtain⟨(i:Int),(b:Int),(l:List Int)⟩:=x;have j:Ys (i,b,l)=Ac y:=V;clear V;unfold Ys Ah at j;dsimp only at j;split at j
 ·rename_i C;obtain⟨o,hl⟩:=C;subst o;obtain⟨U,_,j⟩:=B_ j;cases j;obtain⟨O,Q,s,i4,i5⟩:=L;have O:T.length=3:=O;obtain⟨v0,v1,v2,rfl⟩:∃a b c,T=[a,b,c]:=by
   match T,O with
   | [a,b,c],_=>exact⟨a,b,c,rfl⟩
  obtain⟨u0,Z,J⟩:=Q (0, .AE 0) (by simp[J3,xS]);obtain⟨u1,e1,h1⟩:=Q (1, .v 0 (.int .i64)) (by simp[J3,xS]);obtain⟨u2,e2,h2⟩:=Q (2, .v 1 (.int .i64)) (by simp[J3,xS]);cases Z;cases e1;cases e2;have J:v0=η 0/\v0.oneCell'=Br:=J;obtain⟨c1,G,I⟩:=h1;obtain⟨G,_⟩:=D6.1 G;subst G;have I:[Ce.int .i64 i]=[v1]:=I;cases I;obtain⟨c2,R,S⟩:=h2;obtain⟨R,_⟩:=D6.1 R;subst R;have S:[Ce.int .i64 10]=[v2]:=S;cases S;have s:keys Y=[0]:=s;obtain⟨p0,rfl⟩:∃p,Y=[p]:=Adb.1 (by simpa [keys]using congrArg FB s);obtain⟨k0,X0⟩:=p0
  ·have s:[k0]=[0]:=s;cases s;obtain⟨X,e,hX⟩:=i4 (0, .row g 2) (by simp[J3,xS]);cases e;obtain⟨xs,rfl,t⟩:=hX;obtain⟨rfl,h0'⟩:=J;have hsz:(Ty.int .u8).sz N=1:=rfl;intro w M;have B:w.ownsRow 0 g 1 (η 0) l.length xs:=M.ok 0 _ rfl;have E:∀w',w.grownBy w' (η 0).ownBlock->Lib.TabIs P w' "internal/strconv.uint64pow10" .u64 Lib.pow10Tab:=λw' hg=>
    hi H i5 w' _ (M.set (i:=0) (r':= .emp) rfl hg trivial λb o=>o.elim);refine(hc l.length i U.1 U.2 (η 0) xs w B hl E).mono ?_;rintro e w' ⟨v',rfl,q,K,z⟩;have u:(l++(Lib.itoa i).map λb=>((b.toNat:Nat):Int)).length=l.length+(Lib.itoa i).length:=by simp
   have D:SH w' H (.row v' g 1 (l++(Lib.itoa i).map λb=>((b.toNat:Nat):Int)).length (xs++Lib.byteCells (Lib.itoa i))::W):=
    M.set (i:=0) (r':= .row v' g 1 (l++(Lib.itoa i).map λb=>((b.toNat:Nat):Int)).length (xs++Lib.byteCells (Lib.itoa i))) rfl K (by rw[u];exact q) λb o=>by
     rcases z with h|h;· left;have o:v'.ownBlock=Ac b:=o;show(η 0).ownBlock=Ac b;rw[<-h];exact o
     ·exact .inr (h b o)
   have A:v'.oneCell'=Br:=D.ZK (i:=0) rfl;refine⟨v',H,_,rfl,Hp.le.refl H,D,λk=>if k=1 then v' else η k,[(1, .row v' g 1 (l++(Lib.itoa i).map λb=>((b.toNat:Nat):Int)).length (xs++Lib.byteCells (Lib.itoa i)))],rfl,λk r=>?_,by simp[keys],λk r=>?_,λp C=>?_,λk r h4 h5=>?_,?_⟩
   ·have r:k<1:=r;have:k≠1:=by omega
    simp[this]
   ·have:k=1:=by simpa [keys]using r
    subst this;right;simp[J3,apo]
   ·have C:p=(1, .row g 0):=by simpa [J3,apo]using C
    subst C;exact⟨_,rfl,xs++Lib.byteCells (Lib.itoa i),rfl,t.app (aU _)⟩
   ·have:k=0:=by simpa [keys]using r
    subst this;exact absurd (by simp[J3]) h5
   ·exact⟨rf,A⟩
 ·cases j⟩
end
noncomputable abbrev NL:Df:= {nV [(32,0),(33,0),(110,1),(111,1)] 5 with prog:=Ac Tryz.prog,inv:=HP Tryz.prog,C5:=λhl h=>h.mono hl}
theorem qo:C9 NL Tryz.prog:=⟨λh=>by cases h;rfl,by kernel_rfl⟩
theorem vW{P:GO}{f:FuncId}{vs:List Ce}{H:Hp}{O:List Aw}{v:Ce}{R:Ce->Hp->List Aw->Prop}(h:jt P f vs H O v)(k:R v H O):Tw P f vs H O R:=λw hs=>(h w hs).mono λe w' ⟨h1,h2⟩=>⟨v,H,O,h1,Hp.le.refl H,h2,k⟩
def ita:A9:=⟨[.Ae (.int .i64)],[(0, .v 0 (.int .i64))],[],0⟩
def ito:A9:=⟨[.Ae .str],[(0, .v 0 .str)],[],0⟩
noncomputable def U3:PQ NL:=⟨ita,ito,1,[],λx=>Aa .i64 (show Int from x) (Ac (show Ay from Lib.itoa x))⟩
theorem gY:Ch Tryz.prog 323 U3:=⟨⟨Tryz.f323,Tryz.func323,by kernel_rfl,rfl⟩,λa y hy η H O Y vs hnd hin=>by
 obtain⟨i1,i2,i3,_,hv0⟩:=hin
 obtain⟨v1,rfl⟩:∃v,vs=[v]:=Adb.1 i1
 obtain⟨v,e,hv⟩:=i2 (0, .v 0 (.int .i64)) (by simp[U3,ita])
 cases e
 obtain⟨cs,h1,h2⟩:=hv
 obtain⟨h1,_⟩:=D6.1 h1
 subst h1
 have h2:[Ce.int .i64 a]=[v1]:=h2
 cases h2
 obtain rfl:Y=[]:=List.map_eq_nil_iff.1 (show Y.map (·.1)=[]from i3)
 have hy:Aa .i64 a (Ac (Lib.itoa a))=Ac y:=hy
 obtain⟨hc,_,hy⟩:=B_ hy
 cases hy
 exact vW (jt.itoa (λn h0 h1 w ht=>Go.Proofs.Tryz.strconv_Itoa n h0 h1 w ht) hv0 hc) ⟨η,[],rfl,λ_ _=>rfl,Aex,λk hk=>(by cases hk),λp hp=>(by cases hp),λk hk=>(by cases hk),[_],rfl,rfl⟩⟩
def cpi:A9:=⟨[.Ae (.sl (.int .u8))],[(0, .loc 0 0)],[(0, .Af 290 [(1, .px [0] .sf),(1, .AE 1)]),(1, .row 5 0)],2⟩
def cpo:A9:=⟨[.Ae (.sl (.int .u8))],[],[(0, .Af 290 [(1, .px [0] .sf),(1, .AE 1)]),(1, .row 5 0)],2⟩
noncomputable def Nu:PQ NL:=⟨cpi,cpo,0,[],λx=>Ac x⟩
theorem gZ:Ch Tryz.prog 379 Nu:=⟨Go.Proofs.YtejdlmphkeeekaaGreatDoor.rE,λx y hy η H Of Y vs hnd hin=>by
 cases hy
 obtain⟨i1,i2,i3,i4,hiv⟩:=hin
 obtain⟨v,rfl⟩:∃v,vs=[v]:=Adb.1 i1
 obtain⟨v',e,hv⟩:=i2 (0, .loc 0 0) (by simp[Nu,cpi])
 cases e
 obtain⟨B,b1,rfl⟩:=hv
 have i3:keys Y=[0,1]:=i3
 match Y,i3 with
 | [(
   k0,X0),(k1,X1)],i3=>
  have i3:[k0,k1]=[0,1]:=i3
  cases i3
  obtain⟨X,e,hX⟩:=i4 (0, .Af 290 [(1, .px [0] .sf),(1, .AE 1)]) (by simp[Nu,cpi])
  cases e
  obtain⟨B',cs,c1,rfl,hl⟩:=hX
  have:B=B':=by rw[b1]at c1;simpa [ptr]using c1
  subst this
  obtain⟨d1,d2,u,e1,e2,e3,e4,e5,hl2⟩:=hl
  obtain⟨d3,d4,u2,f1,f2,f3,f4,f5,hl3⟩:=hl2
  have hl3:Ce.agg d4.toArray= .agg #[]:=hl3
  have ha:u= .pointer Dc\/u=ptr B 0:=by
   rcases e3 with e|⟨B2,q1,q2⟩
   ·exact .inl e
   ·right
    rw[q2]
    have:η 0=ptr B2 0:=by simpa using q1
    rw[<-this];exact b1
  have u1:d1=[u]:=by rw[<-e4];rcases ha with e|e<;>subst e<;>rfl
  obtain⟨g1,g2⟩:=f3
  have u3:d3=[u2]:=by rw[<-f4];exact A' g2
  have hd4:d4=[]:=by simpa using hl3
  have hd2:d2=d3++d4:=by simpa using f1
  subst hd4;subst hd2;subst u1;subst u3
  have hcs:cs= #[u,u2]:=by
   have:cs=([u]++([u2]++[])).toArray:=by simpa using e1
   simpa using this
  subst hcs
  refine λw hs=>((Go.Proofs.YtejdlmphkeeekaaGreatDoor.bldC (B:=B) (a:=u) (v:=u2) (O:=X1::Of) ha) w hs).mono ?_
  rintro e w' ⟨r,H',O',rfl,h2,h3,rfl,rfl⟩
  refine⟨_,H',_,rf,h2,h3,η,[(0, .Af B (.cells #[ptr B 0,u2] 290 (0,0))),(1,X1)],rf,λ_ _=>rfl,by simp[keys],λk hk=> .inr hk,λp hp=>?_,λk hk h4=>?_,rf⟩
  ·have hp:p=(0, .Af 290 [(1, .px [0] .sf),(1, .AE 1)])\/p=(1, .row 5 0):=by simpa [Nu,cpo]using hp
   rcases hp with rfl|rfl
   ·refine⟨_,rfl,B,_,b1,rfl,[ptr B 0],[u2],ptr B 0,rfl,rfl, .inr ⟨B,by simp[b1],rfl⟩,rfl,(λx hx=>by simp at hx;subst hx;rfl),[u2],[],u2,rfl,rfl,⟨g1,g2⟩,A' g2,(λx hx=>by simp at hx;subst hx;exact g2),rfl⟩
   ·obtain⟨X,e,hX⟩:=i4 (1, .row 5 0) (by simp[Nu,cpi])
    cases e
    exact⟨_,rf,SR.is.mono h2 hX⟩
  ·exact absurd hk h4⟩
theorem qW:Ch Tryz.prog 431 (J3 NL 5):=Zu (λ_ h=>h) ⟨Tryz.f431,Tryz.func431,by kernel_rfl,rfl⟩ (λn i h0 h1 sv xs w ho hl ht=>appP Go.Proofs.Tryz.aR n i h0 h1 sv xs w ho hl ht)
end Go.GV
namespace Go.GV
open Go Go.GK Go.Proofs
noncomputable section
section
variable{f:Nat}{fn:Func}{pi:A9}{y:Nat}{ts:List Ty}{A B R:Type}{po:A9}{gone:List Nat}{rb:Bool}{C:Type}
noncomputable abbrev TP:GO:=Tryz.prog
theorem follows:TP.follows .mixedOrders=Br:=by kernel_rfl
abbrev y0:Ty:=(.pr (.int .u8) (.int .i64))
abbrev y1:Ty:=(.pr (.int .u8) y0)
abbrev y2:Ty:=(.pr .bool (.sl (.st y1)))
abbrev y3:Ty:=(.st (.sl (.st y2)))
abbrev y4:Ty:=(.pr (.int .i64) (.int .i64))
abbrev y5:Ty:=(.pr (.sl (.st y4)) (.sl (.st y4)))
abbrev y6:Ty:=(.pr (.st y5) y3)
abbrev y7:Ty:=(.pr .bool (.pr .bool y6))
abbrev y8:Ty:=(.st (.pr .bool y7))
abbrev y9:Ty:=(.pr (.nm 0) (.nm 0))
abbrev FP:Ty:=(.sl (.int .i64))
abbrev y11:Ty:=(.pr (.st y4) .bool)
abbrev y12:Ty:=(.pr (.int .i64) (.st y9))
abbrev ED:Ty:=(.st (.pr .str y12))
abbrev y14:Ty:=(.pr (.sl .bool) FP)
abbrev y15:Ty:=(.pr (.sl FP) y14)
abbrev vi:Ty:=(.st (.pr FP y15))
abbrev y17:Ty:=(.pr .str (.int .i64))
abbrev y18:Ty:=(.pr y3 (.st y9))
abbrev y19:Ty:=(.pr (.sl ED) (.sl (.st y18)))
abbrev y20:Ty:=(.st (.pr .str .bool))
abbrev y21:Ty:=(.sl (.sl (.st y9)))
abbrev y22:Ty:=(.pr (.sl (.st y9)) (.sl (.st y9)))
abbrev y23:Ty:=(.sl (.sl (.st y4)))
abbrev vL:Ty:=(.sl (.sl .bool))
abbrev y25:Ty:=(.pr .str (.nm 1))
abbrev Am:Ty:= .int .i64
abbrev BJ:Ty:= .sl (.st y4)
abbrev A_:Ty:= .st y9
abbrev Ba:Ty:= .nm 0
abbrev BL:Ty:= .st y19
abbrev BW:Ty:= .st y22
abbrev I':Ty:= .sl (.st y18)
abbrev I_:Ty:= .sl (.st y2)
abbrev E':Ty:= .st y18
abbrev Ew:Ty:= .st y4
abbrev Ci:Ty:= .sl BL
abbrev Ck:Ty:= .sl BW
abbrev BR:Ty:= .st y5
abbrev Cz:Ty:= .sl A_
abbrev Ek:Ty:= .sl .bool
abbrev Ej:Ty:= .sl Am
abbrev Kf:Ty:= .sl (.st y1)
abbrev Pr:Ty:= .sl (.int .u8)
abbrev Ke:Ty:= .sl ED
abbrev Kd:Ty:= .sl FP
abbrev NH:Ty:= .int .u8
abbrev Kb:Ty:= .st y2
abbrev Rb:Ty:= .sl .str
abbrev Pq:Ty:= .st y1
structure Bd where
 f:Nat
 c:CQ NL
 ok:Bw TP f c
def mgC:CQ NL->Option (CQ NL)->CQ NL
 | .PI x,Ac (.PI y)=> .PI (x++y)
 | .its x,Ac (.its y)=> .its (x++y)
 | .qM x,Ac (.qM y)=> .qM (x++y)
 |c,_=>c
def wL:List Bd->Nat->Option (CQ NL)
 | [],_=>Dc
 |b::l,f=>match Hg b.f f with
  |true=>Ac (mgC b.c (wL l f))
  |false=>wL l f
theorem qm{c:CQ NL}{d:Option (CQ NL)}(h:Bw TP f c)(k:∀q,d=Ac q->Bw TP f q):Bw TP f (mgC c d):=by
 unfold mgC
 split
 all_goals first
  |exact h
  |exact λq hq=>(AT.1 hq).elim (h q) (k _ rfl q)
theorem ZB:∀(l:List Bd) f q,wL l f=Ac q->Bw TP f q
 | [],_,_,e=>by cases e
 |b::l,f,q,e=>by
  unfold wL at e
  split at e
  ·rename_i hb
   cases e
   exact qm (AI hb▸b.ok) (ZB l f)
  ·exact ZB l f q e
def lkT{β:Type}(d:β):List (Nat×β)->Nat->β
 | [],_=>d
 |p::l,i=>match Hg p.1 i with
  |true=>p.2
  |false=>lkT d l i
abbrev lk(l:List (Nat×A9))(i:Nat):Option A9:=lkT Dc (l.map λp=>(p.1,Ac p.2)) i
abbrev lg(l:List (Nat×List Gh))(i:Nat):List Gh:=lkT [] l i
abbrev lz(l:List (Nat×Nat))(i:Nat):Nat:=lkT 0 l i
abbrev u2(f:A->B->R)(x:A×B):R:=f x.1 x.2
abbrev u3(f:A->B->C->R)(x:A×B×C):R:=f x.1 x.2.1 x.2.2
abbrev u4{E:Type}(f:A->B->C->E->R)(x:A×B×C×E):R:=f x.1 x.2.1 x.2.2.1 x.2.2.2
def So{α:Type}(cmp:α->α->Option Int)(fu:Nat)(x0:Int)(x1:Int)(x2:List α):Option (List α):=Aa (Lm.i64) (x0+(1:Int))<|Ad fu (λ(z1:List α×Int) nx2=>bif Ds (z1.2<x1)then Ad fu (λ(z3:List α×Int) nx4=>bif Ds (x0<z3.2)then Ab (idx z3.1 z3.2) λr5=>Aa (Lm.i64) (z3.2-(1:Int))<|Ab (idx z3.1 (z3.2-(1:Int))) λr6=>Ab (cmp r5 r6) λr7=>bif Ds (r7<(0:Int))then Aa (Lm.i64) (z3.2-(1:Int))<|Aa (Lm.i64) (z3.2-(1:Int))<|Ab (idx z3.1 (z3.2-(1:Int))) λr8=>Ab (idx z3.1 z3.2) λr9=>Ab (idx z3.1 z3.2) λ_=>Ab (idx (lh z3.1 (ae z3.2) r8) (z3.2-(1:Int))) λ_=>Aa (Lm.i64) (z3.2-(1:Int))<|nx4 ((((lh z3.1 (ae z3.2) r8).set (ae (z3.2-(1:Int))) r9),(z3.2-(1:Int))))else Aa (Lm.i64) (z1.2+(1:Int))<|nx2 ((z3.1,(z1.2+(1:Int))))else Aa (Lm.i64) (z1.2+(1:Int))<|nx2 ((z3.1,(z1.2+(1:Int))))) ((z1.1,z1.2))else Ac (z1.1)) ((x2,(x0+(1:Int))))
def sm(n:Nat):Nat:=cond (iJ n 2000) 5 n
theorem k_{n:Nat}(h:2000<n):sm n=n:=by
 unfold sm
 cases b:iJ n 2000 with
 |true=>have:=Aay b;omega
 |false=>rfl
def kp(l:List Nat)(r:List (Nat×SP)):List (Nat×SP):=l.map (λi=>(i, .Al))++r
def bs(l:List (Nat->Bd))(fu:Nat):List Bd:=l.map (· fu)
def n0:Nat->Option A9:=λ_=>Dc
def g0:Nat->List Gh:=λ_=>[]
def z0:Nat->Nat:=λ_=>0
theorem bA{a b:Bool}(h:(a&&b)=Br):a=Br/\b=Br:=by simpa using h
abbrev Wo(l:List Bd)(la:Nat->Option A9)(pr po:Nat->List Gh)(ct:Nat->Nat)(kb:Nat)(fn:Func):Cx NL:=⟨TP,wL l,la,λ_=>Dc,pr,po,kb,fn.ntmps,ct⟩
def Lr(fn:Func):Bool:= !(fn.name== "runtime.NumGoroutine")&& !fn.body.isNone
theorem bV(hf:TP.funcs[f]?=Ac fn)(h:Lr fn=Br):TO TP f:=⟨fn,hf,by have:=(bA h).1;simpa using this,by have:=(bA h).2;simpa using this⟩
theorem o5{rk:Nat}{F G:BK NL pi.hs->Option (BK NL po.hs)}(h:Ch TP f (⟨pi,po,rk,gone,F⟩:PQ NL))(e:∀x,F x=G x):Ch TP f (⟨pi,po,rk,gone,G⟩:PQ NL):=(funext e:F=G)▸h
theorem okwI{F G:BK NL pi.hs->Option (List (DT NL ts)×Bool)}(h:I6 TP f (⟨pi,y,ts,F⟩:IQ NL))(e:∀x,F x=G x):I6 TP f (⟨pi,y,ts,G⟩:IQ NL):=(funext e:F=G)▸h
theorem okwJ{F G:BK NL pi.hs->Option (List (DT NL ts)×Option Bool)}(h:I5 TP f (⟨pi,y,ts,rb,F⟩:JQ NL))(e:∀x,F x=G x):I5 TP f (⟨pi,y,ts,rb,G⟩:JQ NL):=(funext e:F=G)▸h
def df{q:PQ NL}(h:Ch TP f q):Bd:=⟨f, .PI [q],λ_ hq=>Aae.1 hq▸h⟩
def bdI{q:IQ NL}(h:I6 TP f q):Bd:=⟨f, .its [q],λ_ hq=>Aae.1 hq▸h⟩
def bdJ{q:JQ NL}(h:I5 TP f q):Bd:=⟨f, .qM [q],λ_ hq=>Aae.1 hq▸h⟩
abbrev Gl(f:Nat)(pi po:A9)(rk:Nat)(gone:List Nat):Type:= {F:BK NL pi.hs->Option (BK NL po.hs)//Ch TP f (⟨pi,po,rk,gone,F⟩:PQ NL)}
def sP(l:List Bd)(fu:Nat)(hf:TP.funcs[f]?=Ac fn)(pi po:A9)(rk:Nat)(gone:List Nat)(la:Nat->Option A9:=n0)(pr pt:Nat->List Gh:=g0)(ct:Nat->Nat:=z0)(h:(Lr fn&&Yg (Wo l la pr pt ct pi.nk fn) pi po gone)=Br:=by kernel_rfl):Gl f pi po rk gone:=⟨SK (Wo l la pr pt ct pi.nk fn) fu fn pi po rk,bK (cx:=Wo l la pr pt ct pi.nk fn) (mp:=qo) (ZB l) follows (bV hf (bA h).1) hf rfl (bA h).2⟩
def tP(hf:TP.funcs[f]?=Ac fn){rk:Nat}(h:Lr fn=Br:=by kernel_rfl):Gl f pi po rk gone:=⟨λ_=>Dc,bV hf h,λ_ _ h=>by cases h⟩
def BO{rk:Nat}(x:Gl f pi po rk gone):Bd:=df x.2
def bP(l:List (Nat->Bd))(hf:TP.funcs[f]?=Ac fn)(pi po:A9)(rk:Nat)(gone:List Nat)(G:Nat->BK NL pi.hs->Option (BK NL po.hs))(la:Nat->Option A9:=n0)(pr pt:Nat->List Gh:=g0)(ct:Nat->Nat:=z0)(h:∀fu,(Lr fn&&Yg (Wo (bs l fu) la pr pt ct pi.nk fn) pi po gone)=Br:=by intro fu;kernel_rfl)(e:∀fu x,(sP (bs l fu) fu hf pi po rk gone la pr pt ct (h fu)).1 x=G fu x:=by intro fu x;kernel_rfl)(fu:Nat):Bd:=df (o5 (sP (bs l fu) fu hf pi po rk gone la pr pt ct (h fu)).2 (e fu))
abbrev GrI(f:Nat)(pi:A9)(y:Nat)(ts:List Ty):Type:= {F:BK NL pi.hs->Option (List (DT NL ts)×Bool)//I6 TP f (⟨pi,y,ts,F⟩:IQ NL)}
def sI(l:List Bd)(fu:Nat)(hf:TP.funcs[f]?=Ac fn)(pi:A9)(y:Nat)(ts:List Ty)(la:Nat->Option A9:=n0)(pr pt:Nat->List Gh:=g0)(ct:Nat->Nat:=z0)(h:(Lr fn&&iR (Wo l la pr pt ct pi.nk fn) pi y)=Br:=by kernel_rfl):GrI f pi y ts:=⟨Wg (Wo l la pr pt ct pi.nk fn) fu fn pi y ts,bM (cx:=Wo l la pr pt ct pi.nk fn) (mp:=qo) (ZB l) follows (bV hf (bA h).1) hf rfl (bA h).2⟩
def xQ(x:GrI f pi y ts):Bd:=bdI x.2
def bI(l:List (Nat->Bd))(hf:TP.funcs[f]?=Ac fn)(pi:A9)(y:Nat)(ts:List Ty)(G:Nat->BK NL pi.hs->Option (List (DT NL ts)×Bool))(la:Nat->Option A9:=n0)(pr pt:Nat->List Gh:=g0)(ct:Nat->Nat:=z0)(h:∀fu,(Lr fn&&iR (Wo (bs l fu) la pr pt ct pi.nk fn) pi y)=Br:=by intro fu;kernel_rfl)(e:∀fu x,(sI (bs l fu) fu hf pi y ts la pr pt ct (h fu)).1 x=G fu x:=by intro fu x;kernel_rfl)(fu:Nat):Bd:=bdI (okwI (sI (bs l fu) fu hf pi y ts la pr pt ct (h fu)).2 (e fu))
abbrev GrJ(f:Nat)(pi:A9)(y:Nat)(ts:List Ty)(rb:Bool):Type:= {F:BK NL pi.hs->Option (List (DT NL ts)×Option Bool)//I5 TP f (⟨pi,y,ts,rb,F⟩:JQ NL)}
def sJ(l:List Bd)(fu:Nat)(hf:TP.funcs[f]?=Ac fn)(pi:A9)(y:Nat)(ts:List Ty)(rb:Bool)(la:Nat->Option A9:=n0)(pr pt:Nat->List Gh:=g0)(ct:Nat->Nat:=z0)(h:(Lr fn&&iQ (Wo l la pr pt ct pi.nk fn) pi y)=Br:=by kernel_rfl):GrJ f pi y ts rb:=⟨Wf (Wo l la pr pt ct pi.nk fn) fu fn pi y ts rb,bL (cx:=Wo l la pr pt ct pi.nk fn) (mp:=qo) (ZB l) follows (bV hf (bA h).1) hf rfl (bA h).2⟩
def tJ(hf:TP.funcs[f]?=Ac fn)(h:Lr fn=Br:=by kernel_rfl):GrJ f pi y ts rb:=⟨λ_=>Dc,bV hf h,λ_ _ h=>by cases h⟩
def xP(x:GrJ f pi y ts rb):Bd:=bdJ x.2
def bJ(l:List (Nat->Bd))(hf:TP.funcs[f]?=Ac fn)(pi:A9)(y:Nat)(ts:List Ty)(rb:Bool)(G:Nat->BK NL pi.hs->Option (List (DT NL ts)×Option Bool))(la:Nat->Option A9:=n0)(pr pt:Nat->List Gh:=g0)(ct:Nat->Nat:=z0)(h:∀fu,(Lr fn&&iQ (Wo (bs l fu) la pr pt ct pi.nk fn) pi y)=Br:=by intro fu;kernel_rfl)(e:∀fu x,(sJ (bs l fu) fu hf pi y ts rb la pr pt ct (h fu)).1 x=G fu x:=by intro fu x;kernel_rfl)(fu:Nat):Bd:=bdJ (okwJ (sJ (bs l fu) fu hf pi y ts rb la pr pt ct (h fu)).2 (e fu))
def pdL:List Ty->Nat->List (Nat×SP)
 | [],_=>[]
 |t::l,i=>(i, .v i t)::pdL l (i+1)
def My(l:List Ty):A9:=⟨l.map .Ae,pdL l 0,[],0⟩
end
section
variable{f:Nat}{fn:Func}{rs:List Ty}{R α:Type}{ps:List Ty}
abbrev qQ(ps rs:List Ty)(F:BK NL (My ps).hs->Option (BK NL (My rs).hs)):PQ NL:=⟨My ps,My rs,rs.length,[],F⟩
abbrev EM(f:Nat)(ps rs:List Ty):Type:=Gl f (My ps) (My rs) rs.length []
def sQ(l:List Bd)(fu:Nat)(hf:TP.funcs[f]?=Ac fn)(ps rs:List Ty)(la:Nat->Option A9:=n0)(pr pt:Nat->List Gh:=g0)(ct:Nat->Nat:=z0)(h:(Lr fn&&Yg (Wo l la pr pt ct 0 fn) (My ps) (My rs) [])=Br:=by kernel_rfl):EM f ps rs:=sP l fu hf (My ps) (My rs) rs.length [] la pr pt ct h
def tQ(hf:TP.funcs[f]?=Ac fn)(h:Lr fn=Br:=by kernel_rfl):EM f ps rs:=tP hf h
def BI(x:EM f ps rs):Bd:=BO x
def bQ(l:List (Nat->Bd))(hf:TP.funcs[f]?=Ac fn)(ps rs:List Ty)(G:Nat->BK NL (My ps).hs->Option (BK NL (My rs).hs))(la:Nat->Option A9:=n0)(pr pt:Nat->List Gh:=g0)(ct:Nat->Nat:=z0)(h:∀fu,(Lr fn&&Yg (Wo (bs l fu) la pr pt ct 0 fn) (My ps) (My rs) [])=Br:=by intro fu;kernel_rfl)(e:∀fu x,(sQ (bs l fu) fu hf ps rs la pr pt ct (h fu)).1 x=G fu x:=by intro fu x;kernel_rfl)(fu:Nat):Bd:=df (o5 (sQ (bs l fu) fu hf ps rs la pr pt ct (h fu)).2 (e fu))
theorem exQ{F:BK NL (My []).hs->Option (BK NL (My rs).hs)}{v:BK NL (My rs).hs}(h:∀q∈[qQ [] rs F],Ch TP f q)(e:F () =Ac v):Ch TP f (qQ [] rs λ_=>Ac v):=⟨(h _ (Aae.2 rfl)).YZ,λx y hy η H O Y vs nd i=>((h _ (Aae.2 rfl)).ok x y (by cases hy;exact e) η H O Y vs nd ⟨i.len,i.sl,i.ks,i.ro,i.inv⟩).mono λv H' O' _ ⟨a,b,c,o⟩=>⟨a,b,c,o.env,o.nd,o.ks,o.ro,o.st,o.res⟩⟩
abbrev Lt0:=Bool×List (Int×Int×Int)
abbrev AH:=Vl×Vl
abbrev BE:=List (Ay×Int×AH)×List (A4×AH)
abbrev BT:=List AH×List AH
@[simp] abbrev iB  (b:Bool) (x y:R):R:=cond b x y
@[simp] abbrev iF  (p:Prop) [Decidable p] (x y:R):R:=cond (Ds p) x y
def IC(y:α)(a b:Option (List α×Bool)):Option (List α×Bool):=match a with
 |some ([],Br)=>match b with
  |some l=>Ac (y::l.1,l.2)
  |none=>Ac ([y],Ak)
 |_=>Dc
def xv{α:Type}(kb:Bool->Option (List α×Option Bool)):List α->Option Bool->Option (List α×Option Bool)
 | [],Ac b=>kb b
 | [],Dc=>Dc
 |y::l,b=>match xv kb l b with
  |some r=>Ac (y::r.1,r.2)
  |none=>Ac ([y],Dc)
def rG{α:Type}(kb:Bool->Option (List α×Bool)):List α->Option Bool->Option (List α×Bool)
 | [],Ac b=>kb b
 | [],Dc=>Dc
 |y::l,b=>match rG kb l b with
  |some r=>Ac (y::r.1,r.2)
  |none=>Ac ([y],Ak)
def qg(n:Nat)(z:Option R)(s:Nat->Option R):Option R:=match n with
 |0=>z
 |n+1=>s n
def F0(c:Nat)(a:A4):Option Bool:=Ad c (λ(b:Nat) d=>iF ((b:Int)<a.length) (Ab (idx a b) λe=>iF ((12:Int)<e.2.length) (Ac Ak)<|d (b+1))<|some (Ds ((a.length:Int)<=8))) (0)
def B0:=bQ [] Tryz.func25 [y3] [.bool] F0 (la:=lk [(2,⟨[.nat],[(1, .Al),(3, .AB 0 200)],[(0, .c 0)],1⟩)])
def F1(b:Nat)(a:Ff):Option Bool:=iF ((a.2.2.2.1.1.length:Int)<=5) (iF ((a.2.2.2.1.2.length:Int)<=5) (Ab (F0 b a.2.2.2.2) Ac)<|some Ak)<|some Ak
def B1:=bQ [B0] Tryz.func23 [y8] [.bool] F1
abbrev FT2:Type:=EM 24 [Cz,Am,Am] [Am]×EM 8 [Ba,Am,Am] [Am]
def G2(n:Nat):FT2:=Nat.rec (motive:=λ_=>FT2) (tQ Tryz.func24,tQ Tryz.func8) (λfu ⟨g0,g1⟩=>(sQ [BI g1] fu Tryz.func24 [Cz,Am,Am] [Am] (la:=lk [(3,⟨[.Ae Am, .nat],(kp [0,1,2] [(7, .v 0 Am),(8, .AB 1 301)]),[],0⟩)]),sQ (BI g0::bs [B1,B0] fu) fu Tryz.func8 [Ba,Am,Am] [Am] (la:=lk [(5,⟨[.Ae Am, .nat],(kp [1,2,3] [(7, .v 0 Am),(8, .AB 1 501)]),[(0, .c 0)],1⟩),(12,⟨[.Ae Am, .nat],(kp [1,2,3] [(7, .v 0 Am),(10, .AB 1 1201)]),[(0, .c 0)],1⟩),(19,⟨[.Ae Cz, .nat],(kp [1,2,3,7,10,11] [(12, .AE 2),(13, .AB 1 1901)]),[(1, .c 0),(0, .c 0),(2, .row 38 0)],3⟩),(25,⟨[.Ae Cz, .nat],(kp [1,2,3,7,10,11] [(12, .AE 2),(14, .AB 1 2501)]),[(2, .row 38 0),(1, .c 0),(0, .c 0)],3⟩)]) (pt:=lg [(18,[.own 12 38 A_])]))) n
abbrev F2(fu:Nat)(x:(List AH)×(Int)×(Int)):Option Int:=(G2 fu).1.1 x
def B3(fu:Nat):=BI (G2 fu).2
abbrev F3(fu:Nat)(x:(Vl)×(Int)×(Int)):Option Int:=(G2 fu).2.1 x
def D2(d:Nat)(e:List AH)(f:Int)(c:Int):Option Int:=Ad d (λ(a:Int×Nat) g=>iF ((a.2:Int)<e.length) (iF (a.1<=c) (Ab (idx e a.2) λi=>Aa .i64 (c-a.1)<|Ab (F3 d (i.1,f,(c-a.1))) λb=>Aa .i64 (a.1+b)<|iF (a.1+b<=c) (Ab (idx e a.2) λj=>Aa .i64 (c-(a.1+b))<|Ab (F3 d (j.2,f,(c-(a.1+b)))) λh=>Aa .i64 (a.1+b+h)<|g (((a.1+b)+h),a.2+1))<|g ((a.1+b),a.2+1))<|some a.1)<|some a.1) ((0,0))
theorem d2(fu x0 x1 x2):F2 (fu+1) (x0,x1,x2)=D2 fu x0 x1 x2:=by kernel_rfl
def D3(e:Nat)(c:Vl)(i:Int)(a:Int):Option Int:=iF (i<1) (Aa .i64 (a+1)<|some ((a+1)))<|iF (a<1) (Aa .i64 (a+1)<|some ((a+1)))<|Ab (F1 e (Vl.sc c)) λn=>iB (!n) (Aa .i64 (a+1)<|some ((a+1)))<|iF ((3:Int)<(Vl.lists c).length) (Aa .i64 (a+1)<|some ((a+1)))<|iF ((3:Int)<(Vl.structs c).length) (Aa .i64 (a+1)<|some ((a+1)))<|Ad e (λ(b:Int×Nat) o=>iF ((b.2:Int)<(Vl.lists c).length) (Ab (idx (Vl.lists c) (b.2:Int)) λp=>iF ((3:Int)<p.1.length) (Aa .i64 (a+1)<|some ((a+1)))<|Ab (idx (Vl.lists c) (b.2:Int)) λq=>iF ((2:Int)<q.2.length) (Aa .i64 (a+1)<|some ((a+1)))<|Ab (idx (Vl.lists c) (b.2:Int)) λj=>Ah (0+FB j.1<=4294967296)<|Ab (idx (Vl.lists c) (b.2:Int)) λk=>Ah (FB ([]++j.1)+FB k.2<=4294967296)<|Aa .i64 (i-1)<|Aa .i64 (a-b.1)<|Ab (F2 e ((([]++j.1)++k.2),(i-1),(a-b.1))) λl=>Aa .i64 (b.1+l)<|o ((b.1+l),b.2+1))<|Ad e (λ(d:Int×Nat) r=>iF ((d.2:Int)<(Vl.structs c).length) (iF (d.1<=a) (Ab (idx (Vl.structs c) (d.2:Int)) λf=>iF ((4:Int)<f.1.length) (Aa .i64 (a+1)<|some ((a+1)))<|iF ((4:Int)<f.2.length) (Aa .i64 (a+1)<|some ((a+1)))<|Ad e (λ(g:List AH×Nat) s=>iF ((g.2:Int)<f.1.length) (Ab (idx f.1 g.2) λt=>iF ((60:Int)<t.1.length) (Aa .i64 (a+1)<|some ((a+1)))<|Ab (idx f.1 g.2) λu=>Ah (FB g.1+1<=4294967296)<|s ((g.1++[u.2.2]),g.2+1))<|Ad e (λ(h:List AH×Nat) v=>iF ((h.2:Int)<f.2.length) (Ab (idx f.2 h.2) λw=>Ab (F0 e w.1) λx=>iB (!x) (Aa .i64 (a+1)<|some ((a+1)))<|Ab (idx f.2 h.2) λy=>Ah (FB h.1+1<=4294967296)<|v ((h.1++[y.2]),h.2+1))<|Aa .i64 (i-1)<|Aa .i64 (a-d.1)<|Ab (F2 e (h.1,(i-1),(a-d.1))) λm=>Aa .i64 (d.1+m)<|r (((d.1+m),d.2+1))) ((g.1,0))) (([],0)))<|some d.1)<|some d.1) ((b.1,0))) ((1,0))
theorem d3(fu x0 x1 x2):F3 (fu+1) (x0,x1,x2)=D3 fu x0 x1 x2:=by kernel_rfl
def F4(a:Nat)(b:Vl):Option Bool:=Ab (F3 a (b,3,60)) λc=>Ac (Ds (c<=60))
def B4:=bQ [B3] Tryz.func4 [Ba] [.bool] F4
def R5(fu:Nat):=sQ (bs [] fu) fu Tryz.func26 [Ba] [A_]
def B5(fu:Nat):=BI (R5 fu)
def R6(fu:Nat):=sQ (bs [B5] fu) fu Tryz.func9 [] [A_]
def B6(fu:Nat):=BI (R6 fu)
def R7(fu:Nat):=sQ (bs [] fu) fu Tryz.func10 [] [A_]
def B7(fu:Nat):=BI (R7 fu)
def F7(c:Nat)(b:Ay):Option A4:=Ad c (λ(a:A4×Int) d=>iF (a.2<(b.length:Int)) (Ab (Ey b a.2) λe=>Ab (Ey b a.2) λf=>Aa .i64 (a.2+1)<|Ah (FB a.1+1<=Aj)<|Aa .i64 (a.2+1)<|d ((a.1++[(Ak,[(e,f,(a.2+1))])]),(a.2+1)))<|Ah (FB a.1+1<=Aj)<|some ((a.1++[(Br,[])]))) (([],0))
def B8:=bQ [] Tryz.func31 [.str] [y3] F7 (la:=lk [(3,⟨[.Ae I_, .Ae Am],(kp [0,2,3] [(4, .v 1 Am)]),[(1, .Af 27 [(1, .AE 2)]),(0, .c 0),(2, .row 77 0)],3⟩)]) (pt:=lg [(2,[.Cn 3 0 77 Kb]),(7,[.NC 2 0])])
def F8(a:Nat)(_:Unit):Option A4:=Ac ([(Br,[(0,255,0)])])
def B9:=bQ [] Tryz.func50 [] [y3] F8 (pt:=lg [(1,[.NC 0 0])])
def F9(f:Nat)(c:A4):Option Bool:=Ad f (λ(d:Nat) h=>iF ((d:Int)<c.length) (Ab (idx c d) λe=>Ad f (λ(a:Nat) g=>iF ((a:Int)<e.2.length) (Ab (idx e.2 a) λb=>iF (b.2.1<b.1) (Ac Ak)<|iF (b.2.2<0) (Ac Ak)<|iF ((c.length:Int)<=b.2.2) (Ac Ak)<|iF ((0:Int)<a) (Aa .i64 ((a:Int)-1)<|Ab (idx e.2 ((a:Int)-1)) λi=>iF (b.1<=i.2.1) (Ac Ak)<|g (a+1))<|g (a+1))<|h (d+1)) (0))<|some Br) (0)
def B10:=bQ [] Tryz.func62 [I_] [.bool] F9 (la:=lk [(2,⟨[.nat],(kp [0,7,8] [(9, .AB 0 200)]),[],0⟩),(5,⟨[.nat],(kp [0,4,7,8,9,14,15] [(16, .AB 0 500)]),[(0, .c 0)],1⟩)])
def yL(f:Nat)(d:A4):Option (List Bool):=Ah (FB d<=Aj)<|Ad f (λ(g:List Bool×Nat) k=>iF ((g.2:Int)<d.length) (Ad f (λ(a:List Bool×Nat) h=>iF ((a.2:Int)<d.length) (Ab (idx d a.2) λe=>Ab (idx a.1 a.2) λl=>iB l (Ab (idx a.1 a.2) λs=>Ad f (λ(b:List Bool×Nat) i=>iF ((b.2:Int)<e.2.length) (Ab (idx e.2 b.2) λm=>Ab (idx b.1 a.2) λn=>iB n (Ab (idx b.1 a.2) λt=>i ((b.1.set a.2 Br),b.2+1))<|Ab (idx b.1 m.2.2) λo=>Ab (idx b.1 a.2) λu=>i ((b.1.set a.2 o),b.2+1))<|h ((b.1,a.2+1))) (((a.1.set a.2 Br),0)))<|Ab (idx a.1 a.2) λv=>Ad f (λ(c:List Bool×Nat) j=>iF ((c.2:Int)<e.2.length) (Ab (idx e.2 c.2) λp=>Ab (idx c.1 a.2) λq=>iB q (Ab (idx c.1 a.2) λw=>j ((c.1.set a.2 Br),c.2+1))<|Ab (idx c.1 p.2.2) λr=>Ab (idx c.1 a.2) λx=>j ((c.1.set a.2 r),c.2+1))<|h ((c.1,a.2+1))) (((a.1.set a.2 e.1),0)))<|k ((a.1,g.2+1))) ((g.1,0)))<|some g.1) (((T9 (FB d) Ak),0))
def B11:=bQ [] Tryz.func135 [I_] [Ek] yL (la:=lk [(3,⟨[.Ae Ek, .nat],(kp [0,3,12] [(13, .AB 1 301)]),[(0, .row 4 0)],1⟩),(5,⟨[.Ae Ek, .nat],(kp [0,3,12,13,15,16] [(17, .AB 1 501)]),[(0, .row 4 0)],1⟩),(9,⟨[.Ae Ek, .nat],(kp [0,3,4,12,13,15,16,17,34,35] [(36, .AB 1 901)]),[(0, .row 4 0)],2⟩)]) (pt:=lg [(15,[.fz 2])])
def F11(f:Nat)(g:A4):Option A4:=Ad f (λ(b:List Int×A4×Nat) i=>iF ((b.2.2:Int)<b.1.length) (Ab (idx b.1 b.2.2) λj=>Ab (idx g j) λk=>Ab (idx b.1 b.2.2) λl=>Ab (idx g l) λh=>Ad f (λ(a:List Int×List (Int×Int×Int)×Nat) e=>iF ((a.2.2:Int)<h.2.length) (Ab (idx h.2 a.2.2) λc=>Ad f (λ(d:Int) m=>iF (d<(a.1.length:Int)) (Ab (idx a.1 d) λn=>iF (n≠c.2.2) (Aa .i64 (d+1)<|m (d+1))<|iF (d=(a.1.length:Int)) (Ah (FB a.1+1<=Aj)<|Ah (FB a.2.1+1<=Aj)<|e ((a.1++[c.2.2]),(a.2.1++[(c.1,c.2.1,d)]),a.2.2+1))<|Ah (FB a.2.1+1<=Aj)<|e (a.1,(a.2.1++[(c.1,c.2.1,d)]),a.2.2+1))<|iF (d=(a.1.length:Int)) (Ah (FB a.1+1<=Aj)<|Ah (FB a.2.1+1<=Aj)<|e ((a.1++[c.2.2]),(a.2.1++[(c.1,c.2.1,d)]),a.2.2+1))<|Ah (FB a.2.1+1<=Aj)<|e ((a.1,(a.2.1++[(c.1,c.2.1,d)]),a.2.2+1))) ((0:Int)))<|Ah (FB b.2.1+1<=Aj)<|i ((a.1,(b.2.1++[(k.1,a.2.1)]),b.2.2+1))) ((b.1,[],0)))<|some b.2.1) (([(0:Int)],[],0))
def B12:=bQ [] Tryz.func137 [I_] [I_] F11 (la:=lk [(4,⟨[.Ae Ej, .Ae I_, .nat],[(0, .Al),(3, .AE 0),(4, .AE 1),(5, .AB 2 402)],[(0, .row 3 0),(1, .row 77 1)],2⟩),(8,⟨[.Ae Ej, .Ae Kf, .nat],[(0, .Al),(3, .AE 0),(4, .Al),(5, .Al),(6, .Al),(33, .Al),(34, .Al),(35, .AB 2 802)],[(2, .Af 77 [(1, .Al),(1, .AE 3)]),(1, .c 0),(0, .row 3 0),(3, .row 84 1)],4⟩),(11,⟨[.Ae Am],(kp [0,3,4,5,6,8] [(9, .v 0 Am),(33, .Al),(34, .Al),(35, .Al)]),[(4, .c 0),(2, .c 0),(3, .c 0),(1, .c 0),(0, .c 0)],5⟩)]) (pt:=lg [(3,[.own 4 77 Kb]),(7,[.Cn 6 1 84 Pq]),(18,[.fz 2])])
def F12(c:Nat)(d:A4):Option A4:=Ab (yL c d) λh=>Ad c (λ(b:A4×Nat) i=>iF ((b.2:Int)<d.length) (Ab (idx d b.2) λe=>Ad c (λ(a:List (Int×Int×Int)×Nat) f=>iF ((a.2:Int)<e.2.length) (Ab (idx e.2 a.2) λg=>Ab (idx h g.2.2) λj=>iB j (Ah (FB a.1+1<=Aj)<|f ((a.1++[g]),a.2+1))<|f (a.1,a.2+1))<|Ah (FB b.1+1<=Aj)<|i (((b.1++[(e.1,a.1)]),b.2+1))) (([],0)))<|some b.1) (([],0))
def B13:=bQ [B11] Tryz.func136 [I_] [I_] F12 (la:=lk [(4,⟨[.Ae I_, .nat],[(3, .Al),(4, .AE 0),(12, .Al),(13, .Al),(14, .AB 1 401)],[(0, .row 77 0)],1⟩),(8,⟨[.Ae Kf, .nat],(kp [3,4,7,12,13,14,22,23] [(24, .AB 1 801)]),[(2, .Af 77 [(1, .Al),(1, .AE 3)]),(0, .c 0),(3, .row 84 0)],4⟩)]) (pt:=lg [(3,[.own 4 77 Kb]),(7,[.Cn 7 1 84 Pq]),(15,[.fz 2])])
def F13(e:Nat)(f:A4):Option (List Int):=Ah ((0:Int)<=0/\(0:Int)< ↑257)<|Ah (0+ae (0:Int)*1<257)<|Ad e (λ(c:List Bool×Nat) i=>iF ((c.2:Int)<f.length) (Ab (idx f c.2) λg=>Ad e (λ(d:List Bool×Nat) j=>iF ((d.2:Int)<g.2.length) (Ab (idx g.2 d.2) λb=>Ah ((0:Int)<=b.1/\b.1<(↑257:Int))<|Ah (0+ae b.1*1<257)<|Aa .i64 (b.2.1+1)<|Ah ((0:Int)<=b.2.1+1/\b.2.1+1< ↑257)<|Ah (0+ae (b.2.1+1)*1<257)<|j (((lh d.1 (0+ae b.1*1) Br).set (0+ae (b.2.1+1)*1) Br),d.2+1))<|i ((d.1,c.2+1))) ((c.1,0)))<|Ad e (λ(a:List Int×Int) h=>iF (a.2<256) (Ah ((0:Int)<=a.2/\a.2<(↑257:Int))<|Ab (idx c.1 (↑(0+ae a.2*1):Int)) λk=>iB k (Ah (FB a.1+1<=Aj)<|Aa .i64 (a.2+1)<|h ((a.1++[a.2]),(a.2+1)))<|Aa .i64 (a.2+1)<|h (a.1,(a.2+1)))<|some a.1) (([],(0:Int)))) (((lh (T9 257 Ak) 0 Br),0))
def B14:=bQ [] Tryz.func138 [I_] [FP] F13 (la:=lk [(4,⟨[.Ae (.ar 257 .bool), .nat],(kp [3,11,12] [(13, .AB 1 401)]),[(0, .Af 194 [(257, .v 0 (.ar 257 .bool))])],1⟩),(7,⟨[.Ae (.ar 257 .bool), .nat],(kp [3,11,12,13,18,19] [(20, .AB 1 701)]),[(0, .Af 194 [(257, .v 0 (.ar 257 .bool))])],2⟩),(15,⟨[.Ae Ej, .Ae Am],[(3, .Al),(8, .AE 1),(9, .v 1 Am)],[(0, .c 0),(1, .row 3 0)],2⟩)]) (pt:=lg [(14,[.own 8 3 Am]),(19,[.fz 2])])
def uL(g:Nat):A4×Int×Int->Option Int|(h,c,d)=>iF (c<0) (Ac ((-1:Int)))<|Ab (idx h c) λe=>Ad g (λ(a:Nat) f=>iF ((a:Int)<e.2.length) (Ab (idx e.2 a) λb=>iF (b.1<=d) (iF (d<=b.2.1) (Ac b.2.2)<|f (a+1))<|f (a+1))<|some ((-1:Int))) (0)
def B15:=bQ [] Tryz.func63 [I_,Am,NH] [Am] uL (la:=lk [(4,⟨[.nat],(kp [2,15,16] [(17, .AB 0 400)]),[],0⟩)])
def F15(d:Nat):List Int×List Int->Option Bool|(b,c)=>iF ((b.length:Int)≠c.length) (Ac Ak)<|Ad d (λ(a:Nat) e=>iF ((a:Int)<b.length) (Ab (idx b a) λf=>Ab (idx c a) λg=>iF (f≠g) (Ac Ak)<|e (a+1))<|some Br) (0)
def B16:=bQ [] Tryz.func242 [FP,FP] [.bool] F15 (la:=lk [(4,⟨[.nat],(kp [0,1,12] [(13, .AB 0 400)]),[],0⟩)])
def F16(b:Nat):List (List Int)×List Int->Option Int|(c,d)=>Ad b (λ(a:Nat) e=>iF ((a:Int)<c.length) (Ab (idx c a) λf=>Ab (F15 b (f,d)) λg=>iB g (Ac ((a:Int)))<|e (a+1))<|some ((-1:Int))) (0)
def B17:=bQ [B16] Tryz.func187 [Kd,FP] [Am] F16 (la:=lk [(2,⟨[.nat],(kp [0,1,7] [(8, .AB 0 200)]),[],0⟩)])
def F17(e:Nat):A4×List Int->Option (List Int)|(d,h)=>Ah (FB d<=Aj)<|Ad e (λ(b:List Int×Nat) i=>iF ((b.2:Int)<d.length) (Ab (idx d b.2) λn=>iB n.1 (Ab (idx b.1 b.2) λr=>i ((b.1.set b.2 ((1:Int))),b.2+1))<|i (b.1,b.2+1))<|Ad e (λ(f:List Int×Nat×Nat) o=>iF ((f.2.2:Int)<d.length) (Ah (FB d<=Aj)<|Ad e (λ(a:List Int×List (List Int)×Nat) j=>iF ((a.2.2:Int)<d.length) (Ab (idx f.1 a.2.2) λp=>Ad e (λ(c:List Int×Nat) k=>iF ((c.2:Int)<h.length) (Ab (idx h c.2) λl=>Aa .u8 l<|Ab (uL e (d,(a.2.2:Int),l)) λg=>iF ((0:Int)<=g) (Ab (idx f.1 g) λq=>Ah (FB c.1+1<=Aj)<|k ((c.1++[q]),c.2+1))<|Ah (FB c.1+1<=Aj)<|k ((c.1++[g]),c.2+1))<|Ab (F16 e (a.2.1,c.1)) λm=>iF (m<0) (Ah (FB a.2.1+1<=Aj)<|Ab (idx a.1 a.2.2) λs=>j ((a.1.set a.2.2 ((a.2.1.length:Int))),(a.2.1++[c.1]),a.2.2+1))<|Ab (idx a.1 a.2.2) λt=>j (((a.1.set a.2.2 m),a.2.1,a.2.2+1))) (([p],0)))<|iF ((a.2.1.length:Int)=f.2.1) (Ac a.1)<|o ((a.1,FB a.2.1,f.2.2+1))) (((T9 (FB d) (0:Int)),[],0)))<|some f.1) ((b.1,0,0))) (((T9 (FB d) (0:Int)),0))
def B18:=bQ [B15,B17] Tryz.func139 [I_,FP] [FP] F17 (la:=lk [(3,⟨[.Ae Ej, .nat],(kp [0,1,5,20,21] [(22, .AB 1 301)]),[(0, .row 3 0)],1⟩),(10,⟨[.Ae Ej, .nat, .nat],(kp [0,1] [(5, .AE 0),(8, .AB 1 1001),(34, .Al),(35, .AB 2 1002)]),[(0, .row 3 0)],1⟩),(14,⟨[.Ae Ej, .Ae Kd, .nat],(kp [0,1,5,8] [(9, .AE 2),(10, .Al),(34, .Al),(35, .Al),(41, .Al),(42, .AB 2 1402)]),[(1, .row 3 0),(0, .c 0),(2, .row 135 1)],3⟩),(18,⟨[.Ae Ej, .nat],(kp [0,1,5,8,9,10,11] [(12, .AE 3),(34, .Al),(35, .Al),(41, .Al),(42, .Al),(50, .Al),(51, .Al),(52, .AB 1 1801)]),[(3, .row 3 0),(1, .c 0),(2, .c 0),(0, .c 0)],4⟩)]) (pr:=lg [(28,[.fz 12])]) (pt:=lg [(13,[.own 9 135 FP]),(35,[.fz 4])])
def yC(d:Nat):List Int×List Int×Int->Option Int|(b,c,e)=>Ad d (λ(a:Nat) f=>iF ((a:Int)<b.length) (Ab (idx b a) λg=>Ab (idx c g) λh=>Ab (idx c e) λi=>iF (h=i) (Ac ((a:Int)))<|f (a+1))<|some ((b.length:Int))) (0)
def B19:=bQ [] Tryz.func140 [FP,FP,Am] [Am] yC (la:=lk [(2,⟨[.nat],(kp [0,1,2,9,10] [(11, .AB 0 200)]),[],0⟩)])
def vJ(e:Nat)(k:A4):Option (A4×Int):=Ab (F9 e k) λv=>iB (!v) (Ac (([],11)))<|iF ((k.length:Int)=0) (Ac (([],0)))<|Ab (yL e k) λw=>Ab (idx w 0) λx=>iB (!x) (Ac (([],0)))<|Ab (F11 e k) λy=>Ab (F12 e y) λl=>Ab (F13 e l) λj=>Ab (F17 e (l,j)) λm=>Ad e (λ(g:List Int×A4×Nat) z=>iF ((g.2.2:Int)<g.1.length) (Ab (idx g.1 g.2.2) λA=>Ab (idx l A) λB=>Ad e (λ(a:List Int×List (Int×Int×Int)×Nat) c=>iF ((a.2.2:Int)<j.length) (Ab (idx j a.2.2) λb=>Ab (idx a.1 g.2.2) λE=>Aa .u8 b<|Ab (uL e (l,E,b)) λf=>iF (f<0) (c (a.1,a.2.1,a.2.2+1))<|iF ((↑(a.2.2+1):Int)<(j.length:Int)) (Ab (idx j (↑(a.2.2+1):Int)) λd=>Aa .i64 (d-1)<|Ab (yC e (a.1,m,f)) λh=>iF (h=(a.1.length:Int)) (Ah (FB a.1+1<=Aj)<|Aa .i64 ((a.2.1.length:Int)-1)<|iF ((0:Int)<=a.2.1.length-1) (Ab (idx a.2.1 ((a.2.1.length:Int)-1)) λG=>iF (G.2.2=h) (Ab (idx a.2.1 ((a.2.1.length:Int)-1)) λn=>Aa .i64 (n.2.1+1)<|iF (n.2.1+1=b) (Aa .u8 (d-1)<|Ab (idx a.2.1 ((a.2.1.length:Int)-1)) λo=>c ((a.1++[f]),(a.2.1.set (ae ((a.2.1.length:Int)-1)) (o.1,(d-1),o.2.2)),a.2.2+1))<|Aa .u8 b<|Aa .u8 (d-1)<|Ah (FB a.2.1+1<=Aj)<|c ((a.1++[f]),(a.2.1++[(b,(d-1),h)]),a.2.2+1))<|Aa .u8 b<|Aa .u8 (d-1)<|Ah (FB a.2.1+1<=Aj)<|c ((a.1++[f]),(a.2.1++[(b,(d-1),h)]),a.2.2+1))<|Aa .u8 b<|Aa .u8 (d-1)<|Ah (FB a.2.1+1<=Aj)<|c ((a.1++[f]),(a.2.1++[(b,(d-1),h)]),a.2.2+1))<|Aa .i64 ((a.2.1.length:Int)-1)<|iF ((0:Int)<=a.2.1.length-1) (Ab (idx a.2.1 ((a.2.1.length:Int)-1)) λH=>iF (H.2.2=h) (Ab (idx a.2.1 ((a.2.1.length:Int)-1)) λp=>Aa .i64 (p.2.1+1)<|iF (p.2.1+1=b) (Aa .u8 (d-1)<|Ab (idx a.2.1 ((a.2.1.length:Int)-1)) λq=>c (a.1,(a.2.1.set (ae ((a.2.1.length:Int)-1)) (q.1,(d-1),q.2.2)),a.2.2+1))<|Aa .u8 b<|Aa .u8 (d-1)<|Ah (FB a.2.1+1<=Aj)<|c (a.1,(a.2.1++[(b,(d-1),h)]),a.2.2+1))<|Aa .u8 b<|Aa .u8 (d-1)<|Ah (FB a.2.1+1<=Aj)<|c (a.1,(a.2.1++[(b,(d-1),h)]),a.2.2+1))<|Aa .u8 b<|Aa .u8 (d-1)<|Ah (FB a.2.1+1<=Aj)<|c (a.1,(a.2.1++[(b,(d-1),h)]),a.2.2+1))<|Ab (yC e (a.1,m,f)) λi=>iF (i=(a.1.length:Int)) (Ah (FB a.1+1<=Aj)<|Aa .i64 ((a.2.1.length:Int)-1)<|iF ((0:Int)<=a.2.1.length-1) (Ab (idx a.2.1 ((a.2.1.length:Int)-1)) λI=>iF (I.2.2=i) (Ab (idx a.2.1 ((a.2.1.length:Int)-1)) λr=>Aa .i64 (r.2.1+1)<|iF (r.2.1+1=b) (Aa .u8 ((255:Int))<|Ab (idx a.2.1 ((a.2.1.length:Int)-1)) λs=>c ((a.1++[f]),(a.2.1.set (ae ((a.2.1.length:Int)-1)) (s.1,255,s.2.2)),a.2.2+1))<|Aa .u8 b<|Aa .u8 ((255:Int))<|Ah (FB a.2.1+1<=Aj)<|c ((a.1++[f]),(a.2.1++[(b,255,i)]),a.2.2+1))<|Aa .u8 b<|Aa .u8 ((255:Int))<|Ah (FB a.2.1+1<=Aj)<|c ((a.1++[f]),(a.2.1++[(b,255,i)]),a.2.2+1))<|Aa .u8 b<|Aa .u8 ((255:Int))<|Ah (FB a.2.1+1<=Aj)<|c ((a.1++[f]),(a.2.1++[(b,255,i)]),a.2.2+1))<|Aa .i64 ((a.2.1.length:Int)-1)<|iF ((0:Int)<=a.2.1.length-1) (Ab (idx a.2.1 ((a.2.1.length:Int)-1)) λJ=>iF (J.2.2=i) (Ab (idx a.2.1 ((a.2.1.length:Int)-1)) λt=>Aa .i64 (t.2.1+1)<|iF (t.2.1+1=b) (Aa .u8 ((255:Int))<|Ab (idx a.2.1 ((a.2.1.length:Int)-1)) λu=>c (a.1,(a.2.1.set (ae ((a.2.1.length:Int)-1)) (u.1,255,u.2.2)),a.2.2+1))<|Aa .u8 b<|Aa .u8 ((255:Int))<|Ah (FB a.2.1+1<=Aj)<|c (a.1,(a.2.1++[(b,255,i)]),a.2.2+1))<|Aa .u8 b<|Aa .u8 ((255:Int))<|Ah (FB a.2.1+1<=Aj)<|c (a.1,(a.2.1++[(b,255,i)]),a.2.2+1))<|Aa .u8 b<|Aa .u8 ((255:Int))<|Ah (FB a.2.1+1<=Aj)<|c (a.1,(a.2.1++[(b,255,i)]),a.2.2+1))<|Ah (FB g.2.1+1<=Aj)<|z ((a.1,(g.2.1++[(B.1,a.2.1)]),g.2.2+1))) ((g.1,[],0)))<|some ((g.2.1,0))) (([(0:Int)],[],0))
def B20:=bQ [B10,B15,B11,B13,B12,B14,B18,B19] Tryz.func95 [I_] [y3,Am] vJ (la:=lk [(11,⟨[.Ae Ej, .Ae I_, .nat],(kp [2,4,5,6] [(7, .AE 1),(8, .Al),(9, .AB 2 1102)]),[(2, .Af 27 [(1, .AE 3)]),(1, .row 3 0),(0, .c 0),(3, .row 77 1)],4⟩),(15,⟨[.Ae Ej, .Ae Kf, .nat],(kp [2,4,5,6] [(7, .AE 1),(8, .Al),(9, .Al),(10, .Al),(56, .Al),(57, .Al),(58, .AB 2 1502)]),[(4, .Af 77 [(1, .Al),(1, .AE 5)]),(2, .c 0),(3, .c 0),(1, .row 3 0),(0, .c 0),(5, .row 84 1)],6⟩)]) (pt:=lg [(10,[.Cn 8 0 77 Kb]),(14,[.Cn 10 1 84 Pq]),(31,[.NC 2 0])])
def F20(h:Nat):A4×A4->Option Bool|(d,i)=>iF ((d.length:Int)≠i.length) (Ac Ak)<|Ad h (λ(a:Nat) j=>iF ((a:Int)<d.length) (Ab (idx d a) λb=>Ab (idx i a) λe=>iB (!b.1==e.1) (Ac Ak)<|iF ((b.2.length:Int)≠e.2.length) (Ac Ak)<|Ad h (λ(c:Nat) k=>iF ((c:Int)<b.2.length) (Ab (idx b.2 c) λf=>Ab (idx e.2 c) λg=>iB (!decide (f.1::(f.2.1::[f.2.2])=g.1::(g.2.1::[g.2.2]))) (Ac Ak)<|k (c+1))<|j (a+1)) (0))<|some Br) (0)
def B21:=bQ [] Tryz.func59 [y3,y3] [.bool] F20 (la:=lk [(4,⟨[.nat],(kp [2,3,18] [(19, .AB 0 400)]),[(1, .c 0),(0, .c 0)],2⟩),(10,⟨[.nat],(kp [2,3,6,7,18,19,48] [(49, .AB 0 1000)]),[(3, .c 0),(2, .c 0),(1, .c 0),(0, .c 0)],4⟩)])
def yB(a:Nat)(b:A4):Option Bool:=Ab (vJ a b) λc=>iF (c.2=0) (Ab (F20 a (b,c.1)) Ac)<|some Ak
def B22:=bQ [B21,B20] Tryz.func65 [y3] [.bool] yB
def yA(b:Nat)(a:A4):Option A4:=Ab (yB b a) λc=>iB (!c) (Ac [])<|some a
def B23:=bQ [B22] Tryz.func113 [y3] [y3] yA
def yz(b:Nat)(a:A4):Option Int:=iF ((a.length:Int)=0) (Ac ((-1:Int)))<|some 0
def B24:=bQ [] Tryz.func114 [y3] [Am] yz
def vI(d:Nat):A4×Int->Option Bool|(b,a)=>iF ((0:Int)<=a) (Ab (idx b a) λc=>Ac c.1)<|some Ak
def B25:=bQ [] Tryz.func116 [y3,Am] [.bool] vI
def F25(d:Nat):Int×Bool×Bool->Option Bool|(c,a,b)=>iF (c=38) (iB a (Ac b)<|some Ak)<|iF (c=124) (iB a (Ac Br)<|some b)<|iB a (Ac ((!b)))<|some Ak
def B26:=bQ [] Tryz.func115 [NH, .bool, .bool] [.bool] F25
def oj(i:Nat):List A4×List Int×Int->Option Int|(j,k,h)=>Ad i (λ(c:Int×Nat) l=>iF ((c.2:Int)<j.length) (Ab (idx k c.2) λm=>iF (m<0) (l (c.1,c.2+1))<|Ab (idx j c.2) λn=>Ab (idx k c.2) λo=>Ab (idx n o) λd=>Ad i (λ(a:Int×Nat) g=>iF ((a.2:Int)<d.2.length) (Ab (idx d.2 a.2) λp=>iF (h<p.1) (Ab (idx d.2 a.2) λb=>Aa .i64 (if b.1<a.1 then b.1 else a.1)<|Ab (idx d.2 a.2) λq=>iF (h<=q.2.1) (Ab (idx d.2 a.2) λe=>Aa .i64 (e.2.1+1)<|Aa .i64 (if e.2.1+1<if b.1<a.1 then b.1 else a.1 then e.2.1+1 else if b.1<a.1 then b.1 else a.1)<|g ((if(e.2.1+1)<(if b.1<a.1 then b.1 else a.1)then e.2.1+1 else if b.1<a.1 then b.1 else a.1),a.2+1))<|g ((if b.1<a.1 then b.1 else a.1),a.2+1))<|Ab (idx d.2 a.2) λr=>iF (h<=r.2.1) (Ab (idx d.2 a.2) λf=>Aa .i64 (f.2.1+1)<|Aa .i64 (if f.2.1+1<a.1 then f.2.1+1 else a.1)<|g ((if(f.2.1+1)<a.1 then f.2.1+1 else a.1),a.2+1))<|g (a.1,a.2+1))<|l ((a.1,c.2+1))) ((c.1,0)))<|some c.1) ((256,0))
def B27:=bQ [] Tryz.func117 [(.sl y3),FP,Am] [Am] oj (la:=lk [(3,⟨[.Ae Am, .nat],(kp [0,1,2] [(7, .v 0 Am),(8, .AB 1 301)]),[],0⟩),(8,⟨[.Ae Am, .nat],(kp [0,1,2] [(7, .v 0 Am),(8, .Al),(9, .Al),(10, .AB 1 801)]),[],0⟩)])
def vH(g:Nat):A4×Int×Int->Option Int|(d,b,e)=>iF (b<0) (Ac ((-1:Int)))<|Ad g (λ(a:Nat) f=>Ab (idx d b) λh=>iF ((a:Int)<h.2.length) (Ab (idx d b) λi=>Ab (idx i.2 a) λc=>iF (c.1<=e) (iF (e<=c.2.1) (Ac c.2.2)<|f (a+1))<|f (a+1))<|some ((-1:Int))) (0)
def B28:=bQ [] Tryz.func118 [y3,Am,Am] [Am] vH (la:=lk [(4,⟨[.nat],(kp [1,2,3] [(7, .AB 0 400)]),[(0, .c 0)],1⟩)])
def F28(e:Nat):(List (Int×Int))×Int×Int->Option Int|(b,c)=>Ad e (λ(a:Nat) f=>iF ((a:Int)<b.length) (Ab (idx b a) λd=>iF ((d.1::[d.2])=(c.1::[c.2])) (Ac ((a:Int)))<|f (a+1))<|some ((-1:Int))) (0)
def B29:=bQ [] Tryz.func119 [BJ,Ew] [Am] F28 (la:=lk [(2,⟨[.nat],(kp [0,3] [(5, .AB 0 200)]),[(0, .c 0)],1⟩)])
def F29(b:Nat):A4×A4×Int->Option A4|(l,m,n)=>Ab (yA b l) λf=>Ab (yA b m) λg=>Ab (yz b f) λo=>Ab (yz b g) λp=>Ad b (λ(c:List (Int×Int)×A4×Nat) q=>iF ((c.2.2:Int)<c.1.length) (Ab (idx c.1 c.2.2) λe=>Ah ((0:Int)<=0/\(0:Int)< ↑2)<|Ab (vI b (f,e.1)) λr=>Ah ((0:Int)<=1/\(1:Int)< ↑2)<|Ab (vI b (g,e.2)) λs=>Ab (F25 b (n,r,s)) λt=>Ad b (λ(a:List (Int×Int)×List (Int×Int×Int)×Int) h=>iF (a.2.2<256) (Ah ((0:Int)<=0/\(0:Int)< ↑2)<|Ah ((0:Int)<=1/\(1:Int)< ↑2)<|Ab (oj b ([f,g],[e.1,e.2],a.2.2)) λd=>Ah ((0:Int)<=0/\(0:Int)< ↑2)<|Ab (vH b (f,e.1,a.2.2)) λi=>Ah ((0:Int)<=1/\(1:Int)< ↑2)<|Ab (vH b (g,e.2,a.2.2)) λj=>Ab (F28 b (a.1,i,j)) λk=>iF (k<0) (Ah (FB a.1+1<=Aj)<|Aa .u8 a.2.2<|Aa .i64 (d-1)<|Aa .u8 (d-1)<|Ah (FB a.2.1+1<=Aj)<|h ((a.1++[(i,j)]),(a.2.1++[(a.2.2,(d-1),(a.1.length:Int))]),d))<|Aa .u8 a.2.2<|Aa .i64 (d-1)<|Aa .u8 (d-1)<|Ah (FB a.2.1+1<=Aj)<|h (a.1,(a.2.1++[(a.2.2,(d-1),k)]),d))<|Ah (FB c.2.1+1<=Aj)<|q ((a.1,(c.2.1++[(t,a.2.1)]),c.2.2+1))) ((c.1,[],0)))<|Ab (vJ b c.2.1) λu=>Ac u.1) (([(o,p)],[],0))
def B30:=bQ [B20,B23,B24,B26,B25,B27,B28,B29] Tryz.func84 [y3,y3,NH] [y3] F29 (la:=lk [(5,⟨[.Ae BJ, .Ae I_, .nat],(kp [2,6,7,8] [(9, .AE 5),(10, .AE 6),(11, .AB 2 502)]),[(5, .row 129 0),(4, .c 0),(3, .c 0),(2, .c 0),(6, .row 77 1)],7⟩),(10,⟨[.Ae BJ, .Ae Kf, .Ae Am],(kp [2,6,7,8] [(9, .AE 5),(10, .Al),(11, .Al),(12, .Al),(13, .Al),(14, .v 2 Am)]),[(8, .Af 77 [(1, .Al),(1, .AE 9)]),(7, .c 0),(6, .c 0),(5, .row 129 0),(4, .c 0),(3, .c 0),(2, .c 0),(9, .row 84 1)],10⟩)]) (pr:=lg [(20,[.fz 10])]) (pt:=lg [(4,[.own 10 77 Kb]),(9,[.Cn 13 1 84 Pq])])
def W0(a:Nat):A4×A4->Option A4|(b,c)=>Ab (F29 a (b,c,45)) Ac
def B31:=bQ [B30] Tryz.func49 [y3,y3] [y3] W0
def F31(a:Nat)(b:A4):Option A4:=Ab (F8 a ()) λc=>Ab (W0 a (c,b)) Ac
def B32:=bQ [B31,B9] Tryz.func30 [y3] [y3] F31
def R33(fu:Nat):=sQ (bs [B5,B32,B8] fu) fu Tryz.func12 [Am,Am,A_] [A_] (pr:=lg [(2,[.fz 13])])
def B33(fu:Nat):=BI (R33 fu)
def F34(c:Nat):Int×(Int×Int)×Bool->Option (Int×Int×Bool)|(b,a)=>Aa .i64 (a.1.1+1)<|Aa .i64 (if b>a.1.2 then b else a.1.2)<|some ((a.1.1+1),(if a.1.2<b then b else a.1.2),a.2)
def B34:=bP [] Tryz.func285 ⟨[.Ae Am, .Ae (.st y11)],[(0, .loc 0 0),(1, .v 0 Am)],[(0, .Af 180 [(3, .v 1 (.st y11))])],1⟩ ⟨[.Ae Am, .Ae Am, .Ae .bool],[],[(0, .Af 180 [(1, .v 0 Am),(1, .v 1 Am),(1, .v 2 .bool)])],1⟩ 0 [] F34
def yt(b:Nat)(a:Ff):Option Bool:=iB (!a.1) (iB (!a.2.1) (iB (!a.2.2.1) (Aa .i64 ((a.2.2.2.1.1.length:Int)+(a.2.2.2.1.2.length:Int))<|Aa .i64 ((a.2.2.2.1.1.length:Int)+(a.2.2.2.1.2.length:Int)+(a.2.2.2.2.length:Int))<|some (Ds (((a.2.2.2.1.1.length:Int)+(a.2.2.2.1.2.length:Int)+(a.2.2.2.2.length:Int))=0)))<|some Ak)<|some Ak)<|some Ak
def B35:=bQ [] Tryz.func51 [y8] [.bool] yt
def F36(e:Nat)(b:List (Ay×Int×AH)):Option Bool:=Ad e (λ(a:Nat) c=>iF ((a:Int)<b.length) (Ab (idx b a) λd=>iF (d.2.1≠1) (iF (d.2.1≠2) (Ac Ak)<|iF ((0:Int)<a) (Aa .i64 ((a:Int)-1)<|Ab (idx b ((a:Int)-1)) λf=>iB (!Go.Op.bytesLess f.1 d.1) (Ac Ak)<|c (a+1))<|c (a+1))<|iF ((0:Int)<a) (Aa .i64 ((a:Int)-1)<|Ab (idx b ((a:Int)-1)) λg=>iB (!Go.Op.bytesLess g.1 d.1) (Ac Ak)<|c (a+1))<|c (a+1))<|some Br) (0)
def B36:=bQ [] Tryz.func325 [Ke] [.bool] F36 (la:=lk [(2,⟨[.nat],(kp [0,5,6] [(7, .AB 0 200)]),[],0⟩)])
def yr(f:Nat)(c:A4):Option Bool:=Ad f (λ(d:Nat) h=>iF ((d:Int)<c.length) (Ab (idx c d) λe=>Ad f (λ(a:Nat) g=>iF ((a:Int)<e.2.length) (Ab (idx e.2 a) λb=>iF (b.2.1<b.1) (Ac Ak)<|iF (b.2.2<0) (Ac Ak)<|iF ((c.length:Int)<=b.2.2) (Ac Ak)<|iF ((0:Int)<a) (Aa .i64 ((a:Int)-1)<|Ab (idx e.2 ((a:Int)-1)) λi=>iF (b.1<=i.2.1) (Ac Ak)<|g (a+1))<|g (a+1))<|h (d+1)) (0))<|some Br) (0)
def B37:=bQ [] Tryz.func213 [I_] [.bool] yr (la:=lk [(2,⟨[.nat],(kp [0,7,8] [(9, .AB 0 200)]),[],0⟩),(5,⟨[.nat],(kp [0,4,7,8,9,14,15] [(16, .AB 0 500)]),[(0, .c 0)],1⟩)])
def F38(e:Nat)(f:A4):Option (List Int):=Ah ((0:Int)<=0/\(0:Int)< ↑257)<|Ah (0+ae (0:Int)*1<257)<|Ad e (λ(c:List Bool×Nat) i=>iF ((c.2:Int)<f.length) (Ab (idx f c.2) λg=>Ad e (λ(d:List Bool×Nat) j=>iF ((d.2:Int)<g.2.length) (Ab (idx g.2 d.2) λb=>Ah ((0:Int)<=b.1/\b.1<(↑257:Int))<|Ah (0+ae b.1*1<257)<|Aa .i64 (b.2.1+1)<|Ah ((0:Int)<=b.2.1+1/\b.2.1+1< ↑257)<|Ah (0+ae (b.2.1+1)*1<257)<|j (((lh d.1 (0+ae b.1*1) Br).set (0+ae (b.2.1+1)*1) Br),d.2+1))<|i ((d.1,c.2+1))) ((c.1,0)))<|Ad e (λ(a:List Int×Int) h=>iF (a.2<256) (Ah ((0:Int)<=a.2/\a.2<(↑257:Int))<|Ab (idx c.1 (↑(0+ae a.2*1):Int)) λk=>iB k (Ah (FB a.1+1<=Aj)<|Aa .i64 (a.2+1)<|h ((a.1++[a.2]),(a.2+1)))<|Aa .i64 (a.2+1)<|h (a.1,(a.2+1)))<|some a.1) (([],(0:Int)))) (((lh (T9 257 Ak) 0 Br),0))
def B38:=bQ [] Tryz.func281 [I_] [FP] F38 (la:=lk [(4,⟨[.Ae (.ar 257 .bool), .nat],(kp [3,11,12] [(13, .AB 1 401)]),[(0, .Af 194 [(257, .v 0 (.ar 257 .bool))])],1⟩),(7,⟨[.Ae (.ar 257 .bool), .nat],(kp [3,11,12,13,18,19] [(20, .AB 1 701)]),[(0, .Af 194 [(257, .v 0 (.ar 257 .bool))])],2⟩),(15,⟨[.Ae Ej, .Ae Am],[(3, .Al),(8, .AE 1),(34, .v 1 Am)],[(0, .c 0),(1, .row 3 0)],2⟩)]) (pt:=lg [(14,[.own 8 3 Am]),(20,[.fz 2])])
def F39(f:Nat)(g:A4):Option (List Int×List Int×List (List Int)×List Bool):=Ab (F38 f g) λd=>Ad f (λ(a:List (List Int)×List Bool×Nat) l=>iF ((a.2.2:Int)<g.length) (Ab (idx g a.2.2) λh=>Ah (FB d<=Aj)<|Ad f (λ(b:List Int×Nat) m=>iF ((b.2:Int)<d.length) (Ab (idx d b.2) λk=>Ab (idx b.1 b.2) λo=>Ad f (λ(c:List Int×Nat) i=>iF ((c.2:Int)<h.2.length) (Ab (idx h.2 c.2) λj=>iF (j.1<=k) (iF (k<=j.2.1) (Ab (idx c.1 b.2) λp=>i ((c.1.set b.2 j.2.2),c.2+1))<|i (c.1,c.2+1))<|i (c.1,c.2+1))<|m ((c.1,b.2+1))) (((b.1.set b.2 ((g.length:Int))),0)))<|Ah (FB a.1+1<=Aj)<|Ah (FB a.2.1+1<=Aj)<|l (((a.1++[b.1]),(a.2.1++[h.1]),a.2.2+1))) (((T9 (FB d) (0:Int)),0)))<|Ah (FB d<=Aj)<|Ad f (λ(e:List Int×Nat) n=>iF ((e.2:Int)<((T9 (FB d) (0:Int)).length:Int)) (Ab (idx e.1 e.2) λq=>n ((e.1.set e.2 ((g.length:Int))),e.2+1))<|Ah (FB a.1+1<=Aj)<|Ah (FB a.2.1+1<=Aj)<|some ((d,[],(a.1++[e.1]),(a.2.1++[Ak])))) (((T9 (FB d) (0:Int)),0))) (([],[],0))
def B39:=bP [B38] Tryz.func214 ⟨[.Ae I_],[(0, .v 0 I_)],[],0⟩ ⟨[.Ae FP, .Ae FP, .Ae Kd, .Ae Ek],[(0, .loc 0 0)],[(0, .Af 260 [(1, .v 0 FP),(1, .AE 1),(1, .AE 2),(1, .v 1 FP)]),(1, .row 135 2),(2, .row 4 3)],3⟩ 1 [] F39 (la:=lk [(4,⟨[.Ae Kd, .Ae Ek, .nat],(kp [3,4,20,21] [(22, .AB 2 402)]),[(0, .Af 260 [(1, .Al),(1, .AE 1),(1, .AE 2),(1, .Al)]),(1, .row 135 0),(2, .row 4 1)],3⟩),(8,⟨[.Ae Ej, .nat],(kp [3,4,6,7,20,21,22,35,36] [(37, .AB 1 801)]),[(4, .row 3 0),(3, .c 0),(0, .c 0),(2, .c 0),(1, .c 0)],5⟩),(12,⟨[.Ae Ej, .nat],(kp [3,4,6,7,8,9,20,21,22,35,36,37,47,48] [(49, .AB 1 1201)]),[(4, .row 3 0),(3, .c 0),(0, .c 0),(2, .c 0),(1, .c 0)],5⟩),(23,⟨[.Ae Ej, .nat],(kp [3,4,12,101] [(102, .AB 1 2301)]),[(3, .row 3 0),(0, .c 0),(2, .c 0),(1, .c 0)],4⟩)]) (pr:=lg [(18,[.fz 7]),(27,[.fz 12])]) (pt:=lg [(3,[.Cn 17 1 135 FP, .Cn 17 2 4 .bool])])
def B40(_:Nat):Bd:=df gY
abbrev F40(_:Nat)(x:Int):Option Ay:=U3.F x
theorem d40(fu:Nat)(x:Int):F40 fu x=Aa Lm.i64 x (Ac (Lib.itoa x)):=rfl
def B41(_:Nat):Bd:=df gZ
abbrev F41(_:Nat)(x:List Int):Option (List Int):=Ac x
theorem d41(fu:Nat)(x:List Int):F41 fu x=Ac x:=rfl
def yq(d:Nat):Ay×List Int->Option (Int×List Int)|(a,e)=>Ab (F41 d e) λc=>Ah (FB c+FB a<=1099511627776)<|some ((a.length:Int),(c++((List.map (λb=>(↑(UInt8.toNat b):Int)) a))))
def B42:=bP [B41] Tryz.func322 ⟨[.Ae .str, .Ae Pr],[(0, .loc 0 0),(1, .v 0 .str)],[(0, .Af 290 [(1, .px [0] .sf),(1, .AE 1)]),(1, .row 5 1)],2⟩ ⟨[.Ae Am, .Ae Pr],[(0, .v 0 Am),(1, .Al)],[(0, .Af 290 [(1, .px [0] .sf),(1, .AE 2)]),(2, .row 5 1)],3⟩ 2 [1] yq
def F43(b:Nat)(a:List Int):Option Ay:=Ah ((a.length:Int)=a.length/\FB a=FB a)<|some (List.map (λn=>UInt8.ofNat (ae n)) a)
def B43:=bP [] Tryz.func324 ⟨[.Ae Pr],[(0, .loc 0 0)],[(0, .Af 290 [(1, .px [0] .sf),(1, .AE 1)]),(1, .row 5 0)],2⟩ ⟨[.Ae .str],[(0, .v 0 .str)],[(0, .Af 290 [(1, .px [0] .sf),(1, .AE 1)])],2⟩ 1 [1] F43
def F44(a:Nat):(List Int×List (List Int)×List Bool×List Int)×Int->Option Ay|(c,d)=>Ab (idx c.2.2.2 d) λg=>Ab (F40 a g) λh=>Ab (yq a (h,[])) λi=>Ab (idx c.2.1 d) λe=>Ad a (λ(b:List Int×Nat) j=>iF ((b.2:Int)<e.length) (Ab (idx e b.2) λk=>Ab (idx c.2.2.2 k) λl=>Ab (F40 a l) λf=>Ah (FB ([44]:Ay)+FB f<=1099511627776)<|Ab (yq a ((44:UInt8)::f,b.1)) λm=>j (m.2,b.2+1))<|Ab (F43 a b.1) Ac) ((i.2,0))
def B44:=bP [B42,B40,B43] Tryz.func282 ⟨[.Ae vi, .Ae Am],[(0, .pd 0 vi 0),(1, .v 1 Am)],[],0⟩ ⟨[.Ae .str],[(0, .v 0 .str)],[],0⟩ 1 [] F44 (la:=lk [(4,⟨[.Ae Pr, .nat],(kp [0,5,23,24] [(25, .AB 1 401)]),[(0, .Af 290 [(1, .px [0] .sf),(1, .AE 2)]),(2, .row 5 0)],3⟩)]) (pr:=lg [(2,[.Cn 5 1 5 NH])])
def F45(e:Nat):List Int×List Int×List (List Int)×List Bool->Option (List Int×List (List Int)×List Bool×List Int)|(g,m,c,f)=>Ah (FB c<=Aj)<|Ad e (λ(b:List Int×Nat) h=>iF ((b.2:Int)<f.length) (Ab (idx f b.2) λk=>iB k (Ab (idx b.1 b.2) λn=>h ((b.1.set b.2 ((1:Int))),b.2+1))<|h (b.1,b.2+1))<|Ad e (λ(i:List Int×Int) l=>Ah (FB c<=Aj)<|Ad e (λ(a:List Int×List (Ay×Int)×Nat) j=>iF ((a.2.2:Int)<c.length) (Ab (F44 e ((g,c,f,i.1),(a.2.2:Int))) λd=>Ah (FB d<=1099511627776)<|iB (!(Option.isSome (AF a.2.1 d))) (Ah (FB d<=1099511627776/\FB a.2.1<=1099511627776)<|Ab (idx a.1 a.2.2) λo=>j ((a.1.set a.2.2 ((a.2.1.length:Int))),Bz a.2.1 d ((a.2.1.length:Int)),a.2.2+1))<|Ab (idx a.1 a.2.2) λp=>j ((a.1.set a.2.2 (qe (AF a.2.1 d) (0:Int))),a.2.1,a.2.2+1))<|iF ((a.2.1.length:Int)=i.2) (Ac ((g,c,f,a.1)))<|l ((a.1,(a.2.1.length:Int)))) (((T9 (FB c) (0:Int)),[],0))) ((b.1,(0:Int)))) (((T9 (FB c) (0:Int)),0))
def B45:=bP [B44] Tryz.func215 ⟨[.Ae FP, .Ae FP, .Ae Kd, .Ae Ek],[(0, .loc 0 0)],[(0, .Af 260 [(1, .v 0 FP),(1, .AE 1),(1, .AE 2),(1, .v 1 FP)]),(1, .row 135 2),(2, .row 4 3)],3⟩ ⟨[.Ae FP, .Ae Kd, .Ae Ek, .Ae FP],[],[(0, .Af 260 [(1, .v 0 FP),(1, .AE 1),(1, .AE 2),(1, .AE 3)]),(1, .row 135 1),(2, .row 4 2),(3, .row 3 3)],4⟩ 0 [] F45 (la:=lk [(2,⟨[.Ae Ej, .nat],(kp [0,24,25] [(26, .AB 1 201)]),[(2, .c 0),(0, .c 0),(3, .row 3 0),(1, .c 0)],4⟩),(9,⟨[.Ae Ej, .Ae Am],[(0, .Al),(4, .v 1 Am),(5, .Al)],[(0, .Af 260 (kp [1,1,1] [(1, .AE 3)])),(3, .row 3 0),(2, .c 0),(1, .c 0)],4⟩),(12,⟨[.Ae Ej, .Ae (.sl (.st y17)), .nat],(kp [0,4,5,6,7,52] [(53, .AB 2 1202)]),[(5, .row 3 0),(4, .map 9 1),(0, .c 0),(3, .c 0),(2, .c 0),(1, .c 0)],6⟩)])
def F46(d:Nat)(b:List Int×List (List Int)×List Bool×List Int):Option (List Bool):=Ah (FB b.2.1<=Aj)<|Ad d (λ(e:List Bool×Bool) j=>iB e.2 (Ad d (λ(a:List Bool×Bool×Nat) f=>iF ((a.2.2:Int)<b.2.1.length) (Ab (idx b.2.2.1 a.2.2) λk=>Ab (idx b.2.1 a.2.2) λg=>Ad d (λ(c:Bool×Nat) h=>iF ((c.2:Int)<g.length) (Ab (idx g c.2) λl=>iB c.1 (h (Br,c.2+1))<|Ab (idx b.2.2.2 l) λm=>Ab (idx a.1 m) λn=>h (n,c.2+1))<|iB c.1 (Ab (idx b.2.2.2 a.2.2) λo=>Ab (idx a.1 o) λp=>iB (!p) (Ab (idx b.2.2.2 a.2.2) λi=>Ab (idx a.1 i) λq=>f ((a.1.set (ae i) Br),Br,a.2.2+1))<|f (a.1,a.2.1,a.2.2+1))<|f ((a.1,a.2.1,a.2.2+1))) ((k,0)))<|j ((a.1,a.2.1))) ((e.1,Ak,0)))<|some e.1) (((T9 (FB b.2.1) Ak),Br))
def B46:=bP [] Tryz.func283 ⟨[.Ae vi],[(0, .pd 0 vi 0)],[],0⟩ ⟨[.Ae Ek],[(0, .AE 0)],[(0, .row 4 0)],1⟩ 1 [] F46 (la:=lk [(3,⟨[.Ae Ek, .Ae .bool],(kp [0,3] [(4, .v 1 .bool)]),[(0, .row 4 0)],1⟩),(6,⟨[.Ae Ek, .Ae .bool, .nat],(kp [0,3] [(4, .v 1 .bool),(20, .Al),(21, .AB 2 602)]),[(0, .row 4 0)],1⟩),(10,⟨[.Ae .bool, .nat],(kp [0,3,4,5] [(6, .v 0 .bool),(20, .Al),(21, .Al),(37, .Al),(38, .Al),(39, .AB 1 1001)]),[(0, .c 0)],1⟩)])
def Yu(d:Nat):(List Int×List (List Int)×List Bool×List Int)×Int->Option Int|(c,a)=>Aa .i64 (a+1)<|iF (a+1<c.1.length) (Aa .i64 (a+1)<|Ab (idx c.1 (a+1)) λb=>Aa .i64 (b-1)<|Aa .u8 (b-1)<|some ((b-1)))<|some 255
def B47:=bP [] Tryz.func284 ⟨[.Ae vi, .Ae Am],[(0, .pd 0 vi 0),(1, .v 1 Am)],[],0⟩ ⟨[.Ae NH],[(0, .v 0 NH)],[],0⟩ 1 [] Yu
def F48(h:Nat):List Int×List (List Int)×List Bool×List Int->Option (A4×List Int×List (List Int)×List Bool×List Int)|(c,e,f,d)=>Ab (F46 h (c,e,f,d)) λk=>Ab (idx d 0) λx=>Ab (idx k x) λy=>iB (!y) (Ac (([],c,e,f,d)))<|Ab (idx d 0) λl=>Aa .i64 l<|Ah (0<=1099511627776)<|Ad h (λ(g:List (Int×Int)×List Int×A4×Nat) z=>iF ((g.2.2.2:Int)<g.2.1.length) (Ab (idx g.2.1 g.2.2.2) λA=>Ab (idx f A) λB=>Ab (idx g.2.1 g.2.2.2) λE=>Ab (idx e E) λm=>Ad h (λ(a:List (Int×Int)×List Int×List (Int×Int×Int)×Nat) i=>iF ((a.2.2.2:Int)<m.length) (Ab (idx m a.2.2.2) λj=>Ab (idx d j) λb=>Ab (idx k b) λG=>iB (!G) (i (a.1,a.2.1,a.2.2.1,a.2.2.2+1))<|Aa .i64 b<|iB (!(Option.isSome (AF a.1 b))) (Aa .i64 b<|Ah (FB a.1<=1099511627776)<|Ah (FB a.2.1+1<=Aj)<|iF ((0:Int)<a.2.2.1.length) (Aa .i64 ((a.2.2.1.length:Int)-1)<|Ab (idx a.2.2.1 ((a.2.2.1.length:Int)-1)) λH=>Aa .i64 b<|iF (H.2.2=qe (AF (Bz a.1 b (a.2.1.length:Int)) b) (0:Int)) (Aa .i64 ((a.2.2.1.length:Int)-1)<|Ab (idx a.2.2.1 ((a.2.2.1.length:Int)-1)) λn=>Aa .i64 (n.2.1+1)<|Ab (idx c a.2.2.2) λI=>iF (n.2.1+1=I) (Aa .i64 ((a.2.2.1.length:Int)-1)<|Ab (Yu h ((c,e,f,d),(a.2.2.2:Int))) λJ=>Ab (idx a.2.2.1 ((a.2.2.1.length:Int)-1)) λo=>i (Bz a.1 b (a.2.1.length:Int),(a.2.1++[j]),(a.2.2.1.set (ae ((a.2.2.1.length:Int)-1)) (o.1,J,o.2.2)),a.2.2.2+1))<|Ab (idx c a.2.2.2) λp=>Aa .u8 p<|Ab (Yu h ((c,e,f,d),(a.2.2.2:Int))) λK=>Aa .i64 b<|Ah (FB a.2.2.1+1<=Aj)<|i (Bz a.1 b (a.2.1.length:Int),(a.2.1++[j]),(a.2.2.1++[(p,K,qe (AF (Bz a.1 b (a.2.1.length:Int)) b) (0:Int))]),a.2.2.2+1))<|Ab (idx c a.2.2.2) λq=>Aa .u8 q<|Ab (Yu h ((c,e,f,d),(a.2.2.2:Int))) λL=>Aa .i64 b<|Ah (FB a.2.2.1+1<=Aj)<|i (Bz a.1 b (a.2.1.length:Int),(a.2.1++[j]),(a.2.2.1++[(q,L,qe (AF (Bz a.1 b (a.2.1.length:Int)) b) (0:Int))]),a.2.2.2+1))<|Ab (idx c a.2.2.2) λr=>Aa .u8 r<|Ab (Yu h ((c,e,f,d),(a.2.2.2:Int))) λM=>Aa .i64 b<|Ah (FB a.2.2.1+1<=Aj)<|i (Bz a.1 b (a.2.1.length:Int),(a.2.1++[j]),(a.2.2.1++[(r,M,qe (AF (Bz a.1 b (a.2.1.length:Int)) b) (0:Int))]),a.2.2.2+1))<|iF ((0:Int)<a.2.2.1.length) (Aa .i64 ((a.2.2.1.length:Int)-1)<|Ab (idx a.2.2.1 ((a.2.2.1.length:Int)-1)) λO=>Aa .i64 b<|iF (O.2.2=qe (AF a.1 b) (0:Int)) (Aa .i64 ((a.2.2.1.length:Int)-1)<|Ab (idx a.2.2.1 ((a.2.2.1.length:Int)-1)) λs=>Aa .i64 (s.2.1+1)<|Ab (idx c a.2.2.2) λQ=>iF (s.2.1+1=Q) (Aa .i64 ((a.2.2.1.length:Int)-1)<|Ab (Yu h ((c,e,f,d),(a.2.2.2:Int))) λS=>Ab (idx a.2.2.1 ((a.2.2.1.length:Int)-1)) λt=>i (a.1,a.2.1,(a.2.2.1.set (ae ((a.2.2.1.length:Int)-1)) (t.1,S,t.2.2)),a.2.2.2+1))<|Ab (idx c a.2.2.2) λu=>Aa .u8 u<|Ab (Yu h ((c,e,f,d),(a.2.2.2:Int))) λU=>Aa .i64 b<|Ah (FB a.2.2.1+1<=Aj)<|i (a.1,a.2.1,(a.2.2.1++[(u,U,qe (AF a.1 b) (0:Int))]),a.2.2.2+1))<|Ab (idx c a.2.2.2) λv=>Aa .u8 v<|Ab (Yu h ((c,e,f,d),(a.2.2.2:Int))) λV=>Aa .i64 b<|Ah (FB a.2.2.1+1<=Aj)<|i (a.1,a.2.1,(a.2.2.1++[(v,V,qe (AF a.1 b) (0:Int))]),a.2.2.2+1))<|Ab (idx c a.2.2.2) λw=>Aa .u8 w<|Ab (Yu h ((c,e,f,d),(a.2.2.2:Int))) λW=>Aa .i64 b<|Ah (FB a.2.2.1+1<=Aj)<|i (a.1,a.2.1,(a.2.2.1++[(w,W,qe (AF a.1 b) (0:Int))]),a.2.2.2+1))<|Ah (FB g.2.2.1+1<=Aj)<|z ((a.1,a.2.1,(g.2.2.1++[(B,a.2.2.1)]),g.2.2.2+1))) ((g.1,g.2.1,[],0)))<|some ((g.2.2.1,c,e,f,d))) ((Bz [] l (0:Int),[(0:Int)],[],0))
def B48:=bP [B46,B47] Tryz.func216 ⟨[.Ae FP, .Ae Kd, .Ae Ek, .Ae FP],[(0, .loc 0 0)],[(0, .Af 260 [(1, .v 0 FP),(1, .AE 1),(1, .AE 2),(1, .AE 3)]),(1, .row 135 1),(2, .row 4 2),(3, .row 3 3)],4⟩ ⟨[.Ae y3, .Ae FP, .Ae Kd, .Ae Ek, .Ae FP],[(0, .v 0 y3)],[(0, .Af 260 [(1, .v 1 FP),(1, .AE 1),(1, .AE 2),(1, .AE 3)]),(1, .row 135 2),(2, .row 4 3),(3, .row 3 4)],4⟩ 1 [] F48 (la:=lk [(8,⟨[.Ae BJ, .Ae Ej, .Ae I_, .nat],(kp [0,2,3] [(4, .AE 6),(5, .Al),(6, .Al),(7, .AB 3 803)]),[(8, .Af 27 [(1, .AE 9)]),(7, .map 3 0),(6, .row 3 1),(5, .c 0),(4, .c 0),(0, .c 0),(3, .c 0),(2, .c 0),(1, .c 0),(9, .row 77 2)],10⟩),(12,⟨[.Ae BJ, .Ae Ej, .Ae Kf, .nat],(kp [0,2,3] [(4, .AE 6),(5, .Al),(6, .Al),(7, .Al),(8, .Al),(63, .Al),(64, .Al),(65, .AB 3 1203)]),[(10, .Af 77 [(1, .Al),(1, .AE 11)]),(8, .c 0),(9, .c 0),(7, .map 3 0),(6, .row 3 1),(5, .c 0),(4, .c 0),(0, .c 0),(3, .c 0),(2, .c 0),(1, .c 0),(11, .row 84 2)],12⟩)]) (pt:=lg [(7,[.Cn 6 0 77 Kb]),(11,[.Cn 8 1 84 Pq]),(26,[.NC 2 0])])
def oh(a:Nat)(d:A4):Option (A4×Int):=Ab (yr a d) λe=>iB (!e) (Ac (([],11)))<|iF ((d.length:Int)=0) (Ac (([],0)))<|Ab (F39 a d) λb=>Ab (F45 a (b.1,b.2.1,b.2.2.1,b.2.2.2)) λc=>Ab (F48 a (c.1,c.2.1,c.2.2.1,c.2.2.2)) λf=>Ac (f.1,0)
def B49:=bQ [B37,B39,B45,B48] Tryz.func168 [I_] [y3,Am] oh
def F50(f:Nat):(List (Int×Int×Int))×List (Int×Int×Int)->Option Bool|(b,e)=>iF ((b.length:Int)≠e.length) (Ac Ak)<|Ad f (λ(a:Nat) g=>iF ((a:Int)<b.length) (Ab (idx b a) λc=>Ab (idx e a) λd=>iB (!decide (c.1::(c.2.1::[c.2.2])=d.1::(d.2.1::[d.2.2]))) (Ac Ak)<|g (a+1))<|some Br) (0)
def B50:=bQ [] Tryz.func280 [Kf,Kf] [.bool] F50 (la:=lk [(4,⟨[.nat],(kp [0,1,12] [(13, .AB 0 400)]),[],0⟩)])
def F51(c:Nat):Lt0×Lt0->Option Bool|(a,b)=>iB (a.1==b.1) (Ab (F50 c (a.2,b.2)) Ac)<|some Ak
def B51:=bQ [B50] Tryz.func279 [Kb,Kb] [.bool] F51
def F52(c:Nat):A4×A4->Option Bool|(b,d)=>iF ((b.length:Int)≠d.length) (Ac Ak)<|Ad c (λ(a:Nat) e=>iF ((a:Int)<b.length) (Ab (idx b a) λf=>Ab (idx d a) λg=>Ab (F51 c (f,g)) λh=>iB (!h) (Ac Ak)<|e (a+1))<|some Br) (0)
def B52:=bP [B51] Tryz.func278 ⟨[.Ae I_, .Ae I_],[(0, .v 0 I_),(1, .v 1 I_),(2, .AA 279 [] [])],[],0⟩ ⟨[.Ae .bool],[(0, .v 0 .bool)],[],0⟩ 1 [] F52 (la:=lk [(4,⟨[.nat],(kp [1,2,15,16] [(17, .AB 0 400)]),[],0⟩)])
def yp(a:Nat):A4×A4->Option Bool|(b,c)=>Ab (F52 a (b,c)) Ac
def B53:=bQ [B52] Tryz.func212 [y3,y3] [.bool] yp
def vG(a:Nat)(b:A4):Option Bool:=Ab (oh a b) λc=>iF (c.2=0) (Ab (yp a (b,c.1)) Ac)<|some Ak
def B54:=bQ [B49,B53] Tryz.func162 [y3] [.bool] vG
def B55(_:Nat):Bd:=df qW
abbrev F58(_:Nat)(x:Int×Int×List Int):Option (List Int):=Ys x
theorem d58i(fu:Nat)(x:Int)(l:List Int):F58 fu (x,10,l)=Ah (l.length+21<=140737488355328) (Aa Lm.i64 x (Ac (l++(Lib.itoa x).map λb=>((b.toNat:Nat):Int)))):=by
 show Ys (x,10,l)=_
 unfold Ys Ah;simp
def yo(b:Nat)(c:List Int):Option Ay:=Ad b (λ(a:List Int×Nat) d=>iF ((a.2:Int)<c.length) (Ab (idx c a.2) λe=>Ah (FB a.1+1<=Aj)<|Ab (F58 b (e,10,(a.1++[(44:Int)]))) λf=>d (f,a.2+1))<|some ((List.map (λn=>UInt8.ofNat (ae n)) a.1))) (([],0))
def B56:=bQ [B55] Tryz.func381 [FP] [.str] yo (la:=lk [(3,⟨[.Ae Pr, .nat],[(3, .AE 0),(6, .Al),(7, .Al),(8, .AB 1 301)],[(0, .row 5 0)],1⟩)]) (pr:=lg [(7,[.fz 3])]) (pt:=lg [(2,[.own 3 5 NH])])
def F60(f:Nat):BE×List Int->Option Int|(c,d)=>Ad f (λ(a:Int×Nat) e=>iF ((a.2:Int)<c.2.length) (Ab (idx c.2 a.2) λh=>Ab (idx d a.2) λi=>iF ((0:Int)<=i) (Ab (idx d a.2) λj=>Ab (idx h.1 j) λk=>iB k.1 (Aa .i64 (a.1+1)<|e ((a.1+1),a.2+1))<|e (a.1,a.2+1))<|e (a.1,a.2+1))<|Ad f (λ(b:Int×Nat) g=>iF ((b.2:Int)<c.1.length) (Ab (idx c.1 b.2) λl=>Aa .i64 ((c.2.length:Int)+(b.2:Int))<|Ab (idx d ((c.2.length:Int)+(b.2:Int))) λm=>iF (m=(l.1.length:Int)) (Aa .i64 (b.1+1)<|g ((b.1+1),b.2+1))<|g (b.1,b.2+1))<|some b.1) ((a.1,0))) ((0,0))
def B57:=bQ [] Tryz.func382 [BL,FP] [Am] F60 (la:=lk [(3,⟨[.Ae Am, .nat],(kp [1,2] [(5, .v 0 Am),(11, .Al),(12, .Al),(13, .AB 1 301)]),[(0, .c 0)],1⟩),(9,⟨[.Ae Am, .nat],(kp [1,2] [(5, .v 0 Am),(39, .Al),(40, .Al),(41, .AB 1 901)]),[(0, .c 0)],1⟩)])
def F61(h:Nat):BE×List Int->Option (List Int)|(e,k)=>Ad h (λ(c:List Bool×Nat) n=>iF ((c.2:Int)<e.2.length) (Ab (idx e.2 c.2) λq=>Ab (idx k c.2) λr=>iF (r<0) (n (c.1,c.2+1))<|Ab (idx k c.2) λs=>Ab (idx q.1 s) λo=>Ad h (λ(f:List Bool×Nat) t=>iF ((f.2:Int)<o.2.length) (Ab (idx o.2 f.2) λd=>Aa .i64 (d.2.1+1)<|Ah ((0:Int)<=d.1/\d.1<(↑257:Int))<|Ah (0+ae d.1*1<257)<|Ah ((0:Int)<=d.2.1+1/\d.2.1+1< ↑257)<|Ah (0+ae (d.2.1+1)*1<257)<|t (((lh f.1 (0+ae d.1*1) Br).set (0+ae (d.2.1+1)*1) Br),f.2+1))<|n ((f.1,c.2+1))) ((c.1,0)))<|Ad h (λ(b:List Bool×Nat) l=>iF ((b.2:Int)<e.1.length) (Ab (idx e.1 b.2) λm=>Aa .i64 ((e.2.length:Int)+(b.2:Int))<|Ab (idx k ((e.2.length:Int)+(b.2:Int))) λi=>iF ((0:Int)<=i) (iF (i<(m.1.length:Int)) (Ab (Ey m.1 i) λj=>Ab (Ey m.1 i) λg=>Aa .i64 (g+1)<|Ah ((0:Int)<=j/\j<(↑257:Int))<|Ah (0+ae j*1<257)<|Ah ((0:Int)<=g+1/\g+1< ↑257)<|Ah (0+ae (g+1)*1<257)<|l (((lh b.1 (0+ae j*1) Br).set (0+ae (g+1)*1) Br),b.2+1))<|l (b.1,b.2+1))<|l (b.1,b.2+1))<|Ad h (λ(a:List Int×Int) p=>iF (a.2<256) (Ah ((0:Int)<=a.2/\a.2<(↑257:Int))<|Ab (idx b.1 (↑(0+ae a.2*1):Int)) λu=>iB u (Aa .u8 a.2<|Ah (FB a.1+1<=Aj)<|Aa .i64 (a.2+1)<|p ((a.1++[a.2]),(a.2+1)))<|Aa .i64 (a.2+1)<|p (a.1,(a.2+1)))<|some a.1) (([],(0:Int)))) ((c.1,0))) (((lh (T9 257 Ak) 0 Br),0))
def B58:=bQ [] Tryz.func383 [BL,FP] [Pr] F61 (la:=lk [(3,⟨[.Ae (.ar 257 .bool), .nat],(kp [1,2,5,17,18] [(19, .AB 1 301)]),[(1, .Af 194 [(257, .v 0 (.ar 257 .bool))]),(0, .c 0)],2⟩),(7,⟨[.Ae (.ar 257 .bool), .nat],(kp [1,2,5,17,18,19,38,39] [(40, .AB 1 701)]),[(1, .Af 194 [(257, .v 0 (.ar 257 .bool))]),(0, .c 0)],3⟩),(13,⟨[.Ae (.ar 257 .bool), .nat],(kp [1,2,5,55,56] [(57, .AB 1 1301)]),[(1, .Af 194 [(257, .v 0 (.ar 257 .bool))]),(0, .c 0)],2⟩),(21,⟨[.Ae Pr, .Ae Am],[(5, .Al),(13, .AE 2),(92, .v 1 Am)],[(1, .c 0),(2, .row 5 0)],3⟩)]) (pt:=lg [(20,[.own 13 5 NH]),(26,[.fz 4])])
def F62(h:Nat):BE×List Int×Int->Option (List Int)|(d,f,j)=>Ah (FB f<=Aj)<|Ad h (λ(e:List Int×Nat) p=>iF ((e.2:Int)<((T9 (FB f) (0:Int)).length:Int)) (Ab (idx e.1 e.2) λu=>p ((e.1.set e.2 (Int.negSucc (0))),e.2+1))<|Ad h (λ(b:List Int×Nat) m=>iF ((b.2:Int)<d.2.length) (Ab (idx d.2 b.2) λq=>Ab (idx f b.2) λr=>iF (r<0) (m (b.1,b.2+1))<|Ab (idx f b.2) λs=>Ab (idx q.1 s) λn=>Ad h (λ(c:List Int×Nat) k=>iF ((c.2:Int)<n.2.length) (Ab (idx n.2 c.2) λl=>iF (l.1<=j) (iF (j<=l.2.1) (Ab (idx c.1 b.2) λv=>k ((c.1.set b.2 l.2.2),c.2+1))<|k (c.1,c.2+1))<|k (c.1,c.2+1))<|m ((c.1,b.2+1))) ((b.1,0)))<|Ad h (λ(a:List Int×Nat) i=>iF ((a.2:Int)<d.1.length) (Ab (idx d.1 a.2) λo=>Aa .i64 ((d.2.length:Int)+(a.2:Int))<|Ab (idx f ((d.2.length:Int)+(a.2:Int))) λg=>iF ((0:Int)<=g) (iF (g<(o.1.length:Int)) (Ab (Ey o.1 g) λt=>iF (t=j) (Aa .i64 (g+1)<|Ab (idx a.1 ((d.2.length:Int)+(a.2:Int))) λw=>i ((a.1.set (ae ((d.2.length:Int)+(a.2:Int))) ((g+1))),a.2+1))<|i (a.1,a.2+1))<|i (a.1,a.2+1))<|i (a.1,a.2+1))<|some a.1) ((b.1,0))) ((e.1,0))) (((T9 (FB f) (0:Int)),0))
def B59:=bQ [] Tryz.func384 [BL,FP,NH] [FP] F62 (la:=lk [(3,⟨[.Ae Ej, .nat],(kp [1,2,3,7,21] [(22, .AB 1 301)]),[(1, .row 3 0),(0, .c 0)],2⟩),(8,⟨[.Ae Ej, .nat],(kp [1,2,3,7,30,31] [(32, .AB 1 801)]),[(1, .row 3 0),(0, .c 0)],2⟩),(12,⟨[.Ae Ej, .nat],(kp [1,2,3,7,9,30,31,32,51,52] [(53, .AB 1 1201)]),[(1, .row 3 0),(0, .c 0)],3⟩),(19,⟨[.Ae Ej, .nat],(kp [1,2,3,7,75,76] [(77, .AB 1 1901)]),[(1, .row 3 0),(0, .c 0)],2⟩)]) (pt:=lg [(26,[.fz 6])])
def F63(d:Nat)(a:BE):Option Bool:=Ad d (λ(f:Nat) m=>iF ((f:Int)<a.2.length) (Ab (idx a.2 f) λh=>iF ((h.1.length:Int)=0) (Ac Ak)<|Ab (vG d h.1) λn=>iB (!n) (Ac Ak)<|m (f+1))<|Aa .i64 ((a.2.length:Int)+(a.1.length:Int))<|Ah ((0:Int)<=a.2.length+(a.1.length:Int))<|Ah (ae ((a.2.length:Int)+(a.1.length:Int))<=Aj)<|Ab (idx [(T9 (ae ((a.2.length:Int)+(a.1.length:Int))) (0:Int))] (0:Int)) λo=>Ab (yo d o) λi=>Ah (FB i<=1099511627776/\0<=1099511627776)<|Ad d (λ(c:List (Ay×Bool)×List (List Int)) p=>iF ((0:Int)<c.2.length) (Aa .i64 ((c.2.length:Int)-1)<|Ab (idx c.2 ((c.2.length:Int)-1)) λg=>Aa .i64 ((c.2.length:Int)-1)<|Ah ((0:Int)<=c.2.length-1/\(c.2.length:Int)-1<=c.2.length)<|Ab (F60 d (a,g)) λq=>iF (q≠1) (Ac Ak)<|Ab (F61 d (a,g)) λj=>Ad d (λ(b:List (Ay×Bool)×List (List Int)×Nat) k=>iF ((b.2.2:Int)<j.length) (Ab (idx j b.2.2) λr=>Ab (F62 d (a,g,r)) λl=>Ab (yo d l) λe=>Ah (FB e<=1099511627776)<|iB (!Option.getD (AF b.1 e) Ak) (Ah (FB e<=1099511627776/\FB b.1<=1099511627776)<|Ah (FB b.2.1+1<=Aj)<|k (Bz b.1 e Br,(b.2.1++[l]),b.2.2+1))<|k (b.1,b.2.1,b.2.2+1))<|p ((b.1,b.2.1))) ((c.1,(List.take (ae ((c.2.length:Int)-1)) c.2),0)))<|some Br) ((Bz [] i Br,[(T9 (ae ((a.2.length:Int)+(a.1.length:Int))) (0:Int))]))) (0)
def B60:=bQ [B54,B56,B57,B58,B59] Tryz.func326 [BL] [.bool] F63 (la:=lk [(2,⟨[.nat],(kp [1,13,14] [(15, .AB 0 200)]),[(0, .c 0)],1⟩),(9,⟨[.Ae (.sl y20), .Ae Kd],[(1, .Al),(5, .AE 2),(6, .Al)],[(3, .map 9 0),(2, .row 332 1),(0, .c 0)],4⟩),(15,⟨[.Ae (.sl y20), .Ae Kd, .nat],[(1, .Al),(5, .AE 4),(6, .Al),(7, .Al),(66, .Al),(67, .Al),(68, .AB 2 1502)],[(3, .map 9 0),(4, .row 332 1),(0, .c 0)],5⟩)])
def R61(fu:Nat):=sQ (bs [] fu) fu Tryz.func338 [(.int .u64)] [Am]
def B61(fu:Nat):=BI (R61 fu)
abbrev DY(fu:Nat)(x:(Int)):Option Int:=(R61 fu).1 x
def td(a:Nat)(b:Int):Option Int:=Ab (DY a b) Ac
def B62:=bQ [B61] Tryz.func291 [(.int .u64)] [Am] td
def F66(b:Nat)(a:Int):Option Bool:=Ac (Ds (a≠a))
def B63:=bQ [] Tryz.func319 [Am] [.bool] F66
def F67(c:Nat):Int×Int->Option Int|(a,b)=>Ab (F66 c a) λe=>Ab (F66 c b) λd=>iB e (iB d (Ac 0)<|some ((-1:Int)))<|iB d (Ac 1)<|iF (a<b) (Ac ((-1:Int)))<|iF (b<a) (Ac 1)<|some 0
def B64:=bQ [B63] Tryz.func273 [Am,Am] [Am] F67
def F68(a:Nat):(Int×Int)×Int×Int->Option Int|(b,c)=>Ab (F67 a (b.1,c.1)) Ac
def B65:=bQ [B64] Tryz.func272 [Ew,Ew] [Am] F68
def D69(fu:Nat)(x0 x1:Int)(x2:List (Int×Int)):=So (λx y=>F68 fu (x,y)) fu x0 x1 x2
abbrev F69 fu:=u3 (D69 fu)
theorem d69(fu x0 x1 x2):F69 fu (x0,x1,x2)=D69 fu x0 x1 x2:=rfl
def B66:=bP [B65] Tryz.func371 ⟨[.Ae Am, .Ae Am, .Ae BJ],[(0, .AE 0),(1, .v 0 Am),(2, .v 1 Am),(3, .AA 272 [] [])],[(0, .row 67 2)],1⟩ ⟨[.Ae BJ],[],[(0, .row 67 0)],1⟩ 0 [] F69 (la:=lk [(1,⟨[.Ae BJ, .Ae Am],(kp [0,1,2,3] [(8, .v 1 Am)]),[(0, .row 67 0)],1⟩),(4,⟨[.Ae BJ, .Ae Am],(kp [0,1,2,3,8] [(9, .v 1 Am)]),[(0, .row 67 0)],1⟩)])
def F70(c:Nat):Int×Int×Int×List (Int×Int)->Option (List (Int×Int))|(a,b,d,e)=>Ad c (λ(g:PUnit) h=>Aa .i64 (b-a)<|iF (b-a<=12) (Ab (F69 c (a,b,e)) Ac)<|iF (d=0) Dc<|none) (())
def B67:=bP [B66] Tryz.func318 ⟨[.Ae Am, .Ae Am, .Ae Am, .Ae BJ],[(0, .AE 0),(1, .v 0 Am),(2, .v 1 Am),(3, .v 2 Am),(4, .AA 272 [] [])],[(0, .row 67 3)],1⟩ ⟨[.Ae BJ],[],[(0, .row 67 0)],1⟩ 0 [] F70 (la:=lk [(2,⟨[],(kp [0,1,2,3,4,10,11] []),[(0, .c 0)],1⟩)])
def yn(b:Nat)(a:List (Int×Int)):Option (List (Int×Int)):=Ab (td b (Int.ofNat (FB a %xc (18446744073709551616:Int)))) λc=>Ab (F70 b (0,(a.length:Int),c,a)) Ac
def B68:=bP [B62,B67] Tryz.func271 ⟨[.Ae BJ],[(0, .AE 0),(1, .AA 272 [] [])],[(0, .row 67 0)],1⟩ ⟨[.Ae BJ],[],[(0, .row 67 0)],1⟩ 0 [] yn
def ym(b:Nat)(a:Int):Option Int:=Aa .i64 (a+1)<|some (a+1)
def B69:=bQ [] Tryz.func209 [Am] [Am] ym
def F73(e:Nat)(b:List (Int×Int)):Option (List (Int×Int)):=Ah (FB b<=Aj)<|Ah (min (FB b) (FB (T9 (FB b) ((0:Int),(0:Int))))<=1099511627776)<|Ab (yn e (((List.take (min (FB b) (FB (T9 (FB b) ((0:Int),(0:Int))))) b)++(List.drop (min (FB b) (FB (T9 (FB b) ((0:Int),(0:Int))))) (T9 (FB b) ((0:Int),(0:Int))))))) λg=>Ad e (λ(a:List (Int×Int)×Nat) f=>iF ((a.2:Int)<g.length) (Ab (idx g a.2) λc=>iF ((0:Int)<a.1.length) (Aa .i64 ((a.1.length:Int)-1)<|Ab (idx a.1 ((a.1.length:Int)-1)) λh=>Ab (ym e h.2) λi=>iF (c.1<=i) (Aa .i64 ((a.1.length:Int)-1)<|Aa .i64 ((a.1.length:Int)-1)<|Ab (idx a.1 ((a.1.length:Int)-1)) λd=>Aa .i64 (if c.2>d.2 then c.2 else d.2)<|Ab (idx a.1 ((a.1.length:Int)-1)) λj=>f ((a.1.set (ae ((a.1.length:Int)-1)) (j.1,(if d.2<c.2 then c.2 else d.2))),a.2+1))<|Ah (FB a.1+1<=Aj)<|f ((a.1++[c]),a.2+1))<|Ah (FB a.1+1<=Aj)<|f ((a.1++[c]),a.2+1))<|some a.1) (([],0))
def B70:=bP [B69,B68] Tryz.func208 ⟨[.Ae BJ],[(0, .v 0 BJ),(1, .AA 209 [] [])],[],0⟩ ⟨[.Ae BJ],[(0, .v 0 BJ)],[],0⟩ 1 [] F73 (la:=lk [(6,⟨[.Ae BJ, .nat],[(1, .Al),(6, .AE 1),(18, .Al),(19, .Al),(20, .AB 1 601)],[(0, .c 0),(1, .row 67 0)],2⟩)]) (pt:=lg [(5,[.own 6 67 Ew]),(13,[.fz 4])])
def yk(b:Nat)(a:Int):Option Int:=Aa .i64 (a+1)<|Ah ((10000:Int)≠0)<|Aa .i64 (ji (a+1) (10000:Int))<|iF (ji (a+1) (10000:Int)=0) (Aa .i64 (a+2)<|some ((a+2)))<|Aa .i64 (a+1)<|some (a+1)
def B71:=bQ [] Tryz.func210 [Am] [Am] yk
def F75(e:Nat)(b:List (Int×Int)):Option (List (Int×Int)):=Ah (FB b<=Aj)<|Ah (min (FB b) (FB (T9 (FB b) ((0:Int),(0:Int))))<=1099511627776)<|Ab (yn e (((List.take (min (FB b) (FB (T9 (FB b) ((0:Int),(0:Int))))) b)++(List.drop (min (FB b) (FB (T9 (FB b) ((0:Int),(0:Int))))) (T9 (FB b) ((0:Int),(0:Int))))))) λg=>Ad e (λ(a:List (Int×Int)×Nat) f=>iF ((a.2:Int)<g.length) (Ab (idx g a.2) λc=>iF ((0:Int)<a.1.length) (Aa .i64 ((a.1.length:Int)-1)<|Ab (idx a.1 ((a.1.length:Int)-1)) λh=>Ab (yk e h.2) λi=>iF (c.1<=i) (Aa .i64 ((a.1.length:Int)-1)<|Aa .i64 ((a.1.length:Int)-1)<|Ab (idx a.1 ((a.1.length:Int)-1)) λd=>Aa .i64 (if c.2>d.2 then c.2 else d.2)<|Ab (idx a.1 ((a.1.length:Int)-1)) λj=>f ((a.1.set (ae ((a.1.length:Int)-1)) (j.1,(if d.2<c.2 then c.2 else d.2))),a.2+1))<|Ah (FB a.1+1<=Aj)<|f ((a.1++[c]),a.2+1))<|Ah (FB a.1+1<=Aj)<|f ((a.1++[c]),a.2+1))<|some a.1) (([],0))
def B72:=bP [B71,B68] Tryz.func208 ⟨[.Ae BJ],[(0, .v 0 BJ),(1, .AA 210 [] [])],[],0⟩ ⟨[.Ae BJ],[(0, .v 0 BJ)],[],0⟩ 1 [] F75 (la:=lk [(6,⟨[.Ae BJ, .nat],[(1, .Al),(6, .AE 1),(18, .Al),(19, .Al),(20, .AB 1 601)],[(0, .c 0),(1, .row 67 0)],2⟩)]) (pt:=lg [(5,[.own 6 67 Ew]),(13,[.fz 4])])
def WZ(f:Nat)(g:Be):Option Be:=Ad f (λ(d:List (Int×Int)×Nat) h=>iF ((d.2:Int)<g.1.length) (Ab (idx g.1 d.2) λc=>Aa .i64 (if(-100000000000:Int)>c.1 then(-100000000000:Int)else c.1)<|Aa .i64 (if(100000000000:Int)<c.2 then(100000000000:Int)else c.2)<|iF ((if c.1<(-100000000000:Int)then(-100000000000:Int)else c.1)<=(if(100000000000:Int)<c.2 then(100000000000:Int)else c.2)) (Ah (FB d.1+1<=Aj)<|h ((d.1++[((if c.1<(-100000000000:Int)then(-100000000000:Int)else c.1),(if(100000000000:Int)<c.2 then(100000000000:Int)else c.2))]),d.2+1))<|h (d.1,d.2+1))<|Ad f (λ(b:List (Int×Int)×Nat) e=>iF ((b.2:Int)<g.2.length) (Ab (idx g.2 b.2) λa=>Aa .i64 (if(-1000000000000000:Int)>a.1 then(-1000000000000000:Int)else a.1)<|Aa .i64 (if(1000000000000000:Int)<a.2 then(1000000000000000:Int)else a.2)<|Ah ((10000:Int)≠0)<|Aa .i64 (ji ((if a.1<(-1000000000000000:Int)then(-1000000000000000:Int)else a.1)) (10000:Int))<|iF (ji ((if a.1<(-1000000000000000:Int)then(-1000000000000000:Int)else a.1)) (10000:Int)=0) (Aa .i64 ((if a.1<(-1000000000000000:Int)then(-1000000000000000:Int)else a.1)+1)<|Ah ((10000:Int)≠0)<|Aa .i64 (ji ((if(1000000000000000:Int)<a.2 then(1000000000000000:Int)else a.2)) (10000:Int))<|iF (ji ((if(1000000000000000:Int)<a.2 then(1000000000000000:Int)else a.2)) (10000:Int)=0) (Aa .i64 ((if(1000000000000000:Int)<a.2 then(1000000000000000:Int)else a.2)-1)<|iF ((((if a.1<(-1000000000000000:Int)then(-1000000000000000:Int)else a.1))+1)<=(((if(1000000000000000:Int)<a.2 then(1000000000000000:Int)else a.2))-1)) (Ah (FB b.1+1<=Aj)<|e ((b.1++[((((if a.1<(-1000000000000000:Int)then(-1000000000000000:Int)else a.1))+1),(((if(1000000000000000:Int)<a.2 then(1000000000000000:Int)else a.2))-1))]),b.2+1))<|e (b.1,b.2+1))<|iF ((((if a.1<(-1000000000000000:Int)then(-1000000000000000:Int)else a.1))+1)<=(if(1000000000000000:Int)<a.2 then(1000000000000000:Int)else a.2)) (Ah (FB b.1+1<=Aj)<|e ((b.1++[((((if a.1<(-1000000000000000:Int)then(-1000000000000000:Int)else a.1))+1),(if(1000000000000000:Int)<a.2 then(1000000000000000:Int)else a.2))]),b.2+1))<|e (b.1,b.2+1))<|Ah ((10000:Int)≠0)<|Aa .i64 (ji ((if(1000000000000000:Int)<a.2 then(1000000000000000:Int)else a.2)) (10000:Int))<|iF (ji ((if(1000000000000000:Int)<a.2 then(1000000000000000:Int)else a.2)) (10000:Int)=0) (Aa .i64 ((if(1000000000000000:Int)<a.2 then(1000000000000000:Int)else a.2)-1)<|iF ((if a.1<(-1000000000000000:Int)then(-1000000000000000:Int)else a.1)<=(((if(1000000000000000:Int)<a.2 then(1000000000000000:Int)else a.2))-1)) (Ah (FB b.1+1<=Aj)<|e ((b.1++[((if a.1<(-1000000000000000:Int)then(-1000000000000000:Int)else a.1),(((if(1000000000000000:Int)<a.2 then(1000000000000000:Int)else a.2))-1))]),b.2+1))<|e (b.1,b.2+1))<|iF ((if a.1<(-1000000000000000:Int)then(-1000000000000000:Int)else a.1)<=(if(1000000000000000:Int)<a.2 then(1000000000000000:Int)else a.2)) (Ah (FB b.1+1<=Aj)<|e ((b.1++[((if a.1<(-1000000000000000:Int)then(-1000000000000000:Int)else a.1),(if(1000000000000000:Int)<a.2 then(1000000000000000:Int)else a.2))]),b.2+1))<|e (b.1,b.2+1))<|Ab (F73 f d.1) λi=>Ab (F75 f b.1) λj=>Ac ((i,j))) (([],0))) (([],0))
def zu:=bQ [B70,B72] Tryz.func156 [BR] [BR] WZ (la:=lk [(3,⟨[.Ae BJ, .nat],(kp [1,2] [(3, .AE 2),(4, .Al),(10, .Al),(11, .Al),(12, .AB 1 301)]),[(1, .c 0),(0, .c 0),(2, .row 67 0)],3⟩),(10,⟨[.Ae BJ, .nat],(kp [2,3] [(4, .AE 3),(34, .Al),(35, .Al),(36, .AB 1 1001)]),[(2, .c 0),(1, .c 0),(3, .row 67 0)],4⟩)]) (pr:=lg [(20,[.fz 3, .fz 4])]) (pt:=lg [(2,[.own 3 67 Ew]),(9,[.own 4 67 Ew])])
def tc(f:Nat):(List (Int×Int))×List (Int×Int)->Option Bool|(b,c)=>iF ((b.length:Int)≠c.length) (Ac Ak)<|Ad f (λ(a:Nat) g=>iF ((a:Int)<b.length) (Ab (idx b a) λd=>Ab (idx c a) λe=>iB (!decide (d.1::[d.2]=e.1::[e.2])) (Ac Ak)<|g (a+1))<|some Br) (0)
def B74:=bQ [] Tryz.func243 [BJ,BJ] [.bool] tc (la:=lk [(4,⟨[.nat],(kp [0,1,12] [(13, .AB 0 400)]),[],0⟩)])
def F78(a:Nat):Be×Be->Option Bool|(b,c)=>Ab (tc a (b.1,c.1)) λd=>iB d (Ab (tc a (b.2,c.2)) Ac)<|some Ak
def B75:=bQ [B74] Tryz.func270 [BR,BR] [.bool] F78
def F79(a:Nat)(b:Be):Option Bool:=Ab (WZ a b) λc=>Ab (F78 a (b,c)) Ac
def B76:=bQ [zu,B75] Tryz.func207 [BR] [.bool] F79
def dL(a:Nat)(b:Ff):Option Bool:=Ab (F79 a b.2.2.2.1) λc=>iB c (Ab (vG a b.2.2.2.2) Ac)<|some Ak
def B77:=bQ [B54,B76] Tryz.func155 [y8] [.bool] dL
def F81(b:Nat)(a:Vl):Option Bool:=iB (Vl.any a) (Ab (yt b (Vl.sc a)) λf=>iB f (Aa .i64 (((Vl.lists a).length:Int)+((Vl.structs a).length:Int))<|some (Ds ((((Vl.lists a).length:Int)+((Vl.structs a).length:Int))=0)))<|some Ak)<|Ad b (λ(c:Nat) g=>iF ((c:Int)<(Vl.lists a).length) (Ab (idx (Vl.lists a) (c:Int)) λh=>iF ((1:Int)<h.2.length) (Ac Ak)<|g (c+1))<|Ad b (λ(d:Nat) i=>iF ((d:Int)<(Vl.structs a).length) (Ab (idx (Vl.structs a) (d:Int)) λe=>Ab (F36 b e.1) λj=>iB (!j) (Ac Ak)<|Ab (F63 b e) λk=>iB (!k) (Ac Ak)<|i (d+1))<|Ab (dL b (Vl.sc a)) Ac) (0)) (0)
def B78:=bQ [B35,B77,B36,B60] Tryz.func286 [Ba] [.bool] F81 (la:=lk [(4,⟨[.nat],(kp [1,23,24] [(25, .AB 0 400)]),[(0, .c 0)],1⟩),(10,⟨[.nat],(kp [1,35,36] [(37, .AB 0 1000)]),[(0, .c 0)],1⟩)])
def F82(b:Nat)(a:Int):Option (List AH):=iF (a<0) Dc<|Aa .i64 ((↑0:Int)-(↑0:Int))<|Aa .i64 (a-((↑0:Int)-(↑0:Int)))<|iF ((0:Int)<a-((↑0:Int)-(↑0:Int))) (Ah ((0:Int)<=a-((↑0:Int)-(↑0:Int)))<|qg (ae (a-((↑0:Int)-(↑0:Int)))) (Dc) λn1=>Ah (n1+1<=4294967296)<|Ah ((0:Int)<= ↑0/\(↑0:Int)<=((T9 (n1+1) (Vl.mk Ak (Ak,Ak,Ak,([],[]),[]) [] [],Vl.mk Ak (Ak,Ak,Ak,([],[]),[]) [] [])).length:Int))<|some [])<|some []
def B79:=bP [] Tryz.func69 ⟨[.Ae Am],[(0, .nl),(1, .v 0 Am)],[],0⟩ ⟨[.Ae Cz],[(0, .AE 0)],[(0, .row 38 0)],1⟩ 1 [] F82 (pt:=lg [(6,[.own 4 38 A_])])
def ta(d:Nat)(c:List (List AH)):Option (List AH):=Ad d (λ(a:Int×Nat) g=>iF ((a.2:Int)<c.length) (Ab (idx c a.2) λe=>Aa .i64 (a.1+(e.length:Int))<|iF (a.1+(e.length:Int)<0) Dc<|g ((a.1+(e.length:Int)),a.2+1))<|Ab (F82 d a.1) λh=>Ad d (λ(b:List AH×Nat) i=>iF ((b.2:Int)<c.length) (Ab (idx c b.2) λf=>Ah (FB b.1+FB f<=4294967296)<|i ((b.1++f),b.2+1))<|some b.1) ((h,0))) ((0,0))
def B80:=bQ [B79] Tryz.func43 [y21] [Cz] ta (la:=lk [(3,⟨[.Ae Am, .nat],[(0, .Al),(3, .v 0 Am),(9, .Al),(10, .Al),(11, .AB 1 301)],[],0⟩),(11,⟨[.Ae Cz, .nat],[(6, .AE 0),(25, .Al),(26, .Al),(27, .AB 1 1101)],[(0, .row 38 0)],1⟩)]) (pt:=lg [(15,[.fz 2])])
def eU(b:Nat)(a:BT):Option (List AH):=Ab (ta b [a.1,a.2]) Ac
def B81:=bQ [B80] Tryz.func190 [BW] [Cz] eU
def F85(d:Nat)(c:BE):Option (List AH):=Ad d (λ(a:List AH×Nat) e=>iF ((a.2:Int)<c.1.length) (Ab (idx c.1 a.2) λf=>Ah (FB a.1+1<=4294967296)<|e ((a.1++[f.2.2]),a.2+1))<|Ad d (λ(b:List AH×Nat) g=>iF ((b.2:Int)<c.2.length) (Ab (idx c.2 b.2) λh=>Ah (FB b.1+1<=4294967296)<|g ((b.1++[h.2]),b.2+1))<|some b.1) ((a.1,0))) (([],0))
def B82:=bQ [] Tryz.func327 [BL] [Cz] F85 (la:=lk [(3,⟨[.Ae Cz, .nat],[(1, .Al),(3, .AE 1),(9, .Al),(10, .Al),(11, .AB 1 301)],[(0, .c 0),(1, .row 38 0)],2⟩),(8,⟨[.Ae Cz, .nat],[(3, .AE 1),(22, .Al),(23, .Al),(24, .AB 1 801)],[(1, .row 38 0)],2⟩)]) (pt:=lg [(2,[.own 3 38 A_]),(12,[.fz 2])])
def F86(c:Nat)(d:Vl):Option (List AH):=Ad c (λ(a:List AH×Nat) g=>iF ((a.2:Int)<(Vl.lists d).length) (Ab (idx (Vl.lists d) (a.2:Int)) λh=>Ab (eU c h) λe=>Ah (FB a.1+FB e<=4294967296)<|g ((a.1++e),a.2+1))<|Ad c (λ(b:List AH×Nat) i=>iF ((b.2:Int)<(Vl.structs d).length) (Ab (idx (Vl.structs d) (b.2:Int)) λj=>Ab (F85 c j) λf=>Ah (FB b.1+FB f<=4294967296)<|i ((b.1++f),b.2+1))<|some b.1) ((a.1,0))) (([],0))
def B83:=bQ [B81,B82] Tryz.func287 [Ba] [Cz] F86 (la:=lk [(3,⟨[.Ae Cz, .nat],[(1, .Al),(3, .AE 1),(9, .Al),(10, .Al),(11, .AB 1 301)],[(0, .c 0),(1, .row 38 0)],2⟩),(8,⟨[.Ae Cz, .nat],[(3, .AE 1),(21, .Al),(22, .Al),(23, .AB 1 801)],[(1, .row 38 0)],2⟩)]) (pt:=lg [(2,[.own 3 38 A_]),(12,[.fz 2])])
def F87(e:Nat):Int×Int×Int×Bool->Option (Int×Int×Bool)|(a,c,b,d)=>Aa .i64 (c+1)<|Aa .i64 (if a>b then a else b)<|some ((c+1),(if b<a then a else b),d)
def B84:=bP [] Tryz.func285 ⟨[.Ae Am, .Ae Am, .Ae Am, .Ae .bool],[(0, .loc 0 0),(1, .v 0 Am)],[(0, .Af 180 [(1, .v 1 Am),(1, .v 2 Am),(1, .v 3 .bool)])],1⟩ ⟨[.Ae Am, .Ae Am, .Ae .bool],[],[(0, .Af 180 [(1, .v 0 Am),(1, .v 1 Am),(1, .v 2 .bool)])],1⟩ 0 [] F87
def wm:A9:=⟨[.Ae Ba, .Ae Am, .Ae Am, .Ae Am, .Ae .bool],[(0, .loc 0 0),(1, .v 0 Ba),(2, .v 1 Am)],[(0, .Af 180 [(1, .v 2 Am),(1, .v 3 Am),(1, .v 4 .bool)])],1⟩
def wh:A9:=⟨[.Ae Am, .Ae Am, .Ae .bool],[],[(0, .Af 180 [(1, .v 0 Am),(1, .v 1 Am),(1, .v 2 .bool)])],1⟩
abbrev yf:Type:=Gl 217 wm wh 0 []
def G85(n:Nat):yf:=Nat.rec (motive:=λ_=>yf) (tP Tryz.func217) (λfu g0=>sP (BO g0::bs [B84,B78,B83] fu) fu Tryz.func217 wm wh 0 [] (la:=lk [(5,⟨[.Ae Am, .Ae Am, .Ae .bool, .nat],(kp [0,2,24,25] [(26, .AB 3 503)]),[(0, .Af 180 [(1, .v 0 Am),(1, .v 1 Am),(1, .v 2 .bool)])],2⟩)])) n
def B85(fu:Nat):=BO (G85 fu)
abbrev s_(fu:Nat)(x:(Vl)×(Int)×(Int)×(Int)×(Bool)):Option (Int×Int×Bool):=(G85 fu).1 x
def D88(c:Nat)(g:Vl)(d:Int)(j:Int)(k:Int)(l:Bool):Option (Int×Int×Bool):=Ab (F87 c (d,j,k,l)) λb=>iF ((16:Int)<d) (Ac ((b.1,b.2.1,Br)))<|Ab (F81 c g) λm=>iB (!m) (Ac ((b.1,b.2.1,Br)))<|Ab (F86 c g) λh=>Ad c (λ(a:Int×Int×Bool×Nat) n=>iF ((a.2.2.2:Int)<h.length) (Ab (idx h a.2.2.2) λi=>Aa .i64 (d+1)<|Ab (s_ c (i.1,(d+1),a.1,a.2.1,a.2.2.1)) λe=>Aa .i64 (d+1)<|Ab (s_ c (i.2,(d+1),e.1,e.2.1,e.2.2)) λf=>n (f.1,f.2.1,f.2.2,a.2.2.2+1))<|some ((a.1,a.2.1,a.2.2.1))) ((b.1,b.2.1,b.2.2,0))
theorem d88(fu x0 x1 x2 x3 x4):s_ (fu+1) (x0,x1,x2,x3,x4)=D88 fu x0 x1 x2 x3 x4:=by kernel_rfl
def F89(c:Nat):Vl×Int×(Int×Int)×Bool->Option (Int×Int×Bool)|(g,d,j)=>Ab (F34 c (d,j)) λb=>iF ((16:Int)<d) (Ac ((b.1,b.2.1,Br)))<|Ab (F81 c g) λk=>iB (!k) (Ac ((b.1,b.2.1,Br)))<|Ab (F86 c g) λh=>Ad c (λ(a:Int×Int×Bool×Nat) l=>iF ((a.2.2.2:Int)<h.length) (Ab (idx h a.2.2.2) λi=>Aa .i64 (d+1)<|Ab (s_ c (i.1,(d+1),a.1,a.2.1,a.2.2.1)) λe=>Aa .i64 (d+1)<|Ab (s_ c (i.2,(d+1),e.1,e.2.1,e.2.2)) λf=>l (f.1,f.2.1,f.2.2,a.2.2.2+1))<|some ((a.1,a.2.1,a.2.2.1))) ((b.1,b.2.1,b.2.2,0))
def B86:=bP [B85,B34,B78,B83] Tryz.func217 ⟨[.Ae Ba, .Ae Am, .Ae (.st y11)],[(0, .loc 0 0),(1, .v 0 Ba),(2, .v 1 Am)],[(0, .Af 180 [(3, .v 2 (.st y11))])],1⟩ ⟨[.Ae Am, .Ae Am, .Ae .bool],[],[(0, .Af 180 [(1, .v 0 Am),(1, .v 1 Am),(1, .v 2 .bool)])],1⟩ 0 [] F89 (la:=lk [(5,⟨[.Ae Am, .Ae Am, .Ae .bool, .nat],(kp [0,2,24,25] [(26, .AB 3 503)]),[(0, .Af 180 [(1, .v 0 Am),(1, .v 1 Am),(1, .v 2 .bool)])],2⟩)])
def F90(b:Nat)(c:Vl):Option (Int×Int×Bool):=Ab (F89 b (c,1,(0,0),Ak)) λa=>Ac (a.1,a.2.1,a.2.2)
def B87:=bP [B86] Tryz.func169 ⟨[.Ae Ba],[(0, .v 0 Ba)],[],0⟩ ⟨[.Ae Am, .Ae Am, .Ae .bool],[(0, .loc 0 0)],[(0, .Af 180 [(1, .v 0 Am),(1, .v 1 Am),(1, .v 2 .bool)])],1⟩ 1 [] F90
def s9(a:Nat)(b:Vl):Option Bool:=Ab (F90 a b) λc=>Ac (!c.2.2)
def B88:=bQ [B87] Tryz.func128 [Ba] [.bool] s9
def F92(a:Nat)(b:AH):Option Bool:=Ab (s9 a b.1) λc=>iB c (Ab (s9 a b.2) Ac)<|some Ak
def B89:=bQ [B88] Tryz.func91 [A_] [.bool] F92
def og(b:Nat)(a:Ff):Option Ff:=Ab (dL b a) λc=>iB (!c) (Ac ((Ak,Ak,Ak,([],[]),[])))<|some a
def B90:=bQ [B77] Tryz.func120 [y8] [y8] og
def vF(c:Nat):Bool×Bool->Option Bool|(a,b)=>iB a (Ac Br)<|some b
def B91:=bQ [] Tryz.func288 [.bool, .bool] [.bool] vF
def F95(b:Nat)(a:Int):Option (List (Int×Int)):=iF (a<0) Dc<|Aa .i64 ((↑0:Int)-(↑0:Int))<|Aa .i64 (a-((↑0:Int)-(↑0:Int)))<|iF ((0:Int)<a-((↑0:Int)-(↑0:Int))) (Ah ((0:Int)<=a-((↑0:Int)-(↑0:Int)))<|qg (ae (a-((↑0:Int)-(↑0:Int)))) (Dc) λn1=>Ah (n1+1<=Aj)<|Ah ((0:Int)<= ↑0/\(↑0:Int)<=((T9 (n1+1) ((0:Int),(0:Int))).length:Int))<|some [])<|some []
def B92:=bP [] Tryz.func385 ⟨[.Ae Am],[(0, .nl),(1, .v 0 Am)],[],0⟩ ⟨[.Ae BJ],[(0, .AE 0)],[(0, .row 67 0)],1⟩ 1 [] F95 (pt:=lg [(6,[.own 4 67 Ew])])
def vE(d:Nat)(c:List (List (Int×Int))):Option (List (Int×Int)):=Ad d (λ(a:Int×Nat) g=>iF ((a.2:Int)<c.length) (Ab (idx c a.2) λe=>Aa .i64 (a.1+(e.length:Int))<|iF (a.1+(e.length:Int)<0) Dc<|g ((a.1+(e.length:Int)),a.2+1))<|Ab (F95 d a.1) λh=>Ad d (λ(b:List (Int×Int)×Nat) i=>iF ((b.2:Int)<c.length) (Ab (idx c b.2) λf=>Ah (FB b.1+FB f<=Aj)<|i ((b.1++f),b.2+1))<|some b.1) ((h,0))) ((0,0))
def B93:=bQ [B92] Tryz.func328 [y23] [BJ] vE (la:=lk [(3,⟨[.Ae Am, .nat],[(0, .Al),(3, .v 0 Am),(9, .Al),(10, .Al),(11, .AB 1 301)],[],0⟩),(11,⟨[.Ae BJ, .nat],[(6, .AE 0),(25, .Al),(26, .Al),(27, .AB 1 1101)],[(0, .row 67 0)],1⟩)]) (pt:=lg [(15,[.fz 2])])
def F97(a:Nat):Be×Be->Option Be|(b,c)=>Ab (vE a [b.1,c.1]) λd=>Ab (vE a [b.2,c.2]) λe=>Ab (WZ a (d,e)) Ac
def B94:=bQ [zu,B93] Tryz.func289 [BR,BR] [BR] F97
def Q4(b:Nat)(a:A4):Option A4:=Ab (vG b a) λc=>iB (!c) (Ac [])<|some a
def u9:=bQ [B54] Tryz.func125 [y3] [y3] Q4
def R96(fu:Nat):=sP (bs [] fu) fu Tryz.func161 ⟨[.Ae Kf],[(0, .v 0 Kf)],[],0⟩ ⟨[.Ae Kf],[(0, .AE 0)],[(0, .row 84 0)],1⟩ 1 [] (pt:=lg [(2,[.own 2 84 Pq])])
def B96(fu:Nat):=BO (R96 fu)
abbrev F99(fu:Nat)(x:List (Int×Int×Int)):Option (List (Int×Int×Int)):=(R96 fu).1 x
theorem d99n(fu:Nat):F99 fu []=Ac []:=by kernel_rfl
theorem d99c(fu:Nat)(x:Int×Int×Int)(l:List (Int×Int×Int)):F99 fu (x::l)=Ah (0+(x::l).length<=Aj) (Ac (x::l)):=by kernel_rfl
def YT(b:Nat)(c:A4):Option A4:=Ad b (λ(a:A4×Nat) e=>iF ((a.2:Int)<c.length) (Ab (idx c a.2) λd=>Ab (F99 b d.2) λf=>Ah (FB a.1+1<=Aj)<|e ((a.1++[(d.1,f)]),a.2+1))<|some a.1) (([],0))
def B97:=bQ [B96] Tryz.func124 [y3] [y3] YT (la:=lk [(3,⟨[.Ae I_, .nat],(kp [2,3,7,8] [(9, .AB 1 301)]),[(2, .Af 27 [(1, .AE 3)]),(1, .c 0),(3, .row 77 0)],4⟩)]) (pt:=lg [(2,[.Cn 3 0 77 Kb]),(7,[.NC 2 0])])
def NZ(d:Nat):A4×Int->Option Bool|(b,a)=>iF ((0:Int)<=a) (iF (a<(b.length:Int)) (Ab (idx b a) λc=>Ac c.1)<|some Ak)<|some Ak
def B98:=bQ [] Tryz.func165 [y3,Am] [.bool] NZ
def uZ(c:Nat):Bool×Bool->Option Bool|(a,b)=>iB a (Ac Br)<|some b
def B99:=bQ [] Tryz.func127 [.bool, .bool] [.bool] uZ
def NY(h:Nat):A4×Int×List Bool->Option (List Bool)|(e,c,d)=>iF (c<0) (Ac d)<|iF ((e.length:Int)<=c) (Ac d)<|Ab (idx e c) λf=>Ad h (λ(b:List Bool×Nat) g=>iF ((b.2:Int)<f.2.length) (Ab (idx f.2 b.2) λa=>Ah ((0:Int)<=a.1/\a.1<(↑256:Int))<|Ah (0+ae a.1*1<256)<|iF (a.2.1<255) (Aa .u8 (a.2.1+1)<|Ah ((0:Int)<=a.2.1+1/\a.2.1+1< ↑256)<|Ah (0+ae (a.2.1+1)*1<256)<|g (((lh b.1 (0+ae a.1*1) Br).set (0+ae (a.2.1+1)*1) Br),b.2+1))<|g ((b.1.set (0+ae a.1*1) Br),b.2+1))<|some b.1) ((d,0))
def vh:=bP [] Tryz.func166 ⟨[.Ae y3, .Ae Am, .Ae (.ar 256 .bool)],[(0, .v 0 y3),(1, .v 1 Am),(2, .loc 0 0)],[(0, .Af 173 [(256, .v 2 (.ar 256 .bool))])],1⟩ ⟨[.Ae (.ar 256 .bool)],[],[(0, .Af 173 [(256, .v 0 (.ar 256 .bool))])],1⟩ 0 [] NY (la:=lk [(3,⟨[.Ae (.ar 256 .bool), .nat],(kp [2,22,23] [(24, .AB 1 301)]),[(0, .Af 173 [(256, .v 0 (.ar 256 .bool))])],2⟩)])
def NX(h:Nat):A4×Int×Int->Option Int|(d,b,e)=>iF (b<0) (Ac ((-1:Int)))<|iF ((d.length:Int)<=b) (Ac ((-1:Int)))<|Ab (idx d b) λf=>Ad h (λ(a:Nat) g=>iF ((a:Int)<f.2.length) (Ab (idx f.2 a) λc=>iF (c.1<=e) (iF (e<=c.2.1) (Ac c.2.2)<|g (a+1))<|g (a+1))<|some ((-1:Int))) (0)
def vg:=bQ [] Tryz.func167 [y3,Am,NH] [Am] NX (la:=lk [(4,⟨[.nat],(kp [2,23,24] [(25, .AB 0 400)]),[],1⟩)])
def uY(e:Nat):(List (Int×Int))×Int×Int->Option Int|(b,c)=>Ad e (λ(a:Nat) f=>iF ((a:Int)<b.length) (Ab (idx b a) λd=>iF (c.1::[c.2]=d.1::[d.2]) (Ac ((a:Int)))<|f (a+1))<|some ((-1:Int))) (0)
def B102:=bQ [] Tryz.func164 [BJ,Ew] [Am] uY (la:=lk [(2,⟨[.nat],(kp [0,3,7] [(8, .AB 0 200)]),[(0, .c 0)],1⟩)])
def YS(d:Nat):(Int×Int)×List (Int×Int)->Option (Int×List (Int×Int))|(b,a)=>Ab (uY d (a,b)) λc=>iF (c<0) (Ah (FB a+1<=Aj)<|some (((a.length:Int),(a++[b]))))<|some (c,a)
def ve:=bP [B102] Tryz.func163 ⟨[.Ae Ew, .Ae BJ],[(0, .v 0 Ew),(1, .loc 0 0)],[(0, .Af 170 [(1, .AE 1)]),(1, .row 169 1)],2⟩ ⟨[.Ae Am, .Ae BJ],[(0, .v 0 Am)],[(0, .Af 170 [(1, .AE 2)]),(2, .row 169 1)],3⟩ 1 [1] YS
def yK(b:Nat):A4×A4->Option A4|(k,l)=>Ab (Q4 b k) λf=>Ab (Q4 b l) λg=>Ad b (λ(c:List (Int×Int)×A4×Nat) m=>iF ((c.2.2:Int)<c.1.length) (Ab (idx c.1 c.2.2) λd=>Ab (NZ b (f,d.1)) λn=>Ab (NZ b (g,d.2)) λo=>Ab (uZ b (n,o)) λp=>Ab (NY b (f,d.1,(lh (T9 256 Ak) 0 Br))) λq=>Ab (NY b (g,d.2,q)) λr=>Ad b (λ(a:List (Int×Int)×List (Int×Int×Int)×Int) h=>iF (a.2.2<256) (Ah ((0:Int)<=a.2.2/\a.2.2<(↑256:Int))<|Ab (idx r (↑(0+ae a.2.2*1):Int)) λs=>iB s (Aa .u8 a.2.2<|Aa .u8 a.2.2<|Ab (NX b (f,d.1,a.2.2)) λt=>Aa .u8 a.2.2<|Ab (NX b (g,d.2,a.2.2)) λu=>Ab (YS b ((t,u),a.1)) λe=>Ah (FB a.2.1+1<=Aj)<|Aa .i64 (((a.2.1++[(a.2.2,0,e.1)]).length:Int)-1)<|Aa .u8 a.2.2<|Ab (idx (a.2.1++[(a.2.2,0,e.1)]) (((a.2.1++[(a.2.2,0,e.1)]).length:Int)-1)) λi=>Aa .i64 (a.2.2+1)<|h (e.2,((a.2.1++[(a.2.2,0,e.1)]).set (ae (((a.2.1++[(a.2.2,0,e.1)]).length:Int)-1)) (i.1,a.2.2,i.2.2)),(a.2.2+1)))<|Aa .i64 ((a.2.1.length:Int)-1)<|Aa .u8 a.2.2<|Ab (idx a.2.1 ((a.2.1.length:Int)-1)) λj=>Aa .i64 (a.2.2+1)<|h (a.1,(a.2.1.set (ae ((a.2.1.length:Int)-1)) (j.1,a.2.2,j.2.2)),(a.2.2+1)))<|Ah (FB c.2.1+1<=Aj)<|m ((a.1,(c.2.1++[(p,a.2.1)]),c.2.2+1))) ((c.1,[],0)))<|Ab (oh b c.2.1) λv=>Ac v.1) (([(0,0)],[],0))
def B104:=bP [u9,B99,ve,B98,vh,vg,B49] Tryz.func126 ⟨[.Ae y3, .Ae y3],[(0, .v 0 y3),(1, .v 1 y3),(2, .AA 127 [] [])],[],0⟩ ⟨[.Ae y3],[(0, .v 0 y3)],[],0⟩ 1 [] yK (la:=lk [(6,⟨[.Ae BJ, .Ae I_, .nat],(kp [2,3,4,6,7,8] [(9, .AE 5),(10, .AB 2 602)]),[(4, .Af 170 [(1, .AE 3)]),(3, .row 169 0),(2, .c 0),(1, .c 0),(0, .c 0),(5, .row 77 1)],6⟩),(14,⟨[.Ae BJ, .Ae Kf, .Ae Am],(kp [2,3,4,6,7,8,9,10,11,12,13] [(54, .v 2 Am)]),[(8, .c 0),(7, .Af 77 [(1, .Al),(1, .AE 9)]),(6, .c 0),(5, .c 0),(4, .Af 170 [(1, .AE 3)]),(3, .row 169 0),(2, .c 0),(1, .c 0),(0, .c 0),(9, .row 84 1)],10⟩)]) (pr:=lg [(21,[.fz 9])]) (pt:=lg [(5,[.own 9 77 Kb]),(13,[.Cn 12 1 84 Pq])])
def Vh(a:Nat):A4×A4->Option A4|(b,c)=>iF ((b.length:Int)=0) (Ab (Q4 a c) λd=>Ab (YT a d) Ac)<|iF ((c.length:Int)=0) (Ab (Q4 a b) λf=>Ab (YT a f) Ac)<|Ab (yK a (b,c)) Ac
def vd:=bQ [B97,u9,B104] Tryz.func90 [y3,y3] [y3] Vh
def uX(a:Nat):Ff×Ff->Option Ff|(d,e)=>Ab (og a d) λb=>Ab (og a e) λc=>Ab (vF a (b.1,c.1)) λf=>Ab (vF a (b.2.1,c.2.1)) λg=>Ab (vF a (b.2.2.1,c.2.2.1)) λh=>Ab (F97 a (b.2.2.2.1,c.2.2.2.1)) λi=>Ab (Vh a (b.2.2.2.2,c.2.2.2.2)) λj=>Ac (f,g,h,i,j)
def B106:=bP [vd,B90,B91,B94] Tryz.func258 ⟨[.Ae y8, .Ae y8],[(0, .v 0 y8),(1, .v 1 y8),(2, .AA 288 [] []),(3, .AA 289 [] []),(4, .AA 90 [] [])],[],0⟩ ⟨[.Ae y8],[(0, .v 0 y8)],[],0⟩ 1 [] uX
def uW(a:Nat):Ff×Ff->Option Ff|(b,c)=>Ab (uX a (b,c)) Ac
def B107:=bQ [B106] Tryz.func218 [y8,y8] [y8] uW
def uV(a:Nat)(b:Ff):Option Ff:=Ab (uW a (b,Ak,Ak,Ak,([],[]),[])) Ac
def B108:=bQ [B107] Tryz.func170 [y8] [y8] uV
def eH(c:Nat):(Int×Int)×Int->Option Int|(a,b)=>iF ((0:Int)<a.1) (Ac a.1)<|iF (a.2<0) (Ac a.2)<|some b
def B109:=bQ [] Tryz.func159 [Ew,Am] [Am] eH
def Vg(c:Nat):Int×Int->Option Bool|(a,b)=>Aa .i64 ((0:Int)-a)<|Aa .i64 (if(0:Int)-a>a then(0:Int)-a else a)<|Aa .i64 ((0:Int)-b)<|Aa .i64 (if(0:Int)-b>b then(0:Int)-b else b)<|iF ((if(0:Int)-a>a then(0:Int)-a else a)<if(0:Int)-b>b then(0:Int)-b else b) (Ac Br)<|iF ((if(0:Int)-a>a then(0:Int)-a else a)=if(0:Int)-b>b then(0:Int)-b else b) (Ac (Ds (b<a)))<|some Ak
def B110:=bQ [] Tryz.func158 [Am,Am] [.bool] Vg
def eG(d:Nat):Int×Bool×Int->Option (Bool×Int)|(a,b,c)=>iB (!b) (Ac ((Br,a)))<|Ab (Vg d (a,c)) λe=>iB e (Ac ((Br,a)))<|some (b,c)
def B111:=bP [B110] Tryz.func157 ⟨[.Ae Am, .Ae .bool, .Ae Am],[(0, .v 0 Am),(1, .loc 0 0),(2, .loc 1 0)],[(0, .Af 4 [(1, .v 1 .bool)]),(1, .Af 2 [(1, .v 2 Am)])],2⟩ ⟨[.Ae .bool, .Ae Am],[],[(0, .Af 4 [(1, .v 0 .bool)]),(1, .Af 2 [(1, .v 1 Am)])],2⟩ 0 [] eG
def Vf(a:Nat)(h:Be):Option (Int×Bool):=Ab (WZ a h) λd=>Ad a (λ(b:Int×Bool×Nat) i=>iF ((b.2.2:Int)<d.1.length) (Ab (idx d.1 b.2.2) λj=>Ab (eH a (j,0)) λe=>Aa .i64 (e*10000)<|Ab (eG a ((e*10000),b.2.1,b.1)) λf=>i (f.2,f.1,b.2.2+1))<|Ad a (λ(c:Int×Bool×Nat) k=>iF ((c.2.2:Int)<d.2.length) (Ab (idx d.2 c.2.2) λl=>Ab (eH a (l,1)) λm=>Ab (eG a (m,c.2.1,c.1)) λg=>k (g.2,g.1,c.2.2+1))<|some ((c.1,c.2.1))) ((b.1,b.2.1,0))) ((0,Ak,0))
def B112:=bQ [zu,B111,B109] Tryz.func121 [BR] [Am, .bool] Vf (la:=lk [(5,⟨[.Ae Am, .Ae .bool, .nat],(kp [4,5,6,7,16,17] [(18, .AB 2 502)]),[(2, .Af 2 [(1, .v 0 Am)]),(3, .Af 4 [(1, .v 1 .bool)]),(1, .c 0)],4⟩),(10,⟨[.Ae Am, .Ae .bool, .nat],(kp [5,6,7,29,30] [(31, .AB 2 1002)]),[(2, .Af 2 [(1, .v 0 Am)]),(3, .Af 4 [(1, .v 1 .bool)])],4⟩)])
def yH(b:Nat)(a:A4):Option A4:=Ac a
def B113:=bP [] Tryz.func211 ⟨[.Ae y3],[(0, .v 0 y3)],[],0⟩ ⟨[.Ae y3],[(0, .AA 274 [] [0])],[(0, .Af 27 [(1, .v 0 y3)])],1⟩ 1 [] yH
def uU(d:Nat):A4×List Bool->Option (List Bool)|(c,g)=>Ah (FB c<=Aj)<|Ad d (λ(a:List Bool×Nat) h=>iF ((a.2:Int)<c.length) (Ab (idx c a.2) λe=>Ad d (λ(b:List Bool×Nat) f=>iF ((b.2:Int)<e.2.length) (Ab (idx e.2 b.2) λi=>Ab (idx b.1 a.2) λj=>iB j (Ab (idx b.1 a.2) λl=>f ((b.1.set a.2 Br),b.2+1))<|Ab (idx g i.2.2) λk=>Ab (idx b.1 a.2) λm=>f ((b.1.set a.2 k),b.2+1))<|h ((b.1,a.2+1))) ((a.1,0)))<|some a.1) (((T9 (FB c) Ak),0))
def B114:=bQ [] Tryz.func275 [y3,Ek] [Ek] uU (la:=lk [(3,⟨[.Ae Ek, .nat],(kp [1,2,5,15] [(16, .AB 1 301)]),[(1, .row 4 0),(0, .c 0)],2⟩),(6,⟨[.Ae Ek, .nat],(kp [1,2,5,6,15,16,24,25] [(26, .AB 1 601)]),[(1, .row 4 0),(0, .c 0)],2⟩)]) (pt:=lg [(11,[.fz 4])])
def uT(c:Nat):List Bool×Bool->Option Int|(b,d)=>Ad c (λ(a:Nat) e=>iF ((a:Int)<b.length) (Ab (idx b a) λf=>iB (d==f) (Ac ((a:Int)))<|e (a+1))<|some ((-1:Int))) (0)
def B115:=bQ [] Tryz.func320 [Ek, .bool] [Am] uT (la:=lk [(2,⟨[.nat],(kp [0,1,7] [(8, .AB 0 200)]),[],0⟩)])
def eF(a:Nat):List Bool×Bool->Option Bool|(b,c)=>Ab (uT a (b,c)) λd=>Ac (Ds ((0:Int)<=d))
def B116:=bQ [B115] Tryz.func276 [Ek, .bool] [.bool] eF
def mZ:A9:=⟨[.Ae Am, .Ae Am, .Ae Pr, .Ae y3, .Ae vL],[(0, .v 0 Am),(1, .v 1 Am),(2, .v 2 Pr),(3, .loc 0 0),(4, .loc 1 0),(5, .loc 2 0),(6, .loc 3 0)],[(0, .Af 252 [(1, .mp 4)]),(1, .Af 27 [(1, .v 3 y3)]),(2, .Af 237 [(1, .AE 5)]),(3, .Af 287 [(1, .AA 321 [] [0,1,2,3])]),(5, .row 148 4)],6⟩
abbrev oe:Type:=GrJ 321 mZ 4 [.str] Br
def ye(n:Nat):oe:=Nat.rec (motive:=λ_=>oe) (tJ Tryz.func321) (λfu g0=>sJ [xP g0] fu Tryz.func321 mZ 4 [.str] Br (la:=lk [(4,⟨[.nat],(kp [1,2,5,6,25,26] [(27, .AB 0 400)]),[(3, .c 0),(2, .c 0),(5, .c 0),(1, .c 0),(0, .c 0)],6⟩),(7,⟨[.Ae Am],(kp [1,2,5,6,12] [(13, .v 0 Am),(25, .Al),(26, .Al),(27, .Al)]),[(6, .c 0),(3, .c 0),(2, .c 0),(5, .c 0),(1, .c 0),(0, .c 0)],7⟩)]) (ct:=lz [(9,15)])) n
def B117(fu:Nat):=xP (ye fu)
abbrev YR(fu:Nat)(x:(Int)×(Int)×(List Int)×A4×(List (List Bool))):Option (List Ay×Option Bool):=(ye fu).1 x
def u5(f:Nat)(l:Int)(b:Int)(a:List Int)(g:A4)(h:List (List Bool)):Option (List Ay×Option Bool):=iF (b=0) (Ac (([(List.map (λn=>UInt8.ofNat (ae n)) a)],Ac Br)))<|Ab (idx g l) λi=>Ad f (λ(d:Nat) j=>iF ((d:Int)<i.2.length) (Ab (idx i.2 d) λe=>Ad f (λ(c:Int) m=>iF (c<=e.2.1) (Aa .i64 (b-1)<|Ab (idx h (b-1)) λo=>Ab (idx o e.2.2) λp=>iB p (Aa .i64 (b-1)<|Ah ((a.length:Int)=a.length/\(a.length:Int)=a.length)<|Aa .u8 c<|Ah (FB a+1<=Aj/\0<1)<|Ab (YR f (e.2.2,(b-1),(a++[c]),g,h)) λk=>xv (λb10=>iB (!b10) (Ac (([],Ac Ak)))<|Aa .i64 (c+1)<|m ((c+1))) (k.1) (k.2))<|j (d+1))<|j (d+1)) (e.1))<|some (([],Ac Br))) (0)
theorem d120(fu x0 x1 x2 x3 x4):YR (fu+1) (x0,x1,x2,x3,x4)=u5 fu x0 x1 x2 x3 x4:=by kernel_rfl
def YQ(c:Nat):A4×Nat×Nat×Int×List (List Bool)->Option (List Ay×Option Bool)|(d,e,f,g,a)=>Ah ((0:Int)<=0/\(0:Int)<f)<|Ab (idx a ((e:Int)+0)) λh=>Ab (idx h 0) λi=>iB (!i) (Ac (([],Ac Br)))<|Ab (YR c (0,g,[],d,a)) λb=>xv (λb4=>Ac (([],Ac b4))) (b.1) b.2
def B118:=bJ [B117] Tryz.func277 ⟨[.Ae y3, .nat, .nat, .Ae Am, .Ae vL],[(0, .v 0 y3),(1, .px [0] (.sub 1 2 Ek)),(2, .v 3 Am),(3, .mp 1),(4, .AE 0)],[(0, .row 148 4)],2⟩ 1 [.str] Br YQ
def TL(b:Nat)(c:A4):Option (List Ay×Bool):=Ad b (λ(d:List Bool×Nat) i=>iF ((d.2:Int)<c.length) (Ab (idx c d.2) λj=>Ah (FB d.1+1<=Aj)<|i ((d.1++[j.1]),d.2+1))<|Ah (0+1<=Aj)<|Ad b (λ(a:List (List Bool)×Int) f=>iF ((0:Int)<c.length) (iF ((0:Int)<a.2) (Aa .i64 (a.2-1)<|Ab (idx a.1 (a.2-1)) λk=>Ab (uU b (c,k)) λe=>Ah (FB a.1+1<=Aj)<|Ab (idx (a.1++[e]) a.2) λl=>Ab (eF b (l,Br)) λm=>iB (!m) (Ac (([],Br)))<|Aa .i64 (a.2+1)<|Aa .i64 (a.2+1)<|Ah (((0:Int)<=a.2/\a.2<a.2+1)/\a.2+1=a.2+1/\a.2+1<=(a.1++[e]).length)<|Ab (YQ b (c,ae a.2,ae (a.2+1-a.2),a.2,(a.1++[e]))) λg=>rG (λb11=>iB (!b11) (Ac (([],Br)))<|Aa .i64 (a.2+1)<|f (((a.1++[e]),(a.2+1)))) (g.1) (g.2))<|Ab (idx a.1 a.2) λn=>Ab (eF b (n,Br)) λo=>iB (!o) (Ac (([],Br)))<|Aa .i64 (a.2+1)<|Aa .i64 (a.2+1)<|Ah (((0:Int)<=a.2/\a.2<a.2+1)/\a.2+1=a.2+1/\a.2+1<=a.1.length)<|Ab (YQ b (c,ae a.2,ae (a.2+1-a.2),a.2,a.1)) λh=>rG (λb15=>iB (!b15) (Ac (([],Br)))<|Aa .i64 (a.2+1)<|f ((a.1,(a.2+1)))) (h.1) (h.2))<|some (([],Br))) (([d.1],0))) (([],0))
def B119:=bI [B114,B116,B118] Tryz.func274 ⟨[.Ae y3],[(0, .Al),(1, .loc 0 0)],[(0, .Af 27 [(1, .v 0 y3)])],1⟩ 0 [.str] TL (la:=lk [(3,⟨[.Ae Ek, .nat],(kp [0,1,3] [(4, .AE 2),(9, .Al),(10, .AB 1 301)]),[(0, .c 0),(2, .row 4 0)],3⟩),(9,⟨[.Ae (.sl Ek), .Ae Am],(kp [0,1] [(3, .AE 4),(6, .v 1 Am)]),[(4, .row 148 0),(0, .c 0)],5⟩)]) (pr:=lg [(7,[.fz 4])]) (pt:=lg [(2,[.own 4 4 .bool])]) (ct:=lz [(13,18)])
def YP(c:Nat):A4×Int->Option (List Ay)|(e,a)=>iF (a<1) (Ac [])<|Ab (Q4 c e) λf=>Ab (yH c f) λg=>Ab (TL (sm c) g) λd=>Iy (λ(y4:Ay) (b:List Ay) h=>Ah (FB b+1<=Aj)<|Aa .i64 (if(1000:Int)<a then(1000:Int)else a)<|iF (((b++[y4]).length:Int)=if(1000:Int)<a then(1000:Int)else a) (Ac ((b++[y4])))<|h ((b++[y4]))) (λi=>Re d.2<|some i) (d.1) ([])
def B120:=bQ [u9,B113,(λn=>B119 (sm n))] Tryz.func160 [y3,Am] [Rb] YP (la:=lk [(5,⟨[.Ae Rb],(kp [3,4,5,12] []),[(0, .c 0),(1, .c 0),(2, .Af 165 [(1, .AE 5)]),(5, .row 9 0)],6⟩)]) (pt:=lg [(4,[.Cn 5 0 9 .str]),(8,[.fz 4])])
def Ve(b:Nat)(c:A4):Option (Ay×Bool):=Ab (YP b (c,1)) λa=>iF ((a.length:Int)=0) (Ac (([],Ak)))<|Ab (idx a 0) λd=>Ac (d,Br)
def B121:=bQ [B120] Tryz.func122 [y3] [.str, .bool] Ve
def uS(b:Nat)(e:Ff):Option (Int×Int×Ay×List Empty×List (Ay×Empty)×Bool):=Ab (og b e) λa=>Ab (Vf b a.2.2.2.1) λc=>Ab (Ve b a.2.2.2.2) λd=>iB a.1 (Ac ((1,0,[],[],[],Br)))<|iB a.2.1 (Ac ((2,0,[],[],[],Br)))<|iB a.2.2.1 (Ac ((2,1,[],[],[],Br)))<|iB c.2 (Ac ((3,c.1,[],[],[],Br)))<|iB d.2 (Ac ((4,0,d.1,[],[],Br)))<|some (0,0,[],[],[],Ak)
def B122:=bP [B90,B112,B121] Tryz.func85 ⟨[.Ae y8],[(0, .v 0 y8)],[],0⟩ ⟨[.Ae Am, .Ae Am, .Ae .str, .Ae (.sl (.nm 1)), .Ae (.sl (.st y25)), .Ae .bool],[(0, .sv [(1,0,Am),(1,1,Am),(1,2, .str),(1,3,(.sl (.nm 1))),(1,4,(.sl (.st y25)))]),(1, .v 5 .bool)],[],0⟩ 2 [] uS
def eE(a:Nat)(b:Ff):Option Bool:=Ab (uS a b) λc=>Ac (!c.2.2.2.2.2)
def B123:=bQ [B122] Tryz.func52 [y8] [.bool] eE
def eD(b:Nat)(a:Vl):Option Bool:=iB (!Vl.any a) (Aa .i64 (((Vl.lists a).length:Int)+((Vl.structs a).length:Int))<|iF (((Vl.lists a).length:Int)+((Vl.structs a).length:Int)=0) (Ab (yt b (Vl.sc a)) λc=>iB c (Ac Br)<|Ab (eE b (Vl.sc a)) Ac)<|some Ak)<|some Ak
def kS:=bQ [B35,B123] Tryz.func33 [Ba] [.bool] eD
def kL(c:Nat):Ff×Ff->Option Bool|(a,b)=>iB (a.1==b.1) (iB (a.2.1==b.2.1) (iB (a.2.2.1==b.2.2.1) (Ab (tc c (a.2.2.2.1.1,b.2.2.2.1.1)) λd=>iB d (Ab (tc c (a.2.2.2.1.2,b.2.2.2.1.2)) λe=>iB e (Ab (yp c (a.2.2.2.2,b.2.2.2.2)) Ac)<|some Ak)<|some Ak)<|some Ak)<|some Ak)<|some Ak
def B125:=bQ [B53,B74] Tryz.func188 [y8,y8] [.bool] kL
def mY:A9:=⟨[.Ae Cz, .Ae Cz],[(0, .v 0 Cz),(1, .v 1 Cz),(2, .AA 96 [] [])],[],0⟩
def mc:A9:=⟨[.Ae .bool],[(0, .v 0 .bool)],[],0⟩
def mX:A9:=⟨[.Ae Ke, .Ae Ke],[(0, .v 0 Ke),(1, .v 1 Ke),(2, .AA 245 [] [])],[],0⟩
def mb:A9:=⟨[.Ae .bool],[(0, .v 0 .bool)],[],0⟩
def mW:A9:=⟨[.Ae I', .Ae I'],[(0, .v 0 I'),(1, .v 1 I'),(2, .AA 247 [] [])],[],0⟩
def ma:A9:=⟨[.Ae .bool],[(0, .v 0 .bool)],[],0⟩
abbrev od:Type:=Gl 189 mY mc 1 []×EM 245 [ED,ED] [.bool]×Gl 244 mX mb 1 []×EM 247 [E',E'] [.bool]×Gl 246 mW ma 1 []×EM 191 [BL,BL] [.bool]×EM 141 [Ba,Ba] [.bool]×EM 96 [A_,A_] [.bool]
def QU(n:Nat):od:=Nat.rec (motive:=λ_=>od) (tP Tryz.func189,tQ Tryz.func245,tP Tryz.func244,tQ Tryz.func247,tP Tryz.func246,tQ Tryz.func191,tQ Tryz.func141,tQ Tryz.func96) (λfu ⟨g0,g1,g2,g3,g4,g5,g6,g7⟩=>(sP [BI g7] fu Tryz.func189 mY mc 1 [] (la:=lk [(4,⟨[.nat],(kp [1,2,15,16] [(17, .AB 0 400)]),[],0⟩)]),sQ [BI g7] fu Tryz.func245 [ED,ED] [.bool],sP [BI g1] fu Tryz.func244 mX mb 1 [] (la:=lk [(4,⟨[.nat],(kp [1,2,15,16] [(17, .AB 0 400)]),[],0⟩)]),sQ (BI g7::bs [B53] fu) fu Tryz.func247 [E',E'] [.bool],sP [BI g3] fu Tryz.func246 mW ma 1 [] (la:=lk [(4,⟨[.nat],(kp [1,2,15,16] [(17, .AB 0 400)]),[],0⟩)]),sQ [BO g2,BO g4] fu Tryz.func191 [BL,BL] [.bool],sQ (BO g0::BI g5::bs [B125,B81] fu) fu Tryz.func141 [Ba,Ba] [.bool] (la:=lk [(4,⟨[.nat],(kp [2,3,42] [(43, .AB 0 400)]),[(1, .c 0),(0, .c 0)],2⟩),(11,⟨[.nat],(kp [2,3,74] [(75, .AB 0 1100)]),[(1, .c 0),(0, .c 0)],2⟩)]),sQ [BI g6] fu Tryz.func96 [A_,A_] [.bool])) n
abbrev uR(fu:Nat)(x:(List AH)×(List AH)):Option Bool:=(QU fu).1.1 x
abbrev kK(fu:Nat)(x:(Ay×Int×AH)×(Ay×Int×AH)):Option Bool:=(QU fu).2.1.1 x
abbrev uQ(fu:Nat)(x:(List (Ay×Int×AH))×(List (Ay×Int×AH))):Option Bool:=(QU fu).2.2.1.1 x
abbrev kJ(fu:Nat)(x:(A4×AH)×(A4×AH)):Option Bool:=(QU fu).2.2.2.1.1 x
abbrev uP(fu:Nat)(x:(List (A4×AH))×(List (A4×AH))):Option Bool:=(QU fu).2.2.2.2.1.1 x
abbrev uO(fu:Nat)(x:BE×BE):Option Bool:=(QU fu).2.2.2.2.2.1.1 x
abbrev eC(fu:Nat)(x:(Vl)×(Vl)):Option Bool:=(QU fu).2.2.2.2.2.2.1.1 x
def B133(fu:Nat):=BI (QU fu).2.2.2.2.2.2.2
abbrev Nx(fu:Nat)(x:AH×AH):Option Bool:=(QU fu).2.2.2.2.2.2.2.1 x
def D129(c:Nat)(b:List AH)(d:List AH):Option Bool:=iF ((b.length:Int)≠d.length) (Ac Ak)<|Ad c (λ(a:Nat) e=>iF ((a:Int)<b.length) (Ab (idx b a) λf=>Ab (idx d a) λg=>Ab (Nx c (f,g)) λh=>iB (!h) (Ac Ak)<|e (a+1))<|some Br) (0)
theorem d129(fu x0 x1):uR (fu+1) (x0,x1)=D129 fu x0 x1:=by kernel_rfl
def D130(c:Nat)(a:Ay×Int×AH)(b:Ay×Int×AH):Option Bool:=iF (a.1=b.1) (iF (a.2.1=b.2.1) (Ab (Nx c (a.2.2,b.2.2)) Ac)<|some Ak)<|some Ak
theorem d130(fu x0 x1):kK (fu+1) (x0,x1)=D130 fu x0 x1:=by kernel_rfl
def D131(c:Nat)(b:List (Ay×Int×AH))(d:List (Ay×Int×AH)):Option Bool:=iF ((b.length:Int)≠d.length) (Ac Ak)<|Ad c (λ(a:Nat) e=>iF ((a:Int)<b.length) (Ab (idx b a) λf=>Ab (idx d a) λg=>Ab (kK c (f,g)) λh=>iB (!h) (Ac Ak)<|e (a+1))<|some Br) (0)
theorem d131(fu x0 x1):uQ (fu+1) (x0,x1)=D131 fu x0 x1:=by kernel_rfl
def zr(a:Nat)(b:A4×AH)(c:A4×AH):Option Bool:=Ab (yp a (b.1,c.1)) λd=>iB d (Ab (Nx a (b.2,c.2)) Ac)<|some Ak
theorem d132(fu x0 x1):kJ (fu+1) (x0,x1)=zr fu x0 x1:=by kernel_rfl
def zq(c:Nat)(b:List (A4×AH))(d:List (A4×AH)):Option Bool:=iF ((b.length:Int)≠d.length) (Ac Ak)<|Ad c (λ(a:Nat) e=>iF ((a:Int)<b.length) (Ab (idx b a) λf=>Ab (idx d a) λg=>Ab (kJ c (f,g)) λh=>iB (!h) (Ac Ak)<|e (a+1))<|some Br) (0)
theorem d133(fu x0 x1):uP (fu+1) (x0,x1)=zq fu x0 x1:=by kernel_rfl
def D134(a:Nat)(b:BE)(c:BE):Option Bool:=Ab (uQ a (b.1,c.1)) λd=>iB d (Ab (uP a (b.2,c.2)) Ac)<|some Ak
theorem d134(fu x0 x1):uO (fu+1) (x0,x1)=D134 fu x0 x1:=by kernel_rfl
def D135(b:Nat)(a:Vl)(c:Vl):Option Bool:=iB (!Vl.any a==Vl.any c) (Ac Ak)<|Ab (kL b (Vl.sc a,Vl.sc c)) λh=>iB (!h) (Ac Ak)<|iF (((Vl.lists a).length:Int)≠((Vl.lists c).length:Int)) (Ac Ak)<|iF (((Vl.structs a).length:Int)≠((Vl.structs c).length:Int)) (Ac Ak)<|Ad b (λ(d:Nat) i=>iF ((d:Int)<(Vl.lists a).length) (Ab (idx (Vl.lists a) (d:Int)) λf=>Ab (idx (Vl.lists c) (d:Int)) λg=>iF ((f.1.length:Int)≠g.1.length) (Ac Ak)<|Ab (eU b f) λj=>Ab (eU b g) λk=>Ab (uR b (j,k)) λl=>iB (!l) (Ac Ak)<|i (d+1))<|Ad b (λ(e:Nat) m=>iF ((e:Int)<(Vl.structs a).length) (Ab (idx (Vl.structs a) (e:Int)) λn=>Ab (idx (Vl.structs c) (e:Int)) λo=>Ab (uO b (n,o)) λp=>iB (!p) (Ac Ak)<|m (e+1))<|some Br) (0)) (0)
theorem d135(fu x0 x1):eC (fu+1) (x0,x1)=D135 fu x0 x1:=by kernel_rfl
def D136(a:Nat)(b:AH)(c:AH):Option Bool:=Ab (eC a (b.1,c.1)) λd=>iB d (Ab (eC a (b.2,c.2)) Ac)<|some Ak
theorem d136(fu x0 x1):Nx (fu+1) (x0,x1)=D136 fu x0 x1:=by kernel_rfl
def eB(a:Nat):AH×AH->Option Bool|(b,c)=>Ab (Nx a (b,c)) Ac
def eJ:=bQ [B133] Tryz.func68 [A_,A_] [.bool] eB
def uN(b:Nat):(A4×AH)×AH->Option (Bool×AH)|(c,a)=>Ab (eB b (c.2,a)) λd=>Ac (d,a)
def B135:=bP [eJ] Tryz.func220 ⟨[.Ae E', .Ae A_],[(0, .v 0 E'),(1, .loc 0 0)],[(0, .Af 38 [(18, .v 1 A_)])],1⟩ ⟨[.Ae .bool, .Ae A_],[(0, .v 0 .bool)],[(0, .Af 38 [(18, .v 1 A_)])],1⟩ 1 [] uN
def uM(d:Nat):(List (A4×AH))×AH->Option (Int×List (A4×AH)×AH)|(b,e)=>Ad d (λ(a:AH×Nat) f=>iF ((a.2:Int)<b.length) (Ab (idx b a.2) λg=>Ab (uN d (g,a.1)) λc=>iB c.1 (Ac (((a.2:Int),b,c.2)))<|f (c.2,a.2+1))<|some (((-1:Int),b,a.1))) ((e,0))
def B136:=bP [B135] Tryz.func219 ⟨[.Ae I', .Ae A_],[(0, .AE 0),(1, .AA 220 [] [1])],[(0, .row 62 0),(1, .Af 38 [(18, .v 1 A_)])],2⟩ ⟨[.Ae Am, .Ae I', .Ae A_],[(0, .v 0 Am)],[(0, .row 62 1),(1, .Af 38 [(18, .v 2 A_)])],2⟩ 1 [] uM (la:=lk [(2,⟨[.Ae A_, .nat],(kp [0,1,7] [(8, .AB 1 201)]),[(1, .Af 38 [(18, .v 0 A_)]),(0, .c 0)],2⟩)])
def uK(c:Nat):Bool×Bool->Option Bool|(a,b)=>iB a (Ac ((!b)))<|some Ak
def B137:=bQ [] Tryz.func339 [.bool, .bool] [.bool] uK
def yG(b:Nat):A4×A4->Option A4|(k,l)=>Ab (Q4 b k) λf=>Ab (Q4 b l) λg=>Ad b (λ(c:List (Int×Int)×A4×Nat) m=>iF ((c.2.2:Int)<c.1.length) (Ab (idx c.1 c.2.2) λd=>Ab (NZ b (f,d.1)) λn=>Ab (NZ b (g,d.2)) λo=>Ab (uK b (n,o)) λp=>Ab (NY b (f,d.1,(lh (T9 256 Ak) 0 Br))) λq=>Ab (NY b (g,d.2,q)) λr=>Ad b (λ(a:List (Int×Int)×List (Int×Int×Int)×Int) h=>iF (a.2.2<256) (Ah ((0:Int)<=a.2.2/\a.2.2<(↑256:Int))<|Ab (idx r (↑(0+ae a.2.2*1):Int)) λs=>iB s (Aa .u8 a.2.2<|Aa .u8 a.2.2<|Ab (NX b (f,d.1,a.2.2)) λt=>Aa .u8 a.2.2<|Ab (NX b (g,d.2,a.2.2)) λu=>Ab (YS b ((t,u),a.1)) λe=>Ah (FB a.2.1+1<=Aj)<|Aa .i64 (((a.2.1++[(a.2.2,0,e.1)]).length:Int)-1)<|Aa .u8 a.2.2<|Ab (idx (a.2.1++[(a.2.2,0,e.1)]) (((a.2.1++[(a.2.2,0,e.1)]).length:Int)-1)) λi=>Aa .i64 (a.2.2+1)<|h (e.2,((a.2.1++[(a.2.2,0,e.1)]).set (ae (((a.2.1++[(a.2.2,0,e.1)]).length:Int)-1)) (i.1,a.2.2,i.2.2)),(a.2.2+1)))<|Aa .i64 ((a.2.1.length:Int)-1)<|Aa .u8 a.2.2<|Ab (idx a.2.1 ((a.2.1.length:Int)-1)) λj=>Aa .i64 (a.2.2+1)<|h (a.1,(a.2.1.set (ae ((a.2.1.length:Int)-1)) (j.1,a.2.2,j.2.2)),(a.2.2+1)))<|Ah (FB c.2.1+1<=Aj)<|m ((a.1,(c.2.1++[(p,a.2.1)]),c.2.2+1))) ((c.1,[],0)))<|Ab (oh b c.2.1) λv=>Ac v.1) (([(0,0)],[],0))
def B138:=bP [u9,ve,B98,vh,vg,B49,B137] Tryz.func126 ⟨[.Ae y3, .Ae y3],[(0, .v 0 y3),(1, .v 1 y3),(2, .AA 339 [] [])],[],0⟩ ⟨[.Ae y3],[(0, .v 0 y3)],[],0⟩ 1 [] yG (la:=lk [(6,⟨[.Ae BJ, .Ae I_, .nat],(kp [2,3,4,6,7,8] [(9, .AE 5),(10, .AB 2 602)]),[(4, .Af 170 [(1, .AE 3)]),(3, .row 169 0),(2, .c 0),(1, .c 0),(0, .c 0),(5, .row 77 1)],6⟩),(14,⟨[.Ae BJ, .Ae Kf, .Ae Am],(kp [2,3,4,6,7,8,9,10,11,12,13] [(54, .v 2 Am)]),[(8, .c 0),(7, .Af 77 [(1, .Al),(1, .AE 9)]),(6, .c 0),(5, .c 0),(4, .Af 170 [(1, .AE 3)]),(3, .row 169 0),(2, .c 0),(1, .c 0),(0, .c 0),(9, .row 84 1)],10⟩)]) (pr:=lg [(21,[.fz 9])]) (pt:=lg [(5,[.own 9 77 Kb]),(13,[.Cn 12 1 84 Pq])])
def YO(a:Nat):A4×A4->Option A4|(b,c)=>iF ((b.length:Int)=0) (Ac [])<|iF ((c.length:Int)=0) (Ab (Q4 a b) λd=>Ab (YT a d) Ac)<|Ab (yG a (b,c)) Ac
def z_:=bQ [B97,u9,B138] Tryz.func292 [y3,y3] [y3] YO
def eA(b:Nat)(a:Int):Option Bool:=Ac (Ds (a≠a))
def B140:=bQ [] Tryz.func340 [Am] [.bool] eA
def Vd(c:Nat):Int×Int->Option Int|(a,b)=>Ab (eA c a) λe=>Ab (eA c b) λd=>iB e (iB d (Ac 0)<|some ((-1:Int)))<|iB d (Ac 1)<|iF (a<b) (Ac ((-1:Int)))<|iF (b<a) (Ac 1)<|some 0
def vb:=bQ [B140] Tryz.func294 [Am,Am] [Am] Vd
def uJ(b:Nat)(a:Ay):Option Bool:=Ac (Bool.rec Br Ak (Ds (a=a)))
def B142:=bQ [] Tryz.func341 [.str] [.bool] uJ
def YN(c:Nat):Ay×Ay->Option Int|(a,b)=>Ab (uJ c a) λe=>Ab (uJ c b) λd=>iB e (iB d (Ac 0)<|some ((-1:Int)))<|iB d (Ac 1)<|iB (fX a b) (Ac ((-1:Int)))<|iB (!(fX a b||decide (a=b))) (Ac 1)<|some 0
def z8:=bQ [B142] Tryz.func295 [.str, .str] [Am] YN
def ew(d:Nat)(b:List Int):Option Int:=Ad d (λ(a:Nat) e=>iF ((a:Int)<b.length) (Ab (idx b a) λc=>iF (c≠0) (Ac c)<|e (a+1))<|some 0) (0)
def B144:=bQ [] Tryz.func293 [FP] [Am] ew (la:=lk [(3,⟨[.nat],(kp [3,6,7] [(8, .AB 0 300)]),[],0⟩)])
def YM(a:Nat):A4×A4->Option Int|(f,g)=>Ab (Q4 a f) λd=>Ab (Q4 a g) λe=>Ab (YO a (d,e)) λh=>Ab (Ve a h) λb=>Ab (YO a (e,d)) λi=>Ab (Ve a i) λc=>iB (!b.2) (iB (!c.2) (Ac 0)<|iB (!c.2) (Ac ((-1:Int)))<|iB (!b.2) (Ac 1)<|Ab (Vd a ((b.1.length:Int),(c.1.length:Int))) λj=>Ab (YN a (b.1,c.1)) λk=>Ab (ew a [j,k]) Ac)<|iB (!c.2) (Ac ((-1:Int)))<|iB (!b.2) (Ac 1)<|Ab (Vd a ((b.1.length:Int),(c.1.length:Int))) λm=>Ab (YN a (b.1,c.1)) λn=>Ab (ew a [m,n]) Ac
def va:=bQ [B121,u9,z_,B144,vb,z8] Tryz.func223 [y3,y3] [Am] YM
def kI(a:Nat):(A4×AH)×A4×AH->Option Int|(b,c)=>Ab (YM a (b.1,c.1)) Ac
def B146:=bQ [va] Tryz.func222 [E',E'] [Am] kI
def D150(fu:Nat)(x0 x1:Int)(x2:List (A4×AH)):=So (λx y=>kI fu (x,y)) fu x0 x1 x2
abbrev yF fu:=u3 (D150 fu)
def B147:=bP [B146] Tryz.func329 ⟨[.Ae Am, .Ae Am, .Ae I'],[(0, .AE 0),(1, .v 0 Am),(2, .v 1 Am),(3, .AA 222 [] [])],[(0, .row 62 2)],1⟩ ⟨[.Ae I'],[],[(0, .row 62 0)],1⟩ 0 [] yF (la:=lk [(1,⟨[.Ae I', .Ae Am],(kp [0,1,2,3] [(8, .v 1 Am)]),[(0, .row 62 0)],1⟩),(4,⟨[.Ae I', .Ae Am],(kp [0,1,2,3,8] [(9, .v 1 Am)]),[(0, .row 62 0)],1⟩)])
def uI(c:Nat):Int×Int×Int×List (A4×AH)->Option (List (A4×AH))|(a,b,d,e)=>Ad c (λ(g:PUnit) h=>Aa .i64 (b-a)<|iF (b-a<=12) (Ab (yF c (a,b,e)) Ac)<|iF (d=0) Dc<|none) (())
def B148:=bP [B147] Tryz.func290 ⟨[.Ae Am, .Ae Am, .Ae Am, .Ae I'],[(0, .AE 0),(1, .v 0 Am),(2, .v 1 Am),(3, .v 2 Am),(4, .AA 222 [] [])],[(0, .row 62 3)],1⟩ ⟨[.Ae I'],[],[(0, .row 62 0)],1⟩ 0 [] uI (la:=lk [(2,⟨[],(kp [0,1,2,3,4,10,11] []),[(0, .c 0)],1⟩)])
def kH(b:Nat)(a:List (A4×AH)):Option (List (A4×AH)):=Ab (td b (Int.ofNat (FB a %xc (18446744073709551616:Int)))) λc=>Ab (uI b (0,(a.length:Int),c,a)) Ac
def B149:=bP [B148,B62] Tryz.func221 ⟨[.Ae I'],[(0, .AE 0),(1, .AA 222 [] [])],[(0, .row 62 0)],1⟩ ⟨[.Ae I'],[],[(0, .row 62 0)],1⟩ 0 [] kH
def YK(f:Nat):BT×Int->Option (AH×Bool)|(a,b)=>iF ((0:Int)<=b) (iF (b<(a.1.length:Int)) (Ab (idx a.1 b) λc=>Ac ((c,Br)))<|iF ((0:Int)<=b) (iF ((0:Int)<a.2.length) (Ab (idx a.2 0) λd=>Ac ((d,Br)))<|some (((Vl.mk Ak (Ak,Ak,Ak,([],[]),[]) [] [],Vl.mk Ak (Ak,Ak,Ak,([],[]),[]) [] []),Ak)))<|some (((Vl.mk Ak (Ak,Ak,Ak,([],[]),[]) [] [],Vl.mk Ak (Ak,Ak,Ak,([],[]),[]) [] []),Ak)))<|iF ((0:Int)<=b) (iF ((0:Int)<a.2.length) (Ab (idx a.2 0) λe=>Ac ((e,Br)))<|some (((Vl.mk Ak (Ak,Ak,Ak,([],[]),[]) [] [],Vl.mk Ak (Ak,Ak,Ak,([],[]),[]) [] []),Ak)))<|some ((Vl.mk Ak (Ak,Ak,Ak,([],[]),[]) [] [],Vl.mk Ak (Ak,Ak,Ak,([],[]),[]) [] []),Ak)
def B150:=bQ [] Tryz.func227 [BW,Am] [A_, .bool] YK
def YJ(c:Nat):Bool×Bool->Option Bool|(a,b)=>iB a (Ac ((!b)))<|some Ak
def B151:=bQ [] Tryz.func302 [.bool, .bool] [.bool] YJ
def yE(a:Nat)(_:Unit):Option Be:=Ac ([((-100000000000:Int),100000000000)],[])
def B152:=bQ [] Tryz.func123 [] [BR] yE (pt:=lg [(1,[.NC 0 0])])
def Vc(a:Nat)(_:Unit):Option Be:=Ab (yE a ()) λb=>Ac (b.1,[((-999999999999999:Int),999999999999999)])
def z7:=bQ [B152] Tryz.func86 [] [BR] Vc (pt:=lg [(3,[.NC 0 1])])
def uH(c:Nat):(List (Int×Int))×Int×Int->Option ((Int×Int)×List (Int×Int))|(a,b)=>Ac (b,a)
def B154:=bP [] Tryz.func414 ⟨[.Ae BJ, .Ae Ew],[(0, .v 0 BJ),(1, .v 1 Ew),(2, .AA 209 [] []),(3, .AA 415 [] [])],[],0⟩ ⟨[.Ae Ew, .Ae BJ],[(0, .AA 438 [] [0,1,2,3])],[(0, .Af 67 [(2, .v 0 Ew)]),(1, .Af 22 [(1, .v 1 BJ)]),(2, .Af 191 [(1, .AA 415 [] [])]),(3, .Af 191 [(1, .AA 209 [] [])])],4⟩ 1 [] uH
def uG(b:Nat)(a:Int):Option Int:=Aa .i64 (a-1)<|some (a-1)
def B155:=bQ [] Tryz.func415 [Am] [Am] uG
def uF(b:Nat):(Int×Int)×List (Int×Int)->Option (List (Int×Int)×Bool)|(c,e)=>Ad b (λ(a:Int×Nat) f=>iF ((a.2:Int)<e.length) (Ab (idx e a.2) λd=>Ab (uG b d.1) λg=>iF (a.1<=g) (IC ((a.1,g)) (Ac (([],Br))) (Ab (ym b d.2) λh=>f ((h,a.2+1))))<|Ab (ym b d.2) λi=>f (i,a.2+1))<|iF (a.1<=c.2) (IC ((a.1,c.2)) (Ac (([],Br))) (Ac (([],Br))))<|some (([],Br))) ((c.1,0))
def B156:=bI [B69,B155] Tryz.func438 ⟨[.Ae Ew, .Ae BJ],[(0, .Al),(1, .loc 0 0),(2, .loc 1 0),(3, .loc 2 0),(4, .loc 3 0)],[(0, .Af 67 [(2, .v 0 Ew)]),(1, .Af 22 [(1, .v 1 BJ)]),(2, .Af 191 [(1, .AA 415 [] [])]),(3, .Af 191 [(1, .AA 209 [] [])])],4⟩ 0 [Ew] uF (la:=lk [(2,⟨[.Ae Am, .nat],(kp [0,1,3,4] [(6, .v 0 Am),(13, .Al),(14, .Al),(15, .AB 1 201)]),[(3, .c 0),(2, .c 0),(0, .c 0),(1, .c 0)],5⟩)])
def uE(e:Nat):(Int×Int)×List (Int×Int)->Option (List (Int×Int)×(Int×Int)×List (Int×Int))|(a,b)=>Ab (uF e (a,b)) λc=>Iy (λ(y2:Int×Int) (d:List (Int×Int)) f=>Ah (FB d+1<=Aj)<|f ((d++[y2]))) (λg=>Re c.2<|some ((g,a,b))) (c.1) ([])
def B157:=bP [B156] Tryz.func437 ⟨[.Ae Ew, .Ae BJ],[(0, .nl),(1, .AA 438 [] [0,1,2,3])],[(0, .Af 67 [(2, .v 0 Ew)]),(1, .Af 22 [(1, .v 1 BJ)]),(2, .Af 191 [(1, .AA 415 [] [])]),(3, .Af 191 [(1, .AA 209 [] [])])],4⟩ ⟨[.Ae BJ, .Ae Ew, .Ae BJ],[(0, .v 0 BJ)],[(0, .Af 67 [(2, .v 1 Ew)]),(1, .Af 22 [(1, .v 2 BJ)]),(2, .Af 191 [(1, .AA 415 [] [])]),(3, .Af 191 [(1, .AA 209 [] [])])],4⟩ 1 [] uE (la:=lk [(2,⟨[.Ae BJ],(kp [2,4,6] []),[(4, .Af 22 [(1, .AE 6)]),(6, .row 67 0)],7⟩)]) (pt:=lg [(1,[.Cn 2 0 67 Ew]),(4,[.fz 4])])
def uD(b:Nat):(Int×Int)×List (Int×Int)->Option (List (Int×Int)×(Int×Int)×List (Int×Int))|(c,d)=>Ab (uE b (c,d)) λa=>Ac (a.1,a.2.1,a.2.2)
def B158:=bP [B157] Tryz.func413 ⟨[.Ae Ew, .Ae BJ],[(0, .AA 438 [] [0,1,2,3])],[(0, .Af 67 [(2, .v 0 Ew)]),(1, .Af 22 [(1, .v 1 BJ)]),(2, .Af 191 [(1, .AA 415 [] [])]),(3, .Af 191 [(1, .AA 209 [] [])])],4⟩ ⟨[.Ae BJ, .Ae Ew, .Ae BJ],[(0, .v 0 BJ)],[(0, .Af 67 [(2, .v 1 Ew)]),(1, .Af 22 [(1, .v 2 BJ)]),(2, .Af 191 [(1, .AA 415 [] [])]),(3, .Af 191 [(1, .AA 209 [] [])])],4⟩ 1 [] uD
def uC(c:Nat):(List (Int×Int))×Int×Int->Option ((Int×Int)×List (Int×Int))|(a,b)=>Ac (b,a)
def B159:=bP [] Tryz.func414 ⟨[.Ae BJ, .Ae Ew],[(0, .v 0 BJ),(1, .v 1 Ew),(2, .AA 210 [] []),(3, .AA 416 [] [])],[],0⟩ ⟨[.Ae Ew, .Ae BJ],[(0, .AA 438 [] [0,1,2,3])],[(0, .Af 67 [(2, .v 0 Ew)]),(1, .Af 22 [(1, .v 1 BJ)]),(2, .Af 191 [(1, .AA 416 [] [])]),(3, .Af 191 [(1, .AA 210 [] [])])],4⟩ 1 [] uC
def uB(b:Nat)(a:Int):Option Int:=Aa .i64 (a-1)<|Ah ((10000:Int)≠0)<|Aa .i64 (ji (a-1) (10000:Int))<|iF (ji (a-1) (10000:Int)=0) (Aa .i64 (a-2)<|some ((a-2)))<|Aa .i64 (a-1)<|some (a-1)
def B160:=bQ [] Tryz.func416 [Am] [Am] uB
def uA(b:Nat):(Int×Int)×List (Int×Int)->Option (List (Int×Int)×Bool)|(c,e)=>Ad b (λ(a:Int×Nat) f=>iF ((a.2:Int)<e.length) (Ab (idx e a.2) λd=>Ab (uB b d.1) λg=>iF (a.1<=g) (IC ((a.1,g)) (Ac (([],Br))) (Ab (yk b d.2) λh=>f ((h,a.2+1))))<|Ab (yk b d.2) λi=>f (i,a.2+1))<|iF (a.1<=c.2) (IC ((a.1,c.2)) (Ac (([],Br))) (Ac (([],Br))))<|some (([],Br))) ((c.1,0))
def B161:=bI [B71,B160] Tryz.func438 ⟨[.Ae Ew, .Ae BJ],[(0, .Al),(1, .loc 0 0),(2, .loc 1 0),(3, .loc 2 0),(4, .loc 3 0)],[(0, .Af 67 [(2, .v 0 Ew)]),(1, .Af 22 [(1, .v 1 BJ)]),(2, .Af 191 [(1, .AA 416 [] [])]),(3, .Af 191 [(1, .AA 210 [] [])])],4⟩ 0 [Ew] uA (la:=lk [(2,⟨[.Ae Am, .nat],(kp [0,1,3,4] [(6, .v 0 Am),(13, .Al),(14, .Al),(15, .AB 1 201)]),[(3, .c 0),(2, .c 0),(0, .c 0),(1, .c 0)],5⟩)])
def uz(e:Nat):(Int×Int)×List (Int×Int)->Option (List (Int×Int)×(Int×Int)×List (Int×Int))|(a,b)=>Ab (uA e (a,b)) λc=>Iy (λ(y2:Int×Int) (d:List (Int×Int)) f=>Ah (FB d+1<=Aj)<|f ((d++[y2]))) (λg=>Re c.2<|some ((g,a,b))) (c.1) ([])
def B162:=bP [B161] Tryz.func437 ⟨[.Ae Ew, .Ae BJ],[(0, .nl),(1, .AA 438 [] [0,1,2,3])],[(0, .Af 67 [(2, .v 0 Ew)]),(1, .Af 22 [(1, .v 1 BJ)]),(2, .Af 191 [(1, .AA 416 [] [])]),(3, .Af 191 [(1, .AA 210 [] [])])],4⟩ ⟨[.Ae BJ, .Ae Ew, .Ae BJ],[(0, .v 0 BJ)],[(0, .Af 67 [(2, .v 1 Ew)]),(1, .Af 22 [(1, .v 2 BJ)]),(2, .Af 191 [(1, .AA 416 [] [])]),(3, .Af 191 [(1, .AA 210 [] [])])],4⟩ 1 [] uz (la:=lk [(2,⟨[.Ae BJ],(kp [2,4,6] []),[(4, .Af 22 [(1, .AE 6)]),(6, .row 67 0)],7⟩)]) (pt:=lg [(1,[.Cn 2 0 67 Ew]),(4,[.fz 4])])
def uy(b:Nat):(Int×Int)×List (Int×Int)->Option (List (Int×Int)×(Int×Int)×List (Int×Int))|(c,d)=>Ab (uz b (c,d)) λa=>Ac (a.1,a.2.1,a.2.2)
def B163:=bP [B162] Tryz.func413 ⟨[.Ae Ew, .Ae BJ],[(0, .AA 438 [] [0,1,2,3])],[(0, .Af 67 [(2, .v 0 Ew)]),(1, .Af 22 [(1, .v 1 BJ)]),(2, .Af 191 [(1, .AA 416 [] [])]),(3, .Af 191 [(1, .AA 210 [] [])])],4⟩ ⟨[.Ae BJ, .Ae Ew, .Ae BJ],[(0, .v 0 BJ)],[(0, .Af 67 [(2, .v 1 Ew)]),(1, .Af 22 [(1, .v 2 BJ)]),(2, .Af 191 [(1, .AA 416 [] [])]),(3, .Af 191 [(1, .AA 210 [] [])])],4⟩ 1 [] uy
def kG(a:Nat)(f:Be):Option Be:=Ab (WZ a f) λb=>Ab (Vc a ()) λc=>Ab (idx c.1 0) λg=>Ab (uH a (b.1,g)) λd=>Ab (uD a (d.1,d.2)) λh=>Ab (idx c.2 0) λi=>Ab (uC a (b.2,i)) λe=>Ab (uy a (e.1,e.2)) λj=>Ab (WZ a (h.1,j.1)) Ac
def B164:=bQ [z7,zu,B158,B163,B154,B159] Tryz.func368 [BR] [BR] kG
def YI(e:Nat):(List (Int×Int))×List (Int×Int)->Option (List (Int×Int))|(f,g)=>Ad e (λ(d:List (Int×Int)×Nat) i=>iF ((d.2:Int)<f.length) (Ab (idx f d.2) λa=>Ad e (λ(c:List (Int×Int)×Nat) h=>iF ((c.2:Int)<g.length) (Ab (idx g c.2) λb=>Aa .i64 (if b.1>a.1 then b.1 else a.1)<|Aa .i64 (if b.2<a.2 then b.2 else a.2)<|iF ((if a.1<b.1 then b.1 else a.1)<=(if b.2<a.2 then b.2 else a.2)) (Ah (FB c.1+1<=Aj)<|h ((c.1++[((if a.1<b.1 then b.1 else a.1),(if b.2<a.2 then b.2 else a.2))]),c.2+1))<|h (c.1,c.2+1))<|i ((c.1,d.2+1))) ((d.1,0)))<|some d.1) (([],0))
def B165:=bQ [] Tryz.func310 [BJ,BJ] [BJ] YI (la:=lk [(3,⟨[.Ae BJ, .nat],[(1, .Al),(5, .AE 0),(11, .Al),(12, .Al),(13, .AB 1 301)],[(0, .row 67 0)],1⟩),(6,⟨[.Ae BJ, .nat],[(1, .Al),(5, .AE 0),(7, .Al),(11, .Al),(12, .Al),(13, .Al),(17, .Al),(18, .Al),(19, .AB 1 601)],[(1, .c 0),(0, .row 67 0)],2⟩)]) (pt:=lg [(2,[.own 5 67 Ew]),(13,[.fz 4])])
def ux(a:Nat):Be×Be->Option Be|(d,e)=>Ab (WZ a d) λb=>Ab (WZ a e) λc=>Ab (YI a (b.1,c.1)) λf=>Ab (YI a (b.2,c.2)) λg=>Ab (WZ a (f,g)) Ac
def B166:=bQ [zu,B165] Tryz.func260 [BR,BR] [BR] ux
def YH(a:Nat):Be×Be->Option Be|(b,c)=>Ab (kG a c) λd=>Ab (ux a (b,d)) Ac
def zZ:=bQ [B166,B164] Tryz.func303 [BR,BR] [BR] YH
def uw(a:Nat):Ff×Ff->Option Ff|(d,e)=>Ab (og a d) λb=>Ab (og a e) λc=>Ab (YJ a (b.1,c.1)) λf=>Ab (YJ a (b.2.1,c.2.1)) λg=>Ab (YJ a (b.2.2.1,c.2.2.1)) λh=>Ab (YH a (b.2.2.2.1,c.2.2.2.1)) λi=>Ab (YO a (b.2.2.2.2,c.2.2.2.2)) λj=>Ac (f,g,h,i,j)
def B168:=bP [B90,z_,B151,zZ] Tryz.func258 ⟨[.Ae y8, .Ae y8],[(0, .v 0 y8),(1, .v 1 y8),(2, .AA 302 [] []),(3, .AA 303 [] []),(4, .AA 292 [] [])],[],0⟩ ⟨[.Ae y8],[(0, .v 0 y8)],[],0⟩ 1 [] uw
def kF(a:Nat):Ff×Ff->Option Ff|(b,c)=>Ab (uw a (b,c)) Ac
def B169:=bQ [B168] Tryz.func236 [y8,y8] [y8] kF
def kE(a:Nat):Ff×Ff->Option Bool|(b,c)=>Ab (kF a (b,c)) λd=>Ab (eE a d) Ac
def B170:=bQ [B123,B169] Tryz.func180 [y8,y8] [.bool] kE
def kD(d:Nat):A4×Ay->Option Bool|(b,e)=>iF ((b.length:Int)=0) (Ac Ak)<|Ab (yr d b) λi=>iB (!i) (Ac Ak)<|Ad d (λ(a:Int×Int) j=>iF (a.2<(e.length:Int)) (Ab (idx b a.1) λg=>Ad d (λ(c:Nat) h=>iF ((c:Int)<g.2.length) (Ab (idx g.2 c) λf=>Ab (Ey e a.2) λk=>iF (f.1<=k) (Ab (Ey e a.2) λl=>iF (l<=f.2.1) (Aa .i64 (a.2+1)<|j (f.2.2,(a.2+1)))<|h (c+1))<|h (c+1))<|some Ak) (0))<|Ab (idx b a.1) λm=>Ac m.1) ((0,0))
def B171:=bQ [B37] Tryz.func299 [y3, .str] [.bool] kD (la:=lk [(5,⟨[.Ae Am, .Ae Am],(kp [1,2] [(5, .v 0 Am),(20, .Al),(21, .v 1 Am)]),[(0, .c 0)],1⟩),(8,⟨[.nat],(kp [1,2,6,20,21,29,30] [(31, .AB 0 800)]),[(0, .c 0)],1⟩)])
def YG(b:Nat):BE×Ay->Option (AH×Int)|(a,f)=>Ad b (λ(c:Nat) h=>iF ((c:Int)<a.1.length) (Ab (idx a.1 c) λd=>iF (d.1=f) (Ac ((d.2.2,d.2.1)))<|h (c+1))<|Ad b (λ(e:Nat) i=>iF ((e:Int)<a.2.length) (Ab (idx a.2 e) λg=>Ab (kD b (g.1,f)) λj=>iB j (Ac ((g.2,3)))<|i (e+1))<|some (((Vl.mk Ak (Ak,Ak,Ak,([],[]),[]) [] [],Vl.mk Ak (Ak,Ak,Ak,([],[]),[]) [] []),3))) (0)) (0)
def B172:=bQ [B171] Tryz.func231 [BL, .str] [A_,Am] YG (la:=lk [(2,⟨[.nat],(kp [1,2,4,11,12] [(13, .AB 0 200)]),[(1, .c 0),(0, .c 0)],2⟩),(8,⟨[.nat],(kp [1,4,27,28] [(29, .AB 0 800)]),[(1, .c 0)],2⟩)])
def uv(c:Nat):Bool×Bool->Option Bool|(a,b)=>iB a (Ac b)<|some Ak
def B173:=bQ [] Tryz.func300 [.bool, .bool] [.bool] uv
def yD(b:Nat):A4×A4->Option A4|(k,l)=>Ab (Q4 b k) λf=>Ab (Q4 b l) λg=>Ad b (λ(c:List (Int×Int)×A4×Nat) m=>iF ((c.2.2:Int)<c.1.length) (Ab (idx c.1 c.2.2) λd=>Ab (NZ b (f,d.1)) λn=>Ab (NZ b (g,d.2)) λo=>Ab (uv b (n,o)) λp=>Ab (NY b (f,d.1,(lh (T9 256 Ak) 0 Br))) λq=>Ab (NY b (g,d.2,q)) λr=>Ad b (λ(a:List (Int×Int)×List (Int×Int×Int)×Int) h=>iF (a.2.2<256) (Ah ((0:Int)<=a.2.2/\a.2.2<(↑256:Int))<|Ab (idx r (↑(0+ae a.2.2*1):Int)) λs=>iB s (Aa .u8 a.2.2<|Aa .u8 a.2.2<|Ab (NX b (f,d.1,a.2.2)) λt=>Aa .u8 a.2.2<|Ab (NX b (g,d.2,a.2.2)) λu=>Ab (YS b ((t,u),a.1)) λe=>Ah (FB a.2.1+1<=Aj)<|Aa .i64 (((a.2.1++[(a.2.2,0,e.1)]).length:Int)-1)<|Aa .u8 a.2.2<|Ab (idx (a.2.1++[(a.2.2,0,e.1)]) (((a.2.1++[(a.2.2,0,e.1)]).length:Int)-1)) λi=>Aa .i64 (a.2.2+1)<|h (e.2,((a.2.1++[(a.2.2,0,e.1)]).set (ae (((a.2.1++[(a.2.2,0,e.1)]).length:Int)-1)) (i.1,a.2.2,i.2.2)),(a.2.2+1)))<|Aa .i64 ((a.2.1.length:Int)-1)<|Aa .u8 a.2.2<|Ab (idx a.2.1 ((a.2.1.length:Int)-1)) λj=>Aa .i64 (a.2.2+1)<|h (a.1,(a.2.1.set (ae ((a.2.1.length:Int)-1)) (j.1,a.2.2,j.2.2)),(a.2.2+1)))<|Ah (FB c.2.1+1<=Aj)<|m ((a.1,(c.2.1++[(p,a.2.1)]),c.2.2+1))) ((c.1,[],0)))<|Ab (oh b c.2.1) λv=>Ac v.1) (([(0,0)],[],0))
def B174:=bP [u9,ve,B98,vh,vg,B49,B173] Tryz.func126 ⟨[.Ae y3, .Ae y3],[(0, .v 0 y3),(1, .v 1 y3),(2, .AA 300 [] [])],[],0⟩ ⟨[.Ae y3],[(0, .v 0 y3)],[],0⟩ 1 [] yD (la:=lk [(6,⟨[.Ae BJ, .Ae I_, .nat],(kp [2,3,4,6,7,8] [(9, .AE 5),(10, .AB 2 602)]),[(4, .Af 170 [(1, .AE 3)]),(3, .row 169 0),(2, .c 0),(1, .c 0),(0, .c 0),(5, .row 77 1)],6⟩),(14,⟨[.Ae BJ, .Ae Kf, .Ae Am],(kp [2,3,4,6,7,8,9,10,11,12,13] [(54, .v 2 Am)]),[(8, .c 0),(7, .Af 77 [(1, .Al),(1, .AE 9)]),(6, .c 0),(5, .c 0),(4, .Af 170 [(1, .AE 3)]),(3, .row 169 0),(2, .c 0),(1, .c 0),(0, .c 0),(9, .row 84 1)],10⟩)]) (pr:=lg [(21,[.fz 9])]) (pt:=lg [(5,[.own 9 77 Kb]),(13,[.Cn 12 1 84 Pq])])
def uu(c:Nat):A4×A4->Option A4|(a,b)=>iF ((a.length:Int)=0) (Ac [])<|iF ((b.length:Int)=0) (Ac [])<|Ab (yD c (a,b)) Ac
def B175:=bQ [B174] Tryz.func232 [y3,y3] [y3] uu
def mV:A9:=⟨[.Ae BW, .Ae BW],[(0, .v 0 BW),(1, .loc 0 0),(2, .loc 1 0)],[(0, .Af 100 [(1, .AA 174 [] [])]),(1, .Af 56 [(2, .v 1 BW)])],2⟩
def l_:A9:=⟨[.Ae .bool, .Ae BW],[(0, .v 0 .bool)],[(0, .Af 100 [(1, .AA 174 [] [])]),(1, .Af 56 [(2, .v 1 BW)])],2⟩
def mU:A9:=⟨[.Ae Ck, .Ae BW],[(0, .v 0 Ck),(1, .AA 238 [] [0,1])],[(0, .Af 100 [(1, .AA 174 [] [])]),(1, .Af 56 [(2, .v 1 BW)])],2⟩
def l9:A9:=⟨[.Ae Am, .Ae BW],[(0, .v 0 Am)],[(0, .Af 100 [(1, .AA 174 [] [])]),(1, .Af 56 [(2, .v 1 BW)])],2⟩
def mT:A9:=⟨[.Ae Ck, .Ae BW],[(0, .v 0 Ck),(1, .AA 238 [] [0,1])],[(0, .Af 100 [(1, .AA 174 [] [])]),(1, .Af 56 [(2, .v 1 BW)])],2⟩
def lZ:A9:=⟨[.Ae .bool, .Ae BW],[(0, .v 0 .bool)],[(0, .Af 100 [(1, .AA 174 [] [])]),(1, .Af 56 [(2, .v 1 BW)])],2⟩
def mQ:A9:=⟨[.Ae Ck, .Ae Ck],[(0, .v 0 Ck),(1, .v 1 Ck),(2, .AA 174 [] [])],[],0⟩
def lY:A9:=⟨[.Ae .bool],[(0, .v 0 .bool)],[],0⟩
def mP:A9:=⟨[.Ae BL, .Ae BL],[(0, .v 0 BL),(1, .loc 0 0),(2, .loc 1 0)],[(0, .Af 90 [(1, .AA 177 [] [])]),(1, .Af 52 [(2, .v 1 BL)])],2⟩
def lX:A9:=⟨[.Ae .bool, .Ae BL],[(0, .v 0 .bool)],[(0, .Af 90 [(1, .AA 177 [] [])]),(1, .Af 52 [(2, .v 1 BL)])],2⟩
def mO:A9:=⟨[.Ae Ci, .Ae BL],[(0, .v 0 Ci),(1, .AA 240 [] [0,1])],[(0, .Af 90 [(1, .AA 177 [] [])]),(1, .Af 52 [(2, .v 1 BL)])],2⟩
def lW:A9:=⟨[.Ae Am, .Ae BL],[(0, .v 0 Am)],[(0, .Af 90 [(1, .AA 177 [] [])]),(1, .Af 52 [(2, .v 1 BL)])],2⟩
def mN:A9:=⟨[.Ae Ci, .Ae BL],[(0, .v 0 Ci),(1, .AA 240 [] [0,1])],[(0, .Af 90 [(1, .AA 177 [] [])]),(1, .Af 52 [(2, .v 1 BL)])],2⟩
def lV:A9:=⟨[.Ae .bool, .Ae BL],[(0, .v 0 .bool)],[(0, .Af 90 [(1, .AA 177 [] [])]),(1, .Af 52 [(2, .v 1 BL)])],2⟩
def mM:A9:=⟨[.Ae Ci, .Ae Ci],[(0, .v 0 Ci),(1, .v 1 Ci),(2, .AA 177 [] [])],[],0⟩
def lU:A9:=⟨[.Ae .bool],[(0, .v 0 .bool)],[],0⟩
abbrev oc:Type:=Gl 238 mV l_ 1 []×Gl 304 mU l9 1 []×Gl 237 mT lZ 1 []×Gl 181 mQ lY 1 []×EM 177 [BL,BL] [.bool]×Gl 240 mP lX 1 []×Gl 305 mO lW 1 []×Gl 239 mN lV 1 []×Gl 182 mM lU 1 []×EM 130 [Ba,Ba] [.bool]×EM 228 [A_,A_] [.bool]×EM 174 [BW,BW] [.bool]
def I7(n:Nat):oc:=Nat.rec (motive:=λ_=>oc) (tP Tryz.func238,tP Tryz.func304,tP Tryz.func237,tP Tryz.func181,tQ Tryz.func177,tP Tryz.func240,tP Tryz.func305,tP Tryz.func239,tP Tryz.func182,tQ Tryz.func130,tQ Tryz.func228,tQ Tryz.func174) (λfu ⟨g0,g1,g2,g3,g4,g5,g6,g7,g8,g9,g10,g11⟩=>(sP [BI g11] fu Tryz.func238 mV l_ 1 [],sP [BO g0] fu Tryz.func304 mU l9 1 [] (la:=lk [(2,⟨[.Ae BW, .nat],(kp [0,1,7] [(8, .AB 1 201)]),[(1, .Af 56 [(2, .v 0 BW)]),(0, .Af 100 [(1, .AA 174 [] [])])],2⟩)]),sP [BO g1] fu Tryz.func237 mT lZ 1 [],sP [BO g2] fu Tryz.func181 mQ lY 1 [] (la:=lk [(2,⟨[.nat],(kp [1,5,9,10] [(11, .AB 0 200)]),[(0, .Af 100 [(1, .AA 174 [] [])])],1⟩)]),sQ (BI g10::bs [B172,B175] fu) fu Tryz.func177 [BL,BL] [.bool] (la:=lk [(2,⟨[.nat],(kp [2,3,28,29] [(30, .AB 0 200)]),[(2, .c 0),(1, .c 0),(0, .c 0)],3⟩),(5,⟨[.nat],(kp [2,3,28,29,30,34,35] [(36, .AB 0 500)]),[(2, .c 0),(1, .c 0),(0, .c 0)],3⟩),(14,⟨[.nat],(kp [3,66,67] [(68, .AB 0 1400)]),[(1, .c 0)],3⟩),(17,⟨[.nat],(kp [3,14,66,67,68,73,74] [(75, .AB 0 1700)]),[(3, .c 0),(1, .c 0)],4⟩)]),sP [BI g4] fu Tryz.func240 mP lX 1 [],sP [BO g5] fu Tryz.func305 mO lW 1 [] (la:=lk [(2,⟨[.Ae BL, .nat],(kp [0,1,7] [(8, .AB 1 201)]),[(1, .Af 52 [(2, .v 0 BL)]),(0, .Af 90 [(1, .AA 177 [] [])])],2⟩)]),sP [BO g6] fu Tryz.func239 mN lV 1 [],sP [BO g7] fu Tryz.func182 mM lU 1 [] (la:=lk [(2,⟨[.nat],(kp [1,5,9,10] [(11, .AB 0 200)]),[(0, .Af 90 [(1, .AA 177 [] [])])],1⟩)]),sQ (BO g3::BO g8::bs [eJ,B170] fu) fu Tryz.func130 [Ba,Ba] [.bool],sQ [BI g9] fu Tryz.func228 [A_,A_] [.bool],sQ (BI g10::bs [B150] fu) fu Tryz.func174 [BW,BW] [.bool] (la:=lk [(5,⟨[.nat],(kp [2,3,41,42] [(43, .AB 0 500)]),[(1, .c 0),(0, .c 0)],2⟩)]))) n
abbrev kC(fu:Nat)(x:BT×BT):Option (Bool×BT):=(I7 fu).1.1 x
abbrev kB(fu:Nat)(x:(List BT)×BT):Option (Int×BT):=(I7 fu).2.1.1 x
abbrev kA(fu:Nat)(x:(List BT)×BT):Option (Bool×BT):=(I7 fu).2.2.1.1 x
abbrev kx(fu:Nat)(x:(List BT)×(List BT)):Option Bool:=(I7 fu).2.2.2.1.1 x
def B180(fu:Nat):=BI (I7 fu).2.2.2.2.1
abbrev Vb(fu:Nat)(x:BE×BE):Option Bool:=(I7 fu).2.2.2.2.1.1 x
abbrev kv(fu:Nat)(x:BE×BE):Option (Bool×BE):=(I7 fu).2.2.2.2.2.1.1 x
abbrev ku(fu:Nat)(x:(List BE)×BE):Option (Int×BE):=(I7 fu).2.2.2.2.2.2.1.1 x
abbrev kq(fu:Nat)(x:(List BE)×BE):Option (Bool×BE):=(I7 fu).2.2.2.2.2.2.2.1.1 x
abbrev ko(fu:Nat)(x:(List BE)×(List BE)):Option Bool:=(I7 fu).2.2.2.2.2.2.2.2.1.1 x
def B185(fu:Nat):=BI (I7 fu).2.2.2.2.2.2.2.2.2.1
abbrev TK(fu:Nat)(x:(Vl)×(Vl)):Option Bool:=(I7 fu).2.2.2.2.2.2.2.2.2.1.1 x
abbrev LA(fu:Nat)(x:AH×AH):Option Bool:=(I7 fu).2.2.2.2.2.2.2.2.2.2.1.1 x
def B187(fu:Nat):=BI (I7 fu).2.2.2.2.2.2.2.2.2.2.2
abbrev Va(fu:Nat)(x:BT×BT):Option Bool:=(I7 fu).2.2.2.2.2.2.2.2.2.2.2.1 x
def D179(b:Nat)(c:BT)(a:BT):Option (Bool×BT):=Ab (Va b (a,c)) λd=>Ac (d,a)
theorem d179(fu x0 x1):kC (fu+1) (x0,x1)=D179 fu x0 x1:=by kernel_rfl
def D180(c:Nat)(d:List BT)(e:BT):Option (Int×BT):=Ad c (λ(a:BT×Nat) f=>iF ((a.2:Int)<d.length) (Ab (idx d a.2) λg=>Ab (kC c (g,a.1)) λb=>iB b.1 (Ac (((a.2:Int),b.2)))<|f (b.2,a.2+1))<|some (((-1:Int),a.1))) ((e,0))
theorem d180(fu x0 x1):kB (fu+1) (x0,x1)=D180 fu x0 x1:=by kernel_rfl
def D181(b:Nat)(c:List BT)(d:BT):Option (Bool×BT):=Ab (kB b (c,d)) λa=>Ac (Ds ((0:Int)<=a.1),a.2)
theorem d181(fu x0 x1):kA (fu+1) (x0,x1)=D181 fu x0 x1:=by kernel_rfl
def D182(b:Nat)(c:List BT)(d:List BT):Option Bool:=Ad b (λ(a:Nat) e=>iF ((a:Int)<c.length) (Ab (idx c a) λf=>Ab (kA b (d,f)) λg=>iB (!g.1) (Ac Ak)<|e (a+1))<|some Br) (0)
theorem d182(fu x0 x1):kx (fu+1) (x0,x1)=D182 fu x0 x1:=by kernel_rfl
def D183(a:Nat)(b:BE)(c:BE):Option Bool:=Ah ((b.1.length:Int)=b.1.length/\(b.1.length:Int)=b.1.length)<|Ad a (λ(e:Nat) o=>iF ((e:Int)< ↑(2)) (Ab (idx [b.1,c.1] (e:Int)) λh=>Ad a (λ(f:Nat) p=>iF ((f:Int)<h.length) (Ab (idx h f) λi=>Ab (YG a (b,i.1)) λj=>Ab (YG a (c,i.1)) λk=>iF (k.2<j.2) (Ac Ak)<|Ab (LA a (j.1,k.1)) λq=>iB (!q) (Ac Ak)<|p (f+1))<|o (e+1)) (0))<|Ad a (λ(g:Nat) r=>iF ((g:Int)<b.2.length) (Ab (idx b.2 g) λl=>Ad a (λ(d:Nat) m=>iF ((d:Int)<c.2.length) (Ab (idx c.2 d) λn=>Ab (LA a (l.2,n.2)) λs=>iB (!s) (Ab (uu a (l.1,n.1)) λt=>iF ((0:Int)<t.length) (Ac Ak)<|m (d+1))<|m (d+1))<|r (g+1)) (0))<|some Br) (0)) (0)
theorem d183(fu x0 x1):Vb (fu+1) (x0,x1)=D183 fu x0 x1:=by kernel_rfl
def D184(b:Nat)(c:BE)(a:BE):Option (Bool×BE):=Ab (Vb b (a,c)) λd=>Ac (d,a)
theorem d184(fu x0 x1):kv (fu+1) (x0,x1)=D184 fu x0 x1:=by kernel_rfl
def D185(c:Nat)(d:List BE)(e:BE):Option (Int×BE):=Ad c (λ(a:BE×Nat) f=>iF ((a.2:Int)<d.length) (Ab (idx d a.2) λg=>Ab (kv c (g,a.1)) λb=>iB b.1 (Ac (((a.2:Int),b.2)))<|f (b.2,a.2+1))<|some (((-1:Int),a.1))) ((e,0))
theorem d185(fu x0 x1):ku (fu+1) (x0,x1)=D185 fu x0 x1:=by kernel_rfl
def D186(b:Nat)(c:List BE)(d:BE):Option (Bool×BE):=Ab (ku b (c,d)) λa=>Ac (Ds ((0:Int)<=a.1),a.2)
theorem d186(fu x0 x1):kq (fu+1) (x0,x1)=D186 fu x0 x1:=by kernel_rfl
def D187(b:Nat)(c:List BE)(d:List BE):Option Bool:=Ad b (λ(a:Nat) e=>iF ((a:Int)<c.length) (Ab (idx c a) λf=>Ab (kq b (d,f)) λg=>iB (!g.1) (Ac Ak)<|e (a+1))<|some Br) (0)
theorem d187(fu x0 x1):ko (fu+1) (x0,x1)=D187 fu x0 x1:=by kernel_rfl
def D188(c:Nat)(b:Vl)(a:Vl):Option Bool:=iB (Vl.any b) (Ac (Vl.any a))<|iB (Vl.any a) (Ac (Vl.any a))<|Ab (eB c ((b,Vl.mk Ak (Ak,Ak,Ak,([],[]),[]) [] []),a,Vl.mk Ak (Ak,Ak,Ak,([],[]),[]) [] [])) λd=>iB d (Ac Br)<|Ab (kE c (Vl.sc b,Vl.sc a)) λe=>iB (!e) (Ac Ak)<|Ab (kx c (Vl.lists b,Vl.lists a)) λf=>iB f (Ab (ko c (Vl.structs b,Vl.structs a)) Ac)<|some Ak
theorem d188(fu x0 x1):TK (fu+1) (x0,x1)=D188 fu x0 x1:=by kernel_rfl
def D189(a:Nat)(b:AH)(c:AH):Option Bool:=Ab (TK a (b.1,c.1)) λd=>iB d (Ab (TK a (b.2,c.2)) Ac)<|some Ak
theorem d189(fu x0 x1):LA (fu+1) (x0,x1)=D189 fu x0 x1:=by kernel_rfl
def D190(b:Nat)(a:BT)(c:BT):Option Bool:=iF ((a.1.length:Int)<c.1.length) (Ac Ak)<|iB (!decide ((0:Int)<c.2.length)) (iF ((c.1.length:Int)<a.1.length) (Ac Ak)<|iF ((0:Int)<a.2.length) (Ac Ak)<|Ad b (λ(d:Nat) f=>iF ((d:Int)<a.1.length) (Ab (idx a.1 d) λg=>Ab (YK b (c,(d:Int))) λh=>Ab (LA b (g,h.1)) λi=>iB (!i) (Ac Ak)<|f (d+1))<|iF ((a.2.length:Int)=0) (Ac Br)<|Ab (idx a.2 0) λj=>Ab (idx c.2 0) λk=>Ab (LA b (j,k)) Ac) (0))<|Ad b (λ(e:Nat) m=>iF ((e:Int)<a.1.length) (Ab (idx a.1 e) λn=>Ab (YK b (c,(e:Int))) λo=>Ab (LA b (n,o.1)) λp=>iB (!p) (Ac Ak)<|m (e+1))<|iF ((a.2.length:Int)=0) (Ac Br)<|Ab (idx a.2 0) λq=>Ab (idx c.2 0) λr=>Ab (LA b (q,r)) Ac) (0)
theorem d190(fu x0 x1):Va (fu+1) (x0,x1)=D190 fu x0 x1:=by kernel_rfl
def uq(b:Nat)(a:BT):Option Vl:=Ac (Vl.mk Ak (Ak,Ak,Ak,([],[]),[]) [a] [])
def B188:=bQ [] Tryz.func175 [BW] [Ba] uq (pt:=lg [(1,[.NC 2 7])])
def kj(c:Nat):Bool×Bool->Option Int|(a,b)=>iB (a==b) (Ac 0)<|iB a (Ac ((-1:Int)))<|some 1
def zY:=bQ [] Tryz.func352 [.bool, .bool] [Am] kj
def uo(c:Nat):Vl×Vl->Option (Int×AH)|(a,b)=>Ab (kj c (Vl.any a,Vl.any b)) λd=>Ac (d,a,b)
def B190:=bP [zY] Tryz.func351 ⟨[.Ae Ba, .Ae Ba],[(0, .loc 0 0),(1, .loc 1 0)],[(0, .Af 33 [(9, .v 0 Ba)]),(1, .Af 33 [(9, .v 1 Ba)])],2⟩ ⟨[.Ae Am, .Ae Ba, .Ae Ba],[(0, .v 0 Am)],[(0, .Af 33 [(9, .v 1 Ba)]),(1, .Af 33 [(9, .v 2 Ba)])],2⟩ 1 [] uo
def Lz(a:Nat):Be×Be->Option Int|(d,e)=>Ab (YH a (d,e)) λf=>Ab (Vf a f) λb=>Ab (YH a (e,d)) λg=>Ab (Vf a g) λc=>iB (!b.2) (iB (!c.2) (Ac 0)<|iB (!c.2) (Ac ((-1:Int)))<|iB b.2 (Ab (Vg a (b.1,c.1)) λh=>iB h (Ac ((-1:Int)))<|some 1)<|some 1)<|iB (!c.2) (Ac ((-1:Int)))<|iB b.2 (Ab (Vg a (b.1,c.1)) λi=>iB i (Ac ((-1:Int)))<|some 1)<|some 1
def B191:=bQ [B112,B110,zZ] Tryz.func301 [BR,BR] [Am] Lz
def TJ(d:Nat):Ff×Ff->Option Int|(a,b)=>Ab (dL d a) λg=>iB (!g) (Ac 0)<|Ab (dL d b) λh=>iB (!h) (Ac 0)<|Ad d (λ(c:Int) i=>iF (c<3) (Ah ((0:Int)<=c/\c<(↑3:Int))<|Ab (idx [(a.1,b.1),(a.2.1,b.2.1),(a.2.2.1,b.2.2.1)] c) λe=>iF ((e.1::[e.2])=(Br::[Ak])) (Ac ((-1:Int)))<|iF ((e.1::[e.2])=(Ak::[Br])) (Ac 1)<|Aa .i64 (c+1)<|i (c+1))<|Ab (Lz d (a.2.2.2.1,b.2.2.2.1)) λf=>iF (f≠0) (Ac f)<|Ab (YM d (a.2.2.2.2,b.2.2.2.2)) Ac) ((0:Int))
def zX:=bQ [B77,va,B191] Tryz.func233 [y8,y8] [Am] TJ (la:=lk [(4,⟨[.Ae Am],(kp [2,3,32] [(33, .v 0 Am)]),[(1, .c 0),(0, .c 0)],2⟩)])
def um(c:Nat):Vl×Vl->Option (Int×AH)|(a,b)=>Ab (TJ c (Vl.sc a,Vl.sc b)) λd=>Ac (d,a,b)
def B193:=bP [zX] Tryz.func353 ⟨[.Ae Ba, .Ae Ba],[(0, .loc 0 0),(1, .loc 1 0)],[(0, .Af 33 [(9, .v 0 Ba)]),(1, .Af 33 [(9, .v 1 Ba)])],2⟩ ⟨[.Ae Am, .Ae Ba, .Ae Ba],[(0, .v 0 Am)],[(0, .Af 33 [(9, .v 1 Ba)]),(1, .Af 33 [(9, .v 2 Ba)])],2⟩ 1 [] um
def uk(c:Nat):BT×BT->Option (Int×BT×BT)|(a,b)=>Ab (Vd c ((a.1.length:Int),(b.1.length:Int))) λd=>Ac (d,a,b)
def B194:=bP [vb] Tryz.func394 ⟨[.Ae BW, .Ae BW],[(0, .loc 0 0),(1, .loc 1 0)],[(0, .Af 56 [(2, .v 0 BW)]),(1, .Af 56 [(2, .v 1 BW)])],2⟩ ⟨[.Ae Am, .Ae BW, .Ae BW],[(0, .v 0 Am)],[(0, .Af 56 [(2, .v 1 BW)]),(1, .Af 56 [(2, .v 2 BW)])],2⟩ 1 [] uk
def uj(c:Nat):BT×BT->Option (Int×BT×BT)|(a,b)=>Ab (kj c (Ds ((0:Int)<a.2.length),Ds ((0:Int)<b.2.length))) λd=>Ac (d,a,b)
def B195:=bP [zY] Tryz.func395 ⟨[.Ae BW, .Ae BW],[(0, .loc 0 0),(1, .loc 1 0)],[(0, .Af 56 [(2, .v 0 BW)]),(1, .Af 56 [(2, .v 1 BW)])],2⟩ ⟨[.Ae Am, .Ae BW, .Ae BW],[(0, .v 0 Am)],[(0, .Af 56 [(2, .v 1 BW)]),(1, .Af 56 [(2, .v 2 BW)])],2⟩ 1 [] uj
def kg(c:Nat):(Ay×Int×AH)×Ay×Int×AH->Option (Int×(Ay×Int×AH)×Ay×Int×AH)|(a,b)=>Ab (YN c (a.1,b.1)) λd=>Ac (d,a,b)
def B196:=bP [z8] Tryz.func402 ⟨[.Ae ED, .Ae ED],[(0, .loc 0 0),(1, .loc 1 0)],[(0, .Af 59 [(20, .v 0 ED)]),(1, .Af 59 [(20, .v 1 ED)])],2⟩ ⟨[.Ae Am, .Ae ED, .Ae ED],[(0, .v 0 Am)],[(0, .Af 59 [(20, .v 1 ED)]),(1, .Af 59 [(20, .v 2 ED)])],2⟩ 1 [] kg
def kf(c:Nat):(Ay×Int×AH)×Ay×Int×AH->Option (Int×(Ay×Int×AH)×Ay×Int×AH)|(a,b)=>Ab (Vd c (a.2.1,b.2.1)) λd=>Ac (d,a,b)
def B197:=bP [vb] Tryz.func403 ⟨[.Ae ED, .Ae ED],[(0, .loc 0 0),(1, .loc 1 0)],[(0, .Af 59 [(20, .v 0 ED)]),(1, .Af 59 [(20, .v 1 ED)])],2⟩ ⟨[.Ae Am, .Ae ED, .Ae ED],[(0, .v 0 Am)],[(0, .Af 59 [(20, .v 1 ED)]),(1, .Af 59 [(20, .v 2 ED)])],2⟩ 1 [] kf
def kc(c:Nat):(A4×AH)×A4×AH->Option (Int×(A4×AH)×A4×AH)|(a,b)=>Ab (YM c (a.1,b.1)) λd=>Ac (d,a,b)
def B198:=bP [va] Tryz.func408 ⟨[.Ae E', .Ae E'],[(0, .loc 0 0),(1, .loc 1 0)],[(0, .Af 62 [(19, .v 0 E')]),(1, .Af 62 [(19, .v 1 E')])],2⟩ ⟨[.Ae Am, .Ae E', .Ae E'],[(0, .v 0 Am)],[(0, .Af 62 [(19, .v 1 E')]),(1, .Af 62 [(19, .v 2 E')])],2⟩ 1 [] kc
def mL:A9:=⟨[.Ae A_, .Ae A_],[(0, .loc 0 0),(1, .loc 1 0)],[(0, .Af 38 [(18, .v 0 A_)]),(1, .Af 38 [(18, .v 1 A_)])],2⟩
def lT:A9:=⟨[.Ae Am, .Ae A_, .Ae A_],[(0, .v 0 Am)],[(0, .Af 38 [(18, .v 1 A_)]),(1, .Af 38 [(18, .v 2 A_)])],2⟩
def mK:A9:=⟨[.Ae A_, .Ae A_],[(0, .loc 0 0),(1, .loc 1 0)],[(0, .Af 38 [(18, .v 0 A_)]),(1, .Af 38 [(18, .v 1 A_)])],2⟩
def lS:A9:=⟨[.Ae Am, .Ae A_, .Ae A_],[(0, .v 0 Am)],[(0, .Af 38 [(18, .v 1 A_)]),(1, .Af 38 [(18, .v 2 A_)])],2⟩
def mI:A9:=⟨[.Ae A_, .Ae A_],[(0, .px [0] (.hc 2))],[(0, .Af 316 [(1, .AA 434 [] [1,2]),(1, .AA 435 [] [1,2])]),(1, .Af 38 [(18, .v 0 A_)]),(2, .Af 38 [(18, .v 1 A_)])],3⟩
def lR:A9:=⟨[.Ae Am, .Ae A_, .Ae A_],[(0, .v 0 Am)],[(0, .Af 316 [(1, .AA 434 [] [1,2]),(1, .AA 435 [] [1,2])]),(1, .Af 38 [(18, .v 1 A_)]),(2, .Af 38 [(18, .v 2 A_)])],3⟩
def mH:A9:=⟨[.Ae Cz, .Ae Cz],[(0, .v 0 Cz),(1, .v 1 Cz),(2, .AA 398 [] [])],[],0⟩
def lQ:A9:=⟨[.Ae Am],[(0, .v 0 Am)],[],0⟩
def mG:A9:=⟨[.Ae BW, .Ae BW],[(0, .loc 0 0),(1, .loc 1 0)],[(0, .Af 56 [(2, .v 0 BW)]),(1, .Af 56 [(2, .v 1 BW)])],2⟩
def lP:A9:=⟨[.Ae Am, .Ae BW, .Ae BW],[(0, .v 0 Am)],[(0, .Af 56 [(2, .v 1 BW)]),(1, .Af 56 [(2, .v 2 BW)])],2⟩
def mF:A9:=⟨[.Ae BW, .Ae BW],[(0, .px [0] (.hc 3))],[(0, .Af 316 [(1, .AA 394 [] [1,2]),(1, .AA 395 [] [1,2]),(1, .AA 396 [] [1,2])]),(1, .Af 56 [(2, .v 0 BW)]),(2, .Af 56 [(2, .v 1 BW)])],3⟩
def lO:A9:=⟨[.Ae Am, .Ae BW, .Ae BW],[(0, .v 0 Am)],[(0, .Af 316 [(1, .AA 394 [] [1,2]),(1, .AA 395 [] [1,2]),(1, .AA 396 [] [1,2])]),(1, .Af 56 [(2, .v 1 BW)]),(2, .Af 56 [(2, .v 2 BW)])],3⟩
def mE:A9:=⟨[.Ae Ck, .Ae Ck],[(0, .v 0 Ck),(1, .v 1 Ck),(2, .AA 356 [] [])],[],0⟩
def lN:A9:=⟨[.Ae Am],[(0, .v 0 Am)],[],0⟩
def mD:A9:=⟨[.Ae Ba, .Ae Ba],[(0, .loc 0 0),(1, .loc 1 0)],[(0, .Af 33 [(9, .v 0 Ba)]),(1, .Af 33 [(9, .v 1 Ba)])],2⟩
def lM:A9:=⟨[.Ae Am, .Ae Ba, .Ae Ba],[(0, .v 0 Am)],[(0, .Af 33 [(9, .v 1 Ba)]),(1, .Af 33 [(9, .v 2 Ba)])],2⟩
def mA:A9:=⟨[.Ae ED, .Ae ED],[(0, .loc 0 0),(1, .loc 1 0)],[(0, .Af 59 [(20, .v 0 ED)]),(1, .Af 59 [(20, .v 1 ED)])],2⟩
def lL:A9:=⟨[.Ae Am, .Ae ED, .Ae ED],[(0, .v 0 Am)],[(0, .Af 59 [(20, .v 1 ED)]),(1, .Af 59 [(20, .v 2 ED)])],2⟩
def mz:A9:=⟨[.Ae ED, .Ae ED],[(0, .px [0] (.hc 3))],[(0, .Af 316 [(1, .AA 402 [] [1,2]),(1, .AA 403 [] [1,2]),(1, .AA 404 [] [1,2])]),(1, .Af 59 [(20, .v 0 ED)]),(2, .Af 59 [(20, .v 1 ED)])],3⟩
def lK:A9:=⟨[.Ae Am, .Ae ED, .Ae ED],[(0, .v 0 Am)],[(0, .Af 316 [(1, .AA 402 [] [1,2]),(1, .AA 403 [] [1,2]),(1, .AA 404 [] [1,2])]),(1, .Af 59 [(20, .v 1 ED)]),(2, .Af 59 [(20, .v 2 ED)])],3⟩
def my:A9:=⟨[.Ae Ke, .Ae Ke],[(0, .v 0 Ke),(1, .v 1 Ke),(2, .AA 401 [] [])],[],0⟩
def lJ:A9:=⟨[.Ae Am],[(0, .v 0 Am)],[],0⟩
def mx:A9:=⟨[.Ae BL, .Ae BL],[(0, .loc 0 0),(1, .loc 1 0)],[(0, .Af 52 [(2, .v 0 BL)]),(1, .Af 52 [(2, .v 1 BL)])],2⟩
def lI:A9:=⟨[.Ae Am, .Ae BL, .Ae BL],[(0, .v 0 Am)],[(0, .Af 52 [(2, .v 1 BL)]),(1, .Af 52 [(2, .v 2 BL)])],2⟩
def mw:A9:=⟨[.Ae E', .Ae E'],[(0, .loc 0 0),(1, .loc 1 0)],[(0, .Af 62 [(19, .v 0 E')]),(1, .Af 62 [(19, .v 1 E')])],2⟩
def lH:A9:=⟨[.Ae Am, .Ae E', .Ae E'],[(0, .v 0 Am)],[(0, .Af 62 [(19, .v 1 E')]),(1, .Af 62 [(19, .v 2 E')])],2⟩
def mv:A9:=⟨[.Ae E', .Ae E'],[(0, .px [0] (.hc 2))],[(0, .Af 316 [(1, .AA 408 [] [1,2]),(1, .AA 409 [] [1,2])]),(1, .Af 62 [(19, .v 0 E')]),(2, .Af 62 [(19, .v 1 E')])],3⟩
def lG:A9:=⟨[.Ae Am, .Ae E', .Ae E'],[(0, .v 0 Am)],[(0, .Af 316 [(1, .AA 408 [] [1,2]),(1, .AA 409 [] [1,2])]),(1, .Af 62 [(19, .v 1 E')]),(2, .Af 62 [(19, .v 2 E')])],3⟩
def mu:A9:=⟨[.Ae I', .Ae I'],[(0, .v 0 I'),(1, .v 1 I'),(2, .AA 407 [] [])],[],0⟩
def lF:A9:=⟨[.Ae Am],[(0, .v 0 Am)],[],0⟩
def mr:A9:=⟨[.Ae BL, .Ae BL],[(0, .loc 0 0),(1, .loc 1 0)],[(0, .Af 52 [(2, .v 0 BL)]),(1, .Af 52 [(2, .v 1 BL)])],2⟩
def lE:A9:=⟨[.Ae Am, .Ae BL, .Ae BL],[(0, .v 0 Am)],[(0, .Af 52 [(2, .v 1 BL)]),(1, .Af 52 [(2, .v 2 BL)])],2⟩
def mq:A9:=⟨[.Ae BL, .Ae BL],[(0, .px [0] (.hc 2))],[(0, .Af 316 [(1, .AA 399 [] [1,2]),(1, .AA 405 [] [1,2])]),(1, .Af 52 [(2, .v 0 BL)]),(2, .Af 52 [(2, .v 1 BL)])],3⟩
def lD:A9:=⟨[.Ae Am, .Ae BL, .Ae BL],[(0, .v 0 Am)],[(0, .Af 316 [(1, .AA 399 [] [1,2]),(1, .AA 405 [] [1,2])]),(1, .Af 52 [(2, .v 1 BL)]),(2, .Af 52 [(2, .v 2 BL)])],3⟩
def mo:A9:=⟨[.Ae Ci, .Ae Ci],[(0, .v 0 Ci),(1, .v 1 Ci),(2, .AA 359 [] [])],[],0⟩
def lC:A9:=⟨[.Ae Am],[(0, .v 0 Am)],[],0⟩
def mn:A9:=⟨[.Ae Ba, .Ae Ba],[(0, .loc 0 0),(1, .loc 1 0)],[(0, .Af 33 [(9, .v 0 Ba)]),(1, .Af 33 [(9, .v 1 Ba)])],2⟩
def lB:A9:=⟨[.Ae Am, .Ae Ba, .Ae Ba],[(0, .v 0 Am)],[(0, .Af 33 [(9, .v 1 Ba)]),(1, .Af 33 [(9, .v 2 Ba)])],2⟩
def ml:A9:=⟨[.Ae Ba, .Ae Ba],[(0, .px [0] (.hc 4))],[(0, .Af 316 [(1, .AA 351 [] [1,2]),(1, .AA 353 [] [1,2]),(1, .AA 354 [] [1,2]),(1, .AA 357 [] [1,2])]),(1, .Af 33 [(9, .v 0 Ba)]),(2, .Af 33 [(9, .v 1 Ba)])],3⟩
def lA:A9:=⟨[.Ae Am, .Ae Ba, .Ae Ba],[(0, .v 0 Am)],[(0, .Af 316 [(1, .AA 351 [] [1,2]),(1, .AA 353 [] [1,2]),(1, .AA 354 [] [1,2]),(1, .AA 357 [] [1,2])]),(1, .Af 33 [(9, .v 1 Ba)]),(2, .Af 33 [(9, .v 2 Ba)])],3⟩
abbrev ob:Type:=Gl 434 mL lT 1 []×Gl 435 mK lS 1 []×Gl 350 mI lR 1 []×EM 398 [A_,A_] [Am]×Gl 397 mH lQ 1 []×Gl 396 mG lP 1 []×Gl 350 mF lO 1 []×EM 356 [BW,BW] [Am]×Gl 355 mE lN 1 []×Gl 354 mD lM 1 []×Gl 404 mA lL 1 []×Gl 350 mz lK 1 []×EM 401 [ED,ED] [Am]×Gl 400 my lJ 1 []×Gl 399 mx lI 1 []×Gl 409 mw lH 1 []×Gl 350 mv lG 1 []×EM 407 [E',E'] [Am]×Gl 406 mu lF 1 []×Gl 405 mr lE 1 []×Gl 350 mq lD 1 []×EM 359 [BL,BL] [Am]×Gl 358 mo lC 1 []×Gl 357 mn lB 1 []×Gl 350 ml lA 1 []×EM 297 [Ba,Ba] [Am]
def Eb(n:Nat):ob:=Nat.rec (motive:=λ_=>ob) (tP Tryz.func434,tP Tryz.func435,tP Tryz.func350,tQ Tryz.func398,tP Tryz.func397,tP Tryz.func396,tP Tryz.func350,tQ Tryz.func356,tP Tryz.func355,tP Tryz.func354,tP Tryz.func404,tP Tryz.func350,tQ Tryz.func401,tP Tryz.func400,tP Tryz.func399,tP Tryz.func409,tP Tryz.func350,tQ Tryz.func407,tP Tryz.func406,tP Tryz.func405,tP Tryz.func350,tQ Tryz.func359,tP Tryz.func358,tP Tryz.func357,tP Tryz.func350,tQ Tryz.func297) (λfu ⟨g0,g1,g2,g3,g4,g5,g6,g7,g8,g9,g10,g11,g12,g13,g14,g15,g16,g17,g18,g19,g20,g21,g22,g23,g24,g25⟩=>(sP [BI g25] fu Tryz.func434 mL lT 1 [],sP [BI g25] fu Tryz.func435 mK lS 1 [],sP [BO g0,BO g1] fu Tryz.func350 mI lR 1 [],sQ [BO g2] fu Tryz.func398 [A_,A_] [Am],sP [BI g3] fu Tryz.func397 mH lQ 1 [] (la:=lk [(2,⟨[.nat],(kp [0,1,2,11,12] [(13, .AB 0 200)]),[],0⟩)]),sP (BO g4::bs [B81] fu) fu Tryz.func396 mG lP 1 [],sP (BO g5::bs [B194,B195] fu) fu Tryz.func350 mF lO 1 [],sQ [BO g6] fu Tryz.func356 [BW,BW] [Am],sP [BI g7] fu Tryz.func355 mE lN 1 [] (la:=lk [(2,⟨[.nat],(kp [0,1,2,11,12] [(13, .AB 0 200)]),[],0⟩)]),sP [BO g8] fu Tryz.func354 mD lM 1 [],sP [BI g3] fu Tryz.func404 mA lL 1 [],sP (BO g10::bs [B196,B197] fu) fu Tryz.func350 mz lK 1 [],sQ [BO g11] fu Tryz.func401 [ED,ED] [Am],sP [BI g12] fu Tryz.func400 my lJ 1 [] (la:=lk [(2,⟨[.nat],(kp [0,1,2,11,12] [(13, .AB 0 200)]),[],0⟩)]),sP [BO g13] fu Tryz.func399 mx lI 1 [],sP [BI g3] fu Tryz.func409 mw lH 1 [],sP (BO g15::bs [B198] fu) fu Tryz.func350 mv lG 1 [],sQ [BO g16] fu Tryz.func407 [E',E'] [Am],sP [BI g17] fu Tryz.func406 mu lF 1 [] (la:=lk [(2,⟨[.nat],(kp [0,1,2,11,12] [(13, .AB 0 200)]),[],0⟩)]),sP [BO g18] fu Tryz.func405 mr lE 1 [],sP [BO g14,BO g19] fu Tryz.func350 mq lD 1 [],sQ [BO g20] fu Tryz.func359 [BL,BL] [Am],sP [BI g21] fu Tryz.func358 mo lC 1 [] (la:=lk [(2,⟨[.nat],(kp [0,1,2,11,12] [(13, .AB 0 200)]),[],0⟩)]),sP [BO g22] fu Tryz.func357 mn lB 1 [],sP (BO g9::BO g23::bs [B190,B193] fu) fu Tryz.func350 ml lA 1 [],sQ [BO g24] fu Tryz.func297 [Ba,Ba] [Am])) n
abbrev ui(fu:Nat)(x:AH×AH):Option (Int×AH×AH):=(Eb fu).1.1 x
abbrev uh(fu:Nat)(x:AH×AH):Option (Int×AH×AH):=(Eb fu).2.1.1 x
abbrev ug(fu:Nat)(x:AH×AH):Option (Int×AH×AH):=(Eb fu).2.2.1.1 x
abbrev YF(fu:Nat)(x:AH×AH):Option Int:=(Eb fu).2.2.2.1.1 x
abbrev uf(fu:Nat)(x:(List AH)×(List AH)):Option Int:=(Eb fu).2.2.2.2.1.1 x
abbrev ue(fu:Nat)(x:BT×BT):Option (Int×BT×BT):=(Eb fu).2.2.2.2.2.1.1 x
abbrev uc(fu:Nat)(x:BT×BT):Option (Int×BT×BT):=(Eb fu).2.2.2.2.2.2.1.1 x
abbrev ua(fu:Nat)(x:BT×BT):Option Int:=(Eb fu).2.2.2.2.2.2.2.1.1 x
abbrev t_(fu:Nat)(x:(List BT)×(List BT)):Option Int:=(Eb fu).2.2.2.2.2.2.2.2.1.1 x
abbrev tZ(fu:Nat)(x:(Vl)×(Vl)):Option (Int×AH):=(Eb fu).2.2.2.2.2.2.2.2.2.1.1 x
abbrev tY(fu:Nat)(x:(Ay×Int×AH)×(Ay×Int×AH)):Option (Int×(Ay×Int×AH)×Ay×Int×AH):=(Eb fu).2.2.2.2.2.2.2.2.2.2.1.1 x
abbrev tX(fu:Nat)(x:(Ay×Int×AH)×(Ay×Int×AH)):Option (Int×(Ay×Int×AH)×Ay×Int×AH):=(Eb fu).2.2.2.2.2.2.2.2.2.2.2.1.1 x
abbrev tW(fu:Nat)(x:(Ay×Int×AH)×(Ay×Int×AH)):Option Int:=(Eb fu).2.2.2.2.2.2.2.2.2.2.2.2.1.1 x
abbrev tU(fu:Nat)(x:(List (Ay×Int×AH))×(List (Ay×Int×AH))):Option Int:=(Eb fu).2.2.2.2.2.2.2.2.2.2.2.2.2.1.1 x
abbrev tT(fu:Nat)(x:BE×BE):Option (Int×BE×BE):=(Eb fu).2.2.2.2.2.2.2.2.2.2.2.2.2.2.1.1 x
abbrev tS(fu:Nat)(x:(A4×AH)×(A4×AH)):Option (Int×(A4×AH)×A4×AH):=(Eb fu).2.2.2.2.2.2.2.2.2.2.2.2.2.2.2.1.1 x
abbrev tR(fu:Nat)(x:(A4×AH)×(A4×AH)):Option (Int×(A4×AH)×A4×AH):=(Eb fu).2.2.2.2.2.2.2.2.2.2.2.2.2.2.2.2.1.1 x
abbrev tO(fu:Nat)(x:(A4×AH)×(A4×AH)):Option Int:=(Eb fu).2.2.2.2.2.2.2.2.2.2.2.2.2.2.2.2.2.1.1 x
abbrev tN(fu:Nat)(x:(List (A4×AH))×(List (A4×AH))):Option Int:=(Eb fu).2.2.2.2.2.2.2.2.2.2.2.2.2.2.2.2.2.2.1.1 x
abbrev tM(fu:Nat)(x:BE×BE):Option (Int×BE×BE):=(Eb fu).2.2.2.2.2.2.2.2.2.2.2.2.2.2.2.2.2.2.2.1.1 x
abbrev tL(fu:Nat)(x:BE×BE):Option (Int×BE×BE):=(Eb fu).2.2.2.2.2.2.2.2.2.2.2.2.2.2.2.2.2.2.2.2.1.1 x
abbrev tK(fu:Nat)(x:BE×BE):Option Int:=(Eb fu).2.2.2.2.2.2.2.2.2.2.2.2.2.2.2.2.2.2.2.2.2.1.1 x
abbrev tI(fu:Nat)(x:(List BE)×(List BE)):Option Int:=(Eb fu).2.2.2.2.2.2.2.2.2.2.2.2.2.2.2.2.2.2.2.2.2.2.1.1 x
abbrev tH(fu:Nat)(x:(Vl)×(Vl)):Option (Int×AH):=(Eb fu).2.2.2.2.2.2.2.2.2.2.2.2.2.2.2.2.2.2.2.2.2.2.2.1.1 x
abbrev tG(fu:Nat)(x:(Vl)×(Vl)):Option (Int×AH):=(Eb fu).2.2.2.2.2.2.2.2.2.2.2.2.2.2.2.2.2.2.2.2.2.2.2.2.1.1 x
def B224(fu:Nat):=BI (Eb fu).2.2.2.2.2.2.2.2.2.2.2.2.2.2.2.2.2.2.2.2.2.2.2.2.2
abbrev ep(fu:Nat)(x:(Vl)×(Vl)):Option Int:=(Eb fu).2.2.2.2.2.2.2.2.2.2.2.2.2.2.2.2.2.2.2.2.2.2.2.2.2.1 x
def D202(c:Nat)(a:AH)(b:AH):Option (Int×AH×AH):=Ab (ep c (a.1,b.1)) λd=>Ac (d,a,b)
theorem d202(fu x0 x1):ui (fu+1) (x0,x1)=D202 fu x0 x1:=by kernel_rfl
def D203(c:Nat)(a:AH)(b:AH):Option (Int×AH×AH):=Ab (ep c (a.2,b.2)) λd=>Ac (d,a,b)
theorem d203(fu x0 x1):uh (fu+1) (x0,x1)=D203 fu x0 x1:=by kernel_rfl
def D204(c:Nat)(d:AH)(e:AH):Option (Int×AH×AH):=iF ((0:Int)< ↑2) (Ah ((0:Int)<=0/\(0:Int)< ↑2)<|Ab (ui c (d,e)) λa=>iF (a.1≠0) (Ac ((a.1,a.2.1,a.2.2)))<|Aa .i64 ((0:Int)+1)<|iF ((0:Int)+1< ↑2) (Ah ((0:Int)<=0+1/\(0:Int)+1< ↑2)<|Ab (uh c (a.2.1,a.2.2)) λb=>iF (b.1≠0) (Ac ((b.1,b.2.1,b.2.2)))<|Aa .i64 ((0:Int)+1+1)<|iF ((0:Int)+1+1< ↑2) (Ah ((0:Int)<=0+1+1/\(0:Int)+1+1< ↑2)<|none)<|some ((0,b.2.1,b.2.2)))<|some ((0,a.2.1,a.2.2)))<|some (0,d,e)
theorem d204(fu x0 x1):ug (fu+1) (x0,x1)=D204 fu x0 x1:=by kernel_rfl
def D205(a:Nat)(b:AH)(c:AH):Option Int:=Ab (ug a (b,c)) λd=>Ac d.1
theorem d205(fu x0 x1):YF (fu+1) (x0,x1)=D205 fu x0 x1:=by kernel_rfl
def D206(d:Nat)(b:List AH)(c:List AH):Option Int:=Ad d (λ(a:Nat) f=>iF ((a:Int)<b.length) (Ab (idx b a) λg=>iF ((c.length:Int)<=a) (Ac 1)<|Ab (idx c a) λh=>Ab (YF d (g,h)) λe=>iF (e≠0) (Ac e)<|f (a+1))<|iF ((b.length:Int)<c.length) (Ac ((-1:Int)))<|some 0) (0)
theorem d206(fu x0 x1):uf (fu+1) (x0,x1)=D206 fu x0 x1:=by kernel_rfl
def D207(a:Nat)(b:BT)(c:BT):Option (Int×BT×BT):=Ab (eU a b) λd=>Ab (eU a c) λe=>Ab (uf a (d,e)) λf=>Ac (f,b,c)
theorem d207(fu x0 x1):ue (fu+1) (x0,x1)=D207 fu x0 x1:=by kernel_rfl
def D208(d:Nat)(e:BT)(f:BT):Option (Int×BT×BT):=iF ((0:Int)< ↑3) (Ah ((0:Int)<=0/\(0:Int)< ↑3)<|Ab (uk d (e,f)) λa=>iF (a.1≠0) (Ac ((a.1,a.2.1,a.2.2)))<|Aa .i64 ((0:Int)+1)<|iF ((0:Int)+1< ↑3) (Ah ((0:Int)<=0+1/\(0:Int)+1< ↑3)<|Ab (uj d (a.2.1,a.2.2)) λb=>iF (b.1≠0) (Ac ((b.1,b.2.1,b.2.2)))<|Aa .i64 ((0:Int)+1+1)<|iF ((0:Int)+1+1< ↑3) (Ah ((0:Int)<=0+1+1/\(0:Int)+1+1< ↑3)<|Ab (ue d (b.2.1,b.2.2)) λc=>iF (c.1≠0) (Ac ((c.1,c.2.1,c.2.2)))<|Aa .i64 ((0:Int)+1+1+1)<|iF ((0:Int)+1+1+1< ↑3) (Ah ((0:Int)<=0+1+1+1/\(0:Int)+1+1+1< ↑3)<|none)<|some ((0,c.2.1,c.2.2)))<|some ((0,b.2.1,b.2.2)))<|some ((0,a.2.1,a.2.2)))<|some (0,e,f)
theorem d208(fu x0 x1):uc (fu+1) (x0,x1)=D208 fu x0 x1:=by kernel_rfl
def D209(a:Nat)(b:BT)(c:BT):Option Int:=Ab (uc a (b,c)) λd=>Ac d.1
theorem d209(fu x0 x1):ua (fu+1) (x0,x1)=D209 fu x0 x1:=by kernel_rfl
def D210(d:Nat)(b:List BT)(c:List BT):Option Int:=Ad d (λ(a:Nat) f=>iF ((a:Int)<b.length) (Ab (idx b a) λg=>iF ((c.length:Int)<=a) (Ac 1)<|Ab (idx c a) λh=>Ab (ua d (g,h)) λe=>iF (e≠0) (Ac e)<|f (a+1))<|iF ((b.length:Int)<c.length) (Ac ((-1:Int)))<|some 0) (0)
theorem d210(fu x0 x1):t_ (fu+1) (x0,x1)=D210 fu x0 x1:=by kernel_rfl
def D211(c:Nat)(a:Vl)(b:Vl):Option (Int×AH):=Ab (t_ c (Vl.lists a,Vl.lists b)) λd=>Ac (d,a,b)
theorem d211(fu x0 x1):tZ (fu+1) (x0,x1)=D211 fu x0 x1:=by kernel_rfl
def zo(c:Nat)(a:Ay×Int×AH)(b:Ay×Int×AH):Option (Int×(Ay×Int×AH)×Ay×Int×AH):=Ab (YF c (a.2.2,b.2.2)) λd=>Ac (d,a,b)
theorem d212(fu x0 x1):tY (fu+1) (x0,x1)=zo fu x0 x1:=by kernel_rfl
def zm(d:Nat)(e:Ay×Int×AH)(f:Ay×Int×AH):Option (Int×(Ay×Int×AH)×Ay×Int×AH):=iF ((0:Int)< ↑3) (Ah ((0:Int)<=0/\(0:Int)< ↑3)<|Ab (kg d (e,f)) λa=>iF (a.1≠0) (Ac ((a.1,a.2.1,a.2.2)))<|Aa .i64 ((0:Int)+1)<|iF ((0:Int)+1< ↑3) (Ah ((0:Int)<=0+1/\(0:Int)+1< ↑3)<|Ab (kf d (a.2.1,a.2.2)) λb=>iF (b.1≠0) (Ac ((b.1,b.2.1,b.2.2)))<|Aa .i64 ((0:Int)+1+1)<|iF ((0:Int)+1+1< ↑3) (Ah ((0:Int)<=0+1+1/\(0:Int)+1+1< ↑3)<|Ab (tY d (b.2.1,b.2.2)) λc=>iF (c.1≠0) (Ac ((c.1,c.2.1,c.2.2)))<|Aa .i64 ((0:Int)+1+1+1)<|iF ((0:Int)+1+1+1< ↑3) (Ah ((0:Int)<=0+1+1+1/\(0:Int)+1+1+1< ↑3)<|none)<|some ((0,c.2.1,c.2.2)))<|some ((0,b.2.1,b.2.2)))<|some ((0,a.2.1,a.2.2)))<|some (0,e,f)
theorem d213(fu x0 x1):tX (fu+1) (x0,x1)=zm fu x0 x1:=by kernel_rfl
def D214(a:Nat)(b:Ay×Int×AH)(c:Ay×Int×AH):Option Int:=Ab (tX a (b,c)) λd=>Ac d.1
theorem d214(fu x0 x1):tW (fu+1) (x0,x1)=D214 fu x0 x1:=by kernel_rfl
def zl(d:Nat)(b:List (Ay×Int×AH))(c:List (Ay×Int×AH)):Option Int:=Ad d (λ(a:Nat) f=>iF ((a:Int)<b.length) (Ab (idx b a) λg=>iF ((c.length:Int)<=a) (Ac 1)<|Ab (idx c a) λh=>Ab (tW d (g,h)) λe=>iF (e≠0) (Ac e)<|f (a+1))<|iF ((b.length:Int)<c.length) (Ac ((-1:Int)))<|some 0) (0)
theorem d215(fu x0 x1):tU (fu+1) (x0,x1)=zl fu x0 x1:=by kernel_rfl
def zk(c:Nat)(a:BE)(b:BE):Option (Int×BE×BE):=Ab (tU c (a.1,b.1)) λd=>Ac (d,a,b)
theorem d216(fu x0 x1):tT (fu+1) (x0,x1)=zk fu x0 x1:=by kernel_rfl
def zj(c:Nat)(a:A4×AH)(b:A4×AH):Option (Int×(A4×AH)×A4×AH):=Ab (YF c (a.2,b.2)) λd=>Ac (d,a,b)
theorem d217(fu x0 x1):tS (fu+1) (x0,x1)=zj fu x0 x1:=by kernel_rfl
def zi(c:Nat)(d:A4×AH)(e:A4×AH):Option (Int×(A4×AH)×A4×AH):=iF ((0:Int)< ↑2) (Ah ((0:Int)<=0/\(0:Int)< ↑2)<|Ab (kc c (d,e)) λa=>iF (a.1≠0) (Ac ((a.1,a.2.1,a.2.2)))<|Aa .i64 ((0:Int)+1)<|iF ((0:Int)+1< ↑2) (Ah ((0:Int)<=0+1/\(0:Int)+1< ↑2)<|Ab (tS c (a.2.1,a.2.2)) λb=>iF (b.1≠0) (Ac ((b.1,b.2.1,b.2.2)))<|Aa .i64 ((0:Int)+1+1)<|iF ((0:Int)+1+1< ↑2) (Ah ((0:Int)<=0+1+1/\(0:Int)+1+1< ↑2)<|none)<|some ((0,b.2.1,b.2.2)))<|some ((0,a.2.1,a.2.2)))<|some (0,d,e)
theorem d218(fu x0 x1):tR (fu+1) (x0,x1)=zi fu x0 x1:=by kernel_rfl
def D219(a:Nat)(b:A4×AH)(c:A4×AH):Option Int:=Ab (tR a (b,c)) λd=>Ac d.1
theorem d219(fu x0 x1):tO (fu+1) (x0,x1)=D219 fu x0 x1:=by kernel_rfl
def zh(d:Nat)(b:List (A4×AH))(c:List (A4×AH)):Option Int:=Ad d (λ(a:Nat) f=>iF ((a:Int)<b.length) (Ab (idx b a) λg=>iF ((c.length:Int)<=a) (Ac 1)<|Ab (idx c a) λh=>Ab (tO d (g,h)) λe=>iF (e≠0) (Ac e)<|f (a+1))<|iF ((b.length:Int)<c.length) (Ac ((-1:Int)))<|some 0) (0)
theorem d220(fu x0 x1):tN (fu+1) (x0,x1)=zh fu x0 x1:=by kernel_rfl
def zg(c:Nat)(a:BE)(b:BE):Option (Int×BE×BE):=Ab (tN c (a.2,b.2)) λd=>Ac (d,a,b)
theorem d221(fu x0 x1):tM (fu+1) (x0,x1)=zg fu x0 x1:=by kernel_rfl
def zf(c:Nat)(d:BE)(e:BE):Option (Int×BE×BE):=iF ((0:Int)< ↑2) (Ah ((0:Int)<=0/\(0:Int)< ↑2)<|Ab (tT c (d,e)) λa=>iF (a.1≠0) (Ac ((a.1,a.2.1,a.2.2)))<|Aa .i64 ((0:Int)+1)<|iF ((0:Int)+1< ↑2) (Ah ((0:Int)<=0+1/\(0:Int)+1< ↑2)<|Ab (tM c (a.2.1,a.2.2)) λb=>iF (b.1≠0) (Ac ((b.1,b.2.1,b.2.2)))<|Aa .i64 ((0:Int)+1+1)<|iF ((0:Int)+1+1< ↑2) (Ah ((0:Int)<=0+1+1/\(0:Int)+1+1< ↑2)<|none)<|some ((0,b.2.1,b.2.2)))<|some ((0,a.2.1,a.2.2)))<|some (0,d,e)
theorem d222(fu x0 x1):tL (fu+1) (x0,x1)=zf fu x0 x1:=by kernel_rfl
def D223(a:Nat)(b:BE)(c:BE):Option Int:=Ab (tL a (b,c)) λd=>Ac d.1
theorem d223(fu x0 x1):tK (fu+1) (x0,x1)=D223 fu x0 x1:=by kernel_rfl
def ze(d:Nat)(b:List BE)(c:List BE):Option Int:=Ad d (λ(a:Nat) f=>iF ((a:Int)<b.length) (Ab (idx b a) λg=>iF ((c.length:Int)<=a) (Ac 1)<|Ab (idx c a) λh=>Ab (tK d (g,h)) λe=>iF (e≠0) (Ac e)<|f (a+1))<|iF ((b.length:Int)<c.length) (Ac ((-1:Int)))<|some 0) (0)
theorem d224(fu x0 x1):tI (fu+1) (x0,x1)=ze fu x0 x1:=by kernel_rfl
def zc(c:Nat)(a:Vl)(b:Vl):Option (Int×AH):=Ab (tI c (Vl.structs a,Vl.structs b)) λd=>Ac (d,a,b)
theorem d225(fu x0 x1):tH (fu+1) (x0,x1)=zc fu x0 x1:=by kernel_rfl
def D226(e:Nat)(f:Vl)(g:Vl):Option (Int×AH):=iF ((0:Int)< ↑4) (Ah ((0:Int)<=0/\(0:Int)< ↑4)<|Ab (uo e (f,g)) λa=>iF (a.1≠0) (Ac ((a.1,a.2.1,a.2.2)))<|Aa .i64 ((0:Int)+1)<|iF ((0:Int)+1< ↑4) (Ah ((0:Int)<=0+1/\(0:Int)+1< ↑4)<|Ab (um e (a.2.1,a.2.2)) λb=>iF (b.1≠0) (Ac ((b.1,b.2.1,b.2.2)))<|Aa .i64 ((0:Int)+1+1)<|iF ((0:Int)+1+1< ↑4) (Ah ((0:Int)<=0+1+1/\(0:Int)+1+1< ↑4)<|Ab (tZ e (b.2.1,b.2.2)) λc=>iF (c.1≠0) (Ac ((c.1,c.2.1,c.2.2)))<|Aa .i64 ((0:Int)+1+1+1)<|iF ((0:Int)+1+1+1< ↑4) (Ah ((0:Int)<=0+1+1+1/\(0:Int)+1+1+1< ↑4)<|Ab (tH e (c.2.1,c.2.2)) λd=>iF (d.1≠0) (Ac ((d.1,d.2.1,d.2.2)))<|Aa .i64 ((0:Int)+1+1+1+1)<|iF ((0:Int)+1+1+1+1< ↑4) (Ah ((0:Int)<=0+1+1+1+1/\(0:Int)+1+1+1+1< ↑4)<|none)<|some ((0,d.2.1,d.2.2)))<|some ((0,c.2.1,c.2.2)))<|some ((0,b.2.1,b.2.2)))<|some ((0,a.2.1,a.2.2)))<|some (0,f,g)
theorem d226(fu x0 x1):tG (fu+1) (x0,x1)=D226 fu x0 x1:=by kernel_rfl
def D227(a:Nat)(b:Vl)(c:Vl):Option Int:=Ab (tG a (b,c)) λd=>Ac d.1
theorem d227(fu x0 x1):ep (fu+1) (x0,x1)=D227 fu x0 x1:=by kernel_rfl
def j_(a:Nat):Vl×Vl->Option Int|(b,c)=>Ab (s9 a b) λd=>iB (!d) (Ac 0)<|Ab (s9 a c) λe=>iB (!e) (Ac 0)<|Ab (ep a (b,c)) Ac
def zW:=bQ [B88,B224] Tryz.func226 [Ba,Ba] [Am] j_
def eo(a:Nat):BT×BT->Option Int|(b,c)=>Ab (uq a b) λd=>Ab (uq a c) λe=>Ab (j_ a (d,e)) Ac
def B226:=bP [B188,zW] Tryz.func225 ⟨[.Ae BW, .Ae BW],[(0, .v 0 BW),(1, .v 1 BW),(2, .loc 0 0)],[(0, .Af 99 [(1, .AA 175 [] [])])],1⟩ ⟨[.Ae Am],[(0, .v 0 Am)],[(0, .Af 99 [(1, .AA 175 [] [])])],1⟩ 1 [] eo
def D230(fu:Nat)(x0 x1:Int)(x2:List BT):=So (λx y=>eo fu (x,y)) fu x0 x1 x2
abbrev yy fu:=u3 (D230 fu)
def B227:=bP [B226] Tryz.func342 ⟨[.Ae Am, .Ae Am, .Ae Ck],[(0, .AE 0),(1, .v 0 Am),(2, .v 1 Am),(3, .AA 225 [] [1])],[(0, .row 56 2),(1, .Af 99 [(1, .AA 175 [] [])])],2⟩ ⟨[.Ae Ck],[],[(0, .row 56 0),(1, .Af 99 [(1, .AA 175 [] [])])],2⟩ 0 [] yy (la:=lk [(1,⟨[.Ae Ck, .Ae Am],(kp [0,1,2,3] [(8, .v 1 Am)]),[(1, .Af 99 [(1, .AA 175 [] [])]),(0, .row 56 0)],2⟩),(4,⟨[.Ae Ck, .Ae Am],(kp [0,1,2,3,8] [(9, .v 1 Am)]),[(1, .Af 99 [(1, .AA 175 [] [])]),(0, .row 56 0)],2⟩)])
def tF(c:Nat):Int×Int×Int×List BT->Option (List BT)|(a,b,d,e)=>Ad c (λ(g:PUnit) h=>Aa .i64 (b-a)<|iF (b-a<=12) (Ab (yy c (a,b,e)) Ac)<|iF (d=0) Dc<|none) (())
def B228:=bP [B227] Tryz.func296 ⟨[.Ae Am, .Ae Am, .Ae Am, .Ae Ck],[(0, .AE 0),(1, .v 0 Am),(2, .v 1 Am),(3, .v 2 Am),(4, .AA 225 [] [1])],[(0, .row 56 3),(1, .Af 99 [(1, .AA 175 [] [])])],2⟩ ⟨[.Ae Ck],[],[(0, .row 56 0),(1, .Af 99 [(1, .AA 175 [] [])])],2⟩ 0 [] tF (la:=lk [(2,⟨[],(kp [0,1,2,3,4,10,11] []),[(1, .c 0),(0, .c 0)],2⟩)])
def ej(b:Nat)(a:List BT):Option (List BT):=Ab (td b (Int.ofNat (FB a %xc (18446744073709551616:Int)))) λc=>Ab (tF b (0,(a.length:Int),c,a)) Ac
def B229:=bP [B62,B228] Tryz.func224 ⟨[.Ae Ck],[(0, .AE 0),(1, .AA 225 [] [1])],[(0, .row 56 0),(1, .Af 99 [(1, .AA 175 [] [])])],2⟩ ⟨[.Ae Ck],[],[(0, .row 56 0),(1, .Af 99 [(1, .AA 175 [] [])])],2⟩ 0 [] ej
def tE(c:Nat)(d:List BT):Option (List BT):=Ad c (λ(a:List BT×Nat) e=>iF ((a.2:Int)<d.length) (Ab (idx d a.2) λf=>Ad c (λ(b:Nat) g=>iF ((b:Int)<d.length) (Ab (idx d b) λh=>iF ((a.2:Int)≠b) (Ab (Va c (f,h)) λi=>iB i (iF ((b:Int)<a.2) (e (a.1,a.2+1))<|Ab (Va c (h,f)) λj=>iB (!j) (e (a.1,a.2+1))<|g (b+1))<|g (b+1))<|g (b+1))<|Ah (FB a.1+1<=Aj)<|e (((a.1++[f]),a.2+1))) (0))<|Ab (ej c a.1) Ac) (([],0))
def B230:=bP [B187,B229] Tryz.func173 ⟨[.Ae Ck],[(0, .v 0 Ck),(1, .AA 174 [] []),(2, .AA 175 [] [])],[],0⟩ ⟨[.Ae Ck],[(0, .v 0 Ck)],[],0⟩ 1 [] tE (la:=lk [(3,⟨[.Ae Ck, .nat],(kp [0,1,5] [(7, .AE 1),(12, .Al),(13, .Al),(14, .AB 1 301)]),[(0, .c 0),(1, .row 56 0)],2⟩),(6,⟨[.nat],(kp [0,1,5,7,8,9,12,13,14,19,20] [(21, .AB 0 600)]),[(2, .c 0),(1, .c 0),(0, .c 0)],3⟩)]) (pt:=lg [(2,[.own 7 56 BW]),(13,[.fz 6])])
def tD(b:Nat)(a:BE):Option Vl:=Ac (Vl.mk Ak (Ak,Ak,Ak,([],[]),[]) [] [a])
def B231:=bQ [] Tryz.func178 [BL] [Ba] tD (pt:=lg [(1,[.NC 2 8])])
def eh(a:Nat):BE×BE->Option Int|(b,c)=>Ab (tD a b) λd=>Ab (tD a c) λe=>Ab (j_ a (d,e)) Ac
def B232:=bP [B231,zW] Tryz.func230 ⟨[.Ae BL, .Ae BL],[(0, .v 0 BL),(1, .v 1 BL),(2, .loc 0 0)],[(0, .Af 102 [(1, .AA 178 [] [])])],1⟩ ⟨[.Ae Am],[(0, .v 0 Am)],[(0, .Af 102 [(1, .AA 178 [] [])])],1⟩ 1 [] eh
def D236(fu:Nat)(x0 x1:Int)(x2:List BE):=So (λx y=>eh fu (x,y)) fu x0 x1 x2
abbrev yx fu:=u3 (D236 fu)
def B233:=bP [B232] Tryz.func360 ⟨[.Ae Am, .Ae Am, .Ae Ci],[(0, .AE 0),(1, .v 0 Am),(2, .v 1 Am),(3, .AA 230 [] [1])],[(0, .row 52 2),(1, .Af 102 [(1, .AA 178 [] [])])],2⟩ ⟨[.Ae Ci],[],[(0, .row 52 0),(1, .Af 102 [(1, .AA 178 [] [])])],2⟩ 0 [] yx (la:=lk [(1,⟨[.Ae Ci, .Ae Am],(kp [0,1,2,3] [(8, .v 1 Am)]),[(1, .Af 102 [(1, .AA 178 [] [])]),(0, .row 52 0)],2⟩),(4,⟨[.Ae Ci, .Ae Am],(kp [0,1,2,3,8] [(9, .v 1 Am)]),[(1, .Af 102 [(1, .AA 178 [] [])]),(0, .row 52 0)],2⟩)])
def tC(c:Nat):Int×Int×Int×List BE->Option (List BE)|(a,b,d,e)=>Ad c (λ(g:PUnit) h=>Aa .i64 (b-a)<|iF (b-a<=12) (Ab (yx c (a,b,e)) Ac)<|iF (d=0) Dc<|none) (())
def B234:=bP [B233] Tryz.func298 ⟨[.Ae Am, .Ae Am, .Ae Am, .Ae Ci],[(0, .AE 0),(1, .v 0 Am),(2, .v 1 Am),(3, .v 2 Am),(4, .AA 230 [] [1])],[(0, .row 52 3),(1, .Af 102 [(1, .AA 178 [] [])])],2⟩ ⟨[.Ae Ci],[],[(0, .row 52 0),(1, .Af 102 [(1, .AA 178 [] [])])],2⟩ 0 [] tC (la:=lk [(2,⟨[],(kp [0,1,2,3,4,10,11] []),[(1, .c 0),(0, .c 0)],2⟩)])
def eg(b:Nat)(a:List BE):Option (List BE):=Ab (td b (Int.ofNat (FB a %xc (18446744073709551616:Int)))) λc=>Ab (tC b (0,(a.length:Int),c,a)) Ac
def B235:=bP [B62,B234] Tryz.func229 ⟨[.Ae Ci],[(0, .AE 0),(1, .AA 230 [] [1])],[(0, .row 52 0),(1, .Af 102 [(1, .AA 178 [] [])])],2⟩ ⟨[.Ae Ci],[],[(0, .row 52 0),(1, .Af 102 [(1, .AA 178 [] [])])],2⟩ 0 [] eg
def tB(c:Nat)(d:List BE):Option (List BE):=Ad c (λ(a:List BE×Nat) e=>iF ((a.2:Int)<d.length) (Ab (idx d a.2) λf=>Ad c (λ(b:Nat) g=>iF ((b:Int)<d.length) (Ab (idx d b) λh=>iF ((a.2:Int)≠b) (Ab (Vb c (f,h)) λi=>iB i (iF ((b:Int)<a.2) (e (a.1,a.2+1))<|Ab (Vb c (h,f)) λj=>iB (!j) (e (a.1,a.2+1))<|g (b+1))<|g (b+1))<|g (b+1))<|Ah (FB a.1+1<=Aj)<|e (((a.1++[f]),a.2+1))) (0))<|Ab (eg c a.1) Ac) (([],0))
def B236:=bP [B180,B235] Tryz.func176 ⟨[.Ae Ci],[(0, .v 0 Ci),(1, .AA 177 [] []),(2, .AA 178 [] [])],[],0⟩ ⟨[.Ae Ci],[(0, .v 0 Ci)],[],0⟩ 1 [] tB (la:=lk [(3,⟨[.Ae Ci, .nat],(kp [0,1,5] [(7, .AE 1),(12, .Al),(13, .Al),(14, .AB 1 301)]),[(0, .c 0),(1, .row 52 0)],2⟩),(6,⟨[.nat],(kp [0,1,5,7,8,9,12,13,14,19,20] [(21, .AB 0 600)]),[(2, .c 0),(1, .c 0),(0, .c 0)],3⟩)]) (pt:=lg [(2,[.own 7 52 BL]),(13,[.fz 6])])
def yw(a:Nat)(_:Unit):Option A4:=Ac ([(Br,[(0,255,0)])])
def B237:=bQ [] Tryz.func87 [] [y3] yw (pt:=lg [(1,[.NC 0 0])])
def j9(a:Nat)(_:Unit):Option Ff:=Ab (Vc a ()) λb=>Ab (yw a ()) λc=>Ac (Br,Br,Br,b,c)
def zV:=bQ [z7,B237] Tryz.func54 [] [y8] j9
def U'(b:Nat)(a:AH):Option Bool:=iB (Vl.any a.1) (Ac (Vl.any a.2))<|some Ak
def kR:=bQ [] Tryz.func29 [A_] [.bool] U'
def tA(b:Nat)(a:BT):Option Bool:=iF ((a.1.length:Int)=0) (iF ((a.2.length:Int)=1) (Ab (idx a.2 0) λc=>Ab (U' b c) Ac)<|some Ak)<|some Ak
def B240:=bQ [kR] Tryz.func234 [BW] [.bool] tA
def tz(b:Nat)(a:BE):Option Bool:=iF ((a.1.length:Int)=0) (iF ((a.2.length:Int)=1) (Ab (idx a.2 0) λc=>Ab (U' b c.2) Ac)<|some Ak)<|some Ak
def B241:=bQ [kR] Tryz.func235 [BL] [.bool] tz
def j8(b:Nat)(a:Vl):Option Bool:=iF (((Vl.lists a).length:Int)=1) (iF (((Vl.structs a).length:Int)=1) (Ab (j9 b ()) λc=>Ab (TJ b (Vl.sc a,c)) λd=>iF (d=0) (Ab (idx (Vl.lists a) (0:Int)) λe=>Ab (tA b e) λf=>iB f (Ab (idx (Vl.structs a) (0:Int)) λg=>Ab (tz b g) Ac)<|some Ak)<|some Ak)<|some Ak)<|some Ak
def B242:=bQ [zV,zX,B240,B241] Tryz.func179 [Ba] [.bool] j8
abbrev oa:Type:=EM 171 [BW] [BW, .bool, .bool]×EM 172 [BL] [BL, .bool, .bool]×EM 129 [Ba] [Ba, .bool]×EM 92 [A_] [A_, .bool]
def dG(n:Nat):oa:=Nat.rec (motive:=λ_=>oa) (tQ Tryz.func171,tQ Tryz.func172,tQ Tryz.func129,tQ Tryz.func92) (λfu ⟨g0,g1,g2,g3⟩=>(sQ (BI g3::bs [kS] fu) fu Tryz.func171 [BW] [BW, .bool, .bool] (la:=lk [(4,⟨[.Ae Cz, .Ae .bool, .nat],(kp [1,2,5] [(6, .v 1 .bool),(16, .Al),(17, .Al),(18, .AB 2 402)]),[(2, .Af 56 [(1, .AE 3),(1, .Al)]),(1, .c 0),(0, .c 0),(3, .row 38 0)],4⟩),(13,⟨[.Ae Cz, .nat],(kp [2,5,6,45,46] [(47, .AB 1 1301)]),[(2, .Af 56 [(1, .Al),(1, .AE 4)]),(3, .c 0),(1, .c 0),(4, .row 38 0)],5⟩)]) (pt:=lg [(3,[.Cn 5 0 38 A_]),(12,[.Cn 5 1 38 A_]),(21,[.NC 2 0, .NC 2 1])]),sQ (BI g3::bs [kS,vd,B136,B149] fu) fu Tryz.func172 [BL] [BL, .bool, .bool] (la:=lk [(4,⟨[.Ae Ke, .Ae .bool, .nat],(kp [1,2,5] [(6, .v 1 .bool),(17, .Al),(18, .Al),(19, .AB 2 402)]),[(2, .Af 52 [(1, .AE 3),(1, .Al)]),(1, .c 0),(0, .c 0),(3, .row 59 0)],4⟩),(14,⟨[.Ae I', .nat],(kp [2,5,6,49,50] [(51, .AB 1 1401)]),[(2, .Af 52 [(1, .Al),(1, .AE 4)]),(3, .c 0),(1, .c 0),(4, .row 62 0)],5⟩)]) (pt:=lg [(3,[.Cn 5 0 59 ED]),(13,[.Cn 5 1 62 E']),(25,[.NC 2 0, .NC 2 1])]),sQ (BI g0::BI g1::bs [B108,B230,B236,B242] fu) fu Tryz.func129 [Ba] [Ba, .bool] (la:=lk [(6,⟨[.Ae Ck, .nat],(kp [1,2,4] [(5, .AE 3),(25, .Al),(26, .Al),(27, .AB 1 601)]),[(2, .c 0),(1, .c 0),(0, .c 0),(3, .row 56 0)],4⟩),(16,⟨[.Ae Ci, .nat],(kp [2,4,5] [(11, .AE 4),(47, .Al),(48, .Al),(49, .AB 1 1601)]),[(3, .c 0),(2, .c 0),(1, .c 0),(4, .row 52 0)],5⟩)]) (pr:=lg [(24,[.fz 5, .fz 11])]) (pt:=lg [(5,[.own 5 56 BW]),(15,[.own 11 52 BL])]),sQ (BI g2::bs [B185] fu) fu Tryz.func92 [A_] [A_, .bool])) n
abbrev j7(fu:Nat)(x:BT):Option (BT×Bool×Bool):=(dG fu).1.1 x
abbrev j6(fu:Nat)(x:BE):Option (BE×Bool×Bool):=(dG fu).2.1.1 x
abbrev YE(fu:Nat)(x:(Vl)):Option (Vl×Bool):=(dG fu).2.2.1.1 x
def B246(fu:Nat):=BI (dG fu).2.2.2
abbrev Ly(fu:Nat)(x:AH):Option (AH×Bool):=(dG fu).2.2.2.1 x
def D246(c:Nat)(d:BT):Option (BT×Bool×Bool):=Ad c (λ(a:List AH×Bool×Nat) g=>iF ((a.2.2:Int)<d.1.length) (Ab (idx d.1 a.2.2) λi=>Ab (Ly c i) λe=>iB (!e.2) (Ac ((([],[]),Ak,Ak)))<|iB a.2.1 (Ab (eD c e.1.1) λj=>Ah (FB a.1+1<=4294967296)<|g ((a.1++[e.1]),(!j),a.2.2+1))<|Ah (FB a.1+1<=4294967296)<|g ((a.1++[e.1]),Ak,a.2.2+1))<|Ad c (λ(b:List AH×Nat) h=>iF ((b.2:Int)<d.2.length) (Ab (idx d.2 b.2) λk=>Ab (Ly c k) λf=>iB (!f.2) (Ac ((([],[]),Ak,Ak)))<|Ab (eD c f.1.1) λl=>iB (!l) (Ah (FB b.1+1<=4294967296)<|h ((b.1++[f.1]),b.2+1))<|h (b.1,b.2+1))<|some (((a.1,b.1),a.2.1,Br))) (([],0))) (([],Br,0))
theorem d246(fu x0):j7 (fu+1) x0=D246 fu x0:=by kernel_rfl
def D247(c:Nat)(f:BE):Option (BE×Bool×Bool):=Ad c (λ(a:List (Ay×Int×AH)×Bool×Nat) i=>iF ((a.2.2:Int)<f.1.length) (Ab (idx f.1 a.2.2) λe=>Ab (Ly c e.2.2) λg=>iB (!g.2) (Ac ((([],[]),Ak,Ak)))<|iB a.2.1 (Ab (eD c g.1.1) λl=>Ah (FB a.1+1<=4294967296)<|i ((a.1++[(e.1,e.2.1,g.1)]),(!l),a.2.2+1))<|Ah (FB a.1+1<=4294967296)<|i ((a.1++[(e.1,e.2.1,g.1)]),Ak,a.2.2+1))<|Ad c (λ(d:List (A4×AH)×Nat) j=>iF ((d.2:Int)<f.2.length) (Ab (idx f.2 d.2) λh=>Ab (Ly c h.2) λk=>iB (!k.2) (Ac ((([],[]),Ak,Ak)))<|Ab (uM c (d.1,k.1)) λb=>iF (b.1<0) (Ab (Vh c (h.1,[])) λm=>Ah (FB b.2.1+1<=4294967296)<|j ((b.2.1++[(m,b.2.2)]),d.2+1))<|Ab (idx b.2.1 b.1) λn=>Ab (Vh c (n.1,h.1)) λo=>Ab (idx b.2.1 b.1) λp=>j ((b.2.1.set (ae b.1) (o,p.2)),d.2+1))<|Ab (kH c d.1) λq=>Ac (((a.1,q),a.2.1,Br))) (([],0))) (([],Br,0))
theorem d247(fu x0):j6 (fu+1) x0=D247 fu x0:=by kernel_rfl
def D248(a:Nat)(d:Vl):Option (Vl×Bool):=iB (Vl.any d) (Ac ((d,Br)))<|Ab (uV a (Vl.sc d)) λg=>Ad a (λ(b:List BT×Nat) h=>iF ((b.2:Int)<(Vl.lists d).length) (Ab (idx (Vl.lists d) (b.2:Int)) λl=>Ab (j7 a l) λe=>iB (!e.2.2) (Ac ((Vl.mk Ak (Ak,Ak,Ak,([],[]),[]) [] [],Ak)))<|iB e.2.1 (Ah (FB b.1+1<=Aj)<|h ((b.1++[e.1]),b.2+1))<|h (b.1,b.2+1))<|Ad a (λ(c:List BE×Nat) i=>iF ((c.2:Int)<(Vl.structs d).length) (Ab (idx (Vl.structs d) (c.2:Int)) λm=>Ab (j6 a m) λf=>iB (!f.2.2) (Ac ((Vl.mk Ak (Ak,Ak,Ak,([],[]),[]) [] [],Ak)))<|iB f.2.1 (Ah (FB c.1+1<=Aj)<|i ((c.1++[f.1]),c.2+1))<|i (c.1,c.2+1))<|Ab (tE a b.1) λj=>Ab (tB a c.1) λk=>Ab (j8 a (Vl.mk Ak g j k)) λn=>iB n (Ac ((Vl.mk Br (Ak,Ak,Ak,([],[]),[]) [] [],Br)))<|some ((Vl.mk Ak g j k,Br))) (([],0))) (([],0))
theorem d248(fu x0):YE (fu+1) x0=D248 fu x0:=by kernel_rfl
end
end
end Go.GV
