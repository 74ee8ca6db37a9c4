/- Part 8 of the texts of this claim: what its theorem leans on. -/
import Derived.Test.YtimbbibpghnipaaGreatDoorZLookupKinds7
set_option linter.all false
open Option renaming some→Ac,none→C5
open Bool renaming false→Aj,true→Bp
open Go renaming Value→BZ,Operand→El,TypeId→Gj,Program→GG,World→IG,execOp→Ki,Oper→KV,IntKind→Lc
open Decidable renaming decide→Di
open List renaming length→Fw,replicate→TO,range→av,take_succ_eq_append_getElem→cu,set→kN,take_append_drop→rM,getElem_mem→Alv
open Int renaming toNat→ZV
open Go.Op renaming bytesLess→fL
open Option renaming getD→pB
open Nat renaming strongRecOn→ri
namespace Go.GL
open Go Go.GV Go.GK Go.Proofs
section
variable{l:Tb}{n fu:Nat}{cs a b:List Int}{c:Nat->Int}{i:Nat}{es:List Ck}{s:Nat}{x:Int}{f g:Nat->Bool}{m:Nat}{kn:List Lg}{q:Int}{L:Lg}{w:List UInt8}{d:List Int}{α:Type}{t:Nat}
def AD:Nat->(Nat->Bool)->Nat
 |0,_=>0
 |n+1,f=>AD n f+(if f n then 0 else 1)
theorem M0{f g:Nat->Bool} :∀ {n:Nat},(∀j,j<n->f j=Bp->g j=Bp)->AD n g<=AD n f
 |0,_=>Aae _
 |n+1,h=>by have:=M0 (n:=n) λj d=>h j (by omega);grind[AD]
theorem Qo{f g:Nat->Bool} :∀ {n:Nat},(∀j,j<n->f j=Bp->g j=Bp)->(∃j,j<n/\f j=Aj/\g j=Bp)->AD n g<AD n f
 |0,_,⟨j,a,_⟩=>by omega
 |n+1,h,⟨j,a,c,d⟩=>by
  have l:=M0 (n:=n) (f:=f) (g:=g) λj a=>h j (by omega);simp only[AD];by_cases b:j=n;· grind
  ·have:=Qo (n:=n) (f:=f) (g:=g) (λj a=>h j (by omega)) ⟨j,by omega,c,d⟩;grind
theorem Qn:∀(n:Nat) (f:Nat->Bool),AD n f<=n
 |0,_=>Aae _
 |n+1,f=>by have:=Qn n f;grind[AD]
theorem Jm(h:L w=Bp):live L=Bp:=Hj.2 ⟨w,h⟩
theorem RJ{b:Nat}(h:live (Is L b)=Bp):live L=Bp:=by obtain⟨w,a⟩:=Hj.1 h;exact Jm (w:=UInt8.ofNat b::w) a
def rU(l:Tb)(c:Nat->Int)(f:Nat->Bool):Prop:= ∀s,s<Cj l->f (c s).toNat=live (Av l (s:Nat))
theorem ClsB.nat(h:ClsB l c)(a:s<Cj l):(c s).toNat<Cj l/\(((c s).toNat:Nat):Int)=c s:=by have:=h.rg s a;grind[Cj]
theorem gn(P:Be l)(hc:Br cs)(hf:DK cs l)(hk:WH l c)(hl:l.length<=n)(hn:n<4294967296)(hfu:n+2<fu)(hfu':256<fu):
  Ok (z7 fu (FD l cs (Bg (Cj l) c))) (λr=> ∃f,r=Bg (Cj l) f/\rU l c f):=by
 have hN:Cj l=l.length+1:=rfl;rw[z7];unfold FD;rw[Az];refine Pv (by grind) ?_;rw[Dv];let Sd:(Nat->Bool)->Prop:=λf=> ∀j,j<Cj l->f j=Bp->∀s,s<Cj l->(c s).toNat=j->live (Av l (s:Nat))=Bp;refine W5 (X:=List Bool×Bool) (λx=> ∃f,x.1=Bg (Cj l) f/\Sd f/\(x.2=Aj->rU l c f)) (λx=>(if x.2 then 1 else 0)+AD (Cj l) (λj=>x.1.getD j Aj)) ⟨_,rfl,λj _ h=>(by grind),λh=>(by grind)⟩ ?_ λx nx hI _ W=>?_;· grind[Cj,Bg,Qn]
 obtain⟨o,again⟩:=x;obtain⟨f,ho,hS,hL⟩:=hI;subst ho
 have R:∀g:Nat->Bool,∀j,j<Cj l->(Bg (Cj l) g).getD j Aj=g j:=λg j e=>by rw[Pe,I7 e];rfl
 have Q:∀g:Nat->Bool,AD (Cj l) (λj=>(Bg (Cj l) g).getD j Aj)=AD (Cj l) g:=λg=>
  Alg (M0 λj e h=>by grind) (M0 λj e h=>by grind);refine PM (λh=>?_) λh=>MA ⟨f,rfl,hL h⟩;subst h;have d:=λs m=>hk.toClsB.nat (s:=s) m;refine Xs (λk o H=> ∃g,o=Bg (Cj l) g/\Sd g/\(∀j,j<Cj l->f j=Bp->g j=Bp)/\
   (H=Aj->(∀j,j<Cj l->g j=f j)/\∀s,s<k->(UG l s=Bp\/∃i,i<cs.length/\f (c (GR l cs s i).toNat).toNat=Bp)->f (c s).toNat=Bp)/\
   (H=Bp->∃j,j<Cj l/\f j=Aj/\g j=Bp)) (Cj l) ⟨f,rfl,hS,λ_ _ h=>h,λ_=>⟨λ_ _=>rfl,λs m=>by omega⟩,λh=>(by grind)⟩ (by omega) (λk o H Z B hJ G=>?_) (λo H Z hJ=>?_)
 ·obtain⟨
      g,rfl,v,p,z,M⟩:=hJ;try dsimp only
  refine Tz (by omega) (GB (AW B) (GB (AW B) ?_));refine Sb (λi b=>b=Bp↔UG l k=Bp\/∃j,j<i/\g (c (GR l cs k j).toNat).toNat=Bp) cs.length (by simp) (by have:=hc.le;omega) (λi b nx2 N t U=>?_) (λb nx2 t=>?_)
  ·have Y:=FW P cs k i;have hq:(GR l cs k i).toNat<Cj l:=by omega
   have hcq:=d _ hq
   refine Tz (by unfold ZR;rw[Az];omega) (GB (by exact AW N) (PM (λh=>U _ ?_) λh=>?_))
   ·subst h;simp only[true_iff]at t⊢;rcases t with t|⟨j,e,t⟩;· grind
    ·exact .inr ⟨j,by omega,t⟩
   ·refine GB (a:=c (GR l cs k i).toNat) (by rw[show GR l cs k i=(((GR l cs k i).toNat:Nat):Int) by omega];exact AW (by omega)) (GB (a:=g (c (GR l cs k i).toNat).toNat) (by rw[<-hcq.2];exact AW (by omega)) (U _ ?_));subst h;simp only[Adx,false_iff]at t;constructor;· exact λh=> .inr ⟨i,by omega,h⟩
    ·rintro(h|⟨j,e,h⟩);· grind
     ·rcases Aam j i with I|I;· exact absurd (.inr ⟨j,I,h⟩) t
      ·obtain rfl:j=i:=by omega
       exact h
  ·have y:=d k B;have e1:idx (Bg (Cj l) c) (k:Int)=Ac (c k):=AW B;have e2:idx (Bg (Cj l) g) (c k)=Ac (g (c k).toNat):=by rw[<-y.2];exact AW y.1
   have A:∀(V:¬(b=Bp/\g (c k).toNat=Aj)),Ok (Z (Bg (Cj l) g,H,k+1)) λr=> ∃f,r=Bg (Cj l) f/\rU l c f:=λV=>by
    refine G _ _ ⟨g,rfl,v,p,λh=>⟨(z h).1,λs m q=>?_⟩,M⟩;rcases Aam s k with I|I;· exact(z h).2 s I q
    ·obtain rfl:s=k:=by omega
     have S:=(z h).1;rw[<-S _ y.1];have hbt:b=Bp:=t.2 (by
      rcases q with q|⟨i,N,q⟩;· exact .inl q
      ·refine .inr ⟨i,N,?_⟩;have Y:=FW P cs s i;rw[S _ (d _ (by omega)).1];exact q);cases E:g (c s).toNat;· exact absurd ⟨hbt,E⟩ V
     ·rfl
   refine P3 (by unfold ZR;rw[Az];omega) (PM (λh=>GB e1 (GB e2 (PM (λJ=>GB e1 (GB e2 ?_)) λJ=>A ?_))) λh=>A ?_)
   ·have E:g (c k).toNat=Aj:=by cases hh:g (c k).toNat<;>simp[hh]at J⊢
    have O:live (Av l (k:Nat))=Bp:=by
     rcases t.1 h with K|⟨j,e,K⟩;· exact Jm (w:=[]) (by exact K)
     ·have Y:=FW P cs k j;have:=v _ (d _ (by omega)).1 K _ (by omega:(GR l cs k j).toNat<Cj l) rfl;rw[Abd Y.1,Om P hc k e]at this;exact RJ this
    rw[A'];refine G _ _ ⟨_,rfl,λj e T s m D=>?_,λj e hfj=>?_,λh=>(by cases h),λ_=>⟨(c k).toNat,y.1,?_,by simp⟩⟩
    ·by_cases F:j=(c k).toNat
     ·have hcc:c s=c k:=by have:=(d s m).2;omega
      rw[(hk.iff s k m B).1 hcc];exact O
     ·simp only[F,if_false]at T;exact v j e T s m D
    ·by_cases F:j=(c k).toNat;· simp[F]
     ·simp only[F,if_false];exact p j e hfj
    ·cases hfk:f (c k).toNat;· rfl
     ·have:=p _ y.1 hfk;rw[this]at E;cases E
   ·rintro⟨_,K⟩;rw[K]at J;cases J
   ·rintro⟨K,_⟩;rw[K]at h;cases h
 ·obtain⟨g,rfl,v,p,z,M⟩:=hJ;try dsimp only
  refine P3 (by(try rw[Az])<;>omega) (W (_,H) ⟨g,rf,v,λh=>?_⟩ ?_)
  ·obtain⟨I,J⟩:=z h;have hcl:∀(w:List UInt8) (s:Nat),s<Cj l->Av l (s:Nat) w=Bp->f (c s).toNat=Bp:=by
    intro w;induction w with
    |nil=>intro s m C;exact J s m (.inl (by exact C))
    |cons b w ih=>
     intro s m C;obtain⟨i,N,g1,g2⟩:=hc.find b.toNat b.toNat_lt;have Y:=FW P cs s i;refine J s m (.inr ⟨i,N,ih _ (by omega) ?_⟩);rw[Abd Y.1,Om P hc s N,<-Jp P hc hf s N b.toNat_lt g1 g2];simpa [Is]using C
   intro s m;have D:=d s m;rw[I _ D.1];cases L:f (c s).toNat
   ·cases O:live (Av l (s:Nat));· rfl
    ·obtain⟨w,C⟩:=Hj.1 O;rw[hcl w s m C]at L;cases L
   ·exact(hS _ D.1 L s m rf).symm
  ·rw[Q,Q];cases H with
   |true=>
    have:=Qo (n:=Cj l) (f:=f) (g:=g) (λj e=>p j e) (M rfl);simp only[if_true];omega
   |false=>
    have:=M0 (n:=Cj l) (f:=f) (g:=g) (λj e=>p j e);simp only[if_true,Adx,if_false];omega
theorem bC(hc:Br cs)(hi:i<cs.length):Ok (X' fu ((FD l cs b),(i:Int))) (λr=>r=GS cs i):=by
 rw[X'];unfold FD;dsimp only;have c:=hc.le;refine Pv (by omega) (N1 (λh=>Pv (by omega) ?_) λh=>MA (by grind[Hn]));have a:i+1<cs.length:=by omega
 have d:=hc.hi hi;have e:=hc.rg _ (AN hi);rw[EW a]at d;rw[show((i:Int)+1)=((i+1:Nat):Int) by omega];refine Aah a (Pv (by omega) (Pv (by omega) (MA (by rw[EW a]))))
def pos(cs:List Int)(i:Nat):Nat:=if h:i<cs.length then cs[i].toNat else 256
theorem Rq(h:Br cs):pos cs 0=0:=by unfold pos;rw[dif_pos h.pos,h.wj];rfl
theorem pos_at{cs:List Int}(h:Br cs){i:Nat}(hi:i<cs.length):((pos cs i:Nat):Int)=cs[i]:=by unfold pos;rw[dif_pos hi];have:=h.rg _ (AN hi);omega
theorem Vp:pos cs cs.length=256:=by simp[pos]
theorem Rs(h:Br cs)(hi:i<cs.length):((pos cs (i+1):Nat):Int)=GS cs i+1:=by
 by_cases a:i+1<cs.length;· grind[pos_at,EW]
 simp_all[pos,Hn,dif_neg]
theorem PA(h:Br cs)(i:Nat):pos cs i<=256:=by
 unfold pos;split;· rename_i a;have:=h.rg _ (AN a);omega
 omega
theorem Rm{lo hi n:Int}(h:0<es.length):push es lo hi n=if(es[es.length-1]'(by omega)).2.2=n/\(es[es.length-1]'(by omega)).2.1+1=lo then es.set (es.length-1) ((es[es.length-1]'(by omega)).1,hi,n)else es++[(lo,hi,n)]:=by
 rcases Fc es with rfl|⟨a,y,rfl⟩;· grind
 simp_all[FU]
theorem Rn(es:List Ck)(lo hi n:Int):(push es lo hi n).length<=es.length+1:=by rcases Fc es with rfl|⟨b,y,rfl⟩;all_goals grind[Jf,FU]
noncomputable def gC(fu:Nat)(T:List Int×List (List Int)×List Bool×List Int)(es:List Ck)(i:Nat)(nx:(List (Int×Int)×List Int×List Ck×Nat)->Option (Tb×List Int×List (List Int)×List Bool×List Int))(x:Int)(b:List Int)(m:List (Int×Int)):Option (Tb×List Int×List (List Int)×List Bool×List Int):=
 Ab (idx T.1 (i:Int)) λa=>
 Aa (Lc.u8) (a)<|
 Ab (X' fu (T,(i:Int))) λc=>
 Aa (Lc.i64) (x)<|
 Af (Fw es+1<=Ah)<|
 nx (m,b,es++[(a,c,pB (AB m x) (0:Int))],i+1)
noncomputable def j11(fu:Nat)(T:List Int×List (List Int)×List Bool×List Int)(es:List Ck)(i:Nat)(nx:(List (Int×Int)×List Int×List Ck×Nat)->Option (Tb×List Int×List (List Int)×List Bool×List Int))(x:Int)(a:List Int)(m:List (Int×Int)):Option (Tb×List Int×List (List Int)×List Bool×List Int):=
 bif Di ((0:Int)<(↑(Fw es):Int))then
  Aa (Lc.i64) ((↑(Fw es):Int)-(1:Int))<|
  Ab (idx es ((↑(Fw es):Int)-(1:Int))) λd=>
  Aa (Lc.i64) (x)<|
  bif Di (d.2.2=pB (AB m x) (0:Int))then
   Aa (Lc.i64) ((↑(Fw es):Int)-(1:Int))<|
   Ab (idx es ((↑(Fw es):Int)-(1:Int))) λb=>
   Aa (Lc.i64) (b.2.1+(1:Int))<|
   Ab (idx T.1 (i:Int)) λe=>
   bif Di (b.2.1+(1:Int)=e)then
    Aa (Lc.i64) ((↑(Fw es):Int)-(1:Int))<|
    Ab (X' fu (T,(i:Int))) λf=>
    Ab (idx es ((↑(Fw es):Int)-(1:Int))) λc=>
    nx (m,a,es.set (ZV ((↑(Fw es):Int)-(1:Int))) (c.1,f,c.2.2),i+1)
   else gC fu T es i nx x a m
  else gC fu T es i nx x a m
 else gC fu T es i nx x a m
theorem aK{k:List Int}{q:Nat}{e:List Int}{m:List (Int×Int)}{nx:(List (Int×Int)×List Int×List Ck×Nat)->Option (Tb×List Int×List (List Int)×List Bool×List Int)}{P:Tb×List Int×List (List Int)×List Bool×List Int->Prop}
  (hc:Br cs) (hi:i<cs.length) (y:BQ es (pos cs i) q) (B:es.length<=256) (u:GK.DS x) {n:Int} (C:AB m x=Ac n)
  (h:Ok (nx (m,e,push es cs[i] (GS cs i) n,i+1)) P):
  Ok (j11 fu (FD l cs k) es i nx x e m) P:=by
 have z:=hc.rg _ (AN hi);have t:(AB m x).getD 0=n:=by grind
 have b:push es cs[i] (GS cs i) n=es++[(cs[i],GS cs i,n)]->Ok (gC fu (FD l cs k) es i nx x e m) P:=λA=>by refine Aah (l:=cs) hi (Pv (p:=GK.F8 cs[i]) (by omega) (Ou (bC hc hi) λa r=>?_));refine Pv (p:=GK.DS x) u (Pv (by grind) ?_);grind
 unfold j11;simp only[show(FD l cs k).1=cs from rfl];refine N1 (λw=>?_) λw=>b ?_
 ·have f:0<es.length:=by omega
  have v:((es.length:Int)-1)=((es.length-1:Nat):Int):=by omega
  have c:es.length-1<es.length:=by omega
  have F:=y.rg _ (AN c);have D:=PA hc i;have d:=Rm (lo:=cs[i]) (hi:=GS cs i) (n:=n) f;rw[t,v];refine Aap (Aah c (Pv (p:=GK.DS x) u (N1 (λg=>Aap (Aah c (Aap (Aah hi (N1 (λo=>?_) λo=>?_))))) λg=>?_)));· refine Aap (Ou (bC hc hi) λa r=>?_);simp_all[Aah,if_pos]
  all_goals grind
 ·obtain rfl:es=[]:=OF.1 (by omega);rfl
theorem Xo(l:Tb):live (Av l (l.length:Nat))=Aj:=by have:=Z_ l (-1) (by omega);rw[show sk l.length (-1)=((l.length:Nat):Int)from rfl]at this;grind[Hi]
structure KO(l:Tb)(c:Nat->Int)(kn:List Lg)(ord:List Int)(m:List (Int×Int)):Prop extends KnOk (pO l) kn where
 len:ord.length=kn.length
 ord:∀(i:Nat) (q:Int),ord[i]?=Ac q->(0<=q/\q<l.length)/\kn[i]?=Ac (Av l q)
 vP:m.length=kn.length
 map:∀s,s<Cj l->(Av l (s:Nat)∈kn->AB m (c s)=Ac ((Ig kn (Av l (s:Nat)):Nat):Int))/\(Av l (s:Nat)∉kn->AB m (c s)=C5)
theorem KO.nil(l:Tb)(c:Nat->Int):KO l c [] [] []:=⟨⟨.nil,by simp,by simp⟩,rfl,by simp,rfl,λs a=>⟨by simp,λ_=>rfl⟩⟩
theorem KO.put{m:List (Int×Int)}(B:Be l)(w:WH l c)(h:KO l c kn a m)(A:s<l.length)(r:Av l (s:Nat)∉kn)(y:live (Av l (s:Nat))=Bp):
  KO l c (IJ kn (Av l (s:Nat))) (a++[(s:Int)]) (Bv m (c s) (a.length:Int)):=by
 have z:Cj l=l.length+1:=rfl;have f:s<Cj l:=by omega
 have x:=h.toKnOk.IJ (D:=Av l (s:Nat)) (Jo (by omega) (by omega)) y;have e:IJ kn (Av l (s:Nat))=kn++[Av l (s:Nat)]:=by simp_all[IJ,if_pos,Gw]
 refine⟨x,?_,?_,?_,?_⟩;· rw[e];simp[h.len]
 ·intro i q g;rw[e];by_cases v:i<a.length;· rw[Aaa v]at g;have:=h.ord i q g;grind
  ·have p:i=a.length:=by
    grind
   subst p;simp at g;subst g;exact⟨⟨by omega,by omega⟩,by rw[h.len];simp⟩
 ·rw[Kp,(h.map s f).2 r,e,h.vP];simp
 ·intro t k;rw[e,H6];by_cases b:c t=c s;· have n:=(w.iff t s k f).1 b;rw[if_pos b,n,h.len];grind[absurd,Av,Ju,Gw]
  ·have n:Av l (t:Nat)≠Av l (s:Nat):=λo=>b ((w.iff t s k f).2 o);rw[if_neg b];refine⟨λd=>?_,λd=>(h.map t k).2 λo=>d (by simp[o])⟩;have j:Av l (t:Nat)∈kn:=by
    rcases AS.1 d with d|d;· exact d
    ·simp at d;exact absurd d n
   rw[MF j];exact(h.map t k).1 j
theorem Qt(L:Be l)(h0:0<l.length)(hc:Br cs)(hf:DK cs l)(Q:WH l c)(hl:l.length<=n)(hn:n<4294967296)(hfu:n+2<fu)(Z:256<fu):
  Ok (zZ fu (FD l cs (Bg (Cj l) c))) (λr=>r.1=BW l):=by
 have hN:Cj l=l.length+1:=rfl;have hcl:=hc.le;rw[zZ];refine Ou (gn L hc hf Q hl hn hfu Z) λlv H=>?_;obtain⟨f,rfl,Y⟩:=H;have I:=λs hs=>Q.toClsB.nat (s:=s) hs;have e0:idx (FD l cs (Bg (Cj l) c)).2.2.2 0=Ac (c 0):=by grind[FD,AW]
 refine GB e0 (GB (a:=f (c 0).toNat) (by grind[AW]) ?_);rw[Y 0 (by omega)];have O:Av l ((0:Nat):Int)=Av l 0:=rfl;refine PM (λh=>MA ?_) λh=>?_
 ·grind[live,Av,BW,Eo]
 have H:live (Av l 0)=Bp:=by grind
 have hcr:=Q.rg 0 (by omega);refine GB e0 (Aap (Pv (by simp) ?_));have S:=(KO.nil l c).put L Q (s:=0) h0 (by simp) H;refine W5 (X:=List (Int×Int)×List Int×Tb×Nat) (λx=> ∃u F,KO l c u x.2.1 x.1/\x.2.2.2=x.2.2.1.length/\x.2.2.1.length<=u.length/\l.length<F+x.2.2.1.length/\DG F u x.2.2.1=BW l) (λx=>l.length+1-x.2.2.2)
  ⟨[Av l 0],l.length+1,S,rfl,by simp,by simp,by unfold BW Eo;rw[if_pos H]⟩ (by omega) λx nx hI _ hnx=>?_;obtain⟨m,P,out,k⟩:=x;obtain⟨u,F,v,hkl,hol,hF,M⟩:=hI;dsimp only at v hkl hol hF M;subst hkl;have hkn:u.length<=l.length:=by have:=v.toKnOk.le;rw[Fe]at this;exact this
 have hlen:=v.len;try dsimp only
 refine N1 (λhlt=>?_) λhlt=>MA ?_
 ·have hko:out.length<P.length:=by omega
  obtain⟨⟨hq0,hq1⟩,hK⟩:=v.ord out.length _ (BY hko);generalize hqe:P[out.length]=q at hq0 hq1 hK;obtain⟨t,rfl⟩:∃t:Nat,q=t:=⟨q.toNat,by omega⟩;have hqN:t<Cj l:=by omega
  have e1:idx P (out.length:Int)=Ac (t:Int):=by rw[Bj hko,hqe]
  obtain⟨F,rfl⟩:∃F',F=F'+1:=⟨F-1,by omega⟩;have T:=Aai hK;refine GB e1 (GB (by exact AW hqN) (GB e1 (GB (by exact AW hqN) ?_)));have hrow:=λi G=>EN (H0 L) (v.sub _ T) v.toKnOk (pos cs i) G;refine ZO (λi m' o es=>o.length=(AM (Av l (t:Nat)) u (pos cs i)).1.length/\es=(AM (Av l (t:Nat)) u (pos cs i)).2/\es.length<=i/\KO l c (AM (Av l (t:Nat)) u (pos cs i)).1 o m') cs.length
   (by rw[Rq hc];exact⟨hlen,rfl,by simp,v⟩) (by omega) (λi m' o es nx' G hJ C=>?_) (λm' o es nx' hJ=>?_)
  ·obtain⟨A,rfl,W,d⟩:=hJ;have hpl:=PA hc i;obtain⟨g1,g2,g3⟩:=hrow i hpl;have hr:=FW L cs t i;obtain⟨g,htn⟩:∃g:Nat,GR l cs t i=g:=⟨(GR l cs t i).toNat,by omega⟩;have y:g<Cj l:=by omega
   have V:=I g y;have hpa:=pos_at hc G;have hps:=Rs hc G;have hhi:=hc.hi G;have hD:∀b,pos cs i<=b->b<=(GS cs i).toNat->Is (Av l (t:Nat)) b=Av l (g:Nat):=λb b1 b2=>by rw[Jp L hc hf t G (by omega) (by omega) (by omega),<-Om L hc t G,htn]
   have E:AM (Av l (t:Nat)) u (pos cs (i+1))=C_ (AM (Av l (t:Nat)) u (pos cs i)) (Av l (g:Nat)) (pos cs i) (GS cs i).toNat:=by rw[show pos cs (i+1)=(GS cs i).toNat+1 by omega];exact HV _ _ _ _ _ (by omega) hD
   try dsimp only
   refine Tz (by unfold ZR;rw[Az];omega) (GB (a:=(g:Int)) (by rw[<-htn];exact AW G) (GB (a:=c g) (by exact AW y) (GB (a:=f (c g).toNat) (by rw[<-V.2];exact AW V.1) ?_)));rw[Y g y];refine PM (λz=>C _ _ _ ?_) λj=>?_
   ·have z:live (Av l (g:Nat))=Aj:=by cases N:live (Av l (g:Nat))<;>simp[N]at z⊢
    have e:AM (Av l (t:Nat)) u (pos cs (i+1))=AM (Av l (t:Nat)) u (pos cs i):=by rw[E];unfold C_;rw[z];rfl
    rw[e];exact⟨A,rfl,by omega,d⟩
   ·have j:live (Av l (g:Nat))=Bp:=by cases N:live (Av l (g:Nat))<;>simp[N]at j⊢
    have htl:g<l.length:=by
     rcases Aam g l.length with h1|h1;· exact h1
     ·obtain rfl:g=l.length:=by omega
      rw[Xo]at j;cases j
    have hst:AM (Av l (t:Nat)) u (pos cs (i+1))=(IJ (AM (Av l (t:Nat)) u (pos cs i)).1 (Av l (g:Nat)),push (AM (Av l (t:Nat)) u (pos cs i)).2 cs[i] (GS cs i) (Ig (AM (Av l (t:Nat)) u (pos cs i)).1 (Av l (g:Nat)):Nat)):=by rw[E];unfold C_;rw[if_pos j,hpa,Abd (by omega)]
    have B:GK.DS (c g):=by unfold GK.DS;omega
    have hkl':=g2.le;rw[Fe]at hkl';have hpush:=Rn (AM (Av l (t:Nat)) u (pos cs i)).2 cs[i] (GS cs i) (Ig (AM (Av l (t:Nat)) u (pos cs i)).1 (Av l (g:Nat)):Nat);refine Pv (p:=GK.DS (c g)) B (PM (λJ=>?_) λK=>?_)
    ·have hnm:Av l (g:Nat)∉(AM (Av l (t:Nat)) u (pos cs i)).1:=λR=>by
      rw[(d.map g y).1 R]at J;simp at J
     have D:=d.put L Q htl hnm j;have hix:=Gw hnm;have hmem:=Ly (AM (Av l (t:Nat)) u (pos cs i)).1 (Av l (g:Nat));refine Pv (p:=GK.DS (c g)) B (Pv (by rw[d.vP];omega) (Pv (by unfold Ah;omega) ?_));refine aK hc G g3.1 (by omega) B (((D.map g y).1 hmem).trans (by rw[Ju])) (C _ _ _ ?_);rw[hst];exact⟨by rw[D.len],rfl,by omega,D⟩
    ·have R:Av l (g:Nat)∈(AM (Av l (t:Nat)) u (pos cs i)).1:=IT λR=>by
      rw[(d.map g y).2 R]at K;simp at K
     refine aK hc G g3.1 (by omega) B ((d.map g y).1 R) (C _ _ _ ?_);rw[hst,Gv R];exact⟨A,rf,by omega,d⟩
  ·obtain⟨A,rfl,W,d⟩:=hJ;rw[Vp]at A d⊢;obtain⟨g1,g2,g3⟩:=EN (H0 L) (v.sub _ T) v.toKnOk 256 (Aae _);have:=g1.len;try dsimp only
   refine P3 (by unfold ZR;rw[Az];omega) (Pv (by(try simp)<;>(unfold Ah;omega)) (hnx _ ⟨(AM (Av l (t:Nat)) u 256).1,F,d,by simp,by simp;omega,by simp;omega,?_⟩ ?_))
   ·rw[<-M];dsimp only;conv=>rhs;unfold DG
    rw[hK];dsimp only;rw[PN]
   ·dsimp only;omega
 ·have hno:u[out.length]?=C5:=Aco (by omega);rw[<-M];cases F with
  |zero=>rfl
  |succ F=>unfold DG;rw[hno]
theorem Mu(k:NU l)(i:DP l n)(g:n<4294967296)(f:n+2<fu)(a:256<fu):
  Ok (nF fu l) (λr=>(Be l->r=(BW l,0))/\(¬Be l->r=([],11))):=by
 rw[nF];refine Ou (D8 k i (by omega) g) λx e=>PM (λh=>MA ?_) λh=>?_
 ·grind
 ·have d:Be l:=e.1 (by grind);refine N1 (λh=>MA ⟨λ_=>?_,λb=>absurd d b⟩) λh=>?_;· obtain rfl:l=[]:=OF.1 (by omega);grind[live,Av,BW,Eo,CV,Dz]
  ·refine Ou (Sy d i g (by omega) a) λx e=>?_;obtain⟨o,hc,j,rfl⟩:=e;refine Ou (W9 d (by omega) hc j i.1 g f a) λx e=>?_;obtain⟨c,m,rfl⟩:=e;refine Ou (Qt d (by omega) hc j m i.1 g f a) λx e=>MA ⟨λ_=>?_,λb=>absurd d b⟩;rw[e]
theorem LV(f:NU l)(d:DP l n)(g:n<4294967296)(c:n+2<fu)(a:256<fu):
  Ok (uS fu l) (λr=>r=Bp↔Be l/\BW l=l):=by
 rw[uS];refine Ou (Mu f d g c a) λx e=>?_;by_cases b:Be l;· rw[e.1 b];refine Tz rfl (Ou (KC d (by omega)) λr i=>MA ?_);grind
 simp_all[absurd,P3,MA]
theorem Be.by(h:Be l):NU l:=λs b e a=>by have:=(h s b).rg e a;omega
theorem BQ.len(h:BQ es m n):es.length<=m:=by
 have f:(es.map λe=>e.1.toNat).Nodup:=by refine Adq.2 ?_;refine Agf (λ{a b} g j i=>?_) h.so;have:=h.rg a g;omega
 have:=Cf (b:=av m) f (λx k=>by obtain⟨c,hc,rfl⟩:=By.1 k;have:=h.rg c hc;grind);grind
theorem Be.sh(h:Be l)(a:l.length<=n)(b:256<=n):DP l n:=⟨a,λs c=>by have:=(h s c).len;omega⟩
theorem Gs(K:Lg)(kn:List Lg)(lo:Nat):∀n,(∀b,lo<=b->b<lo+n->live (Is K b)=Aj)->AM K kn (lo+n)=AM K kn lo
 |0,_=>rfl
 |n+1,h=>by rw[<-Ado,Mg,Gs K kn lo n λb a c=>h b a (by omega)];grind[C_]
theorem Mf(K:Lg)(kn:List Lg):AM K kn 0=(kn,[]):=rfl
theorem W4(K D:Lg)(kn:List Lg)(lo hi:Nat)(h1:lo<=hi)(h2:hi<256)(d:∀b,b<256->b<lo\/hi<b->live (Is K b)=Aj)(f:∀b,lo<=b->b<=hi->Is K b=D)(g:live D=Bp):
  AM K kn 256=(IJ kn D,[((lo:Int),(hi:Int),((Ig kn D:Nat):Int))]):=by
 have a:AM K kn (0+lo)=AM K kn 0:=Gs K kn 0 lo λb _ h=>d b (by omega) (.inl (by omega));have e:AM K kn (hi+1)=C_ (AM K kn lo) D lo hi:=HV K kn D lo hi h1 f;have c:AM K kn (hi+1+(255-hi))=AM K kn (hi+1):=Gs K kn (hi+1) (255-hi) λb i j=>d b (by omega) (.inr (by omega));rw[show hi+1+(255-hi)=256 by omega]at c;rw[Abl,Mf]at a;rw[c,e,a];unfold C_;rw[if_pos g];rfl
theorem TL(K:Lg)(kn:List Lg)(a:∀b,b<256->live (Is K b)=Aj):AM K kn 256=(kn,[]):=by have:=Gs K kn 0 256 λb _ h=>a b (by omega);trivial
def single(w:List UInt8):Lg:=λv=>Di (v=w)
theorem KS(w:List UInt8):live (single w)=Bp:=Jm (w:=w) (by simp[single])
theorem TF{v:List UInt8}(h:single v=single w):v=w:=by have:=congrFun h v;grind[single]
theorem ofNat_eq{b:Nat}(a:b<256)(c:UInt8):UInt8.ofNat b=c↔b=c.toNat:=by
 constructor;· rintro rfl;simp;omega
 simp_all
theorem IC{b:Nat}(a:b<256)(c:UInt8)(w:List UInt8):Is (single (c::w)) b=if b=c.toNat then single w else λ_=>Aj:=by grind[Is,single,List.cons.injEq,ofNat_eq]
theorem Ma(b:Nat):Is (single []) b=λ_=>Aj:=by rfl
theorem HZ:live (λ_=>Aj)=Aj:=CV.2 λ_=>rfl
def T_(s:List UInt8)(k:Nat):List Lg:=Bg k λj=>single (s.drop j)
theorem U2(s:List UInt8):∀(d k fu:Nat),k+d=s.length->d+1<=fu->DG fu (T_ s (k+1)) (CG s k)=Bu s
 |0,k,fu+1,t,_=>by
  obtain rfl:k=s.length:=by omega
  have j:(CG s s.length).length=s.length:=by simp[CG]
  have g:(T_ s (s.length+1))[(CG s s.length).length]?=Ac (single []):=by grind[T_,I7]
  unfold DG;rw[g];dsimp only;rw[TL _ _ λb q=>by grind[Ma,HZ]];have e:CG s s.length++[(single [] [],[])]=Bu s:=by simp[CG,Bu,single]
  rw[e];cases fu with
  |zero=>rfl
  |succ fu=>
   grind[DG,T_,Bu,List.getElem?_eq_none,Az]
 |d+1,k,fu+1,t,x=>by
  have l:k<s.length:=by omega
  have j:(CG s k).length=k:=by simp[CG];omega
  have g:(T_ s (k+1))[(CG s k).length]?=Ac (single (s.drop k)):=by rw[j];unfold T_;rw[I7 (by omega)]
  have c:s.drop k=s[k]::s.drop (k+1):=Aaq l;have m:single (s.drop (k+1))∉T_ s (k+1):=λu=>by obtain⟨i,y,r⟩:=EC.1 u;have:=congrArg Fw (TF r);simp at this;omega
  have n:=W4 (single (s.drop k)) (single (s.drop (k+1))) (T_ s (k+1)) s[k].toNat s[k].toNat (Aae _) s[k].toNat_lt
   (λb q h=>by rw[c,IC q,if_neg (by omega)];exact HZ)
   (λb v w=>by have:=s[k].toNat_lt;rw[c,IC (by omega),if_pos (by omega)]) (KS _);have o:Ig (T_ s (k+1)) (single (s.drop (k+1)))=k+1:=by rw[Gw m];unfold T_;rw[Az]
  have p:IJ (T_ s (k+1)) (single (s.drop (k+1)))=T_ s (k+2):=by unfold IJ;rw[if_pos (Gw m)];unfold T_;rw[Dd (k+1)]
  unfold DG;rw[g];dsimp only;rw[n,p,o];have e:CG s k++[(single (s.drop k) [],[((s[k].toNat:Int),(s[k].toNat:Int),((k+1:Nat):Int))])]=CG s (k+1):=by rw[KK l,c];simp[single,KL,l]
  rw[e];exact U2 s d (k+1) fu (by omega) (by omega)
theorem YQ(s:List UInt8){fu:Nat}(a:s.length+1<=fu):Eo fu (single s)=Bu s:=by unfold Eo;rw[if_pos (KS s)];have:=U2 s s.length 0 fu (by omega) a;trivial
theorem YP(s:List UInt8):uo (T_ s (s.length+1)):=by
 intro K d b e a;obtain⟨i,f,rfl⟩:=EC.1 d;rcases Aam i s.length with h|h
 ·rw[Aaq h,IC e]at a⊢;split at a;· rename_i c;rw[if_pos c];exact EC.2 ⟨i+1,by omega,rfl⟩
  grind[HZ]
 grind[List.drop_of_length_le,Ma,HZ]
theorem Tt(s:List UInt8):Be (Bu s)/\Av (Bu s) 0=single s:=by have:=Wm (YP s) (L:=single s) (λ_=>EC.2 ⟨0,by omega,rfl⟩) (fu:=s.length+2) (by grind[T_,Az]);grind[YQ]
def KE:Tb:=[(Bp,[(0,255,0)])]
theorem rN:Be KE:=by intro s a;simp[KE]at a;subst a;exact⟨by trivial,by simp⟩
theorem cR:Av KE 0=λ_=>Bp:=by
 funext w;induction w with
 |nil=>rfl
 |cons c w b=>
  have:Bl KE 0 c.toNat=0:=by have:=c.toNat_lt;grind[Bl,Bc,KE,AQ,BN]
  show Av KE (Bl KE 0 c.toNat) w=Bp;grind
theorem cT:BW KE=KE:=by
 unfold BW;rw[cR];have c:live (λ_=>Bp)=Bp:=Jm (w:=[]) rfl;have a:AM (λ_=>Bp) [λ_=>Bp] 256=C_ (AM (λ_=>Bp) [λ_=>Bp] 0) (λ_=>Bp) 0 255:=HV _ _ _ 0 255 (by simp) λb _ _=>rfl;have f:Ig [λ_=>Bp] (λ_=>Bp)=0:=by have:=gD (kn:=[λ_=>Bp]) (by simp) (i:=0) (by simp);simpa using this
 have d:IJ [λ_=>Bp] (λ_=>Bp)=[λ_=>Bp]:=Gv (by simp);have e:AM (λ_=>Bp) [λ_=>Bp] 256=([λ_=>Bp],[(0,255,0)]):=by rw[a,Mf];unfold C_;rw[if_pos c];rw[d,f];rfl
 show Eo 2 _=_;unfold Eo;rw[if_pos c];unfold DG;simp only[Adt,Alr];rw[e];rfl
theorem Ls{b:Nat}{i:Int}(w:DP l n)(x:n<fu)(h1:i<l.length):Ok (tT fu (l,i,(b:Int))) (λr=>r=Bl l i b):=by
 refine N1 (λh=>MA (by grind[I9])) λh=>Adu (by omega) h1 ?_;have v:=Bs (by omega) h1;have p:Bl l i b=AQ (l[i.toNat]'(by omega)).2 b:=by grind[Bl]
 rw[p];have o:=w.2 _ (AN (by omega:i.toNat<l.length));generalize l[i.toNat]'(by omega)=s at o;refine Vi (λk=> ∀j (_:j<k) (q:j<s.2.length),BN b s.2[j]=Aj) s.2.length (by omega) (by omega) (λk nx t e u=>?_) (λnx e=>?_)
 ·have d:BN b s.2[k]=Aj->∀j (_:j<k+1) (q:j<s.2.length),BN b s.2[j]=Aj:=λh j q m=>by
   grind
  refine PS (Aah t (N1 (λc=>N1 (λg=>MA ?_) λg=>u (d ?_)) λc=>u (d ?_)));· exact(G5 t (by simp[BN,c,g]) λi f=>e i f (by omega)).symm
  all_goals grind[BN]
 simp_all[PT,MA,Gm]
theorem nK(fu:Nat)(l:Tb):F9 fu l=xp fu l:=rfl
theorem Ta{s:Aq}(A:NU l)(o:DP l n)(m:n<fu)(E:n<4294967296)(C:s.length<fu)(D:s.length<4294967296):Ok (dD fu (l,s)) (λr=>r=IW l s):=by
 rw[dD];rw[nK];refine Ou (D8 A o m E) λx t=>PM (λh=>MA ?_) λh=>N1 (λh=>MA ?_) λG=>?_;· refine(Tc (λf=>?_) s).symm;have:=t.2 f;subst this;cases h
 ·obtain rfl:l=[]:=OF.1 (by omega);rw[LM (by simp[Be]),Dz]
 have f:Be l:=t.1 (by cases x;cases h;rfl);rw[LM f];refine W5 (X:=Int×Int) (λp=>p.1<l.length/\(0<=p.2/\p.2<=s.length)/\runT l 0 s=runT l p.1 (s.drop p.2.toNat)) (λp=>s.length-p.2.toNat) ⟨by(try simp only);omega,⟨by decide,by(try simp only);omega⟩,rfl⟩ (by simpa using C) λp nx w _ j=>?_;obtain⟨q,i⟩:=p;obtain⟨e,⟨u,v⟩,c⟩:=w;simp only at e u v c;try dsimp only
 refine N1 (λB=>?_) λB=>?_
 ·have b:i.toNat<s.length:=by omega
  have g:i=((i.toNat:Nat):Int):=by omega
  have y:∀ {k:Int->Option Bool} {P},Ok (k (((s[i.toNat]'b).toNat:Nat):Int)) P->Ok (Ab (Eu s i) k) P:=λh=>by rw[g];exact Y9 b h
  refine y (Ou (Ls o m e) λa z=>Pv (by unfold GK.DS;omega) ?_);subst z;have F:=f.st q (s[i.toNat]'b).toNat;refine j (_,i+1) ⟨by(try simp only);omega,⟨by(try simp only);omega,by(try simp only);omega⟩,?_⟩ (by(try simp only);omega);try simp only
  rw[c,show(i+1).toNat=i.toNat+1 by omega,<-HU,Aaq b]
 ·have b:i.toNat=s.length:=by omega
  rw[b,Aay (Aae _)]at c;refine N1 (λd=>Adu d e (MA ?_)) λd=>MA ?_;· unfold Av;rw[c];exact(Ea d e).symm
  ·unfold Av;rw[c];unfold fin runT;simp[d]
theorem TB(fu:Nat)(l:Tb):F13 fu l=F38 fu l:=by rfl
def zH(fu k:Nat)(nx:(List Bool×Nat)->Option (List Bool))(x:Tr)(o:List Bool)(j:Nat)(a:(List Bool×Nat)->Option (List Bool)):Option (List Bool):=bif Di ((↑j:Int)<(↑(Fw x.2):Int))then Ab (idx x.2 (↑j:Int)) λb=>Ab (idx o (↑k:Int)) λc=>bif c then Ab (idx o (↑k:Int)) λe=>a (o.set k Bp,j+1)else Ab (idx o b.2.2) λd=>Ab (idx o (↑k:Int)) λf=>a (o.set k d,j+1)else nx (o,k+1)
def Ar(l:Tb)(f:Nat->Bool)(s:Nat):Prop:= ∃st,l[s]?=Ac st/\(st.1=Bp\/∃e∈st.2,f e.2.2.toNat=Bp)
def GF(l:Tb)(f:Nat->Bool):Prop:= ∀s,s<l.length->Ar l f s->f s=Bp
def Nj(l:Tb)(f:Nat->Bool):Prop:= ∀s,s<l.length->f s=Bp->live (Av l (s:Nat))=Bp
theorem Ar.mono(k:Be l)(a:∀j,j<l.length->f j=Bp->g j=Bp)(h:Ar l f s):Ar l g s:=by obtain⟨st,b,d⟩:=h;refine⟨st,b,d.imp id λ⟨e,c,i⟩=>⟨e,c,a _ ?_ i⟩⟩;have:=(k st (Aai b)).rg e c;omega
theorem N7{es:List Ck}{m n:Nat}(h:BQ es m n){e:Ck}(a:e∈es):AQ es e.1.toNat=e.2.2:=by obtain⟨i,b,rfl⟩:=Aas a;have g:=h.rg _ a;refine G5 b (by grind[BN]) λj c=>?_;have d:=Aaw.1 h.so j i (by omega) b c;grind[BN]
theorem Ar.live(o:Be l)(k:Nj l f)(h:Ar l f s):live (Av l (s:Nat))=Bp:=by
 obtain⟨st,c,d⟩:=h;have a:Bc l (s:Nat)=st:=by grind[Bc]
 have i:=o st (Aai c);rcases d with d|⟨e,j,m⟩;· exact Jm (w:=[]) (by grind[Av,runT,fin])
 ·have n:=i.rg e j;have g:=k _ (by omega) m;refine RJ (b:=e.1.toNat) ?_;rw[Fj _ _ _ (by omega)];have:Bl l (s:Nat) e.1.toNat=e.2.2:=by unfold Bl;grind[N7]
  grind
theorem GF.all{l:Tb}{f:Nat->Bool}(m:Be l)(h:GF l f):∀(w:List UInt8) (s:Nat),s<l.length->Av l (s:Nat) w=Bp->f s=Bp
 | [],s,c,a=>by refine h s c ⟨l[s],BY c, .inl ?_⟩;grind[Av,runT,fin,Bc]
 |b::w,s,c,a=>by
  have g:Bc l (s:Nat)=l[s]:=Bs (by omega) (by omega);have e:Av l (s:Nat) (b::w)=Av l (Bl l (s:Nat) b.toNat) w:=rfl;rw[e]at a;have k:Bl l (s:Nat) b.toNat=AQ l[s].2 b.toNat:=by grind[Bl]
  rw[k]at a;unfold AQ at a;cases j:l[s].2.find? (BN b.toNat)with
  |none=>grind[D']
  |some e=>
   have d:=Acj j;have n:=(m _ (AN c)).rg e d;refine h s c ⟨l[s],BY c, .inr ⟨e,d,?_⟩⟩;refine GF.all m h w e.2.2.toNat (by omega) ?_;grind
theorem JU{k:Nat}(I:Be l)(H:DP l n)(J:n<fu)(v:k<l.length){P:List Bool->Prop}{nx:(List Bool×Nat)->Option (List Bool)}
  (b:(Nat->((List Bool)×Nat->Option (List Bool))->List Bool->Nat->((List Bool)×Nat->Option (List Bool))->Option (List Bool)))
  (C:∀y o j f,b k y o j f=zH fu k y l[k] o j f)
  (F:∀m,(∀j,j<l.length->m j=if j=k then(g k||l[k].2.any λe=>g e.2.2.toNat)else g j)->Ok (nx (Bg l.length m,k+1)) P):
  Ok (Ad fu (λp f=>b k nx p.1 p.2 f) (Bg l.length g,0)) P:=by
 have D:=I _ (AN v);refine Sb (λj o=> ∃m,o=Bg l.length m/\∀i,i<l.length->m i=if i=k then(g k||(l[k].2.take j).any λe=>g e.2.2.toNat)else g i) l[k].2.length ⟨g,rfl,λi _=>by grind⟩ (by have:=H.2 _ (AN v);omega) (λj o f B A w=>?_) (λo f A=>?_)
 ·obtain⟨m,rfl,c⟩:=A;have G:=D.rg _ (AN B)
  rw[C];have q:((l[k].2.take (j+1)).any λe=>g e.2.2.toNat)=(((l[k].2.take j).any λe=>g e.2.2.toNat)||g l[k].2[j].2.2.toNat):=by rw[<-Acm B,Aeu];simp
  refine PS (Aah B (GB (AW v) (PM (λh=>GB (AW v) (w _ ⟨_,A' _ _ _ _,λi u=>?_⟩)) λh=>?_)))
  ·grind
  ·have x:l[k].2[j].2.2.toNat<l.length:=by omega
   refine GB (a:=m l[k].2[j].2.2.toNat) (Hm G.2.2.2.1 x) (GB (AW v) (w _ ⟨_,A' _ _ _ _,λi u=>?_⟩));by_cases d:i=k
   ·subst d;have t:=c i u;rw[h]at t;simp only[if_true]at t⊢;rw[q,<-Bool.or_assoc,<-t,Alp,c _ x]
    all_goals grind
   grind
 ·obtain⟨m,rfl,c⟩:=A;simp_all[zH]
theorem O9(z:Be l)(X:DP l n)(hn:n<4294967296)(hf:n<fu):Ok (xM fu l) (λr=>r=Bg l.length λs=>live (Av l (s:Nat))):=by
 have hln:=X.1;rw[xM];refine Pv (by grind) ?_;rw[Dv];refine Sb (λk o=> ∃f,o=Bg l.length f/\Nj l f/\(GF l f\/AD l.length f+k<=l.length)) l.length ⟨_,rfl,λs _ h=>(by grind), .inr (by grind[Qn])⟩ (by omega) (λk o nx hk C W=>?_) (λo nx C=>?_)
 ·obtain⟨
      f,rfl,Q,P⟩:=C
  refine Tz (by omega) ?_;refine Sb (λq o=> ∃g,o=Bg l.length g/\Nj l g/\(∀j,j<l.length->f j=Bp->g j=Bp)/\(∀s,s<q->Ar l f s->g s=Bp)/\(GF l f->∀j,j<l.length->g j=f j)) l.length ⟨f,rf,Q,λ_ _ h=>h,λs h=>by omega,λ_ _ _=>rfl⟩ (by omega) (λq o K u C U=>?_) (λo K C=>?_)
  ·obtain⟨
       g,rfl,t,y,O,x⟩:=C
   have B:∀i:Nat->Bool,(∀j,j<l.length->i j=if j=q then(g q||l[q].1)else g j)->∀v,(∀j,j<l.length->v j=if j=q then(i q||l[q].2.any λe=>i e.2.2.toNat)else i j)->Ok (K (Bg l.length v,q+1)) (λr=>r=Bg l.length λs=>live (Av l (s:Nat))):=λi G v L=>by
    have E:∀j,j<l.length->g j=Bp->i j=Bp:=λj b h=>by grind
    have D:Nj l i:=λs a h=>by
     rw[G s a]at h;by_cases e:s=q
     ·subst e;rw[if_pos rfl]at h;cases I:g s;· rw[I,Alp]at h;exact Ar.live z t ⟨l[s],BY a, .inl h⟩
      ·exact t s a I
     ·rw[if_neg e]at h;exact t s a h
    have p:∀j,j<l.length->i j=Bp->v j=Bp:=λj b h=>by grind
    have R:Nj l v:=λs a h=>by
     rw[L s a]at h;by_cases e:s=q
     ·subst e;rw[if_pos rfl]at h;cases I:i s;· rw[I,Alp,Aca]at h;obtain⟨e,A,M⟩:=h;exact Ar.live z D ⟨l[s],BY a, .inr ⟨e,A,M⟩⟩
      ·exact D s a I
     ·rw[if_neg e]at h;exact D s a h
    refine U _ ⟨v,rf,R,λj b h=>p j b (E j b (y j b h)),λs hsq m=>?_,λc j b=>?_⟩
    ·by_cases e:s=q
     ·subst e;obtain⟨st,Z,H⟩:=m;rw[BY u]at Z;cases Z;rw[L s u,if_pos rfl];rcases H with H|⟨e,A,H⟩;· grind
      ·have:(l[s].2.any λe=>i e.2.2.toNat)=Bp:=Aca.2 ⟨e,A,E _ (by have:=(z _ (AN u)).rg e A;omega) (y _ (by have:=(z _ (AN u)).rg e A;omega) H)⟩;rw[this];simp
     grind
    ·have J:=x c;have N:∀j,j<l.length->i j=f j:=λj b=>by
      rw[G j b];split
      ·rename_i e;subst e;rw[J j b];cases S:l[j].1;· simp
       ·rw[c j b ⟨l[j],BY b, .inl S⟩];rfl
      ·exact J j b
     rw[L j b];split
     ·rename_i e;subst e;rw[N j b];cases S:l[j].2.any λe=>i e.2.2.toNat;· simp
      ·obtain⟨e,A,M⟩:=Aca.1 S;rw[N _ (by have:=(z _ (AN b)).rg e A;omega)]at M;rw[c j b ⟨l[j],BY b, .inr ⟨e,A,M⟩⟩];rfl
     ·exact N j b
   refine PS (Aah u (GB (AW u) (PM (λh=>GB (AW u) ?_) λh=>GB (AW u) ?_)));· rw[A'];refine JU z X hf u (λk nx o j F=>zH fu k nx l[q] o j F) (λ_ _ _ _=>rfl) λv p=>B _ (λj b=>?_) v p;by_cases e:j=q<;>simp[e,h]
   ·rw[A'];refine JU z X hf u (λk nx o j F=>zH fu k nx l[q] o j F) (λ_ _ _ _=>rfl) λv p=>B _ (λj b=>?_) v p;by_cases e:j=q<;>simp[e,h]
  ·obtain⟨g,rfl,t,y,O,x⟩:=C
   refine PT (W _ ⟨g,rfl,t,?_⟩);by_cases c:GF l f;· left;intro s a m;rw[x c s a];exact c s a (m.mono z λj b h=>by rw[x c j b]at h;exact h)
   ·have G:=P.resolve_left c;have:∃s,s<l.length/\f s=Aj/\g s=Bp:=IT λV=>c λs a m=>by
     cases d:f s;· exact absurd ⟨s,a,d,O s a m⟩ V
     ·rfl
    have:=Qo (n:=l.length) (f:=f) (g:=g) y this;omega
 ·obtain⟨f,rfl,Q,P⟩:=C
  have c:GF l f:=by
   rcases P with h|h;· exact h
   ·intro s a _;cases d:f s;· have:=Qo (n:=l.length) (f:=f) (g:=λ_=>Bp) (λ_ _ _=>rfl) ⟨s,a,d,rfl⟩;omega
    ·rfl
  refine PT (MA (AP λs a=>?_));cases d:f s
  ·cases T:live (Av l (s:Nat));· rfl
   ·obtain⟨w,Y⟩:=Hj.1 T;rw[c.all z w s a Y]at d;cases d
  ·exact(Q s a d).symm
noncomputable def Ij(l:Tb)(e:Ck):Bool:=live (Av l e.2.2)
noncomputable def DO(l:Tb):Tb:=l.map λs=>(s.1,s.2.filter (Ij l))
theorem LY(l:Tb):(DO l).length=l.length:=by simp[DO]
theorem BQ.filter(h:BQ es m n)(p:Ck->Bool):BQ (es.filter p) m n:=⟨λe a=>h.rg e (Aba.1 a).1,h.so.filter _⟩
theorem eR(h:Be l):Be (DO l):=λs a=>by obtain⟨t,b,rfl⟩:=By.1 a;rw[LY];exact(h t b).filter _
theorem Sj{p q:Ck->Bool}(l:∀e∈es,∀b∈es,q e=Bp->q b=Bp->e=b):(es.filter p).find? q=match es.find? q with
  |some e=>if p e then Ac e else C5
  |none=>C5:=by
 cases h:es.find? q with
 |none=>
  grind
 |some e=>
  try dsimp only
  by_cases c:p e=Bp;· cases d:(es.filter p).find? q with
   |none=>grind
   |some b=>
    grind
  grind
theorem BQ.uniq(h:BQ es m n)(b:Nat):∀e∈es,∀c∈es,BN b e=Bp->BN b c=Bp->e=c:=λe o c d k l=>by
 obtain⟨i,f,rfl⟩:=Aas o;obtain⟨j,g,rfl⟩:=Aas d;simp[BN]at k l;rcases Acx i j with a|a|a;· have:=Aaw.1 h.so i j f g a;omega
 ·grind
 ·have:=Aaw.1 h.so j i g f a;omega
theorem N3{l:Tb}(h:Be l)(q:Int)(b:Nat):Bl (DO l) q b=if live (Av l (Bl l q b))then Bl l q b else-1:=by
 unfold Bl;split;· omega
 ·have a:Bc (DO l) q=((Bc l q).1,(Bc l q).2.filter (Ij l)):=by
   grind[Bc,DO]
  rw[a]
  unfold AQ;have j:∀e∈(Bc l q).2,∀f∈(Bc l q).2,BN b e=Bp->BN b f=Bp->e=f:=by
   unfold Bc;rw[Pe];cases k:l[q.toNat]? with
   |none=>simp
   |some s=>exact(h s (Aai k)).uniq b
  rw[Sj j];grind[Bc,BN,Ij,live,Av]
theorem Pk{l:Tb}(h:Be l):∀(w:List UInt8) (q:Int),Av (DO l) q w=Av l q w
 | [],q=>by grind[Av,runT,fin,Bc,DO]
 |c::w,q=>by
  show Av (DO l) (Bl (DO l) q c.toNat) w=Av l (Bl l q c.toNat) w;rw[N3 h];split;· exact Pk h w _
  grind[live,Av,Bl,CV,D']
theorem eS(h:DP l n):DP (DO l) n:=⟨by rw[LY];exact h.1,λs a=>by obtain⟨t,b,rfl⟩:=By.1 a;have:=h.2 t b;grind⟩
theorem QW(y:Be l)(t:DP l n)(B:n<4294967296)(z:n<fu):Ok (F12 fu l) (λr=>r=DO l):=by
 have A:=t.1;rw[F12];refine Ou (O9 y t B z) λx f=>?_;subst f;refine Sb (λk o=>o=(l.take k).map λs=>(s.1,s.2.filter (Ij l))) l.length (by simp) (by omega) (λk o nx p i q=>?_) (λo nx i=>?_)
 ·subst i
  have v:=AN p;have C:=t.2 _ v;refine PS (Aah p ?_);refine Sb (λj x=>x=(l[k].2.take j).filter (Ij l)) l[k].2.length (by simp) (by omega) (λj x u m f c=>?_) (λx u f=>?_)
  ·try dsimp only
   have w:=(y _ v).rg _ (AN m);have d:(l[k].2.take (j+1)).filter (Ij l)=(l[k].2.take j).filter (Ij l)++(if Ij l l[k].2[j]then [l[k].2[j]]else []):=by rw[<-Acm m,Aey];simp[Afm]
   have e:Ij l l[k].2[j]=live (Av l ((l[k].2[j].2.2.toNat:Nat):Int)):=by unfold Ij;rw[Abd w.2.2.2.1]
   refine PS (Aah m (GB (Hm w.2.2.2.1 (by omega)) (PM (λh=>Pv ?_ (c _ ?_)) λh=>c _ ?_)));all_goals grind
  ·subst f
   refine PT (Pv ?_ (q _ ?_));· simp only[Aao,Abg,Abn,Adt];unfold Ah;omega
   ·rw[Al,<-Acm p,Aan];rfl
 ·subst i
  exact PT (MA (by rw[Al];rfl))
structure Ren(l:Tb)(ord:List Int):Prop where
 nd:ord.Nodup
 rg:∀q∈ord,0<=q/\q<l.length
def Mk(a:List Int)(e:Ck):Ck:=(e.1,e.2.1,((a.idxOf e.2.2:Nat):Int))
def Pb(l:Tb)(a:List Int)(q:Int)(s:Tr):Prop:=s.1=(Bc l q).1/\s.2=(Bc l q).2.map (Mk a)/\∀e∈(Bc l q).2,e.2.2∈a
theorem oh{d:Tb}(G:Be l)(r:Ren l a)(I:d.length=a.length)(v:∀(k:Nat) (q:Int) (s:Tr),a[k]?=Ac q->d[k]?=Ac s->Pb l a q s):
  Be d/\∀(w:List UInt8) (k:Nat) (q:Int),a[k]?=Ac q->Av d (k:Nat) w=Av l q w:=by
 have g:∀(k:Nat) (q:Int),a[k]?=Ac q->Pb l a q (Bc d (k:Nat)):=λk q f=>by grind[Bc,Fw]
 have A:∀q∈a,BQ (Bc l q).2 256 l.length:=λq n=>by have:=r.rg q n;rw[Bs this.1 this.2];exact G _ (AN _)
 refine⟨λs F=>?_,λw=>?_⟩;· obtain⟨k,f,rfl⟩:=Aas F;have n:a[k]?=Ac a[k]:=BY (by omega);obtain⟨z,o,p⟩:=v k _ _ n (BY f);have i:=A _ (Aai n);rw[o];refine⟨λe B=>?_,Adq.2 i.so⟩;obtain⟨t,j,rfl⟩:=By.1 B;have E:=i.rg t j;grind[Mk]
 ·induction w with
  |nil=>
   intro k q f;have u:=r.rg q (Aai f);have:=(g k q f).1;grind[Av,runT,fin]
  |cons c w H=>
   intro k q f;have u:=r.rg q (Aai f);obtain⟨z,o,p⟩:=g k q f;show Av d (Bl d (k:Nat) c.toNat) w=Av l (Bl l q c.toNat) w;have x:Bl d (k:Nat) c.toNat=AQ ((Bc l q).2.map (Mk a)) c.toNat:=by grind[Bl]
   have y:Bl l q c.toNat=AQ (Bc l q).2 c.toNat:=by unfold Bl;rw[if_neg (by omega)]
   rw[x,y];unfold AQ;have m:((Bc l q).2.map (Mk a)).find? (BN c.toNat)=((Bc l q).2.find? (BN c.toNat)).map (Mk a):=by rw[List.find?_map];rfl
   rw[m];cases C:(Bc l q).2.find? (BN c.toNat)with
   |none=>dsimp only[Option.map];rw[D' (by decide),D' (by decide)]
   |some e=>
    have D:=p e (Acj C);have h:=Adv D;exact H _ _ (by rw[BY h,Aew h])
theorem R3(h1:∀j (_:j<i) (f:j<a.length),a[j]≠x)(h2:i<=a.length)(h3:∀h:i<a.length,a[i]=x):a.idxOf x=i:=by
 rcases Aam i a.length with h|h
 ·have d:x∈a:=h3 h▸AN h;have c:=Adv d;have g:=Aew c;rcases Acx (a.idxOf x) i with b|b|b;all_goals simp_all[absurd,List.idxOf]
 grind
def Mn(a:List Int)(x:Int):List Int:=if x∈a then a else a++[x]
theorem Zz(a:List Int)(x:Int):x∈Mn a x:=by grind[Mn]
theorem fF(a:List Int)(x:Int):(Mn a x).idxOf x=a.idxOf x:=by grind[Mn]
def FI(a b:List Int):Prop:= ∃m,b=a++m
theorem FI.refl(a:List Int):FI a a:=⟨[],by simp⟩
theorem FI.trans{c:List Int}(h:FI a b)(k:FI b c):FI a c:=by obtain⟨x,rfl⟩:=h;obtain⟨y,rfl⟩:=k;exact⟨x++y,by simp⟩
theorem FI.put(a:List Int)(x:Int):FI a (Mn a x):=by unfold Mn;split;exact .refl a;exact⟨[x],rfl⟩
theorem FI.mem(h:FI a b)(c:x∈a):x∈b:=by obtain⟨m,rfl⟩:=h;grind
theorem FI.ix(h:FI a b)(c:x∈a):b.idxOf x=a.idxOf x:=by obtain⟨m,rfl⟩:=h;grind
theorem FI.get(h:FI a b)(c:a[i]?=Ac x):b[i]?=Ac x:=by obtain⟨m,rfl⟩:=h;grind
theorem FI.len(h:FI a b):a.length<=b.length:=by obtain⟨m,rfl⟩:=h;simp
theorem Pb.ext{s:Tr}(h:Pb l a q s)(f:FI a b):Pb l b q s:=by obtain⟨g,i,d⟩:=h;refine⟨g,?_,λe c=>f.mem (d e c)⟩;rw[i];refine Abs λe c=>?_;simp only[Mk,f.ix (d e c)]
theorem Ren.put(h:Ren l d)(h0:0<=x)(h1:x<l.length):Ren l (Mn d x):=by
 unfold Mn;split;· omega
 ·refine⟨Acv.2 ⟨h.nd,by simp,λa f b e=>?_⟩,λq c=>?_⟩;· grind
  ·rcases AS.1 c with c|c;· exact h.rg q c
   grind
theorem Ren.le{c:List Int}(h:Ren l c):c.length<=l.length:=by
 have e:(c.map ZV).Nodup:=by refine Adq.2 (Agf (λ{a b} f i g=>?_) h.nd);have:=h.rg a f;have:=h.rg b i;omega
 have:=Cf (b:=av l.length) e (λx k=>by obtain⟨q,j,rfl⟩:=By.1 k;have:=h.rg q j;grind);grind
theorem Ri(hw:Be l)(h0:0<l.length)(hs:DP l n)(hn:n<4294967296)(hf:n+1<fu):
  Ok (F11 fu l) (λr=>Be r/\Av r 0=Av l 0/\DP r n/\0<r.length):=by
 have hln:=hs.1;rw[F11];refine W5 (X:=List Int×Tb×Nat) (λx=>Ren l x.1/\x.1[0]?=Ac 0/\x.2.2=x.2.1.length/\x.2.1.length<=x.1.length/\∀(k:Nat) (q:Int) (s:Tr),x.1[k]?=Ac q->x.2.1[k]?=Ac s->Pb l x.1 q s)
  (λx=>l.length+1-x.2.2) ⟨⟨by simp,by grind⟩,rfl,rfl,by simp,by simp⟩ (by omega) λx nx S _ hnx=>?_;obtain⟨c,out,k⟩:=x;obtain⟨I,P,F,W,d⟩:=S;dsimp only at I P F W d;subst F;have hol:=I.le;try dsimp only
 refine N1 (λY=>?_) λY=>MA ?_
 ·have A:out.length<c.length:=by omega
  have t:=I.rg _ (AN A);have p:=Bs t.1 t.2;have L:Bc l c[out.length]∈l:=p▸AN _;have hE:=hw _ L;have hsl:=hs.2 _ L;refine Aah A (Adu t.1 t.2 (Aah A (Adu t.1 t.2 ?_)));rw[<-p];generalize H:Bc l c[out.length]=st at L hE hsl;refine Xs (λj o Q=>Ren l o/\FI c o/\Q=(st.2.take j).map (Mk o)/\∀e∈st.2.take j,e.2.2∈o) st.2.length ⟨I, .refl _,by simp,by simp⟩ (by omega) (λj o Q N O T Z=>?_) (λo Q N T=>?_)
  ·obtain⟨y,b,rfl,g⟩:=T
   have hr:=hE.rg _ (AN O);have hrl:=y.le;refine PS (Aah O ?_);have f:Ok (N (Mn o st.2[j].2.2,(st.2.take j).map (Mk o)++([(st.2[j].1,st.2[j].2.1,((o.idxOf st.2[j].2.2:Nat):Int))]:List (Int×Int×Int)),j+1)) (λr=>Be r/\Av r 0=Av l 0/\DP r n/\0<r.length):=by
    refine Z _ _ ⟨y.put hr.2.2.2.1 hr.2.2.2.2,b.trans (.put _ _),?_,λe U=>?_⟩
    ·rw[<-Acm O,Aan];congr 1;· refine Abs λe U=>?_;simp only[Mk,(FI.put o st.2[j].2.2).ix (g e U)]
     grind[Mk,fF]
    ·rcases(Ag O).1 U with h|rfl;· exact(FI.put _ _).mem (g e h)
     grind[Zz]
   refine W5 (X:=Int) (λi=>(0<=i/\i<=o.length)/\∀q (_:q<i.toNat) (t:q<o.length),o[q]≠st.2[j].2.2) (λi=>o.length-i.toNat) ⟨⟨by simp,by omega⟩,λq h=>by simp at h⟩ (by omega) λi nx2 S _ hn2=>?_;obtain⟨⟨C,Nt⟩,G⟩:=S;try dsimp only
   have B:((st.2.take j).map (Mk o)).length+([(st.2[j].1,st.2[j].2.1,i)]:List (Int×Int×Int)).length<=Ah:=by simp only[Aao,Abg,Abn,Adt];unfold Ah;omega
   refine N1 (λhi=>?_) λhi=>?_
   ·have D:i.toNat<o.length:=by omega
    refine Adu C hi (N1 (λhne=>Pv (by omega) (hn2 (i+1) ⟨by omega,λq h1 R=>?_⟩ (by omega))) λheq=>?_)
    ·rcases Aam q i.toNat with h3|h3;· exact G q h3 R
     ·obtain rfl:q=i.toNat:=by omega
      exact hne
    ·have heq:o[i.toNat]=st.2[j].2.2:=IT heq;have E:o.idxOf st.2[j].2.2=i.toNat:=R3 G (by omega) λ_=>heq;have z:st.2[j].2.2∈o:=heq▸AN D;refine P3 (by omega) ?_;refine Pv B ?_;rw[E,Abd C]at f;unfold Mn at f;rw[if_pos z]at f;exact f
   ·have D:i.toNat=o.length:=by omega
    have z:st.2[j].2.2∉o:=λL=>by obtain⟨q,t,e⟩:=Aas L;exact G q (by omega) t e
    have E:o.idxOf st.2[j].2.2=i.toNat:=by rw[List.idxOf_eq_length z,D]
    refine PS (Pv (by(try simp)<;>(unfold Ah;omega)) ?_);refine Pv B ?_;rw[E,Abd C]at f;unfold Mn at f;rw[if_neg z]at f;exact f
  ·obtain⟨y,b,rfl,g⟩:=T
   rw[Al]at g;have:=b.len;refine PT (Pv (by(try simp)<;>(unfold Ah;omega)) (hnx _ ⟨y,b.get P,by simp,by simp;omega,λk q s F m=>?_⟩ (by dsimp only;omega)));by_cases V:k<out.length
   ·rw[Aaa V]at m;have J:c[k]?=Ac c[k]:=BY (by omega);have u:=b.get J;rw[F]at u;obtain rfl:q=c[k]:=by simpa using u
    exact(d k _ s J m).ext b
   ·rw[Aab (by omega)]at m;have K:k=out.length:=by
     have:=(IS.1 m).1;simp at this;omega
    subst K;simp at m;subst m;have u:=b.get (BY A);rw[F]at u;obtain rfl:q=c[out.length]:=by simpa using u
    refine⟨by rw[H],by rw[H,Al],by rw[H];exact g⟩
 ·have hl:out.length=c.length:=by omega
  obtain⟨h1,R⟩:=oh hw I hl d;have hpos:=(IS.1 P).1;refine⟨h1,funext λw=>R w 0 0 P,⟨by omega,λs m=>?_⟩,by omega⟩;obtain⟨k,F,rfl⟩:=Aas m;have t:c[k]?=Ac c[k]:=BY (by omega);have p:=(d k _ _ t (BY F)).2.1;have M:=I.rg _ (Aai t);rw[p,Aao,Bs M.1 M.2];exact hs.2 _ (AN _)
theorem Re(i:a.length<fu):Ok (F15 fu (a,b)) (λr=>r=Bp↔a=b):=by
 refine N1 (λh=>MA ⟨λh=>(by grind),λc=>by grind⟩) λh=>?_;have m:a.length=b.length:=by omega
 refine Vi (λk=> ∀j (_:j<k) (h:j<a.length) (c:j<b.length),a[j]=b[j]) a.length (by omega) i (λk nx l d n=>?_) (λnx d=>?_)
 ·refine PS (Aah l (Aah (by omega) (N1 (λh=>MA ⟨λh=>(by grind),λc=>by grind⟩) λh=>n λj o f g=>?_)));grind
 ·exact PT (MA ⟨λ_=>Hy m λj h c=>d j h h c,λ_=>rfl⟩)
theorem R4[BEq α] [LawfulBEq α]{a:List α}{x:α}(h1:∀j (_:j<i) (f:j<a.length),a[j]≠x)(hi:i<a.length)(h3:a[i]=x):a.idxOf x=i:=by have e:x∈a:=h3▸AN hi;have c:=Adv e;have d:=Aew c;rcases Acx (a.idxOf x) i with b|b|b;all_goals simp_all[absurd,List.idxOf]
theorem bh{l:List (List Int)}{x:List Int}(n:l.length<fu)(o:∀y∈l,y.length<=m)(p:m<fu):Ok (F16 fu (l,x)) (λr=>if x∈l then r=(l.idxOf x:Nat)else r= -1):=by
 refine Vi (λk=> ∀j (_:j<k) (h:j<l.length),l[j]≠x) l.length (by omega) n (λk nx c a q=>?_) (λnx a=>?_)
 ·refine PS (Aah c (Ou (Re (by grind)) λr g=>PM (λh=>MA ?_) λh=>q λj d i=>?_));· have b:=g.1 h;rw[if_pos (b▸AN c),R4 a c b]
  grind
 ·refine PT (MA ?_);grind
def Trim(l:Tb):Prop:= ∀(q:Int) (b:Nat),0<=Bl l q b->live (Av l (Bl l q b))=Bp
def c5(c:Nat->Int)(t:Int):Int:=if t<0 then t else c t.toNat
def E6(l:Tb)(cs:List Int)(c:Nat->Int)(s:Nat):List Int:=c s::cs.map λb=>c5 c (Bl l (s:Nat) b.toNat)
structure Cl5B(l:Tb)(c:Nat->Int):Prop where
 rg:∀s,s<l.length->0<=c s
structure WI(l:Tb)(c:Nat->Int):Prop where
 iff:∀s t,s<l.length->t<l.length->(c s=c t↔Av l (s:Nat)=Av l (t:Nat))
theorem FY:E6 l cs c s=E6 l cs c t↔c s=c t/\∀b∈cs,c5 c (Bl l (s:Nat) b.toNat)=c5 c (Bl l (t:Nat) b.toNat):=by simp[E6]
theorem RM{l:Tb}(f:Be l){cs:List Int}(hc:Br cs)(n:DK cs l)(c:Nat->Int)(j:Cl5B l c)
  (h1:∀s t,s<l.length->t<l.length->c s=c t->(Bc l (s:Nat)).1=(Bc l (t:Nat)).1)
  (h2:∀s t,s<l.length->t<l.length->c s=c t->∀b∈cs,c5 c (Bl l (s:Nat) b.toNat)=c5 c (Bl l (t:Nat) b.toNat)):
  ∀(w:List UInt8) (s t:Nat),s<l.length->t<l.length->c s=c t->Av l (s:Nat) w=Av l (t:Nat) w
 | [],s,t,k,m,h=>by grind[Av,runT,fin]
 |b::w,s,t,k,m,h=>by
  obtain⟨i,o,p,r⟩:=hc.find b.toNat b.toNat_lt;have e:∀q:Nat,Av l (q:Nat) (b::w)=Av l (Bl l (q:Nat) cs[i].toNat) w:=λq=>by show Av l (Bl l (q:Nat) b.toNat) w=_;rw[n.const hc f o p r]
  have a:=h2 s t k m h _ (AN o);have u:=f.st (s:Nat) cs[i].toNat;have v:=f.st (t:Nat) cs[i].toNat;rw[e,e];unfold c5 at a;by_cases g:Bl l (s:Nat) cs[i].toNat<0
  ·by_cases d:Bl l (t:Nat) cs[i].toNat<0;· simp_all
   ·have:=j.rg (Bl l (t:Nat) cs[i].toNat).toNat (by omega);omega
  ·by_cases d:Bl l (t:Nat) cs[i].toNat<0;· have:=j.rg (Bl l (s:Nat) cs[i].toNat).toNat (by omega);omega
   ·rw[if_neg g,if_neg d]at a;have:=RM f hc n c j h1 h2 w _ _ (by omega) (by omega) a;rwa [Abd (by omega),Abd (by omega)]at this
theorem aI(i:Be l)(ht:Trim l)(hc:Br cs)(a:∀s t,s<l.length->t<l.length->Av l (s:Nat)=Av l (t:Nat)->c s=c t)(k:s<l.length)(f:t<l.length)(h:Av l (s:Nat)=Av l (t:Nat)):
  E6 l cs c s=E6 l cs c t:=by
 refine FY.2 ⟨a s t k f h,λb j=>?_⟩;have m:=hc.rg b j;have n:=i.st (s:Nat) b.toNat;have o:=i.st (t:Nat) b.toNat;have e:Av l (Bl l (s:Nat) b.toNat)=Av l (Bl l (t:Nat) b.toNat):=by rw[<-Fj _ _ _ (by omega),<-Fj _ _ _ (by omega),h]
 unfold c5;by_cases g:Bl l (s:Nat) b.toNat<0
 ·by_cases d:Bl l (t:Nat) b.toNat<0;· omega
  ·have:=ht (t:Nat) b.toNat (by omega);grind[Hi]
 ·by_cases d:Bl l (t:Nat) b.toNat<0;· have:=ht (s:Nat) b.toNat (by omega);rw[e,Hi d]at this;cases this
  ·rw[if_neg g,if_neg d];refine a _ _ (by omega) (by omega) ?_;rw[Abd (by omega),Abd (by omega),e]
theorem Gf.inj{f:Nat->α}{u:List α}(h:Gf n f u)(g:n<=u.length):∀s t,s<n->t<n->f s=f t->s=t:=λs t b c a=>by have d:Gf n (λi=>i) (av n):=⟨List.nodup_range,λx=>by simp⟩;have:=(h.bg d (λs t _ _ e=>by rw[e])).2 (by have:=h.le;grind) s t b c a;omega
structure Ref5(l:Tb)(k r:Nat)(c:Nat->Int):Prop extends Cl5B l c where
 fwd:∀s t,s<l.length->t<l.length->Av l (s:Nat)=Av l (t:Nat)->c s=c t
 acc:∀s t,s<l.length->t<l.length->c s=c t->(Bc l (s:Nat)).1=(Bc l (t:Nat)).1
 AD:k=0\/∃(key:Nat->List Int) (u:List (List Int)),Gf l.length key u/\u.length=k/\∀s t,s<l.length->t<l.length->c s=c t->key s=key t
 rnd:r<=k
theorem SK(hw:Be l)(htr:Trim l)(h0:0<l.length)(hc:Br cs)(hf:DK cs l)(d:DP l n)(hn:n<4294967296)(hfu:n+2<fu)(hfu':257<fu):
  Ok (F17 fu (l,cs)) (λr=> ∃c,WI l c/\r=Bg l.length c):=by
 have hln:=d.1;have hcl:=hc.le;have G:∀k (K:k<l.length),Bc l (k:Nat)=l[k]:=λk K=>Bs (by omega) (by omega);refine Pv (by grind) ?_;rw[Dv];refine Sb (λk x=>x=Bg l.length (λs=>if s<k then(if(Bc l (s:Nat)).1 then 1 else 0)else 0)) l.length (by simp) (by omega) (λk x nx K p E=>?_) (λx nx p=>?_)
 ·subst p
  refine PS (Aah K (PM (λh=>GB (AW K) (E _ ?_)) λh=>E _ (AP λs d=>?_)))
  ·rw[A'];grind
  grind
 ·subst p
  refine P3 (by omega) ?_;refine Xs (S:=List Int) (T:=Nat) (λr X k=>k<=l.length/\∃c,X=Bg l.length c/\Ref5 l k r c) l.length ⟨by omega,_,rf,⟨λs d=>?_⟩,λs t d e h=>?_,λs t d e h=>?_, .inl rf,Aae _⟩ (by omega) (λr X k nx' hr f E=>?_) (λX k nx' f=>?_);· omega
  ·have:=congrFun h [];grind[Av,runT,fin]
  ·grind
  ·obtain⟨
       hkl,c,rfl,f⟩:=f
   refine PS (Pv (by grind) ?_);refine Xs (λj y u=>Gf j (E6 l cs c) u/\(∀x∈u,x.length=cs.length+1)/\y=Bg l.length (λs=>if s<j then((u.idxOf (E6 l cs c s):Nat):Int)else 0)) l.length ⟨.zero _,by simp,by simp⟩ (by omega) (λj y u nx2 hj Y P=>?_) (λy u nx2 Y=>?_)
   ·obtain⟨
        D,F,rfl⟩:=Y;have H:=D.le
    refine PS (GB (AW hj) ?_);refine Sb (λi x=>x=c j::(cs.take i).map λb=>c5 c (Bl l (j:Nat) b.toNat)) cs.length (by simp) (by omega) (λi x V hi p hn3=>?_) (λx V p=>?_)
    ·subst p;try dsimp only
     have Z:=hc.rg _ (AN hi);have hst:=hw.st (j:Nat) cs[i].toNat;have z:Ok (Af ((c j::(cs.take i).map λb=>c5 c (Bl l (j:Nat) b.toNat)).length+1<=Ah) (V ((c j::(cs.take i).map λb=>c5 c (Bl l (j:Nat) b.toNat))++[c5 c (Bl l (j:Nat) cs[i].toNat)],i+1))) (λr=> ∃c,WI l c/\r=Bg l.length c):=by refine Pv (by(try simp)<;>(unfold Ah;omega)) (hn3 _ ?_);rw[<-Acm hi,Aan];rfl
     refine PS (Aah hi (Pv (by omega) (Ou (Q:=λr=>r=Bl l (j:Nat) cs[i].toNat) ?_ λa I=>?_)));· have J:=Ls (b:=cs[i].toNat) (i:=(j:Int)) d (by omega:n<fu) (by omega);rwa [Abd Z.1]at J
     ·subst I;refine N1 (λh=>GB (Hm h (by omega)) ?_) λh=>?_;· unfold c5 at z;rw[if_neg (by omega)]at z;exact z
      ·unfold c5 at z;rw[if_pos (by omega)]at z;exact z
    ·subst p;try dsimp only
     rw[Al];refine PT (Ou (bh (m:=cs.length+1) (by omega) (λy hy=>by rw[F y hy];exact Aae _) (by omega)) λa I=>?_);have O:(c j::cs.map λb=>c5 c (Bl l (j:Nat) b.toNat))=E6 l cs c j:=rfl;rw[O]at I⊢;refine N1 (λh=>?_) λh=>?_
     ·have C:E6 l cs c j∉u:=λhm=>by rw[if_pos hm]at I;omega
      refine Pv (by(try simp)<;>(unfold Ah;omega)) ?_;refine GB (AW hj) (P _ _ ⟨D.new C,λx p=>?_,?_⟩)
      ·rcases AS.1 p with p|p;· exact F x p
       ·simp at p;subst p;simp[E6]
      ·rw[A'];refine AP λs d=>?_;by_cases A:s=j;· subst A;rw[if_pos rfl,if_pos (by omega),Afe,if_neg C];simp
       ·rw[if_neg A];by_cases g:s<j;· rw[if_pos g,if_pos (by omega),Afe,if_pos ((D.mem _).2 ⟨s,g,rfl⟩)]
        ·rw[if_neg g,if_neg (by omega)]
     ·have C:E6 l cs c j∈u:=IT λhm=>by rw[if_neg hm]at I;omega
      rw[if_pos C]at I;refine GB (AW hj) (P _ _ ⟨D.old C,F,?_⟩);rw[A',I];refine AP λs d=>?_;by_cases A:s=j;· subst A;rw[if_pos rfl,if_pos (by omega)]
      ·rw[if_neg A];by_cases g:s<j;· rw[if_pos g,if_pos (by omega)]
       ·rw[if_neg g,if_neg (by omega)]
   ·obtain⟨D,F,rfl⟩:=Y;have H:=D.le;have B:∀s,s<l.length->E6 l cs c s∈u:=λs d=>(D.mem _).2 ⟨s,d,rfl⟩;have hpos:0<u.length:=Ags (B 0 h0);try dsimp only
    have L:Bg l.length (λs=>if s<l.length then((u.idxOf (E6 l cs c s):Nat):Int)else 0)=Bg l.length (λs=>((u.idxOf (E6 l cs c s):Nat):Int)):=
     AP λs d=>by rw[if_pos d]
    rw[L];have o:∀s t,s<l.length->t<l.length->(((u.idxOf (E6 l cs c s):Nat):Int)=((u.idxOf (E6 l cs c t):Nat):Int)↔E6 l cs c s=E6 l cs c t):=λs t d e=>
     ⟨λh=>OH (B s d) (B t e) (Int.ofNat_inj.1 h),λh=>by rw[h]⟩;have N:∀s t,s<l.length->t<l.length->Av l (s:Nat)=Av l (t:Nat)->E6 l cs c s=E6 l cs c t:=λs t d e h=>aI hw htr hc f.fwd d e h;refine PT (N1 (λh=>MA ⟨λs=>((u.idxOf (E6 l cs c s):Nat):Int),⟨λs t d e=>?_⟩,rfl⟩) λh=>?_)
    ·rw[o s t d e];refine⟨λhe=>?_,N s t d e⟩;have hk':u.length=k:=by omega
     obtain⟨key,v,R,U,q⟩:=f.AD.resolve_left (by omega);have M:=(R.bg D (λs t d e h=>q s t d e (FY.1 h).1)).2 (by omega);funext w;exact RM hw hc hf c f.toCl5B (λs t d e h=>f.acc s t d e h) (λs t d e h=>(FY.1 (M s t d e (q s t d e h))).2) w s t d e (FY.1 he).1
    ·have hlt:k<u.length:=by
      rcases f.AD with h0|⟨key,v,R,U,q⟩;· omega
      ·have:=(R.bg D (λs t d e h=>q s t d e (FY.1 h).1)).1;omega
     have:=f.rnd;exact E _ _ ⟨H,_,rfl,⟨⟨λs d=>by omega⟩,λs t d e h=>(o s t d e).2 (N s t d e h),λs t d e h=>f.acc s t d e (FY.1 ((o s t d e).1 h)).1, .inr ⟨E6 l cs c,u,D,rfl,λs t d e h=>(o s t d e).1 h⟩,by omega⟩⟩
  ·obtain⟨hkl,c,rfl,f⟩:=f;try dsimp only
   refine PT (MA ⟨c,⟨λs t d e=>⟨λh=>?_,f.fwd s t d e⟩⟩,rfl⟩);have:=f.rnd;obtain⟨key,v,R,U,q⟩:=f.AD.resolve_left (by omega);rw[R.inj (by omega) s t d e (q s t d e h)]
theorem OD{D:Lg}(h1:∀j (_:j<i) (e:j<kn.length),kn[j]≠D)(h2:i<=kn.length)(h3:∀h:i<kn.length,kn[i]=D):Ig kn D=i:=by grind[Ig,absurd]
structure uO(l:Tb)(kn:List Lg)(ord:List Int):Prop extends KnOk (pO l) kn where
 len:ord.length=kn.length
 ord:∀(i:Nat) (q:Int),ord[i]?=Ac q->(0<=q/\q<l.length)/\kn[i]?=Ac (Av l q)
theorem uO.put(h:uO l kn a)(h0:0<=q)(h1:q<l.length)(f:live (Av l q)=Bp)(g:Av l q∉kn):uO l (IJ kn (Av l q)) (a++[q]):=by
 have e:IJ kn (Av l q)=kn++[Av l q]:=by simp_all[IJ,if_pos,Gw]
 refine⟨h.toKnOk.IJ (Jo h0 h1) f,by rw[e];simp[h.len],λi x b=>?_⟩;rw[e];by_cases d:i<a.length;· rw[Aaa d]at b;have:=h.ord i x b;grind
 ·have c:i=a.length:=by
   grind
  subst c;simp at b;subst b;exact⟨⟨h0,h1⟩,by rw[h.len];simp⟩
theorem PG(v:WI l c)(h:uO l kn a)(h0:0<=q)(h1:q<l.length)(t:a.length<fu):
  Ok (xF fu (a,(Bg l.length c),q)) (λr=>r=(Ig kn (Av l q):Nat)):=by
 have p:=h.len;refine Vi (λk=> ∀j (_:j<k) (u:j<kn.length),kn[j]≠Av l q) a.length (by omega) t (λk nx f i w=>?_) (λnx i=>?_)
 ·obtain⟨⟨g,x⟩,o⟩:=h.ord k _ (BY f)
  have b:c a[k].toNat=c q.toNat↔Av l a[k]=Av l q:=by have:=v.iff a[k].toNat q.toNat (by omega) (by omega);grind
  refine PS (Aah f (GB (Hm g (by omega)) (GB (Hm h0 (by omega)) (N1 (λm=>MA ?_) λm=>w λj u s=>?_))));· rw[OD i (by omega) λ_=>by simp_all]
  grind
 ·refine PT (MA ?_);rw[OD i (by omega) λh=>by omega]
def gB(fu:Nat)(es:List Ck)(i:Nat)(nx:(List Int×List Ck×Nat)->Option (Tb×Int))(lo hi n:Int)(a:List Int):Option (Tb×Int):=Aa (Lc.u8) lo<|Aa (Lc.u8) hi<|Af (Fw es+1<=Ah)<|nx (a,es++[(lo,hi,n)],i+1)
def j20(fu:Nat)(es:List Ck)(i:Nat)(nx:(List Int×List Ck×Nat)->Option (Tb×Int))(lo hi n:Int)(a:List Int):Option (Tb×Int):=Aa (Lc.i64) ((↑(Fw es):Int)-(1:Int))<|bif Di ((0:Int)<=(↑(Fw es):Int)-(1:Int))then Ab (idx es ((↑(Fw es):Int)-(1:Int))) λd=>bif Di (d.2.2=n)then Ab (idx es ((↑(Fw es):Int)-(1:Int))) λb=>Aa (Lc.i64) (b.2.1+(1:Int))<|bif Di (b.2.1+(1:Int)=lo)then Aa (Lc.u8) hi<|Ab (idx es ((↑(Fw es):Int)-(1:Int))) λc=>nx (a,es.set (ZV ((↑(Fw es):Int)-(1:Int))) (c.1,hi,c.2.2),i+1)else gB fu es i nx lo hi n a else gB fu es i nx lo hi n a else gB fu es i nx lo hi n a
noncomputable def zr(fu:Nat)(d a:List Int)(es:List Ck)(i:Nat)(nx:(List Int×List Ck×Nat)->Option (Tb×Int))(lo c hi:Int):Option (Tb×Int):=
 Ab (xF fu (a,d,c)) λb=>
 bif Di (b=(↑(Fw a):Int))then
  Af (Fw a+1<=Ah)<|
  j20 fu es i nx lo hi b (a++[c])
 else
  j20 fu es i nx lo hi b a
theorem aJ{q:Nat}{n:Int}{nx:(List Int×List Ck×Nat)->Option (Tb×Int)}{P:Tb×Int->Prop}
  (hc:Br cs) (hi:i<cs.length) (m:BQ es (pos cs i) q) (s:es.length<=256) (h:Ok (nx (d,push es cs[i] (GS cs i) n,i+1)) P):
  Ok (j20 fu es i nx cs[i] (GS cs i) n d) P:=by
 have o:=hc.rg _ (AN hi);have g:=hc.hi hi;have a:push es cs[i] (GS cs i) n=es++[(cs[i],GS cs i,n)]->Ok (gB fu es i nx cs[i] (GS cs i) n d) P:=λr=>
  Pv (p:=GK.F8 cs[i]) (by omega) (Pv (p:=GK.F8 (GS cs i)) (by omega) (Pv (by grind) (by grind)));refine Pv (by omega) (N1 (λl=>?_) λl=>a ?_)
 ·have e:0<es.length:=by omega
  have k:((es.length:Int)-1)=((es.length-1:Nat):Int):=by omega
  have b:es.length-1<es.length:=by omega
  have u:=m.rg _ (AN b);have t:=PA hc i;have c:=Rm (lo:=cs[i]) (hi:=GS cs i) (n:=n) e;rw[k];refine Aah b (N1 (λf=>Aah b (Pv (by omega) (N1 (λj=>?_) λj=>?_))) λf=>?_);· refine Pv (by omega) (Aah b ?_);rw[if_pos ⟨f,j⟩]at c;rw[c]at h;rw[f];exact h
  all_goals grind
 ·obtain rfl:es=[]:=OF.1 (by omega);rfl
noncomputable def vQ(fu:Nat)(l:Tb)(cs k:List Int):Option (Tb×Int):=
 Ad fu (
      λ(c:List Int×Tb×Nat) g=>
  bif Di ((↑c.2.2:Int)<(↑(Fw c.1):Int))then
   Ab (idx c.1 (↑c.2.2:Int)) λh=>
   Ab (idx l h) λi=>
   Ad fu (λ(a:List Int×List Ck×Nat) b=>
    bif Di ((↑a.2.2:Int)<(↑(Fw cs):Int))then
     Ab (idx cs (↑a.2.2:Int)) λd=>
     Ab (idx a.1 (↑c.2.2:Int)) λj=>
     Aa (Lc.u8) (d)<|
     Ab (tT fu (l,j,d)) λe=>
     bif Di (e<(0:Int))then
      b (a.1,a.2.1,a.2.2+1)
     else
      bif Di ((↑(a.2.2+1):Int)<(↑(Fw cs):Int))then
       Ab (idx cs (↑(a.2.2+1):Int)) λf=>
       Aa (Lc.i64) (f-(1:Int))<|
       zr fu k a.1 a.2.1 a.2.2 b d e (f-1)
      else
       zr fu k a.1 a.2.1 a.2.2 b d e 255
    else
     Af (Fw c.2.1+1<=Ah)<|
     g (a.1,c.2.1++[(i.1,a.2.1)],c.2.2+1)) (c.1,[],0)
  else
   Ac (c.2.1,(0:Int))) ([(0:Int)],[],0)
theorem Z4(S:Be l)(htr:Trim l)(h0:0<l.length)(M:live (Av l 0)=Bp)(hc:Br cs)(hf:DK cs l)(hk:WI l c)(hs:DP l n)(hn:n<4294967296)(hfu:n+2<fu)(hfu':257<fu):
  Ok (vQ fu l cs (Bg l.length c)) (λr=>r=(BW l,0)):=by
 have hcl:=hc.le;have hln:=hs.1;refine W5 (X:=List Int×Tb×Nat) (λx=> ∃f F,uO l f x.1/\x.2.2=x.2.1.length/\x.2.1.length<=f.length/\l.length<F+x.2.1.length/\DG F f x.2.1=BW l) (λx=>l.length+1-x.2.2)
  ⟨[Av l 0],l.length+1,⟨⟨by simp,by grind[Jo],by grind⟩,rfl,λi q hq=>?_⟩,rfl,by simp,by simp,by grind[BW,Eo]⟩ (by omega) λx nx hI _ hnx=>?_;· grind
 obtain⟨v,out,k⟩:=x;obtain⟨f,F,g,J,hol,hF,G⟩:=hI;dsimp only at g J hol hF G;subst J;have hkn:f.length<=l.length:=by have:=g.toKnOk.le;grind[Fe]
 have hlen:=g.len;try dsimp only
 refine N1 (λhlt=>?_) λhlt=>MA ?_
 ·have L:out.length<v.length:=by omega
  have p:v[out.length]?=Ac v[out.length]:=BY L;obtain⟨⟨y,z⟩,V⟩:=g.ord out.length _ p;generalize hqe:v[out.length]=q at y z V p;have P:=Bs y z;obtain⟨F,rfl⟩:∃F',F=F'+1:=⟨F-1,by omega⟩;have H:=Aai V;refine GB (by rw[Bj L,hqe]) (Adu y z ?_);rw[<-P];have hro:=λi w=>EN (H0 S) (g.sub _ H) g.toKnOk (pos cs i) w;refine Xs (λi o R=>FI v o/\R=(AM (Av l q) f (pos cs i)).2/\R.length<=i/\uO l (AM (Av l q) f (pos cs i)).1 o) cs.length
   (by rw[Rq hc];exact⟨.refl _,rfl,by simp,g⟩) (by omega) (λi o R Q w U t=>?_) (λo R Q U=>?_)
  ·obtain⟨j,rfl,I,d⟩:=U;have hpl:=PA hc i;obtain⟨g1,g2,T⟩:=hro i hpl;have Y:=hc.rg _ (AN w);have hpa:=pos_at hc w;have hps:=Rs hc w;have hhi:=hc.hi w;have hst:=S.st q cs[i].toNat;have O:=j.get p;have hD:∀b,pos cs i<=b->b<=(GS cs i).toNat->Is (Av l q) b=Av l (Bl l q cs[i].toNat):=λb b1 b2=>by
    rw[Jp S hc hf q w (by omega) (by omega) (by omega),Fj _ _ _ (by omega)]
   have u:AM (Av l q) f (pos cs (i+1))=C_ (AM (Av l q) f (pos cs i)) (Av l (Bl l q cs[i].toNat)) (pos cs i) (GS cs i).toNat:=by rw[show pos cs (i+1)=(GS cs i).toNat+1 by omega];exact HV _ _ _ _ _ (by omega) hD
   have D:=Ls (b:=cs[i].toNat) (i:=q) hs (by omega:n<fu) z;rw[Abd Y.1]at D;have B:=(IS.1 O).1;try dsimp only
   refine PS (Aah w (GB (by rw[Bj B];exact O▸(BY B).symm) (Pv (by omega) (Ou D λa W=>?_))));subst W;refine N1 (λA=>t _ _ ?_) λA=>?_
   ·have e:AM (Av l q) f (pos cs (i+1))=AM (Av l q) f (pos cs i):=by rw[u];unfold C_;rw[Hi A];rfl
    rw[e];exact⟨j,rfl,by omega,d⟩
   ·have s:=htr q cs[i].toNat (by omega);have C:AM (Av l q) f (pos cs (i+1))=(IJ (AM (Av l q) f (pos cs i)).1 (Av l (Bl l q cs[i].toNat)),push (AM (Av l q) f (pos cs i)).2 cs[i] (GS cs i) (Ig (AM (Av l q) f (pos cs i)).1 (Av l (Bl l q cs[i].toNat)):Nat)):=by
     rw[u];unfold C_;rw[if_pos s,hpa,Abd (by omega)]
    have K:=g2.le;rw[Fe]at K;have hlen':=d.len;have hpush:=Rn (AM (Av l q) f (pos cs i)).2 cs[i] (GS cs i) (Ig (AM (Av l q) f (pos cs i)).1 (Av l (Bl l q cs[i].toNat)):Nat);have h:Ok (zr fu (Bg l.length c) o (AM (Av l q) f (pos cs i)).2 i Q cs[i] (Bl l q cs[i].toNat) (GS cs i)) (λr=>r=(BW l,0)):=by
     unfold zr;refine Ou (PG hk d (by omega) (by omega) (by omega)) λa W=>?_;subst W;have Z:=aL (AM (Av l q) f (pos cs i)).1 (Av l (Bl l q cs[i].toNat));refine N1 (λhe=>?_) λhe=>?_
     ·have hnm:Av l (Bl l q cs[i].toNat)∉(AM (Av l q) f (pos cs i)).1:=λN=>by have:=Jt N;omega
      refine Pv (by unfold Ah;omega) (aJ hc w T.1 (by omega) (t _ _ ?_));rw[C];exact⟨j.trans ⟨_,rf⟩,rf,by omega,d.put (by omega) (by omega) s hnm⟩
     ·have N:Av l (Bl l q cs[i].toNat)∈(AM (Av l q) f (pos cs i)).1:=IT λN=>by have:=Gw N;omega
      refine aJ hc w T.1 (by omega) (t _ _ ?_);rw[C,Gv N];exact⟨j,rf,by omega,d⟩
    refine N1 (λh1=>?_) λh1=>?_
    ·have E:i+1<cs.length:=by omega
     have hr2:=hc.rg _ (AN E);refine Aah E (Pv (by unfold GK.DS;omega) ?_);rw[EW E]at h;exact h
    ·rw[Hn (by omega)]at h;exact h
  ·obtain⟨j,rfl,I,d⟩:=U;rw[Vp]at d⊢;obtain⟨g1,g2,T⟩:=EN (H0 S) (g.sub _ H) g.toKnOk 256 (Aae _);have:=g1.len;try dsimp only
   refine PT (Pv (by(try simp)<;>(unfold Ah;omega)) (hnx _ ⟨(AM (Av l q) f 256).1,F,d,by simp,by simp;omega,by simp;omega,?_⟩ ?_))
   ·rw[<-G];dsimp only;conv=>rhs;unfold DG
    rw[V];dsimp only;have:Av l q []=(Bc l q).1:=by simp[Av,runT,fin,y]
    rw[this]
   ·dsimp only;omega
 ·have hno:f[out.length]?=C5:=Aco (by omega);rw[<-G];cases F with
  |zero=>rfl
  |succ F=>unfold DG;rw[hno]
theorem N2(h:Be l):Trim (DO l):=λq b c=>by have:Av (DO l) (Bl (DO l) q b)=Av l (Bl (DO l) q b):=funext λw=>Pk h w _;grind[N3]
theorem KZ(C:NU l)(v:DP l n)(f:n<4294967296)(k:n+2<fu)(e:257<fu):
  Ok (uV fu l) (λr=>(Be l->r=(BW l,0))/\(¬Be l->r=([],11))):=by
 rw[uV];refine Ou (D8 C v (by omega) f) λx g=>PM (λh=>MA ?_) λh=>?_
 ·grind
 ·have d:Be l:=g.1 (by grind);refine N1 (λh=>MA ⟨λ_=>?_,λa=>absurd d a⟩) λh=>?_;· obtain rfl:l=[]:=OF.1 (by omega);grind[live,Av,BW,Eo,CV,Dz]
  ·refine Ok.mono (P:=λr=>r=(BW l,0)) ?_ λr E=>⟨λ_=>E,λa=>absurd d a⟩;refine Ou (O9 d v f (by omega)) λx g=>?_;subst g;have o:0<l.length:=by omega
   refine GB (AW (i:=0) o) (PM (λj=>MA ?_) λj=>?_)
   ·simp_all[live,Av,BW,Eo]
   ·have u:live (Av l 0)=Bp:=by cases t:live (Av l 0)<;>simp[t]at j⊢
    refine Ou (Ri d o v f (by omega)) λm D=>?_;obtain⟨p,F,z,G⟩:=D;refine Ou (QW p z f (by omega)) λx g=>?_;subst g;have s:=eR p;have y:=eS z;have B:Av (DO m) 0=Av l 0:=by rw[<-F];exact funext λw=>Pk p w 0
    have A:0<(DO m).length:=by rw[LY];exact G
    rw[TB];refine Ou (bL s y (by omega) (by omega)) λH b=>Ou (SK s (N2 p) A b.1 b.2 y f k e) λc hc=>?_;obtain⟨c,hc,rfl⟩:=hc;rw[<-IL s d B];exact Z4 s (N2 p) A (by rw[B];exact u) b.1 b.2 hc y f k e
theorem J2(f:NU l)(d:DP l n)(g:n<4294967296)(c:n+2<fu)(a:257<fu):
  Ok (xE fu l) (λr=>r=Bp↔Be l/\BW l=l):=by
 refine Ou (KZ f d g c a) λx e=>?_;by_cases b:Be l;· rw[e.1 b];refine Tz rf (Ou (Zl d (by omega)) λr i=>MA ?_);grind
 simp_all[absurd,P3,MA]
end
section
variable {σ : Type} {acc : σ -> Bool} {Pp : σ -> Nat -> σ}
section
variable{a:List σ}{T:Tb}
def rR(acc:σ->Bool)(Pp:σ->Nat->σ)(s:σ):Lg:=λw=>acc (w.foldl (λs c=>Pp s c.toNat) s)
structure UH(acc:σ->Bool)(Pp:σ->Nat->σ)(ord:List σ)(s:σ)(r:Tr):Prop where
 acc:r.1=acc s
 ed:BQ r.2 256 ord.length
 to:∀c,c<256->∃i:Nat,AQ r.2 c=i/\ord[i]?=Ac (Pp s c)
theorem UH.ext{more:List σ}{s:σ}{r:Tr}(h:UH acc Pp a s r):UH acc Pp (a++more) s r:=by refine⟨h.acc,h.ed.mono (Aae _) (by simp),λc hc=>?_⟩;obtain⟨i,d,b⟩:=h.to c hc;grind
structure X_(acc:σ->Bool)(Pp:σ->Nat->σ)(ord:List σ)(T:Tb):Prop where
 len:T.length=ord.length
 row:∀(k:Nat) (s:σ) (r:Tr),ord[k]?=Ac s->T[k]?=Ac r->UH acc Pp ord s r
theorem X_.wf(h:X_ acc Pp a T):Be T:=λr b=>by obtain⟨k,d,rfl⟩:=Aas b;have:=(h.row k (a[k]'(by have:=h.len;omega)) T[k] (BY _) (BY _)).ed;rwa [h.len]
theorem X_.lg{d:List σ}{T:Tb}(h:X_ acc Pp d T):∀(w:List UInt8) (k:Nat) (s:σ),d[k]?=Ac s->Av T (k:Int) w=rR acc Pp s w
 | [],k,s,b=>by
  have e:=(IS.1 b).1;have a:k<T.length:=by have:=h.len;omega
  have r:=h.row k s T[k] b (BY a);show fin T (k:Int)=acc s;rw[Ea (by omega) (by omega)];exact r.acc
 |c::w,k,s,b=>by
  have e:=(IS.1 b).1;have a:k<T.length:=by have:=h.len;omega
  have r:=h.row k s T[k] b (BY a);have hc:c.toNat<256:=c.toNat_lt;obtain⟨i,f,g⟩:=r.to c.toNat hc;show fin T (runT T (k:Int) (c::w))=rR acc Pp (Pp s c.toNat) w;rw[HU];have:Bl T (k:Int) c.toNat=(i:Int):=by simp_all[Bl,if_neg,Bs]
  rw[this];exact X_.lg h w i _ g
end
end
section
variable{es:List Ck}
theorem L7{b:Nat}(h0:0<b)(h1:∀e∈es,e.1≠(b:Int))(h2:∀e∈es,e.2.1+1≠(b:Int)):AQ es b=AQ es (b-1):=by
 have:es.find? (BN b)=es.find? (BN (b-1)):=by
  induction es with
  |nil=>rfl
  |cons e es c=>
   grind[BN]
 grind[AQ]
theorem G4{es:List Ck}{lo:Nat} :∀(n:Nat),(∀b,lo<b->b<=lo+n->∀e∈es,e.1≠(b:Int)/\e.2.1+1≠(b:Int))->AQ es (lo+n)=AQ es lo
 |0,_=>rfl
 |n+1,h=>by rw[L7 (by omega) (λe a=>(h _ (by omega) (Aae _) e a).1) (λe a=>(h _ (by omega) (Aae _) e a).2)];exact G4 n λb c d=>h b c (by omega)
end
section
variable {σ : Type} [BEq σ] [LawfulBEq σ]
section
variable{f:Nat->σ}{a:List σ}{es:List Ck}{c:Nat}
structure Ft(f:Nat->σ)(ord:List σ)(es:List Ck)(c:Nat):Prop where
 ed:BQ es c ord.length
 to:∀b,b<c->f b∈ord/\AQ es b=((ord.idxOf (f b):Nat):Int)
 last:0<c->∃es' lo q,es=es'++[(lo,(c:Int)-1,q)]
theorem Ft.zero:Ft f a [] 0:=⟨.nil,λb h=>by omega,λh=>by omega⟩
theorem I8{es:List Ck}{c n:Nat}(h:BQ es c n){x:Ck}{b:Nat}(d:b<c)(a:BN b x=Aj):AQ (es++[x]) b=AQ es b:=by grind[AQ,BN]
theorem EA{es:List Ck}{c n:Nat}(h:BQ es c n){x:Ck}{b:Nat}(f:c<=b)(d:BN b x=Bp):AQ (es++[x]) b=x.2.2:=by
 unfold AQ;have:es.find? (BN b)=C5:=Adl.2 λe a=>by have:=h.rg e a;grind[BN]
 grind
theorem Ft.new{more:List σ}{e:Nat}(h:Ft f a es c)(j:f c∈a++more)(o:c<e)(p:∀b,c<=b->b<e->f b=f c):
  Ft f (a++more) (es++[((c:Int),(e:Int)-1,(((a++more).idxOf (f c):Nat):Int))]) e:=by
 refine⟨⟨λx d=>?_,Abb.2 ⟨h.ed.so,by simp,λx d y k=>?_⟩⟩,λb n=>?_,λ_=>⟨es,_,_,rf⟩⟩
 ·rcases AS.1 d with d|d;· have:=h.ed.rg x d;grind
  grind
 ·have:=h.ed.rg x d;grind
 ·rcases Aam b c with g|g;· obtain⟨l,q⟩:=h.to b g;refine⟨by grind,?_⟩;rw[I8 h.ed g (by unfold BN;simp;omega),q,Afe,if_pos l]
  ·have m:=p b g n;rw[m];refine⟨j,?_⟩;rw[EA h.ed g (by unfold BN;simp;omega)]
theorem Ft.more{i:List σ}{lo q:Int}(h:Ft f i (es++[(lo,(c:Int)-1,q)]) c)(h0:0<c)(m:f c=f (c-1)):Ft f i (es++[(lo,(c:Int),q)]) (c+1):=by
 have n:=h.ed.rg (lo,(c:Int)-1,q) (by simp);have d:BQ es c i.length:=⟨λx a=>h.ed.rg x (by grind),(Abb.1 h.ed.so).1⟩;have j:∀x∈es,x.2.1<lo:=λx a=>(Abb.1 h.ed.so).2.2 x a (lo,(c:Int)-1,q) (by simp);have e:BQ es lo.toNat i.length:=⟨λx a=>by have:=h.ed.rg x (by grind);grind,d.so⟩;have g:=h.to (c-1) (by omega);rw[EA e (by omega) (by grind[BN])]at g;refine⟨⟨λx a=>?_,Abb.2 ⟨d.so,by simp,λx a y l=>?_⟩⟩,λb s=>?_,λ_=>⟨es,lo,q,by simp⟩⟩
 ·rcases AS.1 a with a|a;· have:=d.rg x a;omega
  grind
 ·grind
 ·rcases Aam b c with k|k
  ·obtain⟨o,p⟩:=h.to b k;grind[BN,EA,I8]
  ·obtain rfl:b=c:=by omega
   rw[m,EA e (by omega) (by unfold BN;simp;omega)];exact⟨g.1,g.2⟩
theorem Ft.row{acc:σ->Bool}{Pp:σ->Nat->σ}{s:σ}(h:Ft (Pp s) a es 256):UH acc Pp a s (acc s,es):=
 ⟨rfl,h.ed,λc hc=>by obtain⟨d,e⟩:=h.to c hc;grind⟩
end
end
section
variable{fu n:Nat}{l a b:Tb}{m:Nat}{L:Lg}{r:Tb}{i:Int}{x:Int×Int}{f:Bool->Bool->Bool}{k c:Nat}{out:Tb}{is:Bool->Bool->Option Bool}{z:Int}{d:List (Int×Int)}{es:List Ck}{w:Aq}
def jc(f:Bool->Bool->Bool)(a b:Tb)(p:Int×Int):Bool:=f (fin a p.1) (fin b p.2)
def CT(a b:Tb)(p:Int×Int)(c:Nat):Int×Int:=(Bl a p.1 c,Bl b p.2 c)
theorem O_(f:Bool->Bool->Bool)(a b:Tb):∀(w:List UInt8) (p:Int×Int),rR (jc f a b) (CT a b) p w=f (Av a p.1 w) (Av b p.2 w)
 | [],p=>rfl
 |c::w,p=>O_ f a b w (CT a b p c.toNat)
open Classical in
noncomputable def C9(l:Tb):Tb:=if Be l/\BW l=l then l else []
theorem Ho(l:Tb):Be (C9 l):=by grind[C9,Be]
theorem Kl(l:Tb):(C9 l).length<=l.length:=by grind[C9]
theorem Hq(h:DP l n):DP (C9 l) n:=by
 unfold C9;split;· omega
 ·exact⟨by simp,by simp⟩
theorem R6(h:Be l)(k:BW l=l):C9 l=l:=by grind[C9]
theorem M6:BW ([]:Tb)=[]:=by grind[live,Av,BW,Eo,CV,Dz]
theorem XA(l:Tb):BW (C9 l)=C9 l:=by grind[C9,M6]
theorem FZ(d:NU l)(f:DP l n)(e:n<4294967296)(a:n+2<fu)(b:257<fu):QN fu l=Ac (C9 l):=by refine(Ok.eq ?_);refine Ou (LV d f e a (by omega)) λx c=>PM (λh=>MA ?_) λh=>MA ?_;all_goals grind[C9]
theorem MN(d:NU l)(f:DP l n)(e:n<4294967296)(b:n+2<fu)(a:257<fu):xD fu l=Ac (C9 l):=by refine(Ok.eq ?_);refine Ou (J2 d f e b a) λx c=>PM (λh=>MA ?_) λh=>MA ?_;all_goals grind[C9]
theorem G9{l:Tb}{i:Int}(h:(l.length:Int)<=i):Bc l i=(Aj,[]):=by grind[Bc]
theorem Vb{l:Tb}{i:Int}(b:Nat)(h:(l.length:Int)<=i):Bl l i b= -1:=by unfold Bl;rw[if_neg (by omega),G9 h];rfl
theorem Qb{l:Tb}{i:Int}(h:(l.length:Int)<=i):fin l i=Aj:=by grind[fin,G9]
theorem fin_neg{l:Tb}{i:Int}(h:i<0):fin l i=Aj:=by grind[fin]
theorem Wz:NT fu (l,i)=Ac (fin l i):=by refine(Ok.eq ?_);refine N1 (λh=>N1 (λk=>Adu h k (MA (Ea h k).symm)) λk=>MA (Qb (by omega)).symm) λh=>MA (fin_neg (by omega)).symm
theorem Q5{b:Nat}(v:DP l n)(w:n<fu):NR fu (l,i,(b:Int))=Ac (Bl l i b):=by
 refine(Ok.eq ?_);refine N1 (λh=>MA (I9 _ h).symm) λh=>N1 (λk=>MA (Vb _ k).symm) λk=>Adu (by omega) (by omega) ?_;have u:=Bs (l:=l) (i:=i) (by omega) (by omega);have p:Bl l i b=AQ (l[i.toNat]'(by omega)).2 b:=by grind[Bl]
 rw[p];have o:=v.2 _ (AN (by omega:i.toNat<l.length));generalize l[i.toNat]'(by omega)=s at o;refine Vi (λk=> ∀j (_:j<k) (q:j<s.2.length),BN b s.2[j]=Aj) s.2.length (by omega) (by omega) (λk nx r e t=>?_) (λnx e=>?_)
 ·have d:BN b s.2[k]=Aj->∀j (_:j<k+1) (q:j<s.2.length),BN b s.2[j]=Aj:=λh j q m=>by
   grind
  refine PS (Aah r (N1 (λc=>N1 (λg=>MA ?_) λg=>t (d ?_)) λc=>t (d ?_)));· grind[BN,G5]
  all_goals grind[BN]
 simp_all[PT,MA,Gm]
def JX(es:List Ck)(b:Nat):Prop:= ∃e∈es,e.1=(b:Int)\/e.2.1+1=(b:Int)
def CS(l:Tb)(i:Int):List Ck:=if i<0 then []else(Bc l i).2
theorem HQ(l:Tb)(i:Int)(b:Nat):Bl l i b=AQ (CS l i) b:=by unfold Bl CS;split<;>rfl
theorem fw(h:Be l)(i:Int):BQ (CS l i) 256 l.length:=by
 unfold CS;split;· exact .nil
 ·rcases Aem i l.length with a|a;· rw[Bs (by omega) a];exact h _ (AN _)
  ·rw[G9 a];exact .nil
theorem V8{p:Nat->Bool}(D:Be l)(C:DP l n)(E:n<fu):
  Ok (NS fu (l,i,Bg 256 p)) λr=> ∃q,r=Bg 256 q/\∀b,b<256->(q b=Bp↔p b=Bp\/JX (CS l i) b):=by
 have C5:CS l i=[]->∃q,Bg 256 p=Bg 256 q/\∀b,b<256->(q b=Bp↔p b=Bp\/JX (CS l i) b):=λh=>⟨p,rfl,λb _=>by grind[JX]⟩;refine N1 (λh=>MA (C5 (by grind[CS]))) λh=>N1 (λk=>MA (C5 (by simp_all[CS,if_neg,G9]))) λk=>Adu (by omega) (by omega) ?_;have B:CS l i=(l[i.toNat]'(by omega)).2:=by unfold CS;rw[if_neg h,Bs (by omega) (by omega)]
 have o:=fw D i;have w:=C.2 _ (AN (by omega:i.toNat<l.length));rw[B]at o⊢;generalize l[i.toNat]'(by omega)=s at o w;refine Sb (λj x=> ∃q,x=Bg 256 q/\∀b,b<256->(q b=Bp↔p b=Bp\/JX (s.2.take j) b)) s.2.length ⟨p,rfl,λb _=>by simp[JX]⟩ (by omega) (λj x nx v t z=>?_) (λx nx t=>?_)
 ·obtain⟨
      q,rfl,d⟩:=t;have F:=o.rg _ (AN v);have y:∀b,JX (s.2.take (j+1)) b↔JX (s.2.take j) b\/s.2[j].1=(b:Int)\/s.2[j].2.1+1=(b:Int):=λb=>by
   unfold JX;simp only[Ag v];simp
  refine PS (Aah v ?_);dsimp only;rw[Abl,Acz,Abl,Acz];refine Abt (Abt (N1 (λA=>Pv (p:=GK.F8 (s.2[j].2.1+1)) (by omega) (Abt (Pv (by omega) ?_))) λA=>?_))
  ·rw[A',A'];refine z _ ⟨_,rfl,λb u=>?_⟩;rw[y];by_cases m:b=(s.2[j].2.1+1).toNat;· simp only[m,if_true,true_iff];exact .inr (.inr (.inr (by omega)))
   ·by_cases c:b=s.2[j].1.toNat;· simp only[m,if_false];simp only[c,if_true,true_iff];exact .inr (.inr (.inl (by omega)))
    ·simp only[m,c,if_false,d b u];constructor
     ·rintro(h|h);· exact .inl h
      ·exact .inr (.inl h)
     ·rintro(h|h|h|h);· exact .inl h
      ·exact .inr h
      ·omega
      ·omega
  ·rw[A'];refine z _ ⟨_,rfl,λb u=>?_⟩;rw[y];by_cases c:b=s.2[j].1.toNat;· simp only[c,if_true,true_iff];exact .inr (.inr (.inl (by omega)))
   ·simp only[c,if_false,d b u];constructor
    ·rintro(h|h);· exact .inl h
     ·exact .inr (.inl h)
    ·rintro(h|h|h|h);· exact .inl h
     ·exact .inr h
     ·omega
     ·omega
 ·obtain⟨q,rfl,d⟩:=t;rw[Al]at d;exact PT (MA ⟨q,rfl,d⟩)
theorem Rt{a:List (Int×Int)}{b:Nat->(Nat->Option Int)->Option Int}(p:a.length<fu)(n:∀k nx,k<a.length->b k nx=(bif Di (x=a.getD k (0,0))then Ac (k:Int)else nx (k+1)))(o:∀nx,b a.length nx=Ac (-1)):
  Ad fu b 0=Ac (if x∈a then((a.idxOf x:Nat):Int)else-1):=by
 refine Ok.eq (Vi (λk=> ∀j (_:j<k) (h:j<a.length),a[j]≠x) a.length (by omega) p (λk nx d c q=>?_) (λnx c=>?_))
 ·rw[n k nx d];have e:a.getD k (0,0)=a[k]:=by grind
  rw[e];refine N1 (λh=>MA ?_) λh=>q λj f l=>?_;· have g:x∈a:=h▸AN d;rw[if_pos g,R4 c d h.symm]
  grind
 grind[MA]
theorem Xb{a:List (Int×Int)}(d:a.length<fu):ui fu (a,x)=Ac (if x∈a then((a.idxOf x:Nat):Int)else-1):=by
 refine Rt d (λk nx b=>?_) (λnx=>?_)
 all_goals grind[decide,Ab,idx]
theorem Xa{a:List (Int×Int)}(d:a.length<fu):F28 fu (a,x)=Ac (if x∈a then((a.idxOf x:Nat):Int)else-1):=by
 refine Rt d (λk nx b=>?_) (λnx=>?_)
 all_goals grind[decide,Ab,idx]
def EP(a:List (Int×Int))(x:Int×Int):List (Int×Int):=if x∈a then a else a++[x]
theorem Mm(a:List (Int×Int))(x:Int×Int):∃more,EP a x=a++more:=by unfold EP;split;all_goals simp
theorem Rk(a:List (Int×Int))(x:Int×Int):x∈EP a x:=by grind[EP]
theorem fE{c:List (Int×Int)}(h:c.Nodup):(EP c x).Nodup:=by grind[EP]
theorem Px(a:List (Int×Int))(x:Int×Int):(EP a x).idxOf x=if x∈a then a.idxOf x else a.length:=by grind[EP]
theorem q6:4294967296<=Ah:=by decide
theorem fU{a:List (Int×Int)}(d:a.length<fu)(e:a.length<4294967295):Yy fu (x,a)=Ac ((((EP a x).idxOf x:Nat):Int),EP a x):=by
 refine(Ok.eq ?_);have c:=q6;refine GB (Xb d) ?_;by_cases h:x∈a;· simp_all[EP,if_pos,PT,MA,Px]
 ·rw[if_neg h];refine PS (Abt (MA ?_));grind[EP]
structure CB(r:Tb)(L:Lg)(m:Nat):Prop where
 wf:Be r
 can:BW r=r
 lg:Av r 0=L
 len:r.length<=m
theorem CB.of{T:Tb}(a:Be T)(b:Av T 0=L)(c:T.length<=m):CB (BW T) L m:=⟨Wk a,XY a,(Wl a).trans b,Aak (iG a) c⟩
theorem CB.unique{s:Tb}(h:CB r L m)(k:CB s L n):r=s:=by rw[<-h.can,<-k.can];exact IL h.wf k.wf (h.lg.trans k.lg.symm)
theorem CB.mono(h:CB r L m)(k:m<=n):CB r L n:=⟨h.wf,h.can,h.lg,Aak h.len k⟩
theorem CB.MO(h:CB r L m):C9 r=r:=R6 h.wf h.can
theorem CB.congr{M:Lg}(h:CB r L m)(k:L=M):CB r M m:=k▸h
theorem MM(l:Tb):CB (C9 l) (Av (C9 l) 0) l.length:=⟨Ho l,XA l,rfl,Kl l⟩
theorem CB.nil:CB [] (λ_=>Aj) m:=⟨by simp[Be],M6,funext λw=>Dz 0 w,by simp⟩
def YG(a b:Tb)(p:Int×Int):Prop:=(-1<=p.1/\p.1<=a.length)/\ -1<=p.2/\p.2<=b.length
def GP(a b:Tb):Nat:=(a.length+2)*(b.length+2)
theorem Hf{c:List (Int×Int)}(f:c.Nodup)(h:∀p∈c,YG a b p):c.length<=GP a b:=by
 have key:∀(n m:Nat),((av n).flatMap λ(i:Nat)=>(av m).map λ(j:Nat)=>(((i:Int)-1,(j:Int)-1):Int×Int)).length=n*m:=λn m=>by
  induction n with
  |zero=>simp
  |succ n k=>simp_all[Adz,Acp,Aac,Aeb]
 rw[GP,<-key];refine Cf f λp g=>?_;obtain⟨⟨l,o⟩,q,r⟩:=h p g;refine Aad.2 ⟨(p.1+1).toNat,Abf.2 (by omega),By.2 ⟨(p.2+1).toNat,Abf.2 (by omega),?_⟩⟩;grind
theorem YG.step(d:Be a)(e:Be b)(p:Int×Int)(c:Nat):YG a b (CT a b p c):=by have:=d.st p.1 c;have:=e.st p.2 c;grind[YG,CT]
structure GN(f:Bool->Bool->Bool)(a b:Tb)(p0:Int×Int)(ord:List (Int×Int))(out:Tb):Prop where
 zero:ord[0]?=Ac p0
 nd:ord.Nodup
 mL:∀p∈ord,YG a b p
 le:out.length<=ord.length
 row:∀(k:Nat) (s:Int×Int) (r:Tr),ord[k]?=Ac s->out[k]?=Ac r->UH (jc f a b) (CT a b) ord s r
theorem GN.put{l:Int×Int}(h:GN f a b l d out)(m:YG a b x):GN f a b l (EP d x) out:=by
 obtain⟨j,e⟩:=Mm d x;refine⟨?_,fE h.nd,λp c=>?_,?_,λk s r g i=>?_⟩;· have:=(IS.1 h.zero).1;rw[e,Aaa this];exact h.zero
 ·unfold EP at c;split at c;· exact h.mL p c
  ·rcases AS.1 c with c|c;· exact h.mL p c
   grind
 ·have:=h.le;grind
 ·have n:=(IS.1 i).1;have:=h.le;rw[e,Aaa (by omega)]at g;rw[e];exact(h.row k s r g i).ext
theorem GN.add{l s:Int×Int}{r:Tr}(h:GN f a b l d out)(j:d[out.length]?=Ac s)(m:UH (jc f a b) (CT a b) d s r):GN f a b l d (out++[r]):=by
 refine⟨h.zero,h.nd,h.mL,by grind,λk o n e c=>?_⟩;by_cases i:k<out.length;· rw[Aaa i]at c;exact h.row k o n e c
 grind
theorem GN.done{e:Int×Int}{c:List (Int×Int)}(h:GN f a b e c out)(i:¬out.length<c.length):Be out/\Av out 0=(λw=>f (Av a e.1 w) (Av b e.2 w))/\out.length<=GP a b:=by
 have d:out.length=c.length:=by have:=h.le;omega
 have g:X_ (jc f a b) (CT a b) c out:=⟨d,h.row⟩;refine⟨g.wf,funext λw=>?_,by rw[d];exact Hf h.nd h.mL⟩;have:=g.lg w 0 e h.zero;grind[O_]
noncomputable def lK(fu:Nat)(is:Bool->Bool->Option Bool)(i o:Tb):Option Tb:=
 Ad fu (
      λ(c:List (Int×Int)×List (Bool×List (Int×Int×Int))×Nat) h=>
  bif Di ((↑c.2.2:Int)<(↑(Fw c.1):Int))then
   Ab (idx c.1 (↑c.2.2:Int)) λe=>
   Ab (NT fu (i,e.1)) λp=>
   Ab (NT fu (o,e.2)) λq=>
   Ab (is p q) λr=>
   Ab (NS fu (i,e.1,(kN (TO 256 Aj) 0 Bp))) λs=>
   Ab (NS fu (o,e.2,s)) λj=>
   Ad fu (λ(a:List (Int×Int)×List (Int×Int×Int)×Int) d=>
    bif Di (a.2.2<(256:Int))then
     Af ((0:Int)<=a.2.2/\a.2.2<(↑256:Int))<|
     Ab (idx j (↑(0+ZV a.2.2*1):Int)) λk=>
     bif k then
      Aa (Lc.u8) (a.2.2)<|
      Aa (Lc.u8) (a.2.2)<|
      Ab (NR fu (i,e.1,a.2.2)) λl=>
      Aa (Lc.u8) (a.2.2)<|
      Ab (NR fu (o,e.2,a.2.2)) λm=>
      Ab (Yy fu ((l,m),a.1)) λb=>
      Af (Fw a.2.1+1<=Ah)<|
      Aa (Lc.i64) ((↑(Fw (a.2.1++[(a.2.2,(0:Int),b.1)])):Int)-(1:Int))<|
      Aa (Lc.u8) (a.2.2)<|
      Ab (idx (a.2.1++[(a.2.2,(0:Int),b.1)]) ((↑(Fw (a.2.1++[(a.2.2,(0:Int),b.1)])):Int)-(1:Int))) λf=>
      Aa (Lc.i64) (a.2.2+(1:Int))<|
      d ((b.2,((a.2.1++[(a.2.2,(0:Int),b.1)]).set (ZV ((↑(Fw (a.2.1++[(a.2.2,(0:Int),b.1)])):Int)-(1:Int))) (f.1,a.2.2,f.2.2)),(a.2.2+(1:Int))))
     else
      Aa (Lc.i64) ((↑(Fw a.2.1):Int)-(1:Int))<|
      Aa (Lc.u8) (a.2.2)<|
      Ab (idx a.2.1 ((↑(Fw a.2.1):Int)-(1:Int))) λg=>
      Aa (Lc.i64) (a.2.2+(1:Int))<|
      d ((a.1,(a.2.1.set (ZV ((↑(Fw a.2.1):Int)-(1:Int))) (g.1,a.2.2,g.2.2)),(a.2.2+(1:Int))))
    else
     Af (Fw c.2.1+1<=Ah)<|
     h ((a.1,(c.2.1++[(r,a.2.1)]),c.2.2+1))) ((c.1,[],(0:Int)))
  else
   Ab (nF fu c.2.1) λn=>
   Ac (n.1)) (([((0:Int),(0:Int))],[],0))
theorem ZB(Z:∀x y,is x y=Ac (f x y))(ha:Be a)(hb:Be b)(sa:DP a n)(sb:DP b n)(hM:GP a b<=4000000000)(hn:n<4294967296)(hf:n+2<fu)(aW:300<fu)(zx:GP a b+2<fu):
  Ok (lK fu is a b) λr=>CB r (λw=>f (Av a 0 w) (Av b 0 w)) (GP a b):=by
 refine W5 (X:=List (Int×Int)×Tb×Nat) (λx=>GN f a b (0,0) x.1 x.2.1/\x.2.2=x.2.1.length) (λx=>GP a b+1-x.2.2)
  ⟨⟨rfl,by simp,λp hp=>by grind[YG],by simp,λk s r _ hr=>by grind⟩,rfl⟩ (by omega) λx nx H _ hnx=>?_;obtain⟨g,out,k⟩:=x;obtain⟨H,hk⟩:=H;dsimp only at H hk;subst hk;have hol:=Hf H.nd H.mL;refine N1 (λd=>?_) λd=>?_
 ·have d:(out.length:Int)<g.length:=d;have d:out.length<g.length:=by omega
  have D:g[out.length]?=Ac g[out.length]:=BY d;refine Aah d ?_;generalize hs:g[out.length]=s at D;refine GB Wz (GB Wz (GB (Z _ _) ?_));rw[Dv,A'];refine Ou (V8 ha sa (by omega)) λr9 h9=>?_;obtain⟨q9,rfl,hq9⟩:=h9;refine Ou (V8 hb sb (by omega)) λr10 Q=>?_;obtain⟨q,rfl,hq⟩:=Q;refine W5 (X:=List (Int×Int)×List Ck×Int) (λx=>GN f a b (0,0) x.1 out/\(∃more,x.1=g++more)/\(0<=x.2.2/\x.2.2<=256)/\Ft (CT a b s) x.1 x.2.1 x.2.2.toNat) (λx=>256-x.2.2.toNat)
   ⟨H,⟨[],by simp⟩,⟨by simp,by simp⟩,Ft.zero⟩ (by omega) λx nx2 hJ _ j=>?_;obtain⟨o,J,ci⟩:=x;obtain⟨t,⟨more,A⟩,⟨S,T⟩,G⟩:=hJ;dsimp only at t A S T G j;obtain⟨c,rfl⟩:∃c:Nat,ci=c:=⟨ci.toNat,by omega⟩;rw[Ace]at G j;have hoM:=Hf t.nd t.mL;have V:J.length<=256:=by have:=G.ed.len;omega
  refine N1 (λhc=>?_) λhc=>?_
  ·have hc:(c:Int)<256:=hc;have hc:c<256:=by omega
   dsimp only;rw[Ace,Abl,Acz];have v:GK.F8 (c:Int):=by omega
   have I:YG a b (CT a b s c):=YG.step ha hb s c;refine Abt (GB (AW hc) (PM (λh=>?_) λh=>?_))
   ·have R:=t.put I;refine Pv (p:=GK.F8 (c:Int)) v (Pv (p:=GK.F8 (c:Int)) v (GB (Q5 sa (by omega)) (Pv (p:=GK.F8 (c:Int)) v (GB (Q5 sb (by omega)) (GB (fU (x:=CT a b s c) (by omega) (by omega)) ?_)))));have M:((J++[((c:Int),(0:Int),(((EP o (CT a b s c)).idxOf (CT a b s c):Nat):Int))]).length:Int)-1=(J.length:Nat):=by simp
    have N:idx (J++[((c:Int),(0:Int),(((EP o (CT a b s c)).idxOf (CT a b s c):Nat):Int))]) ((J.length:Nat):Int)=Ac ((c:Int),(0:Int),(((EP o (CT a b s c)).idxOf (CT a b s c):Nat):Int)):=by rw[Bj (by simp)];simp
    rw[M];refine Pv (by unfold Ah;omega) (Aap (Pv (p:=GK.F8 (c:Int)) v (GB N (Abx (by omega) ?_))));rw[Ace,Acy _ _ (by omega),Aiv,Aic];obtain⟨m2,O⟩:=Mm o (CT a b s c);have E:=G.new (more:=m2) (e:=c+1) (O▸Rk o (CT a b s c)) (by omega) (λb' C h2=>by rw[show b'=c by omega]);rw[<-O,show(((c+1:Nat):Int)-1)=(c:Int) by omega]at E;exact j (_,_,(c:Int)+1) ⟨R,⟨more++m2,by rw[O,A];simp⟩,⟨by dsimp only;omega,by dsimp only;omega⟩,by exact E⟩ (by dsimp only;omega)
   ·have B:¬(q c=Bp):=by rw[h];decide
    rw[hq c hc,hq9 c hc]at B;have P:0<c:=by
     rcases Afv c with e|e;· subst e;exact absurd (.inl (.inl rfl)) B
     ·exact e
    obtain⟨z,lo,qq,rfl⟩:=G.last P;have F:∀ {l:Tb} {i:Int},¬JX (CS l i) c->Bl l i c=Bl l i (c-1):=λ{l i} K=>by rw[HQ,HQ];exact L7 P (λe U C=>K ⟨e,U, .inl C⟩) (λe U C=>K ⟨e,U, .inr C⟩)
    have W:CT a b s c=CT a b s (c-1):=Acu (F λC=>B (.inl (.inr C))) (F λC=>B (.inr C));have M:((z++[(lo,(c:Int)-1,qq)]).length:Int)-1=(z.length:Nat):=by simp
    have N:idx (z++[(lo,(c:Int)-1,qq)]) ((z.length:Nat):Int)=Ac (lo,(c:Int)-1,qq):=by rw[Bj (by simp)];simp
    rw[M];refine Aap (Pv (p:=GK.F8 (c:Int)) v (GB N (Abx (by omega) ?_)));rw[Ace,Acy _ _ (by omega),Aiv,Aic];exact j (_,_,(c:Int)+1) ⟨t,⟨more,A⟩,⟨by dsimp only;omega,by dsimp only;omega⟩,by rw[show((c:Int)+1).toNat=c+1 by omega];exact G.more P W⟩ (by dsimp only;omega)
  ·have hc:¬(c:Int)<256:=hc;obtain rfl:c=256:=by omega
   have Y:o[out.length]?=Ac s:=by rw[A,Aaa d];exact D
   refine Pv (by dsimp only;unfold Ah;omega) (hnx (_,_,out.length+1) ⟨t.add Y G.row,by simp⟩ (by dsimp only;omega))
 ·have d:¬(out.length:Int)<g.length:=d;obtain⟨L,t2,t3⟩:=H.done (by omega);have hsh:DP out (max (GP a b) 256):=L.sh (by omega) (by omega);refine Ou (Mu L.by hsh (by omega) (by omega) (by omega)) λr hr=>MA ?_;rw[hr.1 L];exact CB.of L t2 t3
def DV(l:Tb):Int:=if l.length=0 then-1 else 0
theorem N9:xC fu l=Ac (DV l):=by grind[xC,DV]
theorem N8(l:Tb):Av l (DV l)=Av l 0:=by
 unfold DV;split;· rename_i h;grind[D',Dz]
 rfl
theorem J8(l:Tb): -1<=DV l/\DV l<l.length:=by grind[DV]
theorem Wy(h:i<l.length):uU fu (l,i)=Ac (fin l i):=by refine(Ok.eq ?_);exact N1 (λa=>Adu a h (MA (Ea a h).symm)) λa=>MA (fin_neg (by omega)).symm
theorem RC{b:Nat}(w:DP l n)(x:n<fu)(h1:i<l.length):uT fu (l,i,(b:Int))=Ac (Bl l i b):=by
 refine(Ok.eq ?_);refine N1 (λh=>MA (I9 _ h).symm) λh=>?_;have v:=Bs (l:=l) (i:=i) (by omega) (by omega);have q:Bl l i b=AQ (l[i.toNat]'(by omega)).2 b:=by grind[Bl]
 have c:idx l i=Ac (l[i.toNat]'(by omega)):=Fg (by omega) h1;rw[q];have p:=w.2 _ (AN (by omega:i.toNat<l.length));generalize l[i.toNat]'(by omega)=s at p c;refine Vi (λk=> ∀j (_:j<k) (r:j<s.2.length),BN b s.2[j]=Aj) s.2.length (by omega) (by omega) (λk nx t f u=>?_) (λnx f=>?_)
 ·have e:BN b s.2[k]=Aj->∀j (_:j<k+1) (r:j<s.2.length),BN b s.2[j]=Aj:=λh j r o=>by
   grind
  refine GB c (PS (GB c (Aah t (N1 (λd=>N1 (λm=>MA ?_) λm=>u (e ?_)) λd=>u (e ?_)))));· grind[BN,G5]
  all_goals grind[BN]
 simp_all[GB,PT,MA,Gm]
def E_(es:List Ck)(c:Nat)(z:Int):Prop:= ∀e∈es,((c:Int)<e.1->z<=e.1)/\((c:Int)<=e.2.1->z<=e.2.1+1)
theorem E_.no(h:E_ es c z){b:Nat}(h1:c<b)(h2:(b:Int)<z):∀e∈es,e.1≠(b:Int)/\e.2.1+1≠(b:Int):=λe a=>by have:=h e a;omega
theorem E_.mono{y:Int}(h:E_ es c z)(k:y<=z):E_ es c y:=λe a=>by have:=h e a;omega
theorem Ku{s:Tr}{P:Int->Prop}{nx:Int->Option Int}(hc:c<256)(F:(c:Int)<z/\z<=256)(q:∃n,BQ s.2 256 n)(D:s.2.length<fu)
  (E:∀y,(c:Int)<y/\y<=z->E_ s.2 c y->Ok (nx y) P):
  Ok (Ad fu (λ(a:Int×Nat) i=>
    bif Di ((↑a.2:Int)<(↑(Fw s.2):Int))then
     Ab (idx s.2 (↑a.2:Int)) λG=>
     bif Di ((c:Int)<G.1)then
      Ab (idx s.2 (↑a.2:Int)) λb=>
      Aa (Lc.i64) (if b.1<a.1 then b.1 else a.1)<|
      Ab (idx s.2 (↑a.2:Int)) λv=>
      bif Di ((c:Int)<=v.2.1)then
       Ab (idx s.2 (↑a.2:Int)) λd=>
       Aa (Lc.i64) (d.2.1+(1:Int))<|
       Aa (Lc.i64) (if d.2.1+(1:Int)<if b.1<a.1 then b.1 else a.1 then d.2.1+(1:Int)else if b.1<a.1 then b.1 else a.1)<|
       i (((if(d.2.1+(1:Int))<(if b.1<a.1 then b.1 else a.1)then d.2.1+(1:Int)else if b.1<a.1 then b.1 else a.1),a.2+1))
      else
       i (((if b.1<a.1 then b.1 else a.1),a.2+1))
     else
      Ab (idx s.2 (↑a.2:Int)) λw=>
      bif Di ((c:Int)<=w.2.1)then
       Ab (idx s.2 (↑a.2:Int)) λf=>
       Aa (Lc.i64) (f.2.1+(1:Int))<|
       Aa (Lc.i64) (if f.2.1+(1:Int)<a.1 then f.2.1+(1:Int)else a.1)<|
       i (((if(f.2.1+(1:Int))<a.1 then f.2.1+(1:Int)else a.1),a.2+1))
      else
       i ((a.1,a.2+1))
    else
     nx a.1) ((z,0))) P:=by
 obtain⟨n,q⟩:=q;refine Sb (λj y=>((c:Int)<y/\y<=z)/\E_ (s.2.take j) c y) s.2.length ⟨⟨F.1,Abo _⟩,λe t=>by grind⟩ D (λj y o l r u=>?_) (λy o r=>?_)
 ·obtain⟨x,p⟩:=r;have J:=q.rg _ (AN l);have step:∀m,(c:Int)<m/\m<=y->((c:Int)<s.2[j].1->m<=s.2[j].1)->((c:Int)<=s.2[j].2.1->m<=s.2[j].2.1+1)->Ok (o (m,j+1)) P:=λm H B C=>u _ ⟨by omega,λe t=>by
   rcases(Ag l).1 t with h|rfl;· have:=p e h;omega
   omega⟩;dsimp only;refine PS (Aah l (N1 (λh=>Aah l (Abx (by omega) (Aah l (N1 (λk=>Aah l (Aap (Abx (by split<;>split<;>omega) (step _ ?_ ?_ ?_)))) λk=>step _ ?_ ?_ ?_)))) λh=>Aah l (N1 (λk=>Aah l (Aap (Abx (by split<;>omega) (step _ ?_ ?_ ?_)))) λk=>step _ ?_ ?_ ?_)));all_goals(first|(split<;>split<;>omega)|(split<;>omega)|omega|(split<;>split<;>omega)|(split<;>omega)|(omega))
 grind
theorem ig{p q:Int}(G:Be a)(H:Be b)(N:DP a n)(sb:DP b n)(O:n<fu)(I:2<fu)(hc:c<256)(C:p<a.length)(D:q<b.length):
  Ok (nG fu ([a,b],[p,q],(c:Int))) λe=>((c:Int)<e/\e<=256)/\E_ (CS a p) c e/\E_ (CS b q) c e:=by
 rw[nG];obtain⟨f,rfl⟩:∃f,fu=f+3:=⟨fu-3,by omega⟩;have neg:∀ {l:Tb} {i:Int},i<0->CS l i=[]:=λh=>by grind[CS]
 have row:∀ {l:Tb} {i:Int} (B:0<=i) (s:i<l.length),CS l i=(l[i.toNat]'(by omega)).2:=λB s=>by simp_all[CS,if_neg,Bs]
 rw[Ad];refine Tz (by simp) (GB (a:=p) rfl ?_);have j:∀y,(c:Int)<y/\y<=256->E_ (CS a p) c y->Ok (Ad (f+2) (λ(r:Int×Nat) w=>
  bif Di (
        (↑r.2:Int)<(↑(Fw [a,b]):Int))then
   Ab (idx [p,q] (↑r.2:Int)) λJ=>
   bif Di (J<(0:Int))then
    w ((r.1,r.2+1))
   else
    Ab (idx [a,b] (↑r.2:Int)) λK=>
    Ab (idx [p,q] (↑r.2:Int)) λL=>
    Ab (idx K L) λt=>
    Ad (f+3) (λ(d:Int×Nat) o=>
     bif Di ((↑d.2:Int)<(↑(Fw t.2):Int))then
      Ab (idx t.2 (↑d.2:Int)) λM=>
      bif Di ((c:Int)<M.1)then
       Ab (idx t.2 (↑d.2:Int)) λg=>
       Aa (Lc.i64) (if g.1<d.1 then g.1 else d.1)<|
       Ab (idx t.2 (↑d.2:Int)) λz=>
       bif Di ((c:Int)<=z.2.1)then
        Ab (idx t.2 (↑d.2:Int)) λk=>
        Aa (Lc.i64) (k.2.1+(1:Int))<|
        Aa (Lc.i64) (if k.2.1+(1:Int)<if g.1<d.1 then g.1 else d.1 then k.2.1+(1:Int)else if g.1<d.1 then g.1 else d.1)<|
        o (((if(k.2.1+(1:Int))<(if g.1<d.1 then g.1 else d.1)then k.2.1+(1:Int)else if g.1<d.1 then g.1 else d.1),d.2+1))
       else
        o (((if g.1<d.1 then g.1 else d.1),d.2+1))
      else
       Ab (idx t.2 (↑d.2:Int)) λA=>
       bif Di ((c:Int)<=A.2.1)then
        Ab (idx t.2 (↑d.2:Int)) λm=>
        Aa (Lc.i64) (m.2.1+(1:Int))<|
        Aa (Lc.i64) (if m.2.1+(1:Int)<d.1 then m.2.1+(1:Int)else d.1)<|
        o (((if(m.2.1+(1:Int))<d.1 then m.2.1+(1:Int)else d.1),d.2+1))
       else
        o ((d.1,d.2+1))
     else
      w ((d.1,r.2+1))) ((r.1,0))
  else
   Ac (r.1)) (y,1)) λe=>((c:Int)<e/\e<=256)/\E_ (CS a p) c e/\E_ (CS b q) c e:=λy E F=>by
  rw[Ad];refine Tz (by simp) (GB (a:=q) rfl ?_);have last:∀u,(c:Int)<u/\u<=y->E_ (CS b q) c u->Ok (Ac u) λe=>((c:Int)<e/\e<=256)/\E_ (CS a p) c e/\E_ (CS b q) c e:=λu s v=>MA ⟨by omega,F.mono s.2,v⟩;refine N1 (λh=>?_) λh=>GB (a:=b) rfl (GB (a:=q) rfl (Adu (by omega) D ?_));· rw[Ad];exact P3 (by simp) (last y ⟨E.1,Abo _⟩ (by intro e x;grind))
  ·refine Ku hc E ⟨_,H _ (AN _)⟩ (by have:=sb.2 _ (AN (by omega:q.toNat<b.length));omega) λu s v=>?_;grind
 refine N1 (λh=>j 256 (by omega) (by rw[neg h];intro e x;cases x)) λh=>GB (a:=a) rfl (GB (a:=p) rfl (Adu (by omega) C ?_));exact Ku hc (by omega) ⟨_,G _ (AN _)⟩ (by have:=N.2 _ (AN (by omega:p.toNat<a.length));omega) λy s v=>j y (by omega) (by rw[row (by omega) C];omega)
noncomputable def wI(fu:Nat)(is:Bool->Bool->Option Bool)(j m:Tb)(n o:Int):Option Tb:=
 Ad fu (
      λ(c:List (Int×Int)×List (Bool×List (Int×Int×Int))×Nat) i=>
  bif Di ((↑c.2.2:Int)<(↑(Fw c.1):Int))then
   Ab (idx c.1 (↑c.2.2:Int)) λe=>
   Af ((0:Int)<=(0:Int)/\(0:Int)<(↑2:Int))<|
   Ab (uU fu (j,e.1)) λp=>
   Af ((0:Int)<=(1:Int)/\(1:Int)<(↑2:Int))<|
   Ab (uU fu (m,e.2)) λq=>
   Ab (is p q) λk=>
   Ad fu (λ(a:List (Int×Int)×List (Int×Int×Int)×Int) d=>
    bif Di (a.2.2<(256:Int))then
     Af ((0:Int)<=(0:Int)/\(0:Int)<(↑2:Int))<|
     Af ((0:Int)<=(1:Int)/\(1:Int)<(↑2:Int))<|
     Ab (nG fu ([j,m],[e.1,e.2],a.2.2)) λb=>
     Af ((0:Int)<=(0:Int)/\(0:Int)<(↑2:Int))<|
     Ab (uT fu (j,e.1,a.2.2)) λf=>
     Af ((0:Int)<=(1:Int)/\(1:Int)<(↑2:Int))<|
     Ab (uT fu (m,e.2,a.2.2)) λg=>
     Ab (F28 fu (a.1,f,g)) λh=>
     bif Di (h<(0:Int))then
      Af (Fw a.1+1<=Ah)<|
      Aa (Lc.u8) (a.2.2)<|
      Aa (Lc.i64) (b-(1:Int))<|
      Aa (Lc.u8) (b-(1:Int))<|
      Af (Fw a.2.1+1<=Ah)<|
      d (((a.1++[(f,g)]),(a.2.1++[(a.2.2,(b-(1:Int)),(↑(Fw a.1):Int))]),b))
     else
      Aa (Lc.u8) (a.2.2)<|
      Aa (Lc.i64) (b-(1:Int))<|
      Aa (Lc.u8) (b-(1:Int))<|
      Af (Fw a.2.1+1<=Ah)<|
      d ((a.1,(a.2.1++[(a.2.2,(b-(1:Int)),h)]),b))
    else
     Af (Fw c.2.1+1<=Ah)<|
     i ((a.1,(c.2.1++[(k,a.2.1)]),c.2.2+1))) ((c.1,[],(0:Int)))
  else
   Ab (uV fu c.2.1) λl=>
   Ac (l.1)) (([(n,o)],[],0))
theorem q7:4294967296<=Ah:=by decide
def xc(a b:Tb)(p:Int×Int):Prop:=p.1<a.length/\p.2<b.length
theorem bV(Y:∀x y,is x y=Ac (f x y))(T:Be a)(U:Be b)(sa:DP a n)(sb:DP b n)(hM:GP a b<=4000000000)(hn:n<4294967296)(hf:n+2<fu)(aW:300<fu)(zx:GP a b+2<fu):
  Ok (wI fu is a b (DV a) (DV b)) λr=>CB r (λw=>f (Av a 0 w) (Av b 0 w)) (GP a b):=by
 have c187:=q7;refine W5 (X:=List (Int×Int)×Tb×Nat) (λx=>GN f a b (DV a,DV b) x.1 x.2.1/\(∀p∈x.1,xc a b p)/\x.2.2=x.2.1.length) (λx=>GP a b+1-x.2.2)
  ⟨⟨rfl,by simp,λp j=>by grind[YG,J8],by simp,λk s r _ hr=>by grind⟩,λp j=>by simp at j;subst j;exact⟨(J8 a).2,(J8 b).2⟩,rfl⟩ (by omega) λx nx B _ Z=>?_;obtain⟨l,out,k⟩:=x;obtain⟨B,R,hk⟩:=B;dsimp only at B R hk;subst hk;have hol:=Hf B.nd B.mL;refine N1 (λh=>?_) λh=>?_
 ·have h:(out.length:Int)<l.length:=h;have h:out.length<l.length:=by omega
  have z:l[out.length]?=Ac l[out.length]:=BY h;have i:=R _ (AN h);refine Aah h ?_;generalize hs:l[out.length]=s at z i;refine Pv (by simp) (GB (Wy i.1) (Pv (by simp) (GB (Wy i.2) (GB (Y _ _) ?_))));refine W5 (X:=List (Int×Int)×List Ck×Int) (λx=>GN f a b (DV a,DV b) x.1 out/\(∀p∈x.1,xc a b p)/\(∃more,x.1=l++more)/\(0<=x.2.2/\x.2.2<=256)/\Ft (CT a b s) x.1 x.2.1 x.2.2.toNat) (λx=>256-x.2.2.toNat)
   ⟨B,R,⟨[],by simp⟩,⟨by simp,by dsimp only;omega⟩,Ft.zero⟩ (by omega) λx nx2 hJ _ q=>?_;obtain⟨o,es,ci⟩:=x;obtain⟨m,u,⟨more,C⟩,⟨V,W⟩,G⟩:=hJ;dsimp only at m u C V W G q;obtain⟨c,rfl⟩:∃c:Nat,ci=c:=⟨ci.toNat,by omega⟩;have hoM:=Hf m.nd m.mL;have hel:es.length<=256:=by have:=G.ed.len;omega
  refine N1 (λhc=>?_) λhc=>?_
  ·have hc:(c:Int)<256:=hc;have hc:c<256:=by omega
   have J:GK.F8 (c:Int):=by omega
   have D:YG a b (CT a b s c):=YG.step T U s c;have I:xc a b (CT a b s c):=by have:=T.st s.1 c;have:=U.st s.2 c;unfold xc CT;omega
   dsimp only;refine Pv (by decide) (Pv (by decide) (Ou (ig T U sa sb (by omega) (by omega) hc i.1 i.2) λe he=>?_));obtain⟨⟨he0,he1⟩,P,Q⟩:=he;obtain⟨t,rfl⟩:∃t:Nat,e=t:=⟨e.toNat,by omega⟩;have v:∀E,c<=E->E<t->CT a b s E=CT a b s c:=λE h1 h2=>by obtain⟨d,rfl⟩:∃d,E=c+d:=⟨E-c,by omega⟩;have k1:=G4 (es:=CS a s.1) (lo:=c) d λb2 O h4=>P.no O (by omega);have k2:=G4 (es:=CS b s.2) (lo:=c) d λb2 O h4=>Q.no O (by omega);unfold CT;rw[HQ,HQ,k1,k2,<-HQ,<-HQ]
   have H:=m.put D;obtain⟨m2,N⟩:=Mm o (CT a b s c);have A:=G.new (more:=m2) (e:=t) (N▸Rk o (CT a b s c)) (by omega) v;rw[<-N]at A;have S:∀p∈EP o (CT a b s c),xc a b p:=λp j=>by
    unfold EP at j;split at j;· exact u p j
    ·rcases AS.1 j with j|j;· exact u p j
     ·simp at j;subst j;exact I
   have g:=q (EP o (CT a b s c),es++[((c:Int),(t:Int)-1,(((EP o (CT a b s c)).idxOf (CT a b s c):Nat):Int))],(t:Int)) ⟨H,S,⟨more++m2,by rw[N,C];simp⟩,⟨by dsimp only;omega,by dsimp only;omega⟩,by rw[Ace];exact A⟩ (by dsimp only;omega);refine Pv (by decide) (GB (RC sa (by omega) i.1) (Pv (by decide) (GB (RC sb (by omega) i.2) (GB (Xa (x:=CT a b s c) (by omega)) ?_))));have K:GK.F8 ((t:Int)-1):=by unfold GK.F8;omega
   by_cases F:CT a b s c∈o;· rw[if_pos F];rw[Px,if_pos F]at g;unfold EP at g;rw[if_pos F]at g;exact PT (Pv (p:=GK.F8 (c:Int)) J (Aap (Pv (p:=GK.F8 ((t:Int)-1)) K (Pv (by unfold Ah;omega) g))))
   ·rw[if_neg F];rw[Px,if_neg F]at g;unfold EP at g;rw[if_neg F]at g;exact PS (Abt (Pv (p:=GK.F8 (c:Int)) J (Aap (Pv (p:=GK.F8 ((t:Int)-1)) K (Pv (by unfold Ah;omega) g)))))
  ·have hc:¬(c:Int)<256:=hc;obtain rfl:c=256:=by omega
   have g:o[out.length]?=Ac s:=by rw[C,Aaa h];exact z
   refine Pv (by dsimp only;unfold Ah;omega) (Z (_,_,out.length+1) ⟨m.add g G.row,u,by simp⟩ (by dsimp only;omega))
 ·have h:¬(out.length:Int)<l.length:=h;obtain⟨M,t2,t3⟩:=B.done (by omega);have hsh:DP out (max (GP a b) 256):=M.sh (by omega) (by omega);refine Ou (KZ M.by hsh (by omega) (by omega) (by omega)) λr hr=>MA ?_;rw[hr.1 M];refine(CB.of M t2 t3).congr (funext λw=>?_);rw[N8,N8]
structure nq(n fu:Nat)(a b:Tb):Prop where
 ha:NU a
 hb:NU b
 sa:DP a n
 sb:DP b n
 hM:GP a b<=4000000000
 hn:n<4294967296
 hf:n+2<fu
 aW:300<fu
 zx:GP a b+2<fu
theorem Rp(a b:Tb):GP (C9 a) (C9 b)<=GP a b:=Abw (by grind[Kl]) (by grind[Kl])
theorem lL(a b:Tb):a.length<=GP a b:=Aak (by omega:a.length<=(a.length+2)*1) (Abw (Aae _) (by omega))
theorem vv(a b:Tb):b.length<=GP a b:=Aak (by omega:b.length<=1*(b.length+2)) (Abw (by omega) (Aae _))
noncomputable def gL(a:Tb):Lg:=Av (C9 a) 0
theorem Ht:gL []=λ_=>Aj:=by unfold gL;rw[R6 (by simp[Be]) M6];exact funext λw=>Dz 0 w
theorem Pz(c:nq n fu a b)(d:∀x y,is x y=Ac (f x y)):
  Ok (Ab (QN fu a) λg=>Ab (QN fu b) λi=>lK fu is g i) λr=>CB r (λw=>f (gL a w) (gL b w)) (GP a b):=by
 have h:=Rp a b;refine GB (FZ c.ha c.sa c.hn c.hf (by have:=c.aW;omega)) (GB (FZ c.hb c.sb c.hn c.hf (by have:=c.aW;omega)) ?_);exact(ZB d (Ho a) (Ho b) (Hq c.sa) (Hq c.sb) (by have:=c.hM;omega) c.hn c.hf c.aW (by have:=c.zx;omega)).mono λr e=>e.mono h
theorem iA{l:List Ck}(h:l.length<4294967296):zO fu l=Ac l:=by
 cases l with
 |nil=>grind[d99n]
 |cons x l=>exact(d99c fu x l).trans (by unfold Af Ah;grind)
theorem XR(e:DP l n)(g:n<4294967296)(i:n<fu):Yz fu l=Ac l:=by
 refine(Ok.eq ?_);refine Sb (λk (o:Tb)=>o=l.take k) l.length (by simp) (by have:=e.1;omega) (λk o nx c b d=>?_) (λo nx b=>?_);· have f:(l[k]).2.length<4294967296:=Afu (e.2 _ (AN c)) g;have h:=e.1;refine PS (Aah c (GB (iA f) (Pv (by grind) (d _ ?_))));grind[List.take_add_one,List.getElem?_eq_getElem]
 simp_all[PT,MA]
theorem Ql(d:NU a)(c:DP a n)(b:n<4294967296)(e:n+2<fu)(f:300<fu){P:Tb->Prop}(h:P (C9 a)):
  Ok (Ab (QN fu a) λr=>Ab (Yz fu r) λr=>Ac r) P:=
 GB (FZ d c b e (by omega)) (GB (XR (Hq c) b (by omega)) (MA h))
theorem TV(c:nq n fu a b):Ok (U1 fu (a,b)) λr=>CB r (λw=>gL a w||gL b w) (GP a b):=by
 refine N1 (λh=>?_) λ_=>N1 (λh=>?_) λ_=>?_;· obtain rfl:a=[]:=OF.1 (by omega);refine Ql c.hb c.sb c.hn c.hf c.aW (((MM b).congr (funext λw=>?_)).mono (vv _ _));rw[Ht];rfl
 ·obtain rfl:b=[]:=OF.1 (by omega);refine Ql c.ha c.sa c.hn c.hf c.aW (((MM a).congr (funext λw=>?_)).mono (lL _ _));rw[Ht];simp[gL]
 ·refine Ou (Pz (f:=λx y=>x||y) c λx y=>?_) λr h=>MA h;grind[uj]
theorem Oi(c:nq n fu a b):Ok (Yt fu (a,b)) λr=>CB r (λw=>gL a w&& !gL b w) (GP a b):=by
 refine N1 (λh=>?_) λ_=>N1 (λh=>?_) λ_=>?_;· obtain rfl:a=[]:=OF.1 (by omega);refine MA (CB.nil.congr (funext λw=>?_));grind[Ht]
 ·obtain rfl:b=[]:=OF.1 (by omega);refine Ql c.ha c.sa c.hn c.hf c.aW (((MM a).congr (funext λw=>?_)).mono (lL _ _));rw[Ht];simp[gL]
 ·refine Ou (Pz (f:=λx y=>x&& !y) c λx y=>?_) λr h=>MA h;grind[tS]
theorem iY(c:nq n fu a b):Ok (tz fu (a,b)) λr=>CB r (λw=>gL a w&&gL b w) (GP a b):=by
 refine N1 (λh=>?_) λ_=>N1 (λh=>?_) λ_=>?_;· obtain rfl:a=[]:=OF.1 (by omega);refine MA (CB.nil.congr (funext λw=>?_));grind[Ht]
 ·obtain rfl:b=[]:=OF.1 (by omega);refine MA (CB.nil.congr (funext λw=>?_));grind[Ht]
 ·refine Ou (Pz (f:=λx y=>x&&y) c λx y=>?_) λr h=>MA h;grind[tA]
def fN(o:Int)(x y:Bool):Bool:=if o=38 then x&&y else if o=124 then x||y else x&& !y
theorem eK(fu:Nat)(o:Int)(x y:Bool):F25 fu (o,x,y)=Ac (fN o x y):=by
 rw[F25];unfold fN;dsimp only[iF,iB];by_cases h:o=38;· rw[decide_eq_true h,if_pos h];cases x<;>rfl
 ·by_cases a:o=124;· rw[decide_eq_false h,if_neg h,decide_eq_true a,if_pos a];cases x<;>rfl
  ·rw[decide_eq_false h,if_neg h,decide_eq_false a,if_neg a];cases x<;>rfl
theorem V9{o:Int}(c:nq n fu a b):Ok (F29 fu (a,b,o)) λr=>CB r (λw=>fN o (gL a w) (gL b w)) (GP a b):=by have h:=Rp a b;refine GB (MN c.ha c.sa c.hn c.hf (by have:=c.aW;omega)) (GB (MN c.hb c.sb c.hn c.hf (by have:=c.aW;omega)) (GB N9 (GB N9 ?_)));exact(bV (eK fu o) (Ho a) (Ho b) (Hq c.sa) (Hq c.sb) (by have:=c.hM;omega) c.hn c.hf c.aW (by have:=c.zx;omega)).mono λr d=>d.mono h
theorem Mt(c:nq n fu a b):Ok (WG fu (a,b)) λr=>CB r (λw=>gL a w&& !gL b w) (GP a b):=by exact Ou (V9 c) λr h=>MA h
theorem cQ(c:nq n fu a b):Ok (jy fu (a,b)) λr=>CB r (λw=>gL a w&&gL b w) (GP a b):=by rw[jy];exact Ou (V9 c) λr h=>MA h
theorem iZ(fu:Nat):F8 fu () =Ac KE:=(rfl)
theorem CB.Gt(h:CB r L m):r=[]↔L=λ_=>Aj:=by
 constructor;· rintro rfl;rw[<-h.lg];exact funext λw=>Dz 0 w
 ·intro e;exact h.unique ((CB.nil (m:=0)).congr e.symm)
def Ie(l:Tb)(i:Nat):List Ck:=(Bc l (i:Int)).2
def lw(l:Tb):Nat->Nat->Option Aq
 |0,i=>if fin l (i:Int)then Ac []else C5
 |k+1,i=>(Ie l i).findSome? λe=>(lw l k e.2.2.toNat).map λw=>UInt8.ofNat e.1.toNat::w
def Eh(l:Tb)(k i:Nat):Bool:=(lw l k i).isSome
theorem Ha(l:Tb)(i:Nat):Eh l 0 i=fin l (i:Int):=by grind[Eh,lw,fin]
theorem Hb(l:Tb)(k i:Nat):Eh l (k+1) i=(Ie l i).any λe=>Eh l k e.2.2.toNat:=by
 rw[Eh,show lw l (k+1) i=(Ie l i).findSome? λe=>(lw l k e.2.2.toNat).map λw=>UInt8.ofNat e.1.toNat::w from rfl];induction Ie l i with
 |nil=>rfl
 |cons e c b=>
  rw[List.findSome?_cons,List.any_cons,<-b,Eh];cases lw l k e.2.2.toNat with
  |none=>rfl
  |some w=>rfl
theorem T5{l:Tb} :∀ {k i:Nat} {w:Aq},lw l k i=Ac w->w.length=k
 |0,i,w,h=>by grind[lw]
 |k+1,i,w,h=>by obtain⟨e,_,a⟩:=Aff h;obtain⟨v,b,rfl⟩:=Pd.1 a;rw[Abn,T5 b]
theorem G_{i:Nat}(h:i<l.length):Ie l i=l[i].2:=by grind[Ie,Bs]
theorem Rh{l:Tb}{i:Nat}(h:l.length<=i):Ie l i=[]:=by grind[Ie,G9]
theorem Pt{l:Tb}(h:Be l)(i:Nat):BQ (Ie l i) 256 l.length:=by
 rcases Aam i l.length with k|k;· rw[G_ k];exact h _ (AN k)
 ·rw[Rh k];exact .nil
theorem oj(h:Be l){i:Nat}(a:Eh l k i=Bp):i<l.length:=by
 cases k with
 |zero=>grind[Ha,Qb]
 |succ k=>grind[Hb,Rh]
theorem Ml{l:Tb}(h:Be l){k:Nat} :∀ {d i:Nat},Eh l (k+d) i=Bp->∃j,j<l.length/\Eh l k j=Bp
 |0,i,a=>⟨i,oj h a,a⟩
 |d+1,i,a=>by rw[<-Ado,Hb]at a;obtain⟨e,_,b⟩:=Aca.1 a;exact Ml h b
theorem Zy{l:Tb}(h:Be l):∀ {w:Aq} {i:Nat},Av l (i:Int) w=Bp->Eh l w.length i=Bp
 | [],i,g=>by rw[Adt,Ha];exact g
 |c::w,i,g=>by
  have a:Av l (Bl l i c.toNat) w=Bp:=g;have f:Bl l i c.toNat=AQ (Ie l i) c.toNat:=by rfl
  rw[f]at a;unfold AQ at a;cases d:(Ie l i).find? (BN c.toNat)with
  |none=>grind[D']
  |some e=>
   have j:=Acj d;have k:=(Pt h i).rg e j;rw[Abn,Hb];refine Aca.2 ⟨e,j,Zy h (w:=w) ?_⟩;grind
theorem Rf(l:Tb)(i:Int)(v w:Aq):runT l i (v++w)=runT l (runT l i v) w:=by simp[runT]
theorem TH(C:Be l) :∀(n:Nat) (w:Aq),w.length=n->Av l i w=Bp->∃v,v.length<l.length/\Av l i v=Bp:=by
 intro n;induction n using ri with
 |_ n A=>
  intro w B p;rcases Aam w.length l.length with h|h;· grind
  ·have f:∀j,0<=runT l i (w.take j)/\runT l i (w.take j)<l.length:=λj=>by
    have e:runT l i w=runT l (runT l i (w.take j)) (w.drop j):=by grind[Rf,rM]
    have d:fin l (runT l (runT l i (w.take j)) (w.drop j))=Bp:=by rw[<-e];exact p
    constructor;· grind[Int.not_lt,fin_neg,G7]
    ·refine Int.not_le.1 λm=>?_;cases y:w.drop j with
     |nil=>rw[y]at d;rw[show runT l (runT l i (w.take j)) []=runT l i (w.take j)from rfl,Qb m]at d;grind
     |cons c v=>
      grind[HU,Vb,fin_neg,G7]
   have g:¬(Bg (w.length+1) λj=>(runT l i (w.take j)).toNat).Nodup:=λg=>by
    have:=Cf (b:=av l.length) g λx z=>by obtain⟨j,_,rfl⟩:=EC.1 z;have:=f j;exact Abf.2 (by omega)
    rw[Az,Aga]at this;omega
   have s:∃a b,a<b/\b<=w.length/\runT l i (w.take a)=runT l i (w.take b):=by refine IT λt=>g ?_;refine Aaw.2 λa b p u k=>?_;rw[Bm,Bm];intro heq;rw[Az]at u;have:=f a;have:=f b;exact t ⟨a,b,k,by omega,by omega⟩
   obtain⟨a,b,k,u,heq⟩:=s;refine A (w.take a++w.drop b).length ?_ _ rfl ?_;· rw[Aac,Abg,Ajr];omega
   grind[Av,Rf,rM]
theorem Jq(h:CB r L m)(e:r≠ []):∃k,k<r.length/\Eh r k 0=Bp:=by
 have a:∃w,Av r 0 w=Bp:=IT λb=>e (h.Gt.2 (by rw[<-h.lg];grind));obtain⟨w,d⟩:=a;obtain⟨v,f,c⟩:=TH h.wf _ w rfl d;exact⟨v.length,f,Zy h.wf (i:=0) c⟩
theorem H4(h:∃k,k<n/\Eh l k 0=Bp):∃k,k<n/\Eh l k 0=Bp/\∀j,j<k->Eh l j 0=Aj:=by
 obtain⟨k,f,g⟩:=h;induction k using ri with
 |_ k i=>
  grind
def Cl(l:Tb)(k:Nat):List Bool:=Bg l.length (Eh l k)
theorem cm(B:Be l)(x:DP l n)(F:n<4294967296)(E:n<fu):ue fu (l,Cl l k)=Ac (Cl l (k+1)):=by
 refine(Ok.eq ?_);have z:=x.1;refine Pv (by grind) ?_;refine Sb (λi (s:List Bool)=>s=Bg l.length λj=>Di (j<i)&&Eh l (k+1) j) l.length (by grind[Dv,AP]) (by omega) (λi s nx p r u=>?_) (λs nx r=>?_)
 ·have A:(l[i]).2.length<=n:=x.2 _ (AN p);have y:=B _ (AN p);have g:Ie l i=(l[i]).2:=G_ p;refine PS (Aah p ?_);refine Sb (λm (t:List Bool)=>t=Bg l.length λj=>if j=i then((l[i]).2.take m).any (λe=>Eh l k e.2.2.toNat)else Di (j<i)&&Eh l (k+1) j) (l[i]).2.length ?_ (by omega) (λm t v q d f=>?_) (λt v d=>?_)
  ·grind
  ·have w:t.length=l.length:=by rw[d,Az]
   have c:t[i]'(by omega)=((l[i]).2.take m).any (λe=>Eh l k e.2.2.toNat):=by simp only[d];rw[Bm,if_pos rfl]
   have D:=y.rg _ (AN q);have C:idx (Cl l k) ((l[i]).2[m]).2.2=Ac (Eh l k ((l[i]).2[m]).2.2.toNat):=by grind[Cl,Fg,Az,Bm]
   refine PS (Aah q (Aah (by dsimp only;omega) (PM (λh=>Aah (by dsimp only;omega) (f _ ?_)) λh=>GB C (Aah (by dsimp only;omega) (f _ ?_)))))
   ·rw[d,A'];refine AP λj _=>?_;by_cases a:j=i;· rw[if_pos a,if_pos a,IN q,Aeu,<-c,h];rfl
    ·rw[if_neg a,if_neg a,if_neg a]
   ·rw[d,A'];refine AP λj _=>?_;by_cases a:j=i;· rw[if_pos a,if_pos a,IN q,Aeu,<-c,h];simp
    ·rw[if_neg a,if_neg a,if_neg a]
  ·refine PT (u _ ?_);rw[d,Al];refine AP λj _=>?_;by_cases a:j=i;· rw[if_pos a,Hb,a,g];simp
   ·rw[if_neg a,show Di (j<i+1)=Di (j<i) by simp;omega]
 ·refine PT (MA ?_);rw[r];exact AP λj a=>by simp[a]
theorem LD{l:List Bool}(d:l.length<fu):eb fu (l,Bp)=Ac (l.any λb=>b):=by
 refine(Ok.eq ?_);rw[eb];have key:Ok (uc fu (l,Bp)) λi=>Di ((0:Int)<=i)=l.any λb=>b:=by
  refine Vi (λk=>(l.take k).any (λb=>b)=Aj) l.length (by simp) d (λk nx c a f=>?_) (λnx a=>?_)
  ·refine PS (Aah c (PM (λh=>MA ?_) λh=>f ?_))
   ·grind[decide_eq_true,List.any_eq_true,Alv]
   grind[cu]
  simp_all[PT,MA,Al]
 grind[Ou,MA]
theorem Vg{i:Nat}(hi:i<l.length)(h:Eh l k i=Bp):((Cl l k).any λb=>b)=Bp:=
 Aca.2 ⟨_,EC.2 ⟨i,hi,rfl⟩,h⟩
def uP(w:Aq)(r:List (List UInt8)×Option Bool):Prop:=r.1.head?=Ac w
theorem V3{kb:Bool->Option (List (List UInt8)×Option Bool)}{r:List (List UInt8)×Option Bool}(h:uP w r):Ok (wE kb r.1 r.2) (uP w):=by
 obtain⟨l,b⟩:=r;cases l with
 |nil=>cases h
 |cons y l=>
  cases h;unfold wE;split;· exact MA rfl
  ·exact MA rf
theorem V4{kb:Bool->Option (List (List UInt8)×Bool)}{r:List (List UInt8)×Option Bool}(h:uP w r):Ok (qM kb r.1 r.2) λo=>o.1.head?=Ac w:=by
 obtain⟨l,b⟩:=r;cases l with
 |nil=>cases h
 |cons y l=>
  cases h;unfold qM;split;· exact MA rfl
  ·exact MA rf
theorem Rj{i:Nat}(h:Eh l k i=Aj):lw l k i=C5:=by simp_all[lw,Eh]
def va(l:List Int):Aq:=l.map λn=>UInt8.ofNat n.toNat
theorem Vd{l:Tb}{n K:Nat}(G:Be l)(E:DP l n)(N:n<4294967296){b:List (List Bool)}(D:b=Bg (K+1) (Cl l)):∀ {k fu:Nat} {i:Nat} {pre:List Int} {w:Aq},
  k<=K->K<4294967296->n+300+k<fu->pre.length+k<4294967296->lw l k i=Ac w->i<l.length->Ok (Yx fu ((i:Int),(k:Int),pre,l,b)) (uP (va pre++w))
 |0,fu+1,i,pre,w,M,C,J,O,h,o=>by
  rw[show Yx (fu+1) ((i:Int),((0:Nat):Int),pre,l,b)=_ from d120 fu _ _ _ _ _];unfold uk;have:w=[]:=by have:=T5 h;grind
  subst this;exact Tz (by rfl) (MA (by simp[uP,va]))
 |k+1,fu+1,i,pre,w,M,C,J,O,h,o=>by
  rw[show Yx (fu+1) ((i:Int),((k+1:Nat):Int),pre,l,b)=_ from d120 fu _ _ _ _ _];unfold uk;have P:(l[i]).2.length<=n:=E.2 _ (AN o);have L:=G _ (AN o);have s:Ie l i=(l[i]).2:=G_ o;have h:((l[i]).2.findSome? λe=>(lw l k e.2.2.toNat).map λw=>UInt8.ofNat e.1.toNat::w)=Ac w:=s▸h;refine PT (Aah o ?_);refine Vi (λm=> ∀j (_:j<m) (d:j<(l[i]).2.length),Eh l k ((l[i]).2[j]).2.2.toNat=Aj) (l[i]).2.length (by omega) (by omega) (λm nx x t y=>?_) (λnx t=>?_)
  ·have g:=L.rg _ (AN x);refine PS (Aah x ?_);obtain⟨f,rfl⟩:∃f,fu=f+1:=⟨fu-1,by omega⟩;refine PS (Abx (by omega) ?_);have Q:idx b (((k+1:Nat):Int)-1)=Ac (Cl l k):=by
    grind[Bj,Az,Bm]
   have R:idx (Cl l k) ((l[i]).2[m]).2.2=Ac (Eh l k ((l[i]).2[m]).2.2.toNat):=by simp_all[Cl,Fg,Az,Bm]
   refine GB Q (GB R (PM (λq=>?_) λq=>y ?_))
   ·obtain⟨v,F⟩:=Abk.1 q;have z:w=UInt8.ofNat ((l[i]).2[m]).1.toNat::v:=by
     have:((l[i]).2.findSome? λe=>(lw l k e.2.2.toNat).map λw=>UInt8.ofNat e.1.toNat::w)=Ac (UInt8.ofNat ((l[i]).2[m]).1.toNat::v):=by
      conv=>lhs;rw[<-Acf m (l[i]).2]
      rw[Agy,Aaq x,List.findSome?_cons,F];have:((l[i]).2.take m).findSome? (λe=>(lw l k e.2.2.toNat).map λw=>UInt8.ofNat e.1.toNat::w)=C5:=by refine All.2 λe g=>?_;obtain⟨j,d,rfl⟩:=Aes.1 g;rw[Rj (t j (by omega) (by omega))];rfl
      rw[this];rfl
     rw[this]at h;cases h;rfl
    have A:=Vd G E N D (k:=k) (fu:=f+1) (i:=((l[i]).2[m]).2.2.toNat) (pre:=pre++[((l[i]).2[m]).1]) (w:=v) (by omega) C (by omega) (by rw[Aac,Acn];omega) F (by omega);rw[Abd g.2.2.2.1,show(k:Int)=(((k+1:Nat):Int)-1) by omega]at A;have I:va (pre++[((l[i]).2[m]).1])++v=va pre++w:=by rw[z];simp[va]
    rw[I]at A;refine Aap (Pv ⟨rfl,rfl⟩ (Pv (p:=GK.F8 _) (by omega) (Pv ⟨by unfold Ah;omega,by decide⟩ (Ou A λr q=>V3 q))))
   grind
  ·have:((l[i]).2.findSome? λe=>(lw l k e.2.2.toNat).map λw=>UInt8.ofNat e.1.toNat::w)=C5:=by
    refine All.2 λe g=>?_;obtain⟨j,d,rfl⟩:=Aas g;rw[Rj (t j d d)];rfl
   rw[this]at h;cases h
theorem Wj:4294967296<=Ah:=by decide
theorem Ra(p:Be l)(m:DP l n)(g:n<4294967296)(h0:0<l.length)(f:k<4294967296)(e:n+300+k<fu):
  Ok (Yw fu (l,k,1,(k:Int),Bg (k+1) (Cl l))) λr=>(Eh l k 0=Aj->r=([],Ac Bp))/\∀w,lw l k 0=Ac w->uP w r:=by
 have q:idx (Bg (k+1) (Cl l)) ((k:Int)+0)=Ac (Cl l k):=by simp_all[Int.add_zero,Bj,Az,Bm]
 have s:idx (Cl l k) (0:Int)=Ac (Eh l k 0):=by grind[Cl,Fg,Az,Bm]
 refine Pv (by simp) (GB q (GB s ?_));cases b:Eh l k 0 with
 |false=>exact VF rfl (MA ⟨λ_=>rfl,λw h=>by grind[Eh]⟩)
 |true=>
  obtain⟨w,a⟩:=Abk.1 b;have:=Vd p m g (K:=k) rfl (k:=k) (fu:=fu) (i:=0) (pre:=[]) (Aae _) f e (by grind) a h0;refine PW rfl (Ou this λr c=>(V3 c).mono λo j=>⟨λh=>(by grind),λv d=>?_⟩);rw[a]at d;cases d;exact j
theorem YN(J:Be l)(I:DP l n)(hn:n<4294967295)(h0:0<l.length)(C:m<l.length)(N:Eh l m 0=Bp)(v:∀j,j<m->Eh l j 0=Aj)(hf:2*n+400<fu):
  Ok (Tp fu l) λr=> ∃w,r.1.head?=Ac w:=by
 have Q:=Wj;obtain⟨P,K⟩:=Abk.1 N;have Y:=I.1;refine Sb (λk (s:List Bool)=>s=(Bg k λi=>fin l (i:Int))) l.length rfl (by omega) (λk s nx C B H=>?_) (λs nx B=>?_);· refine PS (Aah C (Pv (by grind[Az]) (H _ ?_)));grind[Dd,Ea]
 refine PT (Pv (by omega) ?_);have t:s=Cl l 0:=by rw[B];exact AP λi _=>(Ha l i).symm
 refine W5 (X:=List (List Bool)×Int) (λx=> ∃k:Nat,x.2=k/\k<=m/\x.1=Bg (max k 1) (Cl l)) (λx=>m+1-x.2.toNat) ⟨0,rfl,by omega,by rw[t];rfl⟩ (by omega) λx nx2 S _ g=>?_;obtain⟨e,z⟩:=x;obtain⟨k,O,V,c⟩:=S;dsimp only at O c g;subst O;have q:((Cl l k).any λb=>b)=Bp:=by obtain⟨j,U,E⟩:=Ml J (k:=k) (d:=m-k) (i:=0) (by rw[show k+(m-k)=m by omega];exact N);exact Vg U E
 have u:(Cl l k).length<fu:=by unfold Cl;rw[Az];omega
 have p:∀ {R:List (List Bool)} {kb:Bool->Option (List (List UInt8)×Bool)},R=Bg (k+1) (Cl l)->
   (k<m->Ok (kb Bp) λr=> ∃w,r.1.head?=Ac w)->
   Ok (Ab (Yw fu (l,ZV (k:Int),ZV ((k:Int)+1-(k:Int)),(k:Int),R)) λA=>qM kb A.1 A.2) λr=> ∃w,r.1.head?=Ac w:=λ{R kb} T F=>by
  rw[T,show ZV (k:Int)=k by omega,show ZV ((k:Int)+1-(k:Int))=1 by omega];refine Ou (Ra J I (by omega) h0 (by omega) (by omega)) λr y=>?_;rcases Aam k m with h|h;· rw[y.1 (v k h)];have:=F h;exact this
  ·obtain rfl:k=m:=by omega
   exact(V4 (y.2 P K)).mono λo W=>⟨P,W⟩
 dsimp only;refine PS (N1 (λC=>?_) λC=>?_)
 ·have Z:idx e ((k:Int)-1)=Ac (Cl l (k-1)):=by
   rw[show((k:Int)-1)=((k-1:Nat):Int) by omega,c,Bj (by rw[Az];omega),Bm]
  have hc:=cm (l:=l) (k:=k-1) (fu:=fu) J I (by omega) (by omega);rw[show k-1+1=k by omega]at hc;have a:e++[Cl l k]=Bg (k+1) (Cl l):=by rw[c,show max k 1=k by omega,Dd]
  have M:e.length=k:=by rw[c,Az];omega
  have L:idx (e++[Cl l k]) (k:Int)=Ac (Cl l k):=by rw[a,Bj (by rw[Az];omega),Bm]
  refine Aap (GB Z (GB hc (Abt (GB L (GB (LD u) ?_)))));rw[q];refine PW rf (Aap (Aap (Pv ⟨⟨by omega,by omega⟩,rf,by rw[a,Az];omega⟩ ?_)));refine p a λG=>PW rf (Aap (g _ ⟨k+1,by dsimp only;omega,by omega,by dsimp only;rw[a,show max (k+1) 1=k+1 by omega]⟩ (by dsimp only;omega)))
 ·obtain rfl:k=0:=by omega
  have a:e=Bg (0+1) (Cl l):=c;have L:idx e ((0:Nat):Int)=Ac (Cl l 0):=by rw[a,Bj (by rw[Az];omega),Bm]
  refine GB L (GB (LD u) ?_);rw[q];refine PW rf (Aap (Aap (Pv ⟨⟨by omega,by omega⟩,rf,by rw[a,Az];omega⟩ ?_)));refine p a λG=>PW rf (Aap (g _ ⟨1,by dsimp only;omega,by omega,by dsimp only;rw[a];rfl⟩ (by dsimp only;omega)))
theorem ai(h:CB r L m)(i:DP r n)(t:n<4294967295)(p:2*n+400<fu):Ok (UY fu r) λo=>o.2=Di (r≠ []):=by
 have key:Ok (Yv fu (r,1)) λo=>(r=[]->o=[])/\(r≠ []->∃w,o=[w]):=by
  rw[Yv];refine P3 (by simp) (GB (FZ h.wf.by i (by omega) (by omega) (by omega)) ?_);rw[h.MO];refine GB (rfl) ?_;by_cases c:r=[]
  ·subst c;have:Tp fu []=Ac ([],Bp):=by
    refine(Ok.eq ?_);have j:=Wj;rw[Tp];obtain⟨f,rfl⟩:∃f,fu=f+1:=⟨fu-1,by omega⟩;rw[Ad];exact P3 (by simp) (MA rfl)
   refine GB this ?_;exact MA ⟨λ_=>rfl,λh=>absurd rf h⟩
  ·have s:0<r.length:=Aee.2 c;obtain⟨k,q,e,g⟩:=H4 (Jq h c);refine Ou (YN h.wf i t s q e g p) λo d=>?_;obtain⟨l,b⟩:=o;cases l with
   |nil=>grind
   |cons y l=>
    refine Pv (by trivial) (Abx (by decide) (Tz (by simp) (MA ⟨λh=>absurd h c,λ_=>⟨y,rf⟩⟩)))
 rw[UY];refine Ou key λo d=>?_;by_cases c:r=[];· rw[d.1 c];exact Tz rfl (MA (by simp[c]))
 ·obtain⟨w,rfl⟩:=d.2 c;exact P3 (by simp) (GB (a:=w) rfl (MA (by simp[c])))
abbrev Sc:=Bool×Bool×Bool×(List Sp×List Sp)×Tb
end
section
variable{m k:Nat}{s:Sc}{fu:Nat}{L:Lg}{r:Tb}
def Fu:Sc:=(Aj,Aj,Aj,([],[]),[])
structure c9(k m:Nat)(s:Sc):Prop where
 sm:Lm s.2.2.2.1
 n1:s.2.2.2.1.1.length<=k
 n2:s.2.2.2.1.2.length<=k
 bt:NU s.2.2.2.2
 sh:DP s.2.2.2.2 m
structure Ih(k m:Nat)(s:Sc):Prop where
 nu:Ec s.2.2.2.1 (A8 s.2.2.2.1) (A6 s.2.2.2.1)
 n1:s.2.2.2.1.1.length<=k
 n2:s.2.2.2.1.2.length<=k
 ln:CB s.2.2.2.2 (Av s.2.2.2.2 0) m
theorem CB.self(h:CB r L m):CB r (Av r 0) m:=⟨h.wf,h.can,rfl,h.len⟩
theorem CB.gL(h:CB r L m):gL r=L:=by unfold Go.GL.gL;rw[h.MO,h.lg]
theorem Ec.self{r:List Sp×List Sp}{I F:Int->Prop}(h:Ec r I F)(hi:∀n,I n-> -100000000000<=n/\n<=100000000000)(a:∀y,F y-> -1000000000000000<=ur y/\ur y<=1000000000000000):Ec r (GL.A8 r) (GL.A6 r):=
 h.congr (λn=>((h.A8 n).trans ⟨Aiy,λk=>⟨k,hi n k⟩⟩).symm) λy=>((h.A6 y).trans ⟨Aiy,λk=>⟨k,a y k⟩⟩).symm
theorem Ih.sc(h:Ih k m s)(a:k<=12):c9 k (max m 256) s:=
 ⟨h.nu.sm (Aak h.n1 a) (Aak h.n2 a),h.n1,h.n2,h.ln.wf.by,h.ln.wf.sh (Aak h.ln.len (Alf _ _)) (Ajq _ _)⟩
theorem PH:Ec (([],[]):List Sp×List Sp) (A8 ([],[])) (A6 ([],[])):=
 ⟨[],rfl, .nil,by simp, .nil,by simp,λn=>⟨λh=>absurd h Ba,λh=>absurd h.1 Ba⟩,λn=>⟨λh=>absurd h Ba,λh=>absurd h.1 Ba⟩⟩
theorem LP:Ih k m Fu:=⟨PH,Abh _,Abh _,CB.nil.self⟩
theorem HS(h:c9 k m s)(j:m<1000000000)(i:1000000000000<fu):Ok (dm fu s) λb=>b=Bp↔Ec s.2.2.2.1 (A8 s.2.2.2.1) (A6 s.2.2.2.1)/\Be s.2.2.2.2/\BW s.2.2.2.2=s.2.2.2.2:=by
 obtain⟨r,e,d,_⟩:=Ek (fu:=fu) h.sm (by omega);have l:=h.sm.n1;have n:=h.sm.n2;have g:F79 fu s.2.2.2.1=Ac (Di (s.2.2.2.1=r)):=by refine(Ok.eq ?_);exact GB e (GB (vk (by omega) (by omega)) (MA rf))
 have a:s.2.2.2.1=r↔Ec s.2.2.2.1 (A8 s.2.2.2.1) (A6 s.2.2.2.1):=⟨λc=>c▸d,λc=>c.unique d⟩;refine GB g (PM (λc=>Ou (LV h.bt h.sh (by omega) (by omega) (by omega)) λb f=>MA ?_) λc=>MA ?_);all_goals grind
theorem Ih.valid(h:Ih k m s)(d:k<=12)(f:m<=100000000)(a:1000000000000<fu):dm fu s=Ac Bp:=by obtain⟨b,e,c⟩:=HS (fu:=fu) (h.sc d) (by omega) a;rw[e,c.2 ⟨h.nu,h.ln.wf,h.ln.can⟩]
theorem Ih.MO(h:Ih k m s)(b:k<=12)(c:m<=100000000)(a:1000000000000<fu):nE fu s=Ac s:=by refine(Ok.eq ?_);exact GB (h.valid b c a) (PW rf (MA rf))
theorem Gu{a b:Tb}{M:Lg}{p:Nat}(c:CB a L m)(d:CB b M p)(h:(m+2)*(p+2)<=1000000000)(g:1000000000000<fu):nq (max (max m p) 256) fu a b:=by have e:=c.len;have f:=d.len;have i:GP a b<=(m+2)*(p+2):=Abw (by omega) (by omega);have j:m<=(m+2)*(p+2):=Aak (by omega:m<=(m+2)*1) (Abw (Aae _) (by omega));have k:p<=(m+2)*(p+2):=Aak (by omega:p<=1*(p+2)) (Abw (by omega) (Aae _));exact⟨c.wf.by,d.wf.by,c.wf.sh (by omega) (by omega),d.wf.sh (by omega) (by omega),by omega,by omega,by omega,by omega,by omega⟩
theorem orB(fu:Nat)(x y:Bool):uR fu (x,y)=Ac (x||y):=(by grind[uR])
theorem T4(fu:Nat)(x y:Bool):Yo fu (x,y)=Ac (x&& !y):=(by grind[Yo])
theorem Sx(h:Ih k m s)(v:k<=12)(C:m<=100000)(g:1000000000000<fu):uf fu s=Ac s:=by
 obtain⟨a,b,c,d,L⟩:=s;have z:nE fu Fu=Ac Fu:=(LP (k:=0) (m:=0)).MO (by omega) (by omega) g;have i:=h.nu;have A:=h.n1;have B:=h.n2;have f:=h.ln;obtain⟨r,o,x,_⟩:=ot (fu:=fu) (i.sm (by omega) (by omega)) ((PH).sm (by simp) (by simp)) (by grind) (by omega);have j:d=r:=i.unique (x.congr (λn=>⟨λh=>h.resolve_right λh=>absurd h.1 Ba, .inl⟩) λn=>⟨λh=>h.resolve_right λh=>absurd h.1 Ba, .inl⟩);obtain⟨t,p,y⟩:=TV (Gu (fu:=fu) f (CB.nil (m:=0)) (by omega) g);have l:L=t:=f.unique (y.congr (funext λw=>by rw[f.gL,Ht,Alo]));rw[<-j]at o;rw[<-l]at p;have e:uh fu ((a,b,c,d,L),Fu)=Ac (a,b,c,d,L):=by refine(Ok.eq ?_);refine GB (h.MO v (by omega) g) (GB z (GB (orB fu _ _) (GB (orB fu _ _) (GB (orB fu _ _) (GB o (GB p (MA ?_)))))));simp[Fu]
 have u:ug fu ((a,b,c,d,L),Fu)=Ac (a,b,c,d,L):=by refine(Ok.eq ?_);exact GB e (MA rf)
 refine(Ok.eq ?_);exact GB u (MA rf)
theorem MV{fu k m:Nat}{s:Sc}(h:Ih k m s)(C:k<=12)(H:m<=100000000)(A:1000000000000<fu):Ok (Yu fu s) λb=>b=Bp↔s=Fu:=by
 obtain⟨a,b,c,t,L⟩:=s;have l:=h.nu;have F:=h.n1;have G:=h.n2;have q:=h.ln;dsimp only at l F G q;obtain⟨r,v,f,E,y,lf⟩:=Xp (fu:=fu) (l.sm (by omega) (by omega)) (by omega);obtain rfl:t=r:=l.unique E;have B:f= !decide (t=([],[])):=by
  cases f with
  |false=>rw[(Ago l).1 (lf.no rfl).2];rfl
  |true=>rw[decide_eq_false λe=>(Ago l).2 e v (lf.yes rfl).1];rfl
 obtain⟨⟨w,g⟩,z,x⟩:=ai (fu:=fu) (n:=max m 256) q (q.wf.sh (Aak q.len (by omega)) (by omega)) (by omega) (by omega);have key:Ok (ua fu (a,b,c,t,L)) λo=>o.2.2.2.2.2=(a||b||c||f||g):=by refine GB (h.MO C (by omega) A) (GB y (GB z ?_));dsimp only;refine PM (λd=>MA (by grind)) λd=>PM (λi=>MA (by grind)) λi=>PM (λj=>MA (by grind)) λj=>PM (λp=>MA (by rw[d,i,j,p];rfl)) λp=>PM (λu=>MA (by rw[d,i,j,p,u];rfl)) λu=>MA (by rw[d,i,j,p,u];rfl)
 grind[Yu,Fu,Ou,MA]
abbrev Bk:=Vl×Vl
end
abbrev BB:=List (Aq×Int×Bk)×List (Tb×Bk)
abbrev HM:=List Bk×List Bk
section
variable{c:BB}{fu:Nat}{v:List Int}{b d k i m:Nat}{ls:List Tb}{n:Nat}{s:List Bool}{x:Bk}{α:Type}{y:Sc}{l:List (Aq×Int×Bk)}{a:Nat}{u:List Int}{es:List Ck}{p j:Nat}{r:List Sp×List Sp}{P:Bk->Prop}
structure BX(c:BB)(v:List Int):Prop where
 len:v.length=c.2.length+c.1.length
 cl:∀i (h:i<c.2.length), -1<=v.getD i 0/\v.getD i 0<(c.2[i]).1.length
 fd:∀j (h:j<c.1.length), -1<=v.getD (c.2.length+j) 0/\v.getD (c.2.length+j) 0<=(c.1[j]).1.length
structure c8(c:BB):Prop where
 nf:c.1.length<=4
 nc:c.2.length<=4
 lb:∀f∈c.1,f.1.length<=60
 st:∀k∈c.2,k.1.length<=20000
 bt:∀k∈c.2,NU k.1
 ed:∀k∈c.2,∀s∈k.1,s.2.length<=256
theorem AO{α:Type}{l:List α}{i:Nat}{d:α}(h:i<l.length):l.getD i d=l[i]:=by grind
theorem BF{l:List Int}(h:i<l.length):idx l (i:Int)=Ac (l.getD i 0):=by grind[Bj,AO]
theorem Jx{l:List Int}(h:a+b<l.length):idx l ((a:Int)+(b:Int))=Ac (l.getD (a+b) 0):=by rw[show((a:Int)+(b:Int))=((a+b:Nat):Int) by omega,BF h]
def Xr(v:List Int):List Int:=v.flatMap λn=>44::(Lib.itoa n).map λb=>((b.toNat:Nat):Int)
def Dp(v:List Int):Aq:=(Xr v).map λn=>UInt8.ofNat n.toNat
theorem Xt{n:Int}(h0: -1<=n)(h:n<10000000000):(Lib.itoa n).length<=10:=by
 rcases Aem n 0 with b|b
 ·obtain rfl:n= -1:=by omega
  have:(Lib.itoa (-1)).length=(Lib.decDigits 1).length+1:=rfl;simp_all[Lib.decDigits_length,IF]
 grind[OG]
theorem RT{v:List Int}(h:∀n∈v, -1<=n/\n<10000000000):(Xr v).length<=11*v.length:=by
 induction v with
 |nil=>trivial
 |cons n v c=>
  have d:=Xt (h n (Aat ..)).1 (h n (Aat ..)).2;have:=c λm b=>h m (Aag _ b);grind[Xr]
theorem qc{v:List Int}{fu:Nat}(h:∀n∈v, -1<=n/\n<10000000000)(i:v.length<=100)(g:1000000000000<fu):xl fu v=Ac (Dp v):=by
 refine(Ok.eq ?_);refine Sb (λk (s:List Int)=>s=Xr (v.take k)) v.length (by rfl) (by omega) (λk s nx d c e=>?_) (λs nx c=>?_)
 ·have j:=h _ (AN d);have a:=RT (v:=v.take k) λn e=>h n (Acl e);have f:F58 fu (v[k],10,s++[44])=Ac (s++[44]++(Lib.itoa v[k]).map λb=>((b.toNat:Nat):Int)):=by
   exact(d58i fu _ _).trans (Ok.eq (Pv (by grind) (Aap (MA rf))))
  refine PS (Aah d (Pv (by grind) (GB f (e _ ?_))));grind[Xr,cu]
 ·refine PT (MA ?_);rw[c,Al];rfl
theorem BX.mem(d:c8 c)(b:BX c v):∀n∈v, -1<=n/\n<20001:=λn f=>by
 obtain⟨i,e,rfl⟩:=Aas f;have g:=b.len;rcases Aam i c.2.length with h|h;· have:=b.cl i h;rw[AO e]at this;have:=d.st _ (AN h);omega
 ·obtain⟨j,rfl⟩:∃j,i=c.2.length+j:=⟨i-c.2.length,by omega⟩;have:=b.fd j (by omega);rw[AO e]at this;have:=d.lb _ (AN (by omega:j<c.1.length));omega
theorem BX.key(d:c8 c)(e:BX c v)(f:1000000000000<fu):xl fu v=Ac (Dp v)/\(Dp v).length<=100:=by
 have g:=e.mem d;have k:=e.len;have i:=d.nf;have j:=d.nc;have a:∀n∈v, -1<=n/\n<10000000000:=λn h=>by grind
 grind[Dp,qc,RT,List.length_map]
theorem Hr{l:List Int}{i j:Nat}{x:Int}(h:i<l.length):(l.set i x).getD j 0=if i=j then x else l.getD j 0:=by grind
def GQ:List Nat->Nat
 | []=>1
 |n::l=>n*GQ l
def Nw:List Nat->List (List Int)
 | []=>[[]]
 |n::l=>(av n).flatMap λ(i:Nat)=>(Nw l).map λv=>((i:Int)-1)::v
theorem LU:∀l,(Nw l).length=GQ l
 | []=>rfl
 |n::l=>by
  have:∀m,((av m).flatMap λ(i:Nat)=>(Nw l).map λv=>((i:Int)-1)::v).length=m*GQ l:=λm=>by
   induction m with
   |zero=>simp
   |succ m c=>rw[Adz,Acp,Aac,c,Ael,Aao,LU l,Aeb]
  exact this n
theorem Mv:∀ {l:List Nat} {v:List Int},v.length=l.length->(∀i (h:i<l.length), -1<=v.getD i 0/\v.getD i 0+1<l[i])->v∈Nw l
 | [],v,h,_=>by obtain rfl:v=[]:=OF.1 h;trivial
 |n::l,[],h,_=>by grind
 |n::l,x::v,h,k=>by have a:=k 0 (by simp);have a: -1<=x/\x+1<(n:Int):=a;refine Aad.2 ⟨(x+1).toNat,Abf.2 (by omega),By.2 ⟨v,Mv (by grind) (λi b=>?_),by grind⟩⟩;exact k (i+1) (by grind)
def Gz(c:BB):List Nat:=c.2.map (λk=>k.1.length+1)++c.1.map λf=>f.1.length+2
theorem BX.Nw(b:BX c v):v∈Nw (Gz c):=by
 refine Mv (by rw[b.len];simp[Gz]) λi d=>?_;have e:i<c.2.length+c.1.length:=by grind[Gz]
 rcases Aam i c.2.length with h|h;· have:=b.cl i h;grind[Gz]
 ·obtain⟨j,rfl⟩:∃j,i=c.2.length+j:=⟨i-c.2.length,by omega⟩;have:=b.fd j (by omega);grind[Gz]
theorem gx{l:List Aq}(a:l.Nodup)(h:∀x∈l,∃v,BX c v/\x=Dp v):l.length<=GQ (Gz c):=by rw[<-LU,<-Aao (f:=Dp)];refine Cf a λx d=>?_;obtain⟨v,b,rfl⟩:=h x d;exact By.2 ⟨v,b.Nw,rfl⟩
theorem qZ:1000000000000<=Ah:=by decide
structure FH(c:BB)(m:List (Aq×Bool)):Prop where
 nd:(m.map (·.1)).Nodup
 tr:∀p∈m,p.2=Bp
 ky:∀p∈m,∃v,BX c v/\p.1=Dp v
theorem FH.le{m:List (Aq×Bool)}(h:FH c m):m.length<=GQ (Gz c):=by rw[<-Aao (f:=λp:Aq×Bool=>p.1)];refine gx h.nd λx b=>?_;obtain⟨p,a,rfl⟩:=By.1 b;exact h.ky p a
theorem Ui{m:List (Aq×Bool)}{x:Aq}(h:AB m x=C5):x∉m.map (·.1):=by
 induction m with
 |nil=>simp
 |cons p m d=>
  grind[AB]
theorem OK{m:List (Aq×Bool)}{x:Aq}{b:Bool}(h:AB m x=Ac b):(x,b)∈m:=by
 induction m with
 |nil=>cases h
 |cons p m d=>
  grind[AB]
theorem FH.get{m:List (Aq×Bool)}(h:FH c m){x:Aq} :AB m x=C5\/AB m x=Ac Bp:=by
 cases a:AB m x with
 |none=>simp
 |some b=>exact .inr (congrArg Ac (h.tr _ (OK a)))
theorem FH.put{m:List (Aq×Bool)}(h:FH c m)(k:BX c v)(i:AB m (Dp v)=C5):FH c (Bv m (Dp v) Bp)/\(Bv m (Dp v) Bp).length=m.length+1:=by
 have e:Bv m (Dp v) Bp=m++[(Dp v,Bp)]:=by grind[Bv]
 rw[e];refine⟨⟨?_,λp d=>?_,λp d=>?_⟩,by simp⟩;· rw[Aan];refine Abb.2 ⟨h.nd,by simp,λa j b g=>?_⟩;simp at g;grind[Ui]
 ·rcases AS.1 d with d|d;· exact h.tr p d
  grind
 ·rcases AS.1 d with d|d;· exact h.ky p d
  grind
theorem m_:4294967296<=4294967296:=by decide
theorem aY(h:n<4294967296):zU fu n=Ac []:=by refine(Ok.eq ?_);rw[zU];have a:=m_;refine PT (Aap (Aap (N1 (λc=>Pv (by omega) ?_) (λ_=>MA rfl))));obtain⟨k,b⟩:∃k,ZV ((n:Int)-((0:Int)-(0:Int)))=k+1:=⟨n-1,by omega⟩;rw[b];simp only[pD];exact Abt (Pv ⟨by omega,by omega⟩ (MA rfl))
theorem Uq{fu:Nat}{L:List (List Bk)}(h:L.flatten.length<1000000000)(g:L.length<fu):xh fu L=Ac L.flatten:=by
 refine(Ok.eq ?_);rw[xh];have j:=m_;have i (k:Nat) (b:k<L.length):(L.take (k+1)).flatten=(L.take k).flatten++L[k]:=by rw[IN b,Ahk];simp
 have le (k:Nat):(L.take k).flatten.length<=L.flatten.length:=by have:=congrArg Fw (congrArg List.flatten (Acf k L));rw[Ahk,Aac]at this;omega
 refine Sb (λk (s:Int)=>s=((L.take k).flatten.length:Nat)) L.length (by simp) g ?_ ?_;· intro k s nx b e c;have t:=i k b;have l:=le (k+1);rw[t,Aac]at l;refine Tz (by show(k:Int)<L.length;omega) (Aah b ?_);dsimp only;refine Aap (PT (c _ ?_));rw[t,Aac,e];omega
 ·intro s nx e;refine P3 (by show¬(L.length:Int)<L.length;omega) ?_;rw[Aau]at e;dsimp only;rw[e];refine GB (aY (by omega)) ?_;refine Sb (λk out=>out=(L.take k).flatten) L.length (by simp) g ?_ ?_
  ·intro k out nx b d c;have t:=i k b;have l:=le (k+1);rw[t,Aac]at l;have m:out.length+L[k].length<=4294967296:=by rw[d];omega
   refine Tz (by show(k:Int)<L.length;omega) (Aah b (Pv m (c _ ?_)));rw[t,d]
  ·intro out nx d;refine P3 (by show¬(L.length:Int)<L.length;omega) (MA ?_);rw[d,Aau]
def Bq(c:BB):List Bk:=c.1.map (·.2.2)++c.2.map (·.2)
def AY(c:HM):List Bk:=c.1++c.2
def kids(v:Vl):List Bk:=v.lists.flatMap AY++v.structs.flatMap Bq
structure NM(c:BB):Prop where
 nf:c.1.length<=4
 nc:c.2.length<=4
 lb:∀f∈c.1,f.1.length<=60
 st:GQ (c.2.map λk=>k.1.length+3)<=14641
 bt:∀k∈c.2,NU k.1
 ed:∀k∈c.2,∀s∈k.1,s.2.length<=256
theorem Vm{l:List Nat}(h:∀n∈l,0<n):0<GQ l:=by
 induction l with
 |nil=>exact Nat.one_pos
 |cons n l b=>exact Nat.mul_pos (h n (Aat ..)) (b λm a=>h m (Aag _ a))
theorem Vn{l:List Nat}(h:∀n∈l,0<n)(a:n∈l):n<=GQ l:=by
 induction l with
 |nil=>cases a
 |cons m l e=>
  have d:=Vm λk b=>h k (Aag _ b);have c:=h m (Aat ..);rcases Aav.1 a with rfl|a;· exact Aez _ d
  ·exact Aak (e (λk b=>h k (Aag _ b)) a) (Nat.le_mul_of_pos_left _ c)
theorem Vo(a b:List Nat):GQ (a++b)=GQ a*GQ b:=by
 induction a with
 |nil=>simp[GQ]
 |cons n a c=>rw[Aer,GQ,GQ,c,Aeo]
theorem TT{l:List α}{f g:α->Nat}(h:∀x∈l,f x<=g x):GQ (l.map f)<=GQ (l.map g):=by
 induction l with
 |nil=>exact Aae _
 |cons x l b=>exact Abw (h x (Aat ..)) (b λy a=>h y (Aag _ a))
theorem Oa(n:Nat)(l:List α):GQ (l.map λ_=>n)=n^l.length:=by
 induction l with
 |nil=>rfl
 |cons x l a=>rw[Aar,GQ,a,Abn,Nat.pow_succ,Ada]
theorem NM.each(h:NM c):∀k∈c.2,k.1.length<=14641:=λk b=>by have:=Vn (l:=c.2.map λk=>k.1.length+3) (λn d=>by obtain⟨q,_,rfl⟩:=By.1 d;omega) (By.2 ⟨k,b,rfl⟩);have:=h.st;omega
theorem NM.lim(h:NM c):c8 c:=⟨h.nf,h.nc,h.lb,λk a=>by have:=h.each k a;omega,h.bt,h.ed⟩
theorem NM.Gz(h:NM c):GQ (Gz c)<=400000000000:=by
 unfold Go.GL.Gz;rw[Vo];have b:GQ (c.2.map λk=>k.1.length+1)<=14641:=Aak (TT λk _=>by omega) h.st;have d:GQ (c.1.map λf=>f.1.length+2)<=62^c.1.length:=by rw[<-Oa 62 c.1];exact TT λf g=>by have:=h.lb f g;omega
 have e:62^c.1.length<=62^4:=Aha (by decide) h.nf;exact Aak (Abw b (Aak d e)) (by decide)
def Bd:Nat->Vl->Prop
 |0,_=>False
 |d+1,v=>c9 5 12 v.sc/\(v.lists.length<=3/\∀c∈v.lists,c.1.length<=3/\c.2.length<=2)/\(v.structs.length<=3/\∀c∈v.structs,NM c)/\∀x∈kids v,Bd d x.1/\Bd d x.2
def eo(l:List (Aq×Int×Bk)):Prop:= ∀i (h:i+1<l.length),fL l[i].1 l[i+1].1=Bp
def Snd:Nat->Vl->Prop
 |0,_=>False
 |d+1,v=>Ih 5 12 v.sc/\(∀c∈v.lists,c.2.length<=1)/\(∀c∈v.structs,eo c.1/\∀k∈c.2,Be k.1/\BW k.1=k.1)/\∀x∈kids v,Snd d x.1/\Snd d x.2
theorem Dq{α β:Type}{f:α->List β}{n:Nat} :∀ {l:List α},(∀x∈l,(f x).length<=n)->(l.flatMap f).length<=l.length*n
 | [],_=>by simp
 |x::l,h=>by have:=Dq (f:=f) (n:=n) (l:=l) λy b=>h y (Aag _ b);have:=h x (Aat ..);rw[Agb,Aac,Abn,Aeb];omega
theorem Bd.kids{v:Vl}(h:Bd (d+1) v):(kids v).length<=39:=by
 obtain⟨_,⟨j,i⟩,⟨k,g⟩,_⟩:=h;have a:=Dq (f:=AY) (n:=5) (l:=v.lists) λc hc=>by have:=i c hc;unfold AY;rw[Aac];omega
 have b:=Dq (f:=Bq) (n:=8) (l:=v.structs) λc hc=>by have:=(g c hc).nf;have:=(g c hc).nc;unfold Bq;rw[Aac,Aao,Aao];omega
 unfold Go.GL.kids;rw[Aac];omega
theorem Vu{s:Sc}(h1:s.2.2.2.1.1.length<=12)(h2:s.2.2.2.1.2.length<=12)(h3:s.2.2.2.2.length<=1000000):Ok (xq fu s) λr=>r=Bp↔s=Fu:=by
 rw[xq];obtain⟨a,b,c,⟨e,f⟩,l⟩:=s;dsimp only at h1 h2 h3;have no:∀ {P:Prop},¬P->Ok (Ac Aj) λr=>r=Bp↔P:=λh=>MA ⟨λk=>(by cases k),λk=>absurd k h⟩;cases a with
 |true=>exact no λh=>by cases h
 |false=>cases b with
  |true=>exact no λh=>by cases h
  |false=>cases c with
   |true=>exact no λh=>by cases h
   |false=>
    refine VF rfl (VF rfl (VF rfl (Aap (Aap (MA ?_)))));rw[decide_eq_true_iff];constructor;· intro h;have h:((e.length:Int)+f.length+l.length)=0:=h;obtain rfl:e=[]:=OF.1 (by omega);obtain rfl:f=[]:=OF.1 (by omega);obtain rfl:l=[]:=OF.1 (by omega);rfl
    ·intro h;unfold Fu at h;simp only[Aet]at h;obtain⟨_,_,_,⟨rfl,rfl⟩,rfl⟩:=h;rfl
theorem Hh{c:HM}(h:c.1.length<=1000/\c.2.length<=1000)(b:1000000000000<fu):eH fu c=Ac (AY c):=by
 refine(Ok.eq ?_);have e:xh fu [c.1,c.2]=Ac (AY c):=by grind[AY,Uq]
 exact GB e (MA rf)
theorem YY(h:c.1.length<=1000/\c.2.length<=1000)(j:1000000000000<fu):zT fu c=Ac (Bq c):=by
 refine(Ok.eq ?_);refine Sb (λk (s:List Bk)=>s=(c.1.take k).map (·.2.2)) c.1.length rf (by omega) (λk s nx e d g=>?_) (λs nx d=>?_);· refine PS (Aah e (Pv (by grind) (g _ ?_)));rw[d,IN e,Aan];rfl
 rw[Al]at d;refine P3 (by omega) ?_;refine Sb (λk (s:List Bk)=>s=c.1.map (·.2.2)++(c.2.take k).map (·.2)) c.2.length (by grind) (by omega) (λk s nx e b g=>?_) (λs nx b=>?_);· refine PS (Aah e (Pv (by grind) (g _ ?_)));rw[b,IN e,Aan,<-Aaj];rfl
 ·refine PT (MA ?_);rw[b,Al];rfl
theorem VJ{v:Vl}(h:Bd (d+1) v)(u:1000000000000<fu):zS fu v=Ac (kids v):=by
 obtain⟨_,⟨B,w⟩,⟨E,t⟩,_⟩:=h;have x:∀k,((v.lists.take k).flatMap AY).length<=15:=λk=>by
  have:=Dq (f:=AY) (n:=5) (l:=v.lists.take k) λc hc=>by grind[AY]
  grind
 have lb:∀k,((v.structs.take k).flatMap Bq).length<=24:=λk=>by
  have:=Dq (f:=Bq) (n:=8) (l:=v.structs.take k) λc hc=>by have:=(t c (Acl hc)).nf;have:=(t c (Acl hc)).nc;grind[Bq]
  grind
 refine(Ok.eq ?_);refine Sb (λk (s:List Bk)=>s=(v.lists.take k).flatMap AY) v.lists.length rf (by omega) (λk s nx m o r=>?_) (λs nx o=>?_)
 ·have hc:=w _ (AN m);have e:(v.lists.take (k+1)).flatMap AY=s++AY v.lists[k]:=by rw[o,IN m,Acp,Ael]
  have:=x (k+1);rw[e,Aac]at this;have p:eH fu v.lists[k]=Ac (AY v.lists[k]):=Hh (by omega) u;refine PS (Aah m (GB p (Abt (r _ e.symm))))
 rw[Al]at o;refine P3 (by omega) ?_;refine Sb (λk (s:List Bk)=>s=v.lists.flatMap AY++(v.structs.take k).flatMap Bq) v.structs.length (by simp[o]) (by omega) (λk s nx m j r=>?_) (λs nx j=>?_)
 ·have hc:=t _ (AN m);have z:=hc.nf;have A:=hc.nc;have e:v.lists.flatMap AY++(v.structs.take (k+1)).flatMap Bq=s++Bq v.structs[k]:=by rw[j,IN m,Acp,Ael,Aaj]
  have a:=x v.lists.length;rw[Al]at a;have b:=lb (k+1);have:=congrArg Fw e;rw[Aac,Aac]at this;have q:zT fu v.structs[k]=Ac (Bq v.structs[k]):=YY (by omega) u;refine PS (Aah m (GB q (Abt (r _ e.symm))))
 ·refine PT (MA ?_);rw[j,Al];rfl
def FB:Nat->Nat
 |0=>0
 |d+1=>1+78*FB d
def He(es:List Ck)(q:Int)(b:Int):Int:=es.foldl (λq e=>if e.1<=b/\b<=e.2.1 then e.2.2 else q) q
theorem Ru{b:Int} :∀ {es:List Ck} {q:Int},(∀e∈es,¬(e.1<=b/\b<=e.2.1))->He es q b=q
 | [],q,_=>rfl
 |e::es,q,h=>by unfold He;rw[Afq,if_neg (h e (Aat ..))];exact Ru (es:=es) λf a=>h f (Aag _ a)
theorem ZE(m:es.Pairwise λa b=>a.2.1<b.1) :He es (-1) b=AQ es b:=by
 induction es with
 |nil=>rfl
 |cons e es n=>
  obtain⟨i,j⟩:=Abj.1 m;by_cases h:e.1<=(b:Int)/\(b:Int)<=e.2.1
  ·have c:AQ (e::es) b=e.2.2:=by
    grind[AQ,BN]
   have d:He (e::es) (-1) b=He es e.2.2 b:=by simp_all[He]
   grind[Ru]
  grind[AQ,BN,He]
def YC(s:Aq)(n:Int)(b:Nat):Int:=if 0<=n/\n<s.length/\(s.getD n.toNat 0).toNat=b then n+1 else-1
def zE:Vl:= .mk Aj (Aj,Aj,Aj,([],[]),[]) [] []
def dK:Tb×Bk:=([],zE,zE)
def dF:Aq×Int×Bk:=([],0,zE,zE)
def Xg(c:BB)(v:List Int)(b:Nat)(i:Nat):Int:=Bl (c.2.getD i dK).1 (v.getD i 0) b
def T0(c:BB)(v:List Int)(b:Nat)(j:Nat):Int:=YC (c.1.getD j dF).1 (v.getD (c.2.length+j) 0) b
structure eF(c:BB)(v u:List Int)(b:Nat):Prop where
 len:u.length=c.2.length+c.1.length
 cl:∀i,i<c.2.length->u.getD i 0=Xg c v b i
 fd:∀j,j<c.1.length->u.getD (c.2.length+j) 0=T0 c v b j
theorem MT(c:u.length=v.length)(h:∀i,i<u.length->u.getD i 0=v.getD i 0):u=v:=by grind[List.ext_getElem,AO]
theorem eF.uniq{d:List Int}(h:eF c v u b)(k:eF c v d b):u=d:=by
 refine MT (by rw[h.len,k.len]) λi e=>?_;have:=h.len;rcases Aam i c.2.length with hc|hc;· rw[h.cl i hc,k.cl i hc]
 ·obtain⟨j,rfl⟩:∃j,i=c.2.length+j:=⟨i-c.2.length,by omega⟩;rw[h.fd j (by omega),k.fd j (by omega)]
theorem cX(H:c8 c)(hw:∀k∈c.2,Be k.1)(S:BX c v)(hF:1000000000000<fu):Ok (F62 fu (c,v,(b:Int))) λu=>eF c v u b:=by
 have h1:=H.nf;have h2:=H.nc;have Z:=S.len;refine Pv (by grind) ?_;refine Sb (λk (s:List Int)=>s.length=v.length/\∀i,i<k->s.getD i 0= -1) v.length ⟨by simp,λi h=>by omega⟩ (by omega) (λk s nx l g E=>?_) (λs nx g=>?_)
 ·refine Tz (by grind) (GB (BF (by grind)) (E _ ⟨by grind,λi f=>?_⟩));grind[Hr]
 refine P3 (by simp) ?_;obtain⟨Q,R⟩:=g;refine Sb (λk (s:List Int)=>s.length=v.length/\(∀i,i<k->s.getD i 0=Xg c v b i)/\∀i,k<=i->i<v.length->s.getD i 0= -1) c.2.length ⟨Q,λi f=>by omega,λi _ f=>R i f⟩ (by omega) (λk s nx l g E=>?_) (λs nx g=>?_)
 ·have hc:=S.cl k l;have C:=AN l;obtain⟨w,F,x⟩:=g;have M:=H.ed _ C;have z:c.2.getD k dK=c.2[k]:=AO l;have step:∀t:List Int,t.length=v.length->t.getD k 0=Xg c v b k->(∀i,i≠k->t.getD i 0=s.getD i 0)->Ok (nx (t,k+1)) λu=>eF c v u b:=λt I p y=>E _ ⟨I,λi f=>by
   rcases Aam i k with h|h;· rw[y i (by omega)];exact F i h
   ·obtain rfl:i=k:=by omega
    exact p,λi f N=>by rw[y i (by omega)];exact x i (by omega) N⟩;refine PS (Aah l (GB (BF (by omega)) (N1 (λh=>step _ w (by
   rw[x k (Aae _) (by omega)];unfold Xg;rw[I9 b h]) λ_ _=>rfl) λh=>(by
   have h:¬v.getD k 0<0:=h;refine GB (BF (by omega)) (Adu (Agt.1 h) hc.2 ?_);have D:(c.2[k]).1[(v.getD k 0).toNat]'(by omega)∈(c.2[k]).1:=AN _;have W:=(hw _ C) _ D;have K:=M _ D;have V:Xg c v b k=AQ ((c.2[k]).1[(v.getD k 0).toNat]'(by omega)).2 b:=by unfold Xg Bl Bc;rw[z,if_neg h,AO (by omega)]
   dsimp only;generalize(c.2[k]).1[(v.getD k 0).toNat]'(by omega)=st at W K V;refine Sb (λm (t:List Int)=>t.length=v.length/\t.getD k 0=He (st.2.take m) (-1) b/\∀i,i≠k->t.getD i 0=s.getD i 0) st.2.length ⟨w,x k (Aae _) (by omega),λ_ _=>rfl⟩ (by omega) (λm t T C L r=>?_) (λt T L=>?_)
   ·obtain⟨G,t2,t3⟩:=L;have J:∀q,He (st.2.take (m+1)) q b=if(st.2[m]).1<=(b:Int)/\(b:Int)<=(st.2[m]).2.1 then(st.2[m]).2.2 else He (st.2.take m) q b:=λq=>by
     unfold He;rw[IN C,Adc];rfl
    refine PS (Aah C (N1 (λa=>N1 (λp=>GB (BF (by dsimp only;omega)) (r _ ⟨by rw[Abq];exact G,?_,λi f=>?_⟩)) λp=>r _ ⟨G,?_,t3⟩) λa=>r _ ⟨G,?_,t3⟩));· rw[J,if_pos ⟨a,p⟩];dsimp only;rw[Hr (by omega),if_pos rf]
    ·dsimp only;rw[Hr (by omega),if_neg (Ne.symm f)];exact t3 i f
    ·rw[J,if_neg λh=>p h.2];exact t2
    ·rw[J,if_neg λh=>a h.1];exact t2
   ·obtain⟨G,t2,t3⟩:=L;rw[Aau]at t2;exact PT (step _ G (by rw[V,t2];exact ZE W.so) t3)))))
 obtain⟨i1,i2,i3⟩:=g;refine P3 (by dsimp only;omega) ?_;refine Sb (λk (s:List Int)=>s.length=v.length/\(∀i,i<c.2.length->s.getD i 0=Xg c v b i)/\(∀j,j<k->s.getD (c.2.length+j) 0=T0 c v b j)/\∀j,k<=j->j<c.1.length->s.getD (c.2.length+j) 0= -1) c.1.length ⟨i1,i2,λj O=>by omega,λj _ O=>i3 _ (by omega) (by omega)⟩ (by omega) (λk s nx l g E=>?_) (λs nx g=>?_)
 ·have hc:=S.fd k l;obtain⟨w,F,x,Y⟩:=g;have z:c.1.getD k dF=c.1[k]:=AO l;have step:∀t:List Int,t.length=v.length->t.getD (c.2.length+k) 0=T0 c v b k->(∀i,i≠c.2.length+k->t.getD i 0=s.getD i 0)->Ok (nx (t,k+1)) λu=>eF c v u b:=λt I p y=>E _ ⟨I,λi f=>by rw[y i (by omega)];exact F i f,λj O=>by
   rcases Aam j k with h|h;· rw[y _ (by omega)];exact x j h
   ·obtain rfl:j=k:=by omega
    exact p,λj O P=>by rw[y _ (by omega)];exact Y j (by omega) P⟩;have no:T0 c v b k= -1->Ok (nx (s,k+1)) λu=>eF c v u b:=λh=>step _ w (by rw[Y k (Aae _) l,h]) λ_ _=>rfl;refine PS (Aah l (Aap (GB (Jx (by omega)) (N1 (λA=>N1 (λB=>?_) λB=>no ?_) λA=>no ?_))))
  ·have B:v.getD (c.2.length+k) 0<(c.1[k]).1.length:=B;have A:0<=v.getD (c.2.length+k) 0:=A;have f:Eu (c.1[k]).1 (v.getD (c.2.length+k) 0)=Ac (((c.1[k]).1[(v.getD (c.2.length+k) 0).toNat]'(by omega)).toNat:Int):=by
    obtain⟨q,hq⟩:∃q:Nat,v.getD (c.2.length+k) 0=q:=⟨(v.getD (c.2.length+k) 0).toNat,by omega⟩;simp only[hq];rw[MI (by omega)];rfl
   have hlb:=H.lb _ (AN l);have U:((c.1[k]).1.getD (v.getD (c.2.length+k) 0).toNat 0)=(c.1[k]).1[(v.getD (c.2.length+k) 0).toNat]'(by omega):=AO (by omega);refine GB f (N1 (λX=>Aap (GB (Jx (by dsimp only;omega)) (step _ (by dsimp only;rw[Abq];exact w) ?_ λi f=>?_))) λX=>no ?_);· dsimp only;rw[show((c.2.length:Int)+(k:Int)).toNat=c.2.length+k by omega,Hr (by omega),if_pos rfl];unfold T0 YC;rw[z,if_pos ⟨A,B,by rw[U];omega⟩]
   ·dsimp only;rw[show((c.2.length:Int)+(k:Int)).toNat=c.2.length+k by omega,Hr (by omega),if_neg (Ne.symm f)]
   ·unfold T0 YC;rw[z,if_neg];rintro⟨_,_,e⟩;rw[U]at e;exact X (by omega)
  ·unfold T0 YC;rw[z,if_neg];rintro⟨_,e,_⟩;exact B e
  ·unfold T0 YC;rw[if_neg];rintro⟨e,_⟩;exact A e
 ·obtain⟨w,F,x,_⟩:=g;exact PT (MA ⟨by rw[w,Z],F,x⟩)
def Lf(c:BB)(v:List Int)(k:Nat):Nat:=((av k).filter λi=>fin (c.2.getD i dK).1 (v.getD i 0)).length
def P2(c:BB)(v:List Int)(k:Nat):Nat:=((av k).filter λj=>Di (v.getD (c.2.length+j) 0=((c.1.getD j dF).1.length:Int))).length
def MJ(c:BB)(v:List Int):Nat:=Lf c v c.2.length+P2 c v c.1.length
theorem Hw{p:Nat->Bool}{k:Nat} :((av (k+1)).filter p).length=((av k).filter p).length+(if p k=Bp then 1 else 0):=by rw[Adz,Aey,Aac];grind
theorem filter_le{p:Nat->Bool} :((av k).filter p).length<=k:=by grind
theorem gS(n:c8 c)(o:BX c v)(t:1000000000000<fu):F60 fu (c,v)=Ac (MJ c v:Int):=by
 have q:=n.nf;have r:=n.nc;have w:=o.len;refine(Ok.eq ?_);refine Sb (λk (s:Int)=>s=(Lf c v k:Int)) c.2.length rfl (by omega) (λk s nx f d g=>?_) (λs nx d=>?_)
 ·have hc:=o.cl k f;have l:Lf c v k<=k:=filter_le;have e:(Lf c v (k+1):Int)=(Lf c v k:Int)+(if fin (c.2.getD k dK).1 (v.getD k 0)=Bp then 1 else 0:Nat):=by
   grind[Lf,Hw]
  have m:∀h:0<=v.getD k 0,fin (c.2.getD k dK).1 (v.getD k 0)=((c.2[k]).1[(v.getD k 0).toNat]'(by omega)).1:=λh=>by grind[fin,Bc]
  subst d;refine PS (Aah f (GB (BF (by omega)) (N1 (λh=>GB (BF (by omega)) (Adu h hc.2 (PM (λj=>Aap (g _ ?_)) λj=>g _ ?_))) λh=>g _ ?_)))
  all_goals grind[fin]
 ·refine P3 (by omega) ?_;have u:Lf c v c.2.length<=c.2.length:=filter_le;refine Sb (λk (s:Int)=>s=(Lf c v c.2.length:Int)+(P2 c v k:Int)) c.1.length (by rw[d];show _=_+((0:Nat):Int);simp) (by omega) (λk s nx f d g=>?_) (λs nx d=>?_)
  ·have i:c.1.getD k dF=c.1[k]:=AO f;have l:P2 c v k<=k:=filter_le;have e:(P2 c v (k+1):Int)=(P2 c v k:Int)+(if Di (v.getD (c.2.length+k) 0=((c.1.getD k dF).1.length:Int))=Bp then 1 else 0:Nat):=by
    unfold P2;rw[Hw];omega
   subst d;refine PS (Aah f (Aap (GB (Jx (by omega)) (N1 (λh=>Aap (g _ ?_)) λh=>g _ ?_))));· rw[e,if_pos (decide_eq_true (by rw[i];exact h))];omega
   ·rw[e,if_neg (by rw[decide_eq_true_eq,i];exact h)];simp
  ·refine PT (MA ?_);unfold MJ;omega
theorem FP{x:Nat}(h:s.getD x Aj=Bp):(s.set i Bp).getD x Aj=Bp:=by grind
theorem I'(h:i<s.length):(s.set i Bp).getD i Aj=Bp:=by grind
def ic(c:BB)(v:List Int)(i:Nat):List Ck:=if v.getD i 0<0 then []else(Bc (c.2.getD i dK).1 (v.getD i 0)).2
def mY(c:BB)(v:List Int)(j:Nat):Option Nat:=if 0<=v.getD (c.2.length+j) 0/\v.getD (c.2.length+j) 0<(c.1.getD j dF).1.length then Ac ((c.1.getD j dF).1.getD (v.getD (c.2.length+j) 0).toNat 0).toNat else C5
structure UI(c:BB)(v:List Int)(s:List Bool)(k m:Nat):Prop where
 len:s.length=257
 z:s.getD 0 Aj=Bp
 ed:∀i,i<k->∀e∈ic c v i,s.getD e.1.toNat Aj=Bp/\s.getD (e.2.1+1).toNat Aj=Bp
 ch:∀j,j<m->∀x,mY c v j=Ac x->s.getD x Aj=Bp/\s.getD (x+1) Aj=Bp
theorem UI.up{t:List Bool}(h:UI c v s k m)(l:t.length=257)(a:∀x,s.getD x Aj=Bp->t.getD x Aj=Bp):UI c v t k m:=
 ⟨l,a _ h.z,λi d e b=>⟨a _ (h.ed i d e b).1,a _ (h.ed i d e b).2⟩,λj f x g=>⟨a _ (h.ch j f x g).1,a _ (h.ch j f x g).2⟩⟩
def Zm(c:BB)(v:List Int)(a b:Nat):Prop:=(∀i,i<c.2.length->Xg c v a i=Xg c v b i)/\∀j,j<c.1.length->T0 c v a j=T0 c v b j
def StV(c:BB)(v:List Int)(l:List Int):Prop:=(∀s∈l,∃a:Nat,s=a/\a<256)/\∀b,b<256->∃a:Nat,(a:Int)∈l/\Zm c v a b
theorem Q8(h:∀e∈es,BN a e=BN b e):AQ es a=AQ es b:=by
 unfold AQ;rw[show es.find? (BN a)=es.find? (BN b) by
  induction es with
  |nil=>rfl
  |cons e es d=>
   grind]
theorem Ow{s:List Bool}(h0:s.getD 0 Aj=Bp):∀b:Nat,∃a,a<=b/\s.getD a Aj=Bp/\∀x,a<x->x<=b->s.getD x Aj=Aj
 |0=>⟨0,Aae _,h0,λx d c=>by omega⟩
 |b+1=>by
  cases h:s.getD (b+1) Aj with
  |true=>grind
  |false=>
   obtain⟨a,d,c,f⟩:=Ow h0 b;grind
theorem UI.st(q:UI c v s c.2.length c.1.length)(A:∀i,i<c.2.length->∀e∈ic c v i,0<=e.1/\0<=e.2.1):StV c v (((av 256).filter λx=>s.getD x Aj).map λ(x:Nat)=>(x:Int)):=by
 refine⟨λx B=>?_,λb F=>?_⟩;· grind
 obtain⟨a,E,t,p⟩:=Ow q.z b;refine⟨a,By.2 ⟨a,Aba.2 ⟨Abf.2 (by omega),t⟩,rfl⟩,λi r=>?_,λj z=>?_⟩
 ·unfold Xg Bl;by_cases f:v.getD i 0<0;· omega
  ·rw[if_neg f,if_neg f];refine Q8 λe w=>?_;have o:e∈ic c v i:=by grind[ic]
   obtain⟨m,n⟩:=q.ed i r e o;have C:¬(a<e.1.toNat/\e.1.toNat<=b):=λ⟨k,l⟩=>by rw[p _ k l]at m;cases m
   have D:¬(a<(e.2.1+1).toNat/\(e.2.1+1).toNat<=b):=λ⟨k,l⟩=>by rw[p _ k l]at n;cases n
   unfold BN;rw[show Di (e.1<=(a:Int))=Di (e.1<=(b:Int)) by rw[decide_eq_decide];omega,show Di ((a:Int)<=e.2.1)=Di ((b:Int)<=e.2.1) by rw[decide_eq_decide];omega]
 ·unfold T0 YC;by_cases f:0<=v.getD (c.2.length+j) 0/\v.getD (c.2.length+j) 0<(c.1.getD j dF).1.length
  ·obtain⟨m,n⟩:=q.ch j z _ (by unfold mY;rw[if_pos f]);generalize((c.1.getD j dF).1.getD (v.getD (c.2.length+j) 0).toNat 0).toNat=y at m n;have C:¬(a<y/\y<=b):=λ⟨k,l⟩=>by rw[p _ k l]at m;cases m
   have D:¬(a<y+1/\y+1<=b):=λ⟨k,l⟩=>by rw[p _ k l]at n;cases n
   have:(y=a)↔(y=b):=by omega
   simp only[this]
  ·rw[if_neg λh=>f ⟨h.1,h.2.1⟩,if_neg λh=>f ⟨h.1,h.2.1⟩]
theorem UI.ck(h:UI c v s k m)(b:∀e∈ic c v k,s.getD e.1.toNat Aj=Bp/\s.getD (e.2.1+1).toNat Aj=Bp):UI c v s (k+1) m:=
 ⟨h.len,h.z,λi d=>by
  rcases Aam i k with a|a;· exact h.ed i a
  grind,h.ch⟩
theorem UI.cj(h:UI c v s k m)(b:∀x,mY c v m=Ac x->s.getD x Aj=Bp/\s.getD (x+1) Aj=Bp):UI c v s k (m+1):=
 ⟨h.len,h.z,h.ed,λi d=>by
  rcases Aam i m with a|a;· exact h.ch i a
  grind⟩
theorem WW(H:c8 c)(hw:∀k∈c.2,Be k.1)(K:BX c v)(hF:1000000000000<fu):Ok (F61 fu (c,v)) λl=>l.length<=256/\StV c v l:=by
 have h1:=H.nf;have h2:=H.nc;have hl:=K.len;have m0:UI c v (kN (TO 257 Aj) 0 Bp) 0 0:=⟨by grind,I' (by grind),λi u=>by omega,λj hj=>by omega⟩;refine Sb (λk (s:List Bool)=>UI c v s k 0) c.2.length m0 (by omega) (λk s nx w d n=>?_) (λs nx d=>?_);· have hc:=K.cl k w;have A:=AN w;have O:=H.ed _ A;refine PS (Aah w (GB (BF (by omega)) (N1 (λh=>n _ (d.ck λe f=>by
   grind[ic])) λh=>(by
   have h:¬v.getD k 0<0:=h;refine GB (BF (by omega)) (Adu (Agt.1 h) hc.2 ?_);have I:(c.2[k]).1[(v.getD k 0).toNat]'(by omega)∈(c.2[k]).1:=AN _;have V:=H.bt _ A _ I;have M:=O _ I;have ev:ic c v k=((c.2[k]).1[(v.getD k 0).toNat]'(by omega)).2:=by unfold ic Bc;grind
   dsimp only;generalize(c.2[k]).1[(v.getD k 0).toNat]'(by omega)=st at V M ev;refine Sb (λm (t:List Bool)=>UI c v t k 0/\∀e∈st.2.take m,t.getD e.1.toNat Aj=Bp/\t.getD (e.2.1+1).toNat Aj=Bp) st.2.length ⟨d,by simp⟩ (by omega) (λm t T A N P=>?_) (λt T N=>?_)
   ·have f:=V _ (AN A);obtain⟨L,t2⟩:=N;have tl:=L.len;have mono:∀x,t.getD x Aj=Bp->((t.set (0+ZV (st.2[m]).1*1) Bp).set (0+ZV ((st.2[m]).2.1+1)*1) Bp).getD x Aj=Bp:=λx g=>FP (FP g);refine PS (Aah A (Aap (Pv ⟨by grind,by grind⟩ (Abt (Pv ⟨by dsimp only;omega,by dsimp only;omega⟩ (Abt (P _ ⟨L.up (by rw[Abq,Abq];exact tl) mono,λe r=>?_⟩)))))));rcases(Ag A).1 r with r|rfl;· exact⟨mono _ (t2 e r).1,mono _ (t2 e r).2⟩
    ·refine⟨FP ?_,?_⟩;· have:=I' (s:=t) (i:=0+ZV (st.2[m]).1*1) (by omega);rwa [show 0+ZV (st.2[m]).1*1=(st.2[m]).1.toNat by omega]at this⊢
     ·have:=I' (s:=t.set (0+ZV (st.2[m]).1*1) Bp) (i:=0+ZV ((st.2[m]).2.1+1)*1) (by rw[Abq];omega);rwa [show 0+ZV ((st.2[m]).2.1+1)*1=((st.2[m]).2.1+1).toNat by omega]at this⊢
   ·obtain⟨L,t2⟩:=N;rw[Aau,<-ev]at t2;exact PT (n _ (L.ck t2))))))
 refine P3 (by omega) ?_;refine Sb (λk (s:List Bool)=>UI c v s c.2.length k) c.1.length d (by omega) (λk s nx w d n=>?_) (λs nx d=>?_)
 ·have hc:=K.fd k w;have C:c.1.getD k dF=c.1[k]:=AO w;have no:mY c v k=C5->Ok (nx (s,k+1)) λl=>l.length<=256/\StV c v l:=λh=>n _ (d.cj λx g=>by rw[h]at g;cases g);refine PS (Aah w (Aap (GB (Jx (by omega)) (N1 (λF=>N1 (λG=>?_) λG=>no ?_) λF=>no ?_))))
  ·have G:v.getD (c.2.length+k) 0<(c.1[k]).1.length:=G;have F:0<=v.getD (c.2.length+k) 0:=F;have u:Eu (c.1[k]).1 (v.getD (c.2.length+k) 0)=Ac (((c.1[k]).1[(v.getD (c.2.length+k) 0).toNat]'(by omega)).toNat:Int):=by
    obtain⟨q,R⟩:∃q:Nat,v.getD (c.2.length+k) 0=q:=⟨(v.getD (c.2.length+k) 0).toNat,by omega⟩;simp only[R];rw[MI (by omega)];rfl
   have Z:((c.1[k]).1.getD (v.getD (c.2.length+k) 0).toNat 0)=(c.1[k]).1[(v.getD (c.2.length+k) 0).toNat]'(by omega):=AO (by omega);have B:mY c v k=Ac ((c.1[k]).1[(v.getD (c.2.length+k) 0).toNat]'(by omega)).toNat:=by unfold mY;rw[C,if_pos ⟨F,G⟩,Z]
   have D:=((c.1[k]).1[(v.getD (c.2.length+k) 0).toNat]'(by omega)).toNat_lt;dsimp only at u B D⊢;generalize((c.1[k]).1[(v.getD (c.2.length+k) 0).toNat]'(by omega)).toNat=y at u B D;have sl:=d.len;refine GB u (GB u (Aap (Pv ⟨by omega,by omega⟩ (Abt (Pv ⟨by omega,by omega⟩ (Abt (n _ ((d.up (by rw[Abq,Abq];exact sl) λx g=>FP (FP g)).cj λx g=>?_))))))));rw[B]at g;cases g;refine⟨FP ?_,?_⟩;· have:=I' (s:=s) (i:=0+ZV (y:Int)*1) (by omega);rwa [show 0+ZV (y:Int)*1=y by omega]at this⊢
   ·have:=I' (s:=s.set (0+ZV (y:Int)*1) Bp) (i:=0+ZV ((y:Int)+1)*1) (by rw[Abq];omega);rwa [show 0+ZV ((y:Int)+1)*1=y+1 by omega]at this⊢
  ·unfold mY;rw[C,if_neg];rintro⟨_,e⟩;exact G e
  ·unfold mY;rw[if_neg];rintro⟨e,_⟩;exact F e
 refine P3 (by dsimp only;omega) ?_;have sl:=d.len;have S:=d.st λi u e f=>by
  unfold ic at f;split at f;· cases f
  ·rename_i n;have hc:=K.cl i u;have A:=AN u;have C:c.2.getD i dK=c.2[i]:=AO u;unfold Bc at f;rw[C,show(c.2[i]).1.getD (v.getD i 0).toNat (Aj,[])=(c.2[i]).1[(v.getD i 0).toNat]'(by omega)from AO _]at f;have:=H.bt _ A _ (AN (by omega:(v.getD i 0).toNat<(c.2[i]).1.length)) e f;exact⟨this.1.1,by omega⟩
 refine W5 (X:=List Int×Int) (λx=>(0<=x.2/\x.2<=256)/\x.1=((av x.2.toNat).filter λx=>s.getD x Aj).map λ(x:Nat)=>(x:Int)) (λx=>256-x.2.toNat) ⟨by decide,rfl⟩ (by dsimp only;omega) λx nx g _ n=>?_;obtain⟨o,z⟩:=x;obtain⟨W,J⟩:=g;dsimp only at W J n;have Q:o.length<=z.toNat:=by rw[J,Aao];exact filter_le
 refine N1 (λh=>?_) λh=>MA ⟨by dsimp only;omega,?_⟩
 ·have h:z<256:=h;obtain⟨q,rfl⟩:∃q:Nat,z=q:=⟨z.toNat,by omega⟩;rw[Ace]at J Q;refine Pv ⟨W.1,by dsimp only;omega⟩ ?_;rw[show((0+ZV (q:Int)*1:Nat):Int)=((q:Nat):Int) by omega];have eq:s.getD q Aj=s[q]'(by omega):=AO (by omega);have U:((av (q+1)).filter λx=>s.getD x Aj).map (λ(x:Nat)=>(x:Int))=o++(if s.getD q Aj=Bp then [(q:Int)]else []):=by
   rw[J,Adz,Aey,Aan];congr 1;cases R:s.getD q Aj<;>simp only[Afm,R,List.filter_nil,if_true,Aar,Aej]<;>rfl
  refine Aah (by dsimp only;omega) (PM (λD=>Pv (p:=GK.F8 q) (by unfold GK.F8;omega) (Pv (by unfold Ah;dsimp only;omega) (Aap (n _ ⟨by dsimp only;omega,?_⟩ (by dsimp only;omega))))) λD=>Aap (n _ ⟨by dsimp only;omega,?_⟩ (by dsimp only;omega)));· dsimp only;rw[show((q:Int)+1).toNat=q+1 by omega,U,if_pos (by rw[eq];exact D)]
  ·dsimp only;rw[show((q:Int)+1).toNat=q+1 by omega,U,if_neg (by rw[eq,D];decide),Adi]
 grind
theorem VM:Lib.itoa (-1)=[45,49]:=by decide+kernel
theorem RZ{n:Int}(h: -1<=n):(44:UInt8)∉Lib.itoa n:=by
 rcases Aem n 0 with a|a
 ·grind[VM]
 grind[Jv]
theorem VN{m:Int}(h:0<=m):Lib.itoa (-1)≠Lib.itoa m:=λe=>by obtain⟨u,rfl⟩:∃u:Nat,m=u:=⟨m.toNat,by omega⟩;rw[VM,Jw]at e;have:=It u 45 (by grind);grind
theorem Xu{n m:Int}(h: -1<=n)(k: -1<=m)(e:Lib.itoa n=Lib.itoa m):n=m:=by
 rcases Aem n 0 with b|b
 ·grind[absurd,Int.lt_or_le,VN]
 ·rcases Aem m 0 with a|a
  ·grind[absurd,VN]
  grind[MG]
def RW(v:List Int):Aq:=v.flatMap λn=>44::Lib.itoa n
theorem aH(v:List Int):Dp v=RW v:=by unfold Dp Xr RW;rw[List.map_flatMap];simp_all[Lib.itoa,Aar,Aal,Afn,Abs]
theorem OB(v:List Int):RW v=[]\/(RW v).head?=Ac 44:=by
 cases v with
 |nil=>trivial
 |cons n v=>exact .inr rfl
theorem RV:∀ {u v:List Int},(∀n∈u, -1<=n)->(∀n∈v, -1<=n)->RW u=RW v->u=v
 | [],[],_,_,_=>rfl
 | [],n::v,_,_,e=>by cases e
 |n::u,[],_,_,e=>by cases e
 |n::u,m::v,h,k,e=>by have d:(44:UInt8)::(Lib.itoa n++RW u)=44::(Lib.itoa m++RW v):=e;obtain⟨a,b⟩:=Fl (RZ (h n (Aat ..))) (RZ (k m (Aat ..))) (OB u) (OB v) (List.cons.inj d).2;rw[Xu (h n (Aat ..)) (k m (Aat ..)) a,RV (λx c=>h x (Aag _ c)) (λx c=>k x (Aag _ c)) b]
theorem RU{c:BB}{u v:List Int}(b:c8 c)(d:BX c u)(f:BX c v)(e:Dp u=Dp v):u=v:=by rw[aH,aH]at e;exact RV (λn a=>(d.mem b n a).1) (λn a=>(f.mem b n a).1) e
def Ei(c:BB)(v:List Int)(b:Nat):List Int:=(av c.2.length).map (Xg c v b)++(av c.1.length).map (T0 c v b)
theorem Hg(c:BB)(v:List Int)(b:Nat):eF c v (Ei c v b) b:=by
 refine⟨by simp[Ei],λi a=>?_,λj d=>?_⟩;· grind[Ei]
 simp_all[Ei]
theorem eF.eq(h:eF c v u b):u=Ei c v b:=h.uniq (Hg c v b)
theorem Zm.eq(h:Zm c v a b):Ei c v a=Ei c v b:=by
 unfold Ei;congr 1;· exact Abs λi d=>h.1 i (Abf.1 d)
 ·exact Abs λj e=>h.2 j (Abf.1 e)
def CH(c:BB):List Int:=TO (c.2.length+c.1.length) 0
def Gr(c:BB)(w:Aq):List Int:=w.foldl (λv x=>Ei c v x.toNat) (CH c)
theorem FT(c:BB)(w:Aq)(x:UInt8):Gr c (w++[x])=Ei c (Gr c w) x.toNat:=by simp[Gr]
def Lb(c:BB):Prop:= ∀w:Aq,MJ c (Gr c w)=1
theorem ax{s:Aq}{n:Int}(h:n<=s.length): -1<=YC s n b/\YC s n b<=s.length:=by grind[YC]
theorem BX.nx(n:∀k∈c.2,Be k.1)(l:BX c v)(b:Nat):BX c (Ei c v b):=by
 have h:=Hg c v b;refine⟨h.len,λi d=>?_,λj g=>?_⟩
 ·rw[h.cl i d];have hc:=l.cl i d;have f:c.2.getD i dK=c.2[i]:=AO d;have m:=AN d;unfold Xg Bl;rw[f];split;· omega
  ·unfold Bc;rw[show(c.2[i]).1.getD (v.getD i 0).toNat (Aj,[])=(c.2[i]).1[(v.getD i 0).toNat]'(by omega)from AO _];have:=((n _ m) _ (AN (by omega:(v.getD i 0).toNat<(c.2[i]).1.length))).step b;omega
 ·rw[h.fd j g];have hc:=l.fd j g;have f:c.1.getD j dF=c.1[j]:=AO g;unfold T0;rw[f];exact ax hc.2
theorem Q9(h:∀k∈c.2,k.1≠ []):BX c (CH c):=by
 have b:∀i,(CH c).getD i 0=0:=λi=>by grind[CH]
 refine⟨by simp[CH],λi d=>?_,λj e=>?_⟩;all_goals grind[List.length_pos_iff,Alv]
theorem Mc{c:BB}(h:∀k∈c.2,k.1≠ [])(a:∀k∈c.2,Be k.1)(w:Aq):BX c (Gr c w):=by
 have:∀(w:Aq) {v:List Int},BX c v->BX c (w.foldl (λv x=>Ei c v x.toNat) v):=λw=>by
  induction w with
  |nil=>simp
  |cons x w b=>exact λh=>b (h.nx a _)
 exact this w (Q9 h)
structure um(c:BB)(m:List (Aq×Bool))(todo:List (List Int)):Prop where
 z:Dp (CH c)∈m.map (·.1)
 rc:∀v∈todo,∃w,v=Gr c w
 dn:∀x∈m.map (·.1),∃v,BX c v/\x=Dp v/\(v∈todo\/MJ c v=1/\∀b,b<256->Dp (Ei c v b)∈m.map (·.1))
theorem um.once{m:List (Aq×Bool)}(d:c8 c)(h:∀k∈c.2,k.1≠ [])(e:∀k∈c.2,Be k.1)(hc:um c m []):Lb c:=by
 have all:∀w:Aq,Dp (Gr c w)∈m.map (·.1):=λw=>by
  have:∀(l:Aq),Dp (Gr c l.reverse)∈m.map (·.1):=λl=>by
   induction l with
   |nil=>exact hc.z
   |cons x l f=>
    rw[Afc,FT];obtain⟨v,v1,b,a⟩:=hc.dn _ f;rw[RU d (Mc h e _) v1 b];rcases a with a|a;· grind
    ·exact a.2 _ x.toNat_lt
  have:=this w.reverse;grind
 intro w;obtain⟨v,v1,b,a⟩:=hc.dn _ (all w);grind[RU,Mc]
def Du(c:BB):Prop:=(∀k∈c.2,k.1≠ []/\Be k.1/\BW k.1=k.1)/\Lb c
structure CloI(c:BB)(v:List Int)(bs:List Int)(m:List (Aq×Bool))(todo:List (List Int))(k:Nat):Prop where
 z:Dp (CH c)∈m.map (·.1)
 rc:∀v∈todo,∃w,v=Gr c w
 dn:∀x∈m.map (·.1),∃u,BX c u/\x=Dp u/\(u∈todo\/u=v\/MJ c u=1/\∀b,b<256->Dp (Ei c u b)∈m.map (·.1))
 pg:∀i,i<k->∀a:Nat,bs[i]?=Ac (a:Int)->Dp (Ei c v a)∈m.map (·.1)
theorem OJ{m:List (Aq×Bool)}{x:Aq}(h:AB m x=C5):(Bv m x Bp).map (·.1)=m.map (·.1)++[x]:=by grind[Bv]
theorem Ur(B:c8 c)(hN:GQ (Gz c)<=400000000000)(R:1000000000000<fu):Ok (F63 fu c) λr=>r=Bp↔Du c:=by
 have c308:=qZ;have h1:=B.nf;have h2:=B.nc;have K:¬Du c->Ok (Ac Aj) λr=>r=Bp↔Du c:=λh=>MA ⟨λe=>(by grind),λe=>absurd e h⟩;refine Vi (λn=> ∀k∈c.2.take n,k.1≠ []/\Be k.1/\BW k.1=k.1) c.2.length (by simp) (by omega) (λn nx hn P F=>?_) (λnx P=>?_)
 ·have M:=AN hn;have hst:=B.st _ M;refine PS (Aah hn (N1 (λe=>K λA=>(A.1 _ M).1 (OF.1 (by omega))) λh0=>Ou (LV (n:=20000) (B.bt _ M) ⟨hst,λs W=>by have:=B.ed _ M s W;omega⟩ (by omega) (by omega) (by omega)) λb Q=>PM (λD=>K λA=>?_) λD=>F λk E=>?_));· have:=Q.2 (A.1 _ M).2;grind
  ·rcases(Ag hn).1 E with h|rfl;all_goals grind
 rw[Al]at P;have V:∀k∈c.2,k.1≠ []:=λk E=>(P k E).1;have p:∀k∈c.2,Be k.1:=λk E=>(P k E).2.1;have G:BX c (CH c):=Q9 V;refine PT (Aap (Abt (Pv (by omega) ?_)));obtain⟨hk0,hkl⟩:=G.key B R;refine GB (a:=CH c) rfl (GB hk0 (Pv ⟨by omega,by omega⟩ ?_));have hs0:FH c []:=⟨by simp,by simp,by simp⟩;obtain⟨hs1,hl1⟩:=hs0.put G rfl;have T:(Bv ([]:List (Aq×Bool)) (Dp (CH c)) Bp).map (·.1)=[Dp (CH c)]:=OJ rfl;refine W5 (X:=List (Aq×Bool)×List (List Int)) (λx=>FH c x.1/\(∀v∈x.2,BX c v)/\x.2.length<=x.1.length/\um c x.1 x.2) (λx=>2*(GQ (Gz c)-x.1.length)+x.2.length)
  ⟨hs1,λv hv=>by rw[Aaf.1 hv];exact G,by rw[hl1];simp,⟨by exact Aaf.2 rfl,λv hv=>⟨[],Aaf.1 hv⟩,λx o=>⟨CH c,G,by exact Aaf.1 o, .inl (Aaf.2 rfl)⟩⟩⟩ (by rw[Acn];omega) λx nx o _ F=>?_;obtain⟨seen,d⟩:=x;obtain⟨W,ht,hle,hc⟩:=o;dsimp only at W ht hle F hc;have hsl:=W.le;refine N1 (λh=>?_) λh=>MA ⟨λ_=>⟨P,?_⟩,λ_=>rfl⟩;rotate_left;· have h:¬0<(d.length:Int):=h;have:d=[]:=OF.1 (by omega);rw[this]at hc;exact hc.once B V p
 have h:0<(d.length:Int):=h
 have H:=AN (by omega:d.length-1<d.length);have g:=ht _ H;have hix:idx d ((d.length:Int)-1)=Ac (d[d.length-1]'(by omega)):=by rw[show((d.length:Int)-1)=((d.length-1:Nat):Int) by omega,Bj (by omega)]
 have q:∀u∈d,u∈d.take (d.length-1)\/u=d[d.length-1]'(by omega):=λu C=>by
  have:=(Ag (l:=d) (k:=d.length-1) (by omega)).1 (by rw[show d.length-1+1=d.length by omega,Aau];exact C);rcases this with h|h;· exact .inl h
  ·exact .inr h
 obtain⟨w0,N⟩:=hc.rc _ H;refine Aap (GB hix (Aap (Pv ⟨by omega,by omega⟩ (GB (gS B g R) (N1 (λhh=>K λA=>hh (by rw[N,A.2 w0];rfl)) λhh=>Ou (WW B p g R) λbs S=>?_)))));rw[show ZV ((d.length:Int)-1)=d.length-1 by omega];obtain⟨S,I,J⟩:=S;dsimp only;generalize d[d.length-1]'(by omega)=v at g q N hh I J;have hh1:MJ c v=1:=by omega
 refine Xs (λk (s:List (Aq×Bool)) (t:List (List Int))=>(FH c s/\(∀v∈t,BX c v)/\t.length<=s.length/\2*(GQ (Gz c)-s.length)+t.length<2*(GQ (Gz c)-seen.length)+d.length)/\CloI c v bs s t k) bs.length
  ⟨⟨W,λu C=>ht u (Acl C),by rw[Abg];omega,by rw[Abg];omega⟩,⟨hc.z,λu C=>hc.rc u (Acl C),λx o=>?_,λi hi=>by omega⟩⟩ (by omega) (λk s t nx2 E L U=>?_) (λs t nx2 L=>?_)
 ·obtain⟨u,Y,Z,j⟩:=hc.dn x o;refine⟨u,Y,Z,?_⟩;rcases j with j|j
  ·rcases q u j with u4|u4;· exact .inl u4
   ·exact .inr (.inl u4)
  ·exact .inr (.inr j)
 ·obtain⟨⟨O,a2,a3,a4⟩,z⟩:=L;obtain⟨a,ea,ha⟩:=I _ (AN E);refine PS (Aah E ?_);dsimp only;rw[ea];refine Ou (cX (b:=a) B p g R) λu hu'=>?_;have eu:=hu'.eq;have C:BX c u:=by rw[eu];exact g.nx p a
  obtain⟨e,el⟩:=C.key B R;have hsl2:=O.le;refine GB e (Pv (by omega) ?_);have pg:∀(m:List Aq),(∀x∈s.map (·.1),x∈m)->Dp u∈m->∀i,i<k+1->∀y:Nat,bs[i]?=Ac (y:Int)->Dp (Ei c v y)∈m:=λm M hu2 i hi y hy=>by
   rcases Aam i k with h|h;· exact M _ (z.pg i h y hy)
   ·obtain rfl:i=k:=by omega
    rw[BY E,ea]at hy;have:a=y:=by have:=Abp hy;omega
    rw[<-this,<-eu];exact hu2
  rcases O.get (x:=Dp u)with A|A
  ·rw[A];obtain⟨b1,b2⟩:=O.put C A;have b3:=b1.le;have ek:=OJ A;have up:∀x∈s.map (·.1),x∈(Bv s (Dp u) Bp).map (·.1):=λx o=>by rw[ek];exact AS.2 (.inl o)
   refine VF rf (Pv ⟨by omega,by omega⟩ (Abt (U _ _ ⟨⟨b1,λw p=>?_,by rw[b2,Aac,Acn];omega,by rw[b2,Aac,Acn];omega⟩,⟨up _ z.z,λw p=>?_,λx o=>?_,pg _ up (by rw[ek];exact AS.2 (.inr (Aaf.2 rf)))⟩⟩)))
   ·rcases AS.1 p with p|p;· exact a2 w p
    ·rw[Aaf.1 p];exact C
   ·rcases AS.1 p with p|p;· exact z.rc w p
    ·refine⟨w0++[UInt8.ofNat a],?_⟩;rw[Aaf.1 p,eu,FT,<-N,show(UInt8.ofNat a).toNat=a by rw[Aft];exact Agh ha]
   ·rw[ek]at o;rcases AS.1 o with o|o
    ·obtain⟨u',Y,Z,j⟩:=z.dn x o;refine⟨u',Y,Z,?_⟩;rcases j with j|j|j;· exact .inl (AS.2 (.inl j))
     ·exact .inr (.inl j)
     ·exact .inr (.inr ⟨j.1,λb Q=>up _ (j.2 b Q)⟩)
    ·exact⟨u,C,Aaf.1 o, .inl (AS.2 (.inr (Aaf.2 rf)))⟩
  ·rw[A];exact PW rfl (U _ _ ⟨⟨O,a2,a3,a4⟩,⟨z.z,z.rc,z.dn,pg _ (λx o=>o) (By.2 ⟨_,OK A,rfl⟩)⟩⟩)
 ·obtain⟨⟨O,a2,a3,a4⟩,z⟩:=L;refine PT (F _ ⟨O,a2,a3,⟨z.z,z.rc,λx o=>?_⟩⟩ a4);obtain⟨u,Y,Z,j⟩:=z.dn x o;refine⟨u,Y,Z,?_⟩;rcases j with j|j|j;· exact .inl j
  ·subst j;refine .inr ⟨hh1,λb Q=>?_⟩;obtain⟨a,ha,hab⟩:=J b Q;obtain⟨i,hi,ei⟩:=Aas ha;rw[<-hab.eq];exact z.pg i hi a (by rw[BY hi,ei])
  ·exact .inr j
def CK(ls:List Tb)(v:List Int)(b:Nat):List Int:=(av ls.length).map λi=>Bl (ls.getD i []) (v.getD i 0) b
def MK(ls:List Tb)(v:List Int)(k:Nat):Nat:=((av k).filter λi=>fin (ls.getD i []) (v.getD i 0)).length
def Gp(ls:List Tb):List Int:=TO ls.length 0
def Rg(ls:List Tb)(w:Aq):List Int:=w.foldl (λv x=>CK ls v x.toNat) (Gp ls)
def WA(ls:List Tb):Prop:= ∀w:Aq,MK ls (Rg ls w) ls.length=1
theorem J'(ls:List Tb)(w:Aq)(x:UInt8):Rg ls (w++[x])=CK ls (Rg ls w) x.toNat:=by simp[Rg]
structure QE(ls:List Tb)(v:List Int):Prop where
 len:v.length=ls.length
 rg:∀i (h:i<ls.length), -1<=v.getD i 0/\v.getD i 0<(ls[i]).length
structure uN(ls:List Tb)(n:Nat):Prop where
 ln:ls.length<=100
 ne:∀l∈ls,l≠ []
 wf:∀l∈ls,Be l
 sh:∀l∈ls,DP l n
def Qh(ls:List Tb):List Nat:=ls.map λl=>l.length+1
theorem QE.Nw(c:QE ls v):v∈Nw (Qh ls):=by
 refine Mv (by rw[c.len];simp[Qh]) λi b=>?_;have a:i<ls.length:=by grind[Qh]
 have:=c.rg i a;grind[Qh]
theorem Zh{l:List (List Int)}(a:l.Nodup)(h:∀v∈l,QE ls v):l.length<=GQ (Qh ls):=by rw[<-LU];exact Cf a λx b=>(h x b).Nw
theorem Kf(h:i<ls.length):(CK ls v b).getD i 0=Bl (ls.getD i []) (v.getD i 0) b:=by grind[CK]
theorem QE.nx(e:uN ls n)(g:QE ls v)(b:Nat):QE ls (CK ls v b):=by
 refine⟨by simp[CK],λi a=>?_⟩;have hc:=g.rg i a;have f:=AN a;rw[Kf a,show ls.getD i []=ls[i]from AO a];unfold Bl;split;· omega
 ·unfold Bc;rw[show(ls[i]).getD (v.getD i 0).toNat (Aj,[])=(ls[i])[(v.getD i 0).toNat]'(by omega)from AO _];have:=((e.wf _ f) _ (AN (by omega:(v.getD i 0).toNat<(ls[i]).length))).step b;omega
theorem WX(b:uN ls n):QE ls (Gp ls):=by
 have d:∀i,(Gp ls).getD i 0=0:=λi=>by grind[Gp]
 refine⟨by simp[Gp],λi c=>?_⟩;have:=Aee.2 (b.ne _ (AN c));grind
theorem ij{c:Nat}(j:uN ls n)(B:n<fu)(w:100<fu)(hc:c<256)(q:QE ls v):
  Ok (nG fu (ls,v,(c:Int))) λe=>((c:Int)<e/\e<=256)/\∀i,i<ls.length->E_ (CS (ls.getD i []) (v.getD i 0)) c e:=by
 have D:=j.ln;have C:=q.len;refine Sb (λk (y:Int)=>((c:Int)<y/\y<=256)/\∀i,i<k->E_ (CS (ls.getD i []) (v.getD i 0)) c y) ls.length ⟨⟨by omega,by simp⟩,λi x=>by omega⟩ (by omega) (λk y nx d g l=>?_) (λy nx g=>?_)
 ·obtain⟨m,A⟩:=g;have p:=AN d;have r:ls.getD k []=ls[k]:=AO d;have t:=q.rg k d;have step:∀z,((c:Int)<z/\z<=y)->E_ (CS (ls.getD k []) (v.getD k 0)) c z->Ok (nx (z,k+1)) λe=>((c:Int)<e/\e<=256)/\∀i,i<ls.length->E_ (CS (ls.getD i []) (v.getD i 0)) c e:=λz b f=>l _ ⟨⟨b.1,by omega⟩,λi x=>by
   rcases Aam i k with h|h;· exact(A i h).mono b.2
   grind⟩;refine PS (GB (BF (by omega)) (N1 (λh=>step _ ⟨m.1,Abo _⟩ (by unfold CS;rw[if_pos h];intro e u;cases u)) λh=>(by
   have h:¬v.getD k 0<0:=h;have s:CS (ls.getD k []) (v.getD k 0)=((ls[k])[(v.getD k 0).toNat]'(by omega)).2:=by unfold CS Bc;rw[if_neg h,r,show(ls[k]).getD (v.getD k 0).toNat (Aj,[])=(ls[k])[(v.getD k 0).toNat]'(by omega)from AO _]
   have a:(ls[k])[(v.getD k 0).toNat]'(by omega)∈ls[k]:=AN _;refine Aah d (GB (BF (by omega)) (Adu (by omega) (by dsimp only;omega) ?_));exact Ku hc ⟨m.1,m.2⟩ ⟨_,(j.wf _ p) _ a⟩ (by have:=(j.sh _ p).2 _ a;omega) λz b f=>step z b (by rw[s];exact f))))
 ·exact PT (MA g)
theorem E_.Bl{l:Tb}{i:Int}{c:Nat}{e:Int}(h:E_ (CS l i) c e)(h1:c<=b)(h2:(b:Int)<e):GL.Bl l i c=GL.Bl l i b:=by
 unfold GL.Bl;unfold CS at h;split;· rfl
 ·rename_i a;rw[if_neg a]at h;refine Q8 λx d=>?_;obtain⟨f,g⟩:=h x d;grind[BN,decide]
theorem gh{l:List (List Int)}{x:List Int}(h:∀y∈l,y.length=x.length)(s:l.length<fu)(o:x.length<fu):su fu (l,x)=Ac (Di (x∈l)):=by
 refine(Ok.eq ?_);refine Vi (λk=>x∉l.take k) l.length (by simp) s (λk nx d c t=>?_) (λnx c=>?_)
 ·have n:=AN d;have p:=h _ n;have e:sw fu (l[k],x)=Ac (Di (l[k]=x)):=by
   refine(Ok.eq ?_);generalize l[k]=y at p;refine Vi (λj=> ∀i,i<j->y.getD i 0=x.getD i 0) y.length (λi q=>by omega) (by omega) (λj m r a f=>?_) (λm a=>?_)
   ·refine PS (GB (BF r) (GB (BF (by omega)) (N1 (λg=>MA (decide_eq_false λe=>g (by rw[e])).symm) λheq=>f λi q=>?_)));grind
   ·exact PT (MA (decide_eq_true (MT p a)).symm)
  refine PS (Aah d (GB e (N1 (λh=>MA (decide_eq_true (h▸n)).symm) λh=>t λo=>?_)));grind[Ag]
 simp_all[Al,PT,MA,decide_eq_false]
structure Nk(ls:List Tb)(s:List (List Int))(k:Nat):Prop where
 nd:s.Nodup
 vl:∀v∈s,QE ls v
 z:Gp ls∈s
 rc:∀v∈s,∃w,v=Rg ls w
 dn:∀j v,j<k->s[j]?=Ac v->MK ls v ls.length=1/\∀b,b<256->CK ls v b∈s
theorem Nk.once{s:List (List Int)}(h:Nk ls s s.length):WA ls:=by
 have at_:∀v∈s,MK ls v ls.length=1/\∀b,b<256->CK ls v b∈s:=λv c=>by obtain⟨j,a,rfl⟩:=Aas c;exact h.dn j _ a (BY a)
 have all:∀l:Aq,Rg ls l.reverse∈s:=λl=>by
  induction l with
  |nil=>exact h.z
  |cons x l d=>rw[Afc,J'];exact(at_ _ d).2 _ x.toNat_lt
 intro w;have:=all w.reverse;grind
theorem Nk.more{s:List (List Int)}(g:uN ls n)(h:Nk ls s k)(r:k<=s.length)(e:v∈s)(l:b<256)(o:CK ls v b∉s):Nk ls (s++[CK ls v b]) k:=by
 refine⟨?_,λu d=>?_,AS.2 (.inl h.z),λu d=>?_,λj u m d=>?_⟩;· refine Acv.2 ⟨h.nd,by simp,λa i c hc=>?_⟩;grind
 ·rcases AS.1 d with d|d;· exact h.vl u d
  ·rw[Aaf.1 d];exact(h.vl v e).nx g b
 ·rcases AS.1 d with d|d;· exact h.rc u d
  ·obtain⟨w,p⟩:=h.rc v e;refine⟨w++[UInt8.ofNat b],?_⟩;grind[UInt8.ofNat,List.mem_singleton,J',UInt8.toNat_ofNat',Nat.mod_eq_of_lt]
 ·have f:j<s.length:=by omega
  rw[Aaa f]at d;obtain⟨a,b⟩:=h.dn j u m d;simp_all
theorem fO(L:uN ls n)(hf:n<fu)(hN:GQ (Qh ls)<=400000000000)(hF:1000000000000<fu):Ok (sn fu ls) λr=>r=Bp↔WA ls:=by
 have hln:=L.ln;refine Sb (λk (z:List Int)=>z=TO k 0) ls.length rfl (by omega) (λk z nx C B P=>?_) (λz nx B=>?_);· have hp:=Aee.2 (L.ne _ (AN C));refine PS (Aah C (PT (Pv (by grind) (P _ ?_))));grind[List.replicate_succ']
 subst B;have hs0:=WX L;refine P3 (by omega) ?_;show Ok (Ad fu _ ([Gp ls],0)) _;refine W5 (X:=List (List Int)×Nat) (λx=>Nk ls x.1 x.2/\x.2<=x.1.length) (λx=>GQ (Qh ls)-x.2) ⟨⟨by simp,λv hv=>by simp_all,Aaf.2 rfl,λv hv=>⟨[],Aaf.1 hv⟩,λj v W=>by omega⟩,Abh _⟩ (by omega) λx nx K _ Q=>?_;obtain⟨s,k⟩:=x;obtain⟨I,C⟩:=K;dsimp only at I C Q;refine N1 (λh=>?_) λh=>MA ⟨λ_=>?_,λ_=>rfl⟩;rotate_left
 ·have h:¬(k:Int)<(s.length:Int):=h;have:k=s.length:=by omega
  subst this;exact I.once
 have h:(k:Int)<(s.length:Int):=h;have C:k<s.length:=by omega
 have J:=AN C;have m:=I.vl _ J;obtain⟨w0,R⟩:=I.rc _ J;have O:s[k]?=Ac s[k]:=BY C;have l:idx s (k:Int)=Ac s[k]:=Bj C;generalize s[k]=v at J m R O l;have hl:=m.len;refine Sb (λi (c:Int)=>c=(MK ls v i:Int)) ls.length rfl (by omega) (λi c nx2 g B P=>?_) (λc nx2 B=>?_)
 ·have ei:ls.getD i []=ls[i]:=AO g;have hc:=m.rg i g;have hle:MK ls v i<=i:=filter_le;have U:(MK ls v (i+1):Int)=(MK ls v i:Int)+(if fin (ls.getD i []) (v.getD i 0)=Bp then 1 else 0:Nat):=by
   unfold MK;rw[Hw];omega
  have ef:∀h:0<=v.getD i 0,fin (ls.getD i []) (v.getD i 0)=((ls[i])[(v.getD i 0).toNat]'(by omega)).1:=λh=>by rw[ei];exact Ea h (by omega)
  subst B;refine PS (GB l (GB (BF (by omega)) (N1 (λh=>Aah g (GB l (GB (BF (by omega)) (Adu h hc.2 (PM (λd=>Aap (P _ ?_)) λd=>P _ ?_))))) λh=>P _ ?_)))
  ·rw[U,if_pos]; · rfl
   rw[ef h];exact d
  ·rw[U,if_neg]; · simp
   rw[ef h];intro K;rw[K]at d;cases d
  ·rw[U,if_neg]; · simp
   have h:¬0<=v.getD i 0:=h;unfold fin;rw[decide_eq_false h];simp
 refine PT (N1 (λZ=>MA ⟨λe=>(by cases e),λho=>absurd (by rw[B,R,ho w0];rfl) Z⟩) λheq=>?_);have h1:MK ls v ls.length=1:=by omega
 refine W5 (X:=List (List Int)×Int) (λy=>(Nk ls y.1 k/\s.length<=y.1.length/\y.1[k]?=Ac v)/\(0<=y.2/\y.2<=256)/\∀b:Nat,(b:Int)<y.2->CK ls v b∈y.1) (λy=>256-y.2.toNat) ⟨⟨I,Aae _,O⟩,⟨by omega,by omega⟩,λb d=>by omega⟩ (by omega) λy nx3 hy _ G=>?_;obtain⟨t,z⟩:=y;obtain⟨⟨o,t2,t3⟩,hz,d⟩:=hy;dsimp only at o t2 t3 hz d G;have htl:=Zh o.nd o.vl;have hvt:v∈t:=Aai t3;have F:k<t.length:=by omega
 have M:idx t (k:Int)=Ac v:=by rw[Bj F,<-BY F,t3]
 refine N1 (λh=>?_) λh=>?_
 ·obtain⟨b,rfl⟩:∃b:Nat,z=b:=⟨z.toNat,by omega⟩;have f:b<256:=by omega
  have H:(CK ls v b).length=ls.length:=by unfold CK;simp
  refine Sb (λi (u:List Int)=>u=(CK ls v b).take i) ls.length (by simp) (by omega) (λi u nx4 g q Y=>?_) (λu nx4 q=>?_);· have hm:=AN g;have hc:=m.rg i g;refine PS (Aah g (GB M (GB (BF (by omega)) (Pv (p:=GK.F8 b) (by unfold GK.F8;omega) (Ou (Ls (L.sh _ hm) hf hc.2) λr hr=>Pv (by unfold Ah;dsimp only;rw[q,Abg];omega) (Y _ ?_))))));dsimp only;rw[q,hr,IN (by omega)];congr 2;have:=Kf (ls:=ls) (v:=v) (b:=b) g;rw[AO (by omega)]at this;rw[this,show ls.getD i []=ls[i]from AO g]
  ·have V:u=CK ls v b:=by rw[q,<-H,Aau]
   refine PT (GB (gh (λy hy=>by rw[(o.vl y hy).len];dsimp only;rw[V,H]) (by dsimp only;omega) (by dsimp only;rw[V,H];omega)) ?_);dsimp only;rw[V];have cut:=ij (c:=b) L hf (by omega) f m;have D:∀e:Int,(∀i,i<ls.length->E_ (CS (ls.getD i []) (v.getD i 0)) b e)->∀x:Nat,b<=x->(x:Int)<e->CK ls v x=CK ls v b:=λe E x hx1 hx2=>by unfold CK;exact Abs λi g=>((E i (Abf.1 g)).Bl hx1 hx2).symm
   by_cases w:CK ls v b∈t
   ·rw[decide_eq_true w];refine PW rfl (GB M (Ou cut λe E=>G _ ⟨⟨o,t2,t3⟩,⟨by dsimp only;omega,E.1.2⟩,λx K=>?_⟩ (by dsimp only;omega)));rcases Aam x b with A|A;· exact d x (by omega)
    ·rw[D e E.2 x A K];exact w
   ·rw[decide_eq_false w];have t1':=o.more L (by omega) hvt f w;have S:(t++[CK ls v b])[k]?=Ac v:=by rw[Aaa F,t3]
    have N:idx (t++[CK ls v b]) (k:Int)=Ac v:=by rw[Bj (by simp;omega),<-BY (by simp;omega),S]
    refine VF rfl (Pv (by unfold Ah;omega) (GB N (Ou cut λe E=>G _ ⟨⟨t1',by dsimp only;rw[Aac];omega,S⟩,⟨by dsimp only;omega,E.1.2⟩,λx K=>?_⟩ (by dsimp only;omega))));rcases Aam x b with A|A;· exact AS.2 (.inl (d x (by omega)))
    ·rw[D e E.2 x A K];exact AS.2 (.inr (Aaf.2 rfl))
 ·have h:¬z<256:=h;refine Q _ ⟨⟨o.nd,o.vl,o.z,o.rc,λj u W T=>?_⟩,by dsimp only;omega⟩ (by dsimp only;omega);rcases Aam j k with A|A;· exact o.dn j u A T
  ·obtain rfl:j=k:=by dsimp only at W;omega
   dsimp only at T;rw[t3]at T;cases T;exact⟨h1,λb hb2=>d b (by omega)⟩
theorem DU(s:Aq):(Bu s).length=s.length+1:=by simp[Bu]
theorem WM{s:Aq}(h:i<s.length):(Bu s)[i]'(by grind[DU])=KL i s[i]:=by grind[Bu]
theorem NY(s:Aq):(Bu s)[s.length]'(by grind[DU])=(Bp,[]):=by simp[Bu]
theorem QP{s:Aq}{n:Int}(h: -1<=n/\n<=s.length):Bl (Bu s) n b=YC s n b:=by
 unfold Bl YC;by_cases e:n<0;· omega
 rw[if_neg e,Bs (by omega) (by grind[DU])];obtain⟨k,rfl⟩:∃k:Nat,n=k:=⟨n.toNat,by omega⟩;rcases Aam k s.length with d|d
 ·grind[Bu,KL,AQ,BN,decide]
 ·obtain rfl:k=s.length:=by omega
  have c:(Bu s)[((s.length:Int)).toNat]'(by grind[DU])=(Bp,[]):=by grind[NY]
  rw[c,if_neg (by omega)];rfl
theorem NX{s:Aq}{n:Int}(h: -1<=n/\n<=s.length):fin (Bu s) n=Di (n=(s.length:Int)):=by
 by_cases b:n<0;· grind[fin_neg,decide_eq_false]
 rw[Ea (by omega) (by grind[DU])];obtain⟨k,rfl⟩:∃k:Nat,n=k:=⟨n.toNat,by omega⟩;simp only[Ace];rcases Aam k s.length with a|a;· rw[WM a,decide_eq_false (by omega)];rfl
 ·obtain rfl:k=s.length:=by omega
  rw[NY,decide_eq_true rfl]
theorem QQ(s:Aq):DP (Bu s) (s.length+1):=by
 refine⟨by simp_all[DU,Aae],λx a=>?_⟩;rcases AS.1 a with a|a;· obtain⟨i,b,rfl⟩:=List.mem_mapIdx.1 a;simp[KL]
 grind
def PL(c:BB):List Tb:=c.2.map (·.1)++c.1.map λf=>Bu f.1
theorem HY(c:BB):(PL c).length=c.2.length+c.1.length:=by simp[PL]
theorem Z7{c:BB}{i:Nat}(h:i<c.2.length):(PL c).getD i []=(c.2.getD i dK).1:=by grind[PL]
theorem Z6(h:j<c.1.length):(PL c).getD (c.2.length+j) []=Bu (c.1.getD j dF).1:=by grind[PL]
theorem fZ{c:BB}{v:List Int}{b:Nat}(l:BX c v):CK (PL c) v b=Ei c v b:=by
 have h:=Hg c v b;refine MT (by rw[h.len];grind[CK,HY]) λi k=>?_;have g:i<c.2.length+c.1.length:=by grind[CK,HY]
 rw[Kf (by grind[HY])];rcases Aam i c.2.length with f|f;· rw[Z7 f,h.cl i f];rfl
 ·obtain⟨j,rfl⟩:∃j,i=c.2.length+j:=⟨i-c.2.length,by omega⟩;have e:j<c.1.length:=by omega
  have hc:=l.fd j e;rw[Z6 e,h.fd j e,show c.1.getD j dF=c.1[j]from AO e];unfold T0;rw[show c.1.getD j dF=c.1[j]from AO e];exact QP hc
theorem aV{c:BB}{v:List Int}(f:BX c v):MK (PL c) v (PL c).length=MJ c v:=by
 unfold MK MJ Lf P2;rw[HY,List.range_add,Aey,Aac];congr 1;· grind[List.filter_congr,Z7]
 ·rw[Alh,Aao];congr 1;refine Agc λj d=>?_;have d:=Abf.1 d;have hc:=f.fd j d;show fin ((PL c).getD (c.2.length+j) []) (v.getD (c.2.length+j) 0)=_;rw[Z6 d,show c.1.getD j dF=c.1[j]from AO d];exact NX hc
theorem Zp{c:BB}(h:∀k∈c.2,k.1≠ [])(a:∀k∈c.2,Be k.1)(w:Aq):Rg (PL c) w=Gr c w:=by
 have:∀l:Aq,Rg (PL c) l.reverse=Gr c l.reverse:=λl=>by
  induction l with
  |nil=>show Gp (PL c)=CH c;grind[Gp,CH,HY]
  |cons x l b=>grind[List.reverse_cons,J',FT,fZ,Mc]
 have:=this w.reverse;grind
theorem ov(h:∀k∈c.2,k.1≠ [])(a:∀k∈c.2,Be k.1):WA (PL c)↔Lb c:=by
 unfold WA Lb;constructor<;>intro k w;· have:=k w;grind[Zp,aV,Mc]
 grind[Zp,aV,Mc]
theorem qN(c:BB):Qh (PL c)=Gz c:=by unfold Qh PL Gz;rw[Aan,Aal,Aal];congr 1;simp[Bu]
theorem vR(b:c8 c)(h:∀k∈c.2,k.1≠ [])(g:∀k∈c.2,Be k.1):uN (PL c) 20000:=by
 have i:=b.nf;have j:=b.nc;refine⟨by grind[HY],λl a=>?_,λl a=>?_,λl a=>?_⟩<;>unfold PL at a<;>rcases AS.1 a with a|a<;>obtain⟨x,d,rfl⟩:=By.1 a;· grind
 ·grind[DU]
 ·exact g x d
 ·exact(Tt x.1).1
 ·exact⟨b.st x d,λs f=>by have:=b.ed x d s f;omega⟩
 ·have:=b.lb x d;exact⟨by have:=(QQ x.1).1;omega,λs f=>by have:=(QQ x.1).2 s f;omega⟩
theorem SJ(m:c8 c)(G:GQ (Gz c)<=400000000000)(F:1000000000000<fu):Ok (dJ fu c) λr=>r=Bp↔Du c:=by
 have K:=m.nf;have L:=m.nc;have u:¬Du c->Ok (Ac Aj) λr=>r=Bp↔Du c:=λh=>MA ⟨λe=>(by grind),λe=>absurd e h⟩;refine Sb (λn (s:List Tb)=>s=(c.2.take n).map (·.1)/\∀k∈c.2.take n,k.1≠ []/\Be k.1/\BW k.1=k.1) c.2.length ⟨rfl,by simp⟩ (by omega) (λn s nx j i p=>?_) (λs nx i=>?_)
 ·obtain⟨q,J⟩:=i;have o:=AN j;have z:=m.st _ o;refine PS (Aah j (Ou (J2 (n:=20000) (m.bt _ o) ⟨z,λs I=>by have:=m.ed _ o s I;omega⟩ (by omega) (by omega) (by omega)) λb B=>PM (λd=>u λx=>?_) λd=>N1 (λe=>u λx=>(x.1 _ o).1 (OF.1 (by grind))) λE=>Pv (by grind) (p _ ⟨?_,λk v=>?_⟩)));· have:=B.2 (x.1 _ o).2;rw[this]at d;cases d
  ·rw[q,IN j,Aan];rfl
  ·rcases(Ag j).1 v with h|rfl;· exact J k h
   ·exact⟨λe=>E (by rw[e];rfl),B.1 (by simpa using d)⟩
 obtain⟨q,i⟩:=i;rw[Al]at i q;have w:∀k∈c.2,k.1≠ []:=λk v=>(i k v).1;have C:∀k∈c.2,Be k.1:=λk v=>(i k v).2.1;refine P3 (by omega) ?_;refine Sb (λn (t:List Tb)=>t=s++(c.1.take n).map λf=>Bu f.1) c.1.length (by simp) (by omega) (λn t A j a p=>?_) (λt A a=>?_);· have o:=AN j;have H:=m.lb _ o;refine PS (Aah j (Ou (eJ (by dsimp only;omega) (by dsimp only;omega)) λr y=>Pv (by unfold Ah;rw[a,q,Aac,Aao,Aao,Abg];omega) (p _ ?_)));rw[a,y,IN j,Aan,Aaj];rfl
 ·rw[Al]at a;have D:t=PL c:=by rw[a,q];rfl
  refine P3 (by omega) ?_;rw[D];refine Ou (fO (vR m w C) (by omega) (by rw[qN];exact G) F) λr y=>MA ?_;rw[y,ov w C];exact⟨λh=>⟨i,h⟩,λh=>h.2⟩
def uM(s:Sc):Prop:=Ec s.2.2.2.1 (A8 s.2.2.2.1) (A6 s.2.2.2.1)/\Be s.2.2.2.2/\BW s.2.2.2.2=s.2.2.2.2
theorem NZ{s:Sc}(h:c9 k m s)(j:m<1000000000)(i:1000000000000<fu):Ok (NQ fu s) λb=>b=Bp↔uM s:=by
 obtain⟨r,e,_,d,_⟩:=PK (fu:=fu) (gu:=fu) h.sm (by omega) (by omega);have l:=h.sm.n1;have n:=h.sm.n2;have g:sA fu s.2.2.2.1=Ac (Di (s.2.2.2.1=r)):=by refine(Ok.eq ?_);exact GB e (GB (vj (by omega) (by omega)) (MA rf))
 have a:s.2.2.2.1=r↔Ec s.2.2.2.1 (A8 s.2.2.2.1) (A6 s.2.2.2.1):=⟨λc=>c▸d,λc=>c.unique d⟩;refine GB g (PM (λc=>Ou (J2 h.bt h.sh (by omega) (by omega) (by omega)) λb f=>MA ?_) λc=>MA ?_);· rw[f];exact⟨λk=>⟨a.1 (of_decide_eq_true c),k⟩,And.right⟩
 ·exact⟨λh=>(by grind),λk=>absurd (a.2 k.1) (of_decide_eq_false c)⟩
def QH(l:List (Aq×Int×Bk)):Prop:=(∀f∈l,f.2.1=1\/f.2.1=2)/\eo l
def jf(l:List (Aq×Int×Bk))(k:Nat):Prop:=(∀f∈l.take k,f.2.1=1\/f.2.1=2)/\∀i (h:i+1<l.length),i+1<k->fL l[i].1 l[i+1].1=Bp
theorem P7(g:k<l.length){nx:Nat->Option Bool}(s:l.length<=4)(c:jf l k)(p:l[k].2.1=1\/l[k].2.1=2)(m:jf l (k+1)->Ok (nx (k+1)) λr=>r=Bp↔QH l):
  Ok (bif Di ((0:Int)<(k:Int))then Aa .i64 ((k:Int)-1) (Ab (idx l ((k:Int)-1)) λq=>bif !Go.Op.bytesLess q.1 l[k].1 then Ac Aj else nx (k+1))else nx (k+1)) λr=>r=Bp↔QH l:=by
 have mem:∀f∈l.take (k+1),f.2.1=1\/f.2.1=2:=λf o=>by
  rcases(Ag g).1 o with h|rfl;· exact c.1 f h
  omega
 refine N1 (λn=>Aap (Adu (by omega) (by omega) (PM (λa=>MA ⟨λh=>(by grind),λh=>?_⟩) λa=>m ⟨mem,λi d b=>?_⟩))) λn=>m ⟨mem,λi d b=>by omega⟩
 ·obtain⟨j,rfl⟩:∃j,k=j+1:=⟨k-1,by omega⟩;have e:((j+1:Nat):Int)-1=(j:Int):=by omega
  simp only[e,Ace]at a;rw[h.2 j g]at a;grind
 ·rcases Aam (i+1) k with h|h;· exact c.2 i d h
  ·obtain rfl:k=i+1:=by omega
   simp_all
theorem XH(e:l.length<=4)(m:1000000000000<fu):Ok (F36 fu l) λr=>r=Bp↔QH l:=by
 refine Vi (jf l) l.length ⟨by simp,λi h k=>by omega⟩ (by omega) (λk nx b a g=>?_) (λnx a=>?_)
 ·refine PS (Aah b (N1 (λc=>N1 (λd=>MA ⟨λh=>(by grind),λh=>?_⟩) λd=>P7 b e a (.inr (IT d)) g) λc=>P7 b e a (.inl (IT c)) g));rcases h.1 _ (AN b)with h|h;all_goals omega
 ·exact PT (MA ⟨λ_=>⟨λf j=>a.1 f (by grind),λi h=>a.2 i h h⟩,λ_=>rfl⟩)
theorem Um(g:l.length<=4)(p:1000000000000<fu):Ok (dL fu l) λr=>r=Bp↔QH l:=by
 refine Vi (jf l) l.length ⟨by simp,λi h k=>by omega⟩ (by omega) (λk nx a b j=>?_) (λnx b=>?_)
 ·have go:(l[k].2.1=1\/l[k].2.1=2)->Ok (bif Di ((0:Int)<(k:Int))then Aa .i64 ((k:Int)-1) (Ab (idx l ((k:Int)-1)) λn=>Ab (idx l (k:Int)) λo=>bif !Go.Op.bytesLess n.1 o.1 then Ac Aj else nx (k+1))else nx (k+1)) λr=>r=Bp↔QH l:=λm=>by
   have:=P7 a g b m j;rw[Bj a];trivial
  refine PS (Aah a (N1 (λc=>Aah a (N1 (λd=>MA ⟨λh=>(by grind),λh=>?_⟩) λd=>go (.inr (IT d)))) λc=>go (.inl (IT c))));rcases h.1 _ (AN a)with h|h;all_goals omega
 ·exact PT (MA ⟨λ_=>⟨λf e=>b.1 f (by simp_all),λi h=>b.2 i h h⟩,λ_=>rfl⟩)
structure zN(v:Vl):Prop where
 an:v.any=Bp->v.sc=Fu/\v.lists=[]/\v.structs=[]
 sc:uM v.sc
 rs:∀c∈v.lists,c.2.length<=1
 st:∀c∈v.structs,QH c.1/\Du c
def D6:Nat->Vl->Prop
 |0,_=>False
 |d+1,v=>zN v/\∀x∈kids v,D6 d x.1/\D6 d x.2
theorem QO:uM Fu:=by have h:Ih 5 12 Fu:=LP;exact⟨h.nu,h.ln.wf,h.ln.can⟩
theorem VT{v:Vl}(h:Bd (d+1) v)(w:1000000000000<fu):Ok (zV fu v) λr=>r=Bp↔zN v:=by
 obtain⟨t,⟨C,D⟩,⟨H,z⟩,_⟩:=h;have no:¬zN v->Ok (Ac Aj) λr=>r=Bp↔zN v:=λh=>MA ⟨λe=>(by grind),λe=>absurd e h⟩;have E:=t.n1;have F:=t.n2;have G:=t.sh.1;refine PM (λs=>Ou (Vu (by omega) (by omega) (by omega)) λb l=>PM (λf=>Aap (MA ?_)) λf=>no λh=>?_) λs=>?_
 ·have e:=l.1 f;rw[decide_eq_true_iff];constructor;· intro h;have o:v.lists=[]:=OF.1 (by omega);have p:v.structs=[]:=OF.1 (by omega);exact⟨λ_=>⟨e,o,p⟩,e▸QO,by grind,by rw[p];simp⟩
  ·intro h;obtain⟨_,o,p⟩:=h.an s;rw[o,p];rfl
 ·rw[l.2 (h.an s).1]at f;cases f
 refine Vi (λk=> ∀c∈v.lists.take k,c.2.length<=1) v.lists.length (by simp) (by omega) (λk nx j q x=>?_) (λnx q=>?_)
 ·refine PS (Aah j (N1 (λB=>no λh=>by have:=h.rs _ (AN j);omega) λh=>x λc hc=>?_));rcases(Ag j).1 hc with hc|rfl;· exact q c hc
  ·omega
 rw[Al]at q;refine P3 (by omega) ?_;refine Vi (λk=> ∀c∈v.structs.take k,QH c.1/\Du c) v.structs.length (by simp) (by omega) (λk nx j a x=>?_) (λnx a=>?_)
 ·have l:=z _ (AN j);refine PS (Aah j (Ou (XH l.nf w) λb m=>PM (λg=>no λh=>?_) λg=>Ou (Ur l.lim l.Gz w) λA n=>PM (λi=>no λh=>?_) λi=>x λc hc=>?_));· rw[m.2 (h.st _ (AN j)).1]at g;cases g
  ·rw[n.2 (h.st _ (AN j)).2]at i;cases i
  ·rcases(Ag j).1 hc with hc|rfl;· exact a c hc
   ·exact⟨m.1 (by simpa using g),n.1 (by simpa using i)⟩
 rw[Al]at a;refine PT (Ou (HS t (by omega) w) λb l=>MA ?_);rw[l];exact⟨λh=>⟨λy=>absurd y (by rw[s];decide),h,q,a⟩,λh=>h.sc⟩
theorem I4:∀ {d fu:Nat} {v:Vl} {lv n a:Int} {b:Bool},Bd d v->1000000000000+d<fu->(1<=lv/\lv+d<=17)->(0<=n/\n+FB d<=1000000000000)->(0<=a/\a<=1000)->
  Ok (rY fu (v,lv,n,a,b)) λr=>(0<=r.1/\r.1<=n+FB d)/\(0<=r.2.1/\r.2.1<=1000)/\(r.2.2=Aj↔b=Aj/\D6 d v)
 |0,_,_,_,_,_,_,h,_,_,_,_=>h.elim
 |d+1,0,_,_,_,_,_,_,h,_,_,_=>by omega
 |d+1,fu+1,v,lv,n,a,b,h,W,P,X,O=>by
  have hc:FB (d+1)=1+78*FB d:=rfl;rw[show rY (fu+1) (v,lv,n,a,b)=_ from d88 fu v lv n a b];have u:F87 fu (lv,n,a,b)=Ac (n+1,(if a<lv then lv else a),b):=by refine(Ok.eq ?_);exact Aap (Abx (by omega) (MA rf))
  have c:0<=(if a<lv then lv else a)/\(if a<lv then lv else a)<=1000:=by omega
  refine GB u ?_;generalize(if a<lv then lv else a)=t at c;have q:¬D6 (d+1) v->Ok (Ac (n+1,t,Bp)) λr=>(0<=r.1/\r.1<=n+FB (d+1))/\(0<=r.2.1/\r.2.1<=1000)/\(r.2.2=Aj↔b=Aj/\D6 (d+1) v):=
   λE=>MA ⟨⟨by omega,by omega⟩,c,λh=>(by grind),λh=>absurd h.2 E⟩;refine N1 (λj=>absurd j (by omega)) λ_=>Ou (VT h (by omega)) λg I=>PM (λe=>q λG=>by rw[I.2 G.1]at e;cases e) λe=>GB (VJ h (by omega)) ?_;have B:=I.1 (by simpa using e);have J:=h.kids;have C:=h.2.2.2;refine ZO (λk (x:Int) (y:Int) (z:Bool)=>(0<=x/\x<=n+1+((2*k*FB d:Nat):Int))/\(0<=y/\y<=1000)/\(z=Aj↔b=Aj/\∀w∈(kids v).take k,D6 d w.1/\D6 d w.2)) (kids v).length ⟨⟨by omega,by simp⟩,c,⟨λh=>⟨h,by simp⟩,λh=>h.1⟩⟩ (by omega) (λk x y z nx l A F=>?_) (λx y z nx A=>?_)
  ·obtain⟨M,H,o⟩:=A;have i:=C _ (AN l);have D:2*k*FB d<=76*FB d:=Abi _ (by omega);have m:2*(k+1)*FB d=2*k*FB d+2*FB d:=by rw[Nat.mul_add,Adp]
   refine PS (Aah l (Aap (Ou (I4 i.1 (by omega) (by omega) (by omega) H) λr L=>?_)));obtain⟨Y,Q,R⟩:=L;refine Aap (Ou (I4 i.2 (by omega) (by omega) (by omega) Q) λs G=>?_);obtain⟨S,T,U⟩:=G;refine F _ _ _ ⟨⟨S.1,by omega⟩,T,?_⟩;rw[U,R,o];constructor
   ·rintro⟨⟨⟨v1,p⟩,V⟩,t2⟩;refine⟨v1,λw i=>?_⟩;rcases(Ag l).1 i with i|rfl;· exact p w i
    ·exact⟨V,t2⟩
   ·rintro⟨v1,p⟩;have K:=p _ ((Ag l).2 (.inr rfl));exact⟨⟨⟨v1,λw i=>p w ((Ag l).2 (.inl i))⟩,K.1⟩,K.2⟩
  ·obtain⟨M,H,o⟩:=A;have D:2*(kids v).length*FB d<=78*FB d:=Abi _ (by omega);refine PT (MA ⟨⟨M.1,by omega⟩,H,?_⟩);rw[Al]at o;exact o.trans ⟨λh=>⟨h.1,B,h.2⟩,λh=>⟨h.1,h.2.2⟩⟩
theorem I_{v:Vl}(h:Bd d v)(T:d<=3)(S:1000000001000<fu):Ok (rX fu v) λr=>r=Bp↔D6 d v:=by
 have J:d≠0:=by rintro rfl;trivial
 obtain⟨d,rfl⟩:∃e,d=e+1:=⟨d-1,by omega⟩;have hc:FB d<=6163:=by rcases(by omega:d=0\/d=1\/d=2)with rfl|rfl|rfl<;>decide
 have key:Ok (zR fu (v,1,(0,0),Aj)) λr=>r.2.2=Aj↔D6 (d+1) v:=by
  rw[zR];have p:F34 fu (1,((0,0),Aj))=Ac (1,1,Aj):=by rfl
  refine GB p ?_;have o:¬D6 (d+1) v->Ok (Ac ((1:Int),(1:Int),Bp)) λr=>r.2.2=Aj↔D6 (d+1) v:=λB=>MA ⟨λh=>(by grind),λh=>absurd h B⟩;refine N1 (λf=>absurd f (by simp)) λ_=>Ou (VT h (by omega)) λg E=>PM (λa=>o λD=>by rw[E.2 D.1]at a;grind) λa=>GB (VJ h (by omega)) ?_;have u:=E.1 (by grind);have F:=h.kids;have A:=h.2.2.2;refine ZO (λk (x:Int) (y:Int) (z:Bool)=>(0<=x/\x<=1+((2*k*FB d:Nat):Int))/\(0<=y/\y<=1000)/\(z=Aj↔∀w∈(kids v).take k,D6 d w.1/\D6 d w.2)) (kids v).length ⟨⟨by simp,by simp⟩,⟨by decide,by decide⟩,⟨λ_=>by simp,λ_=>rfl⟩⟩ (by omega) (λk x y z nx i t C=>?_) (λx y z nx t=>?_)
  ·obtain⟨L,H,l⟩:=t;have b:=A _ (AN i);have K:2*k*FB d<=76*FB d:=Abi _ (by omega);have j:2*(k+1)*FB d=2*k*FB d+2*FB d:=by rw[Nat.mul_add,Adp]
   refine PS (Aah i (Aap (Ou (I4 b.1 (by omega) (by omega) (by omega) H) λr c=>?_)));obtain⟨U,M,N⟩:=c;refine Aap (Ou (I4 b.2 (by omega) (by omega) (by omega) M) λs D=>?_);obtain⟨O,P,Q⟩:=D;refine C _ _ _ ⟨⟨O.1,by omega⟩,P,?_⟩;rw[Q,N,l];constructor
   ·rintro⟨⟨n,R⟩,t2⟩ w b;rcases(Ag i).1 b with b|rfl;· exact n w b
    ·exact⟨R,t2⟩
   ·intro n;have G:=n _ ((Ag i).2 (.inr rfl));exact⟨⟨λw b=>n w ((Ag i).2 (.inl b)),G.1⟩,G.2⟩
  ·obtain⟨L,H,l⟩:=t;refine PT (MA ?_);rw[Al]at l;exact l.trans ⟨λh=>⟨u,h⟩,λh=>h.2⟩
 rw[rX];have q:Ok (F90 fu v) λr=>r.2.2=Aj↔D6 (d+1) v:=by exact Ou key λr c=>MA c
 grind[Ou,MA]
theorem WZ(h:Bd d x.1/\Bd d x.2)(g:d<=3)(e:1000000001000<fu):Ok (zQ fu x) λr=>r=Bp↔D6 d x.1/\D6 d x.2:=by refine Ou (I_ h.1 g e) λa f=>PM (λc=>Ou (I_ h.2 g e) λb i=>MA ?_) λc=>MA ⟨λh=>(by grind),λh=>?_⟩;all_goals grind
theorem Xm{c:HM}(h:c.1.length<=1000/\c.2.length<=1000):dI fu c=Ac (AY c):=by refine(Ok.eq ?_);rw[dI];refine Abt (Pv (by grind) (MA ?_));rfl
theorem WR(h:c.1.length<=1000/\c.2.length<=1000)(j:1000000000000<fu):jE fu c=Ac (Bq c):=by
 refine(Ok.eq ?_);refine Sb (λk (s:List Bk)=>s=(c.1.take k).map (·.2.2)) c.1.length rf (by omega) (λk s nx e d g=>?_) (λs nx d=>?_);· refine PS (Aah e (Pv (by grind) (g _ ?_)));grind[cu]
 rw[Al]at d;refine P3 (by omega) ?_;refine Sb (λk (s:List Bk)=>s=c.1.map (·.2.2)++(c.2.take k).map (·.2)) c.2.length (by grind) (by omega) (λk s nx e b g=>?_) (λs nx b=>?_);· refine PS (Aah e (Pv (by grind) (g _ ?_)));grind[cu,List.append_assoc]
 ·refine PT (MA ?_);rw[b,Al];rfl
theorem aG{v:Vl}(h:Bd (d+1) v)(y:1000000000000<fu):dH fu v=Ac (kids v):=by
 obtain⟨_,⟨B,u⟩,⟨E,t⟩,_⟩:=h;have w:∀k,((v.lists.take k).flatMap AY).length<=15:=λk=>by
  have:=Dq (f:=AY) (n:=5) (l:=v.lists.take k) λc hc=>by grind[AY]
  grind
 have lb:∀k,((v.structs.take k).flatMap Bq).length<=24:=λk=>by
  have:=Dq (f:=Bq) (n:=8) (l:=v.structs.take k) λc hc=>by have:=(t c (Acl hc)).nf;have:=(t c (Acl hc)).nc;grind[Bq]
  grind
 refine(Ok.eq ?_);refine Sb (λk (s:List Bk)=>s=(v.lists.take k).flatMap AY) v.lists.length rf (by omega) (λk s nx m o r=>?_) (λs nx o=>?_)
 ·have hc:=u _ (AN m);have e:(v.lists.take (k+1)).flatMap AY=s++AY v.lists[k]:=by grind[cu,List.flatMap_singleton]
  have:=w (k+1);rw[e,Aac]at this;have p:dI fu v.lists[k]=Ac (AY v.lists[k]):=Xm (by omega);refine PS (Aah m (GB p (Abt (r _ e.symm))))
 rw[Al]at o;refine P3 (by omega) ?_;refine Sb (λk (s:List Bk)=>s=v.lists.flatMap AY++(v.structs.take k).flatMap Bq) v.structs.length (by simp[o]) (by omega) (λk s nx m j r=>?_) (λs nx j=>?_)
 ·have hc:=t _ (AN m);have z:=hc.nf;have A:=hc.nc;have e:v.lists.flatMap AY++(v.structs.take (k+1)).flatMap Bq=s++Bq v.structs[k]:=by rw[j,IN m,Acp,Ael,Aaj]
  have a:=w v.lists.length;rw[Al]at a;have b:=lb (k+1);have:=congrArg Fw e;rw[Aac,Aac]at this;have q:jE fu v.structs[k]=Ac (Bq v.structs[k]):=WR (by omega) y;refine PS (Aah m (GB q (Abt (r _ e.symm))))
 ·refine PT (MA ?_);rw[j,Al];rfl
theorem cy{v:Vl} :Ok (jM fu v) λr=>r=Bp↔v.sc=Fu/\v.lists=[]/\v.structs=[]:=by
 obtain⟨a,⟨m,o,p,⟨i,j⟩,l⟩,n,q⟩:=v;have no:∀ {P:Prop},¬P->Ok (Ac Aj) λr=>r=Bp↔P:=λh=>MA ⟨λk=>(by grind),λk=>absurd k h⟩;have g:∀ {α:Type} {l:List α},((l.length:Nat):Int)=0->l=[]:=λh=>OF.1 (by omega);cases m with
 |true=>exact no λh=>by have:=h.1;cases this
 |false=>cases o with
  |true=>exact no λh=>by have:=h.1;cases this
  |false=>cases p with
   |true=>exact no λh=>by have:=h.1;cases this
   |false=>
    rw[jM];unfold iF iB;refine VF rfl (VF rfl (VF rfl (N1 (λb=>N1 (λc=>N1 (λd=>N1 (λf=>MA ?_) λf=>no ?_) λd=>no ?_) λc=>no ?_) λb=>no ?_)));· have b:=g b;have c:=g c;have d:=g d;have f:=g f;subst b;subst c;subst d;subst f;rw[decide_eq_true_iff];exact⟨λh=>⟨rfl,rfl,g h⟩,λh=>by grind⟩
    ·simp_all
    ·rintro⟨h,_⟩;have h:(Aj,Aj,Aj,(i,j),l)=Fu:=h;unfold Fu at h;obtain⟨_,_,_,_,rfl⟩:=h;exact d rfl
    ·rintro⟨h,_⟩;have h:(Aj,Aj,Aj,(i,j),l)=Fu:=h;unfold Fu at h;obtain⟨_,_,_,⟨_,rfl⟩,_⟩:=h;exact c rfl
    ·rintro⟨h,_⟩;have h:(Aj,Aj,Aj,(i,j),l)=Fu:=h;unfold Fu at h;obtain⟨_,_,_,⟨rfl,_⟩,_⟩:=h;exact b rfl
theorem HR:∀ {d fu:Nat} {v:Vl} {lv:Int},Bd d v->1000000000000+d<fu->(1<=lv/\lv+d<=17)->Ok (NP fu (v,lv)) λr=>r=Bp↔D6 d v
 |0,_,_,_,h,_,_=>h.elim
 |d+1,0,_,_,_,h,_=>by omega
 |d+1,fu+1,v,lv,h,hF,Y=>by
  rw[show NP (fu+1) (v,lv)=_ from d289 fu v lv];have no:¬D6 (d+1) v->Ok (Ac Aj) λr=>r=Bp↔D6 (d+1) v:=λh=>MA ⟨λk=>(by grind),λk=>absurd k h⟩;have e:=aG (fu:=fu) h (by omega);have T:=h.kids;obtain⟨V,⟨l1,l2⟩,⟨s1,Z⟩,I⟩:=h;have tail:(v.any=Bp->v.sc=Fu/\v.lists=[]/\v.structs=[])->uM v.sc->Ok (Ad fu (λ(q:Nat) C=>
     bif Di ((↑q:Int)<(↑(Fw (Vl.lists v)):Int))then
      Ab (idx (Vl.lists v) (↑q:Int)) λK=>
      bif Di ((1:Int)<(↑(Fw K.2):Int))then
       Ac (Aj)
      else
       C (q+1)
     else
      Ad fu (
           λ(n:Nat) D=>
       bif Di ((↑n:Int)<(↑(Fw (Vl.structs v)):Int))then
        Ab (idx (Vl.structs v) (↑n:Int)) λL=>
        Ab (dL fu L.1) λM=>
        bif !M then
         Ac (Aj)
        else
         Ab (idx (Vl.structs v) (↑n:Int)) λN=>
         Ab (dJ fu N) λO=>
         bif !O then
          Ac (Aj)
         else
          D (n+1)
       else
        Ab (dH fu v) λp=>
        Ad fu (λ(o:Nat) E=>
         bif Di ((↑o:Int)<(↑(Fw p):Int))then
          Ab (idx p (↑o:Int)) λP=>
          Aa (Lc.i64) (lv+(1:Int))<|
          Ab (NP fu (P.1,(lv+(1:Int)))) λQ=>
          bif !Q then
           Ac (Aj)
          else
           Ab (idx p (↑o:Int)) λR=>
           Aa (Lc.i64) (lv+(1:Int))<|
           Ab (NP fu (R.2,(lv+(1:Int)))) λS=>
           bif !S then
            Ac (Aj)
           else
            E (o+1)
         else
          Ac (Bp)) (0)) (0)) (0)) λr=>r=Bp↔D6 (d+1) v:=λH J=>by
   refine Vi (λk=> ∀c∈v.lists.take k,c.2.length<=1) v.lists.length (by simp) (by omega) (λk nx e F z=>?_) (λnx F=>?_)
   ·refine PS (Aah e (N1 (λg=>no λh=>by have:=h.1.rs _ (AN e);omega) λh=>z λc hc=>?_));rcases(Ag e).1 hc with hc|rfl;all_goals grind
   rw[Al]at F;refine P3 (by omega) ?_;refine Vi (λk=> ∀c∈v.structs.take k,QH c.1/\Du c) v.structs.length (by simp) (by omega) (λk nx e i z=>?_) (λnx i=>?_)
   ·have s:=Z _ (AN e);refine PS (Aah e (Ou (Um s.nf (by omega)) λb u=>PM (λa=>no λh=>?_) λa=>Aah e (Ou (SJ s.lim s.Gz (by omega)) λb' x=>PM (λl=>no λh=>?_) λl=>z λc hc=>?_)));· rw[u.2 (h.1.st _ (AN e)).1]at a;grind
    ·rw[x.2 (h.1.st _ (AN e)).2]at l;grind
    ·rcases(Ag e).1 hc with hc|rfl;all_goals grind
   rw[Al]at i;refine PT (GB e ?_);refine Vi (λk=> ∀w∈(kids v).take k,D6 d w.1/\D6 d w.2) (kids v).length (by simp) (by omega) (λk nx e j z=>?_) (λnx j=>?_)
   ·have t:=I _ (AN e);refine PS (Aah e (Aap (Ou (HR t.1 (by omega) (by omega)) λr U=>PM (λg=>no λh=>?_) λg=>Aah e (Aap (Ou (HR t.2 (by omega) (by omega)) λr2 A=>PM (λf=>no λh=>?_) λf=>z λw t=>?_)))));· rw[U.2 (h.2 _ (AN e)).1]at g;cases g
    ·rw[A.2 (h.2 _ (AN e)).2]at f;cases f
    ·rcases(Ag e).1 t with t|rfl;· exact j w t
     ·exact⟨U.1 (by simpa using g),A.1 (by simpa using f)⟩
   ·rw[Al]at j;exact PT (MA ⟨λ_=>⟨⟨H,J,F,i⟩,j⟩,λ_=>rfl⟩)
  refine N1 (λy=>absurd y (by omega)) λ_=>PM (λG=>Ou cy λb s=>PM (λg=>no λB=>?_) λg=>Ou (NZ V (by decide) (by omega)) λX a=>PM (λf=>no λB=>?_) λf=>tail (λ_=>s.1 (by simpa using g)) (a.1 (by simpa using f))) λG=>Ou (NZ V (by decide) (by omega)) λX a=>PM (λf=>no λB=>?_) λf=>tail (λh=>absurd h (by rw[G];decide)) (a.1 (by simpa using f));· rw[s.2 (B.1.an G)]at g;cases g
  ·rw[a.2 B.1.sc]at f;cases f
  ·rw[a.2 B.1.sc]at f;cases f
theorem IB(h:Bd d x.1/\Bd d x.2)(k:d<=3)(j:1000000001000<fu):Ok (Yi fu x) λr=>r=Bp↔D6 d x.1/\D6 d x.2:=by
 have one:∀ {v:Vl},Bd d v->Ok (Tm fu v) λr=>r=Bp↔D6 d v:=λi=>by exact Ou (HR i (by omega) (by omega)) λr g=>MA g
 rw[Yi];refine Ou (one h.1) λa e=>PM (λc=>Ou (one h.2) λb f=>MA ?_) λc=>MA ⟨λh=>(by grind),λh=>?_⟩;all_goals grind
def Q3(x y:Sc):Prop:=(x.1=Bp->y.1=Bp)/\(x.2.1=Bp->y.2.1=Bp)/\(x.2.2.1=Bp->y.2.2.1=Bp)/\(∀n,A8 x.2.2.2.1 n->A8 y.2.2.2.1 n)/\(∀n,A6 x.2.2.2.1 n->A6 y.2.2.2.1 n)/\∀w,Av x.2.2.2.2 0 w=Bp->Av y.2.2.2.2 0 w=Bp
theorem Ke{x y:List Sp×List Sp}(a:Ec r (λn=>A8 x n/\¬A8 y n) (λn=>A6 x n/\¬A6 y n)):r=([],[])↔(∀n,A8 x n->A8 y n)/\∀n,A6 x n->A6 y n:=by
 constructor
 ·rintro rfl;refine⟨λn h=>IT λk=>?_,λn h=>IT λk=>?_⟩;· have:=(a.A8 n).2 ⟨⟨h,k⟩,h.2⟩;exact Ba this.1
  ·have:=(a.A6 n).2 ⟨⟨h,k⟩,h.2⟩;exact Ba this.1
 ·rintro⟨b,c⟩;exact a.unique (PH.congr (λn=>⟨λh=>absurd h.1 Ba,λh=>absurd (b n h.1) h.2⟩) λn=>⟨λh=>absurd h.1 Ba,λh=>absurd (c n h.1) h.2⟩)
theorem U_{x:Sc}{t:Tb}(j:Ec r (λn=>A8 x.2.2.2.1 n/\¬A8 y.2.2.2.1 n) (λn=>A6 x.2.2.2.1 n/\¬A6 y.2.2.2.1 n))(ht:CB t (λw=>Av x.2.2.2.2 0 w&& !Av y.2.2.2.2 0 w) m):
  ((x.1&& !y.1,x.2.1&& !y.2.1,x.2.2.1&& !y.2.2.1,r,t):Sc)=Fu↔Q3 x y:=by
 have h:=Ke j;have i:=ht.Gt;unfold Fu Q3;simp only[Aet];rw[show(r=(([],[]):List Sp×List Sp))↔_ from h,i];have g:∀a b:Bool,((a&& !b)=Aj)↔(a=Bp->b=Bp):=by simp
 rw[g,g,g];constructor;· rintro⟨a,b,c,⟨d,e⟩,f⟩;exact⟨a,b,c,d,e,λw k=>(g _ _).1 (congrFun f w) k⟩
 grind
theorem T3{fu k i m p:Nat}{x y:Sc}(b:Ih k m x)(c:Ih i p y)(v:k+i<=11)(w:(m+2)*(p+2)<=100000000)(d:1000000000000<fu):
  Ok (kg fu (x,y)) λo=>Ih 12 ((m+2)*(p+2)) o/\(o=Fu↔Q3 x y):=by
 have z:m<=(m+2)*(p+2):=Aak (by omega:m<=(m+2)*1) (Abw (Aae _) (by omega));have A:p<=(m+2)*(p+2):=Aak (by omega:p<=1*(p+2)) (Abw (by omega) (Aae _));have D:=b.n1;have E:=b.n2;have F:=c.n1;have G:=c.n2;obtain⟨r,l,g,B,C⟩:=Xj (fu:=fu) (b.nu.sm (by omega) (by omega)) (c.nu.sm (by omega) (by omega)) (by omega) (by omega);obtain⟨t,q,f⟩:=Oi (Gu (fu:=fu) b.ln c.ln (by omega) d);rw[b.ln.gL,c.ln.gL]at f;have e:Ok (tB fu (x,y)) λo=>o=(x.1&& !y.1,x.2.1&& !y.2.1,x.2.2.1&& !y.2.2.1,r,t):=by exact GB (b.MO (by omega) (by omega) d) (GB (c.MO (by omega) (by omega) d) (GB (T4 fu _ _) (GB (T4 fu _ _) (GB (T4 fu _ _) (GB l (GB q (MA rf)))))))
 rw[kg];refine Ou e λo s=>MA ?_;subst s;refine⟨⟨g.self (λn h=>h.1.2) (λn h=>h.1.2),?_,?_,?_⟩,U_ g f⟩;· grind
 ·grind
 ·have u:GP x.2.2.2.2 y.2.2.2.2<=(m+2)*(p+2):=Abw (by have:=b.ln.len;omega) (by have:=c.ln.len;omega);exact(f.mono u).self
theorem WT{e:Nat}{x:Sc}(h:Ih k m x)(i:Ih e p y)(g:k+e<=11)(c:(m+2)*(p+2)<=100000000)(a:1000000000000<fu):
  Ok (kf fu (x,y)) λr=>r=Bp↔Q3 x y:=by
 grind[kf,Ou,T3,MV,MA]
theorem Ih.aZ{s:Sc}(h:Ih k m s)(d:k<=12)(e:m<=100000000)(a:1000000000000<fu):Yh fu s=Ac s:=by refine(Ok.eq ?_);rw[Yh];refine Ou (NZ (h.sc d) (by omega) a) λb c=>?_;rw[c.2 ⟨h.nu,h.ln.wf,h.ln.can⟩];exact PW rf (MA rf)
theorem OP{s:Sc}(h:Ih k m s)(p:k<=12)(t:m<=100000000)(o:1000000000000<fu):Ok (dG fu s) λb=>b=Bp↔s=Fu:=by
 have j:=h.aZ (fu:=fu) p t o;obtain⟨a,b,c,f,L⟩:=s;have g:=h.nu;have v:=h.n1;have w:=h.n2;dsimp only at g v w;obtain⟨r,l,_,u,_⟩:=PK (fu:=fu) (gu:=fu) (g.sm (by omega) (by omega)) (by omega) (by omega);obtain rfl:f=r:=g.unique u;have n:Ok (jD fu f) λb=>b=Bp↔f=([],[]):=by rw[jD];refine GB l (N1 (λd=>MA ?_) λd=>MA ⟨λh=>(by cases h),λh=>absurd (by rw[h];rfl) d⟩);have d:f.1=[]:=OF.1 (by omega);rw[decide_eq_true_iff];exact⟨λe=>Acu d (OF.1 (by omega)),λe=>by rw[e];rfl⟩
 have no:∀ {P:Prop},¬P->Ok (Ac Aj) λr=>r=Bp↔P:=λh=>MA ⟨λk=>(by cases k),λk=>absurd k h⟩;rw[dG];refine GB j ?_;unfold Fu;cases a with
 |true=>exact no λh=>by cases h
 |false=>cases b with
  |true=>exact no λh=>by cases h
  |false=>cases c with
   |true=>exact no λh=>by cases h
   |false=>
    refine VF rf (VF rf (VF rf (Ou n λq i=>PM (λd=>MA ?_) λd=>no λh=>?_)))
    ·rw[decide_eq_true_iff,i.1 d];constructor;· intro e;have:L=[]:=OF.1 (by dsimp only at e;omega);rw[this]
     ·intro e;simp only[Aet]at e;rw[e.2.2.2.2];rfl
    ·simp only[Aet]at h;rw[i.2 h.2.2.2.1]at d;cases d
theorem L3{q:Nat}{x:Sc}(f:Ih k m x)(g:Ih q p y)(D:k+q<=11)(z:(m+2)*(p+2)<=100000000)(i:1000000000000<fu):
  Ok (dE fu (x,y)) λr=>r=Bp↔Q3 x y:=by
 have E:m<=(m+2)*(p+2):=Aak (by omega:m<=(m+2)*1) (Abw (Aae _) (by omega));have F:p<=(m+2)*(p+2):=Aak (by omega:p<=1*(p+2)) (Abw (by omega) (Aae _));have I:=f.n1;have J:=f.n2;have K:=g.n1;have L:=g.n2;obtain⟨r,u,_,l,G,H⟩:=FX (fu:=fu) (gu:=fu) (f.nu.sm (by omega) (by omega)) (g.nu.sm (by omega) (by omega)) (by omega) (by omega) (by omega);obtain⟨t,v,j⟩:=Mt (Gu (fu:=fu) f.ln g.ln (by omega) i);rw[f.ln.gL,g.ln.gL]at j;have B:GP x.2.2.2.2 y.2.2.2.2<=(m+2)*(p+2):=Abw (by have:=f.ln.len;omega) (by have:=g.ln.len;omega);have C:Ih 12 ((m+2)*(p+2)) (x.1&& !y.1,x.2.1&& !y.2.1,x.2.2.1&& !y.2.2.1,r,t):=⟨l.self (λn h=>h.1.2) (λn h=>h.1.2),by show r.1.length<=12;omega,by show r.2.length<=12;omega,(j.mono B).self⟩;have e:Ok (jz fu (x,y)) λo=>o=(x.1&& !y.1,x.2.1&& !y.2.1,x.2.2.1&& !y.2.2.1,r,t):=by rw[jz];refine GB (f.aZ (by omega) (by omega) i) (GB (g.aZ (by omega) (by omega) i) ?_);refine PM (λa=>PM (λb=>PM (λc=>?_) λc=>?_) λb=>PM (λc=>?_) λc=>?_) λa=>PM (λb=>PM (λc=>?_) λc=>?_) λb=>PM (λc=>?_) λc=>?_;all_goals exact GB u (GB v (MA (by rw[a,b,c];simp)))
 rw[dE];refine Ou e λo A=>?_;subst A;exact Ou (OP C (by omega) z i) λb w=>MA (w.trans (U_ l j))
theorem Kt{a b:List α}{f:α->α->Option Bool}(o:a.length<fu)(h:∀i (h1:i<a.length) (h2:i<b.length),Ok (f a[i] b[i]) λr=>r=Bp↔a[i]=b[i]):
  Ok (bif Di ((a.length:Int)≠(b.length:Int))then Ac Aj else Ad fu (λ(c:Nat) g=>bif Di ((c:Int)<(a.length:Int))then Ab (idx a (c:Int)) λt=>Ab (idx b (c:Int)) λu=>Ab (f t u) λv=>bif !v then Ac Aj else g (c+1)else Ac Bp) 0) λr=>r=Bp↔a=b:=by
 have no:a≠b->Ok (Ac Aj) λr=>r=Bp↔a=b:=λh=>MA ⟨λk=>(by grind),λk=>absurd k h⟩;refine N1 (λh=>no (by grind)) λm=>?_;have m:a.length=b.length:=by omega
 refine Vi (λk=> ∀i (h1:i<a.length),i<k->a[i]=b[i]'(by omega)) a.length (λi _ h=>by omega) o (λk nx l d s=>?_) (λnx d=>?_)
 ·refine PS (Aah l (Aah (by omega) (Ou (h k l (by omega)) λr n=>PM (λh2=>no ?_) λh2=>s λi p q=>?_)));all_goals grind
 ·exact PT (MA ⟨λ_=>Adm m λi h1 h2=>d i h1 h1,λ_=>rfl⟩)
theorem Aid{v w:Vl}(h1:v.any=w.any)(h2:v.sc=w.sc)(h3:v.lists=w.lists)(a:v.structs=w.structs):v=w:=by cases v;cases w;grind[Vl.any,Vl.sc,Vl.lists,Vl.structs]
theorem W3{x:Sc}{w f:Nat}(e:c9 k m x)(v:c9 w f y)(G:m<=100000000/\f<=100000000)(F:1000000000000<fu):Ok (kx fu (x,y)) λr=>r=Bp↔x=y:=by
 obtain⟨a,b,c,⟨H,I⟩,l⟩:=x;obtain⟨C,D,E,⟨A,B⟩,z⟩:=y;have no:∀ {P:Prop},¬P->Ok (Ac Aj) λr=>r=Bp↔P:=λh=>MA ⟨λk=>(by grind),λk=>absurd k h⟩;have i:=e.sm.n1;have j:=e.sm.n2;rw[kx];simp only[Aet];dsimp only at i j⊢;refine PM (λo=>PM (λp=>PM (λhc=>GB (zC (by omega)) (N1 (λq=>GB (zC (by omega)) (N1 (λd=>Ou (Q:=λr=>r=Bp↔l=z) ?_ λr t=>MA ?_) λh=>no λk=>h k.2.2.2.1.2)) λh=>no λk=>h k.2.2.2.1.1)) λh=>no λk=>?_) λh=>no λk=>?_) λh=>no λk=>?_;· have g:=e.sh;grind[max,KC,Nat.le_trans]
 all_goals grind
def Nu(d:Nat)(x:Bk):Prop:=Bd d x.1/\Bd d x.2
theorem Bd.lv{v:Vl}(h:Bd (d+1) v){c:HM}(hc:c∈v.lists):∀x∈AY c,Nu d x:=λx a=>
 h.2.2.2 x (AS.2 (.inl (Aad.2 ⟨c,hc,a⟩)))
theorem Bd.sv{v:Vl}(h:Bd (d+1) v)(hc:c∈v.structs):∀x∈Bq c,Nu d x:=λx a=>
 h.2.2.2 x (AS.2 (.inr (Aad.2 ⟨c,hc,a⟩)))
theorem AV{P:Prop}(h:¬P):Ok (Ac Aj) λr=>r=Bp↔P:=MA ⟨λk=>(by grind),λk=>absurd k h⟩
theorem Lu:∀ {d fu:Nat} {v w:Vl},Bd d v->Bd d w->1000000000000+10*d<fu->Ok (d_ fu (v,w)) λr=>r=Bp↔v=w
 |0,_,_,_,h,_,_=>h.elim
 |d+1,fu,v,w,F,G,hF=>by
  obtain⟨f,rfl⟩:∃f,fu=f+5:=⟨fu-5,by omega⟩;have sv:∀ {g:Nat} {x y:Bk},Nu d x->Nu d y->1000000000000+10*d+1<g->Ok (Nq g (x,y)) λr=>r=Bp↔x=y:=λ{g x y} M N hg=>by obtain⟨e,rfl⟩:∃e,g=e+1:=⟨g-1,by omega⟩;rw[show Nq (e+1) (x,y)=_ from d136 e x y];refine Ou (Lu M.1 N.1 (by omega)) λr a=>PM (λh=>Ou (Lu M.2 N.2 (by omega)) λs p=>MA ?_) λh=>AV λe=>?_;all_goals grind
  obtain⟨O,⟨a2,P⟩,⟨a4,R⟩,_⟩:=id F;obtain⟨S,⟨b2,T⟩,⟨b4,U⟩,_⟩:=id G;rw[show d_ (f+5) (v,w)=_ from d135 (f+4) v w];refine PM (λh=>AV λe=>?_) λc=>Ou (W3 O S (by omega) (by omega)) λr a=>PM (λh=>AV λe=>?_) λq=>N1 (λh=>AV λe=>h (by rw[e])) λB=>N1 (λh=>AV λe=>h (by rw[e])) λC=>?_;· grind
  ·grind
  have c:v.any=w.any:=by grind
  have q:v.sc=w.sc:=a.1 (by grind);have B:v.lists.length=w.lists.length:=by omega
  have C:v.structs.length=w.structs.length:=by omega
  refine Vi (λk=> ∀i (h:i<v.lists.length),i<k->v.lists[i]=w.lists[i]'(by omega)) v.lists.length (λi _ h=>by omega) (by omega) (λk nx A m J=>?_) (λnx m=>?_)
  ·have t:=AN A;have u:=AN (show k<w.lists.length by omega);have E:=P _ t;have q2:=T _ u;have V:eH (f+4) v.lists[k]=Ac (AY v.lists[k]):=Hh (by omega) (by omega);have W:eH (f+4) (w.lists[k]'(by omega))=Ac (AY (w.lists[k]'(by omega))):=Hh (by omega) (by omega);have ne:v.lists[k]≠w.lists[k]'(by omega)->¬v=w:=λh e=>h (by simp only[e]);refine PS (Aah A (Aah (by omega) (N1 (λh=>AV (ne λe=>h (by rw[e]))) λo=>GB V (GB W (Ou (Q:=λr=>r=Bp↔AY v.lists[k]=AY (w.lists[k]'(by omega))) ?_ λr a=>PM (λh=>AV (ne λe=>?_)) λh=>J λi H I=>?_)))));· rw[show t_ (f+4) (AY v.lists[k],AY (w.lists[k]'(by omega)))=_ from d129 (f+3) _ _];refine Kt (f:=λx y=>Nq (f+3) (x,y)) (by unfold AY;rw[Aac];omega) λi b l=>sv (F.lv t _ (AN b)) (G.lv u _ (AN l)) (by omega)
   ·rw[a.2 (by rw[e])]at h;cases h
   ·rcases Aam i k with z|z;· exact m i H z
    ·obtain rfl:i=k:=by omega
     have a:=a.1 (by simpa using h);have o:(v.lists[i]).1.length=(w.lists[i]'(by omega)).1.length:=by omega
     exact Acu (Alj a o).1 (Alj a o).2
  have X:v.lists=w.lists:=Adm B λi b l=>m i b b;refine P3 (by omega) ?_;refine Vi (λk=> ∀i (h:i<v.structs.length),i<k->v.structs[i]=w.structs[i]'(by omega)) v.structs.length (λi _ h=>by omega) (by omega) (λk nx A m J=>?_) (λnx m=>?_)
  ·have t:=AN A;have u:=AN (show k<w.structs.length by omega);have E:=R _ t;have n1:=E.nf;have n2:=E.nc;have ne:v.structs[k]≠w.structs[k]'(by omega)->¬v=w:=λh e=>h (by simp only[e]);refine PS (Aah A (Aah (by omega) (Ou (Q:=λr=>r=Bp↔v.structs[k]=w.structs[k]'(by omega)) ?_ λr a=>PM (λh=>AV (ne λe=>?_)) λh=>J λi H I=>?_)))
   ·rw[show tX (f+4) (v.structs[k],w.structs[k]'(by omega))=_ from d134 (f+3) _ _];refine Ou (Q:=λr=>r=Bp↔(v.structs[k]).1=(w.structs[k]'(by omega)).1) ?_ λr a=>PM (λh=>Ou (Q:=λr=>r=Bp↔(v.structs[k]).2=(w.structs[k]'(by omega)).2) ?_ λs p=>MA ?_) λh=>AV λe=>?_;· rw[show tZ (f+3) ((v.structs[k]).1,(w.structs[k]'(by omega)).1)=_ from d131 (f+2) _ _];refine Kt (f:=λx y=>kv (f+2) (x,y)) (by omega) λi b l=>?_;rw[show kv (f+2) ((v.structs[k]).1[i],(w.structs[k]'(by omega)).1[i])=_ from d130 (f+1) _ _];have K:=F.sv t _ (AS.2 (.inl (By.2 ⟨_,AN b,rfl⟩)));have L:=G.sv u _ (AS.2 (.inl (By.2 ⟨_,AN l,rfl⟩)));refine N1 (λZ=>N1 (λk2=>Ou (sv K L (by omega)) λr a=>MA ?_) λh=>AV λe=>h (by rw[e])) λh=>AV λe=>h (by rw[e]);rw[a];exact⟨λD=>Acu Z (Acu k2 D),λe=>by rw[e]⟩
    ·rw[show tY (f+3) ((v.structs[k]).2,(w.structs[k]'(by omega)).2)=_ from d133 (f+2) _ _];unfold ym;refine Kt (f:=λx y=>ku (f+2) (x,y)) (by omega) λi b l=>?_;rw[show ku (f+2) ((v.structs[k]).2[i],(w.structs[k]'(by omega)).2[i])=_ from d132 (f+1) _ _];unfold yn;have K:=F.sv t _ (AS.2 (.inr (By.2 ⟨_,AN b,rfl⟩)));have L:=G.sv u _ (AS.2 (.inr (By.2 ⟨_,AN l,rfl⟩)));have y1:=E.each _ (AN b);have y2:=E.ed _ (AN b);refine Ou (KC (n:=14641) ⟨y1,λs p=>by have:=y2 s p;omega⟩ (by omega)) λr a=>PM (λh=>Ou (sv K L (by omega)) λs p=>MA ?_) λh=>AV λe=>?_;· rw[p];exact⟨λD=>Acu (a.1 h) D,λe=>by rw[e]⟩
     ·rw[a.2 (by rw[e])]at h;cases h
    ·rw[p];exact⟨λD=>Acu (a.1 h) D,λe=>by rw[e]⟩
    ·rw[a.2 (by rw[e])]at h;cases h
   ·rw[a.2 e]at h;cases h
   ·rcases Aam i k with z|z;· exact m i H z
    ·obtain rfl:i=k:=by omega
     exact a.1 (by simpa using h)
  ·have Y:v.structs=w.structs:=Adm C λi b l=>m i b b;exact PT (MA ⟨λ_=>Aid c q X Y,λ_=>rfl⟩)
theorem Zk{y:Bk}(b:Nu d x)(c:Nu d y)(g:1000000000000+10*d+1<fu):Ok (Nq fu (x,y)) λr=>r=Bp↔x=y:=by obtain⟨e,rfl⟩:∃e,fu=e+1:=⟨fu-1,by omega⟩;rw[show Nq (e+1) (x,y)=_ from d136 e x y];refine Ou (Lu b.1 c.1 (by omega)) λr a=>PM (λh=>Ou (Lu b.2 c.2 (by omega)) λs f=>MA ?_) λh=>AV λe=>?_;all_goals grind
theorem Mb{y:Bk}(c:Nu d x)(e:Nu d y)(a:1000000000000+10*d+1<fu):Ok (dZ fu (x,y)) λr=>r=Bp↔x=y:=by exact Ou (Zk c e a) λr b=>MA b
def v0:Vl:= .mk Aj Fu [] []
def NB(v:Vl):Prop:=v.any=Bp\/v.lists≠ []\/v.structs≠ []\/v.sc≠Fu
def SB(d:Nat)(v:Vl):Prop:=Bd d v/\Snd d v
def SX(d:Nat)(x:Bk):Prop:=SB d x.1/\SB d x.2
theorem KN(d:Nat):SB (d+1) v0:=by have z:=(LP (k:=5) (m:=0)).sc (by simp);refine⟨⟨⟨z.sm,z.n1,z.n2,z.bt,by trivial⟩,⟨Abh _,?_⟩,⟨Abh _,?_⟩,?_⟩,⟨LP,?_,?_,?_⟩⟩<;>intro c h<;>cases h
theorem Hl{v:Vl}(h:SB d v)(g:1000000000000<fu):Ok (UX fu v) λr=>r=Bp↔¬NB v:=by
 cases d with
 |zero=>exact h.1.elim
 |succ d=>
  obtain⟨⟨b,⟨l,_⟩,⟨p,_⟩,_⟩,j,_⟩:=h;have m:=b.n1;have n:=b.n2;have o:=b.sh.1;have no:NB v->Ok (Ac Aj) λr=>r=Bp↔¬NB v:=λk=>MA ⟨λh=>(by grind),λh=>absurd k h⟩;refine PM (λa=>Aap (N1 (λf=>Ou (Vu (by omega) (by omega) (by omega)) λr i=>?_) λf=>no ?_)) λa=>no (.inl (by grind))
  ·have a:v.any=Aj:=by simpa using a
   have c:v.lists=[]:=OF.1 (by omega);have e:v.structs=[]:=OF.1 (by omega);have iff:v.sc=Fu↔¬NB v:=by unfold NB;rw[a,c,e];simp
   refine PM (λh=>MA ?_) λ_=>Ou (MV j (by omega) (by omega) g) λs b=>MA (b.trans iff);simp_all
  ·by_cases c:v.lists=[];· refine .inr (.inr (.inl λe=>f ?_));rw[c,e];rfl
   ·exact .inr (.inl c)
noncomputable def vw(c:BB)(s:Aq):Bk×Int:=match c.1.find? (λf=>Di (f.1=s))with
 |some f=>(f.2.2,f.2.1)
 |none=>match c.2.find? (λk=>IW k.1 s)with
  |some k=>(k.2,3)
  |none=>((v0,v0),3)
theorem U4{s:Aq}(h:NM c)(C:s.length<=1000)(B:1000000000000<fu):Yl fu (c,s)=Ac (vw c s):=by
 have D:=h.nf;have E:=h.nc;refine(Ok.eq ?_);refine Vi (λk=> ∀i (d:i<c.1.length),i<k->Di (c.1[i].1=s)=Aj) c.1.length (λi _ h=>by omega) (by omega) (λk nx o q x=>?_) (λnx q=>?_)
 ·refine PS (Aah o (N1 (λl=>MA ?_) λl=>x λi d v=>?_));· have e:c.1.find? (λf=>Di (f.1=s))=Ac c.1[k]:=Adk.2 ⟨decide_eq_true l,k,o,rf,λj w=>by grind⟩;grind[vw]
  grind
 ·have e:c.1.find? (λf=>Di (f.1=s))=C5:=Adl.2 λf u=>by
   obtain⟨i,d,rfl⟩:=Aas u;grind
  refine P3 (by omega) ?_;refine Vi (λk=> ∀i (d:i<c.2.length),i<k->IW c.2[i].1 s=Aj) c.2.length (λi _ h=>by omega) (by omega) (λk nx o g x=>?_) (λnx g=>?_)
  ·have m:=AN o;have A:=h.each _ m;have y:kd fu (c.2[k].1,s)=Ac (IW c.2[k].1 s):=(UF (n:=14641) (h.bt _ m) ⟨A,λt z=>by have:=h.ed _ m t z;omega⟩ (by omega) (by omega) (by omega) (by omega)).eq;refine PS (Aah o (GB y (PM (λl=>MA ?_) λl=>x λi d v=>?_)));· have r:c.2.find? (λk=>IW k.1 s)=Ac c.2[k]:=Adk.2 ⟨l,k,o,rfl,λj w=>by simp only[g j (by omega) w];rfl⟩;unfold vw;rw[e,r]
   grind
  ·have r:c.2.find? (λk=>IW k.1 s)=C5:=Adl.2 λf u=>by
    obtain⟨i,d,rfl⟩:=Aas u;rw[g i d d];decide
   refine PT (MA ?_);unfold vw;rw[e,r];rfl
theorem U3{s:Aq}(h0:P (v0,v0))(h:∀x∈Bq c,P x):P (vw c s).1:=by
 unfold vw;split;· rename_i f a;exact h _ (AS.2 (.inl (By.2 ⟨f,Acj a,rfl⟩)))
 ·split;· rename_i k b;exact h _ (AS.2 (.inr (By.2 ⟨k,Acj b,rfl⟩)))
  omega
theorem uZ{s:Aq}(h:∃f∈c.1,f.1=s):∃f∈c.1,f.1=s/\vw c s=(f.2.2,f.2.1):=by grind[vw]
def Xv(c:HM)(i:Nat):Bk:=match c.1[i]? with
 |some x=>x
 |none=>match c.2 with
  |x::_=>x
  | []=>(v0,v0)
theorem gF{c:HM} :Ok (Yp fu (c,(i:Int))) λr=>r.1=Xv c i:=by
 rw[Yp];unfold Xv;refine PS (N1 (λh=>Aah (by omega) (MA ?_)) λh=>Tz (by omega) ?_);· grind
 ·rw[Aco (by omega)];cases hc:c.2 with
  |nil=>exact P3 (by simp) (MA rfl)
  |cons x l=>exact Tz (by simp) (GB (a:=x) rfl (MA rfl))
theorem aO{c:HM}(h0:P (v0,v0))(h:∀x∈AY c,P x):P (Xv c i):=by
 unfold Xv;split;· rename_i x a;exact h _ (AS.2 (.inl (Aai a)))
 ·split;· rename_i x l a;exact h _ (AS.2 (.inr (by rw[a];exact Aat ..)))
  omega
def KH(R:Vl->Vl->Prop)(x y:Bk):Prop:=R x.1 y.1/\R x.2 y.2
structure WB(R:Vl->Vl->Prop)(c c':HM):Prop where
 ln:c'.1.length<=c.1.length
 cl:c'.2=[]->c.1.length<=c'.1.length/\c.2=[]
 it:∀i (h:i<c.1.length),KH R c.1[i] (Xv c' i)
 rs:∀h:0<c.2.length,KH R c.2[0] (c'.2.getD 0 (v0,v0))
structure UJ(R:Vl->Vl->Prop)(c c':BB):Prop where
 fa:∀f∈c.1,(vw c f.1).2<=(vw c' f.1).2/\KH R (vw c f.1).1 (vw c' f.1).1
 fb:∀f∈c'.1,(vw c f.1).2<=(vw c' f.1).2/\KH R (vw c f.1).1 (vw c' f.1).1
 cl:∀k∈c.2,∀k'∈c'.2,KH R k.2 k'.2\/∀w,¬(Av k.1 0 w=Bp/\Av k'.1 0 w=Bp)
def Db:Nat->Vl->Vl->Prop
 |0,_,_=>False
 |d+1,a,b=>b.any=Bp\/a.any=Aj/\Q3 a.sc b.sc/\(∀c∈a.lists,∃e∈b.lists,WB (Db d) c e)/\∀c∈a.structs,∃e∈b.structs,UJ (Db d) c e
theorem Vf(hi:i<c.2.length)(w:Aq):(Gr c w).getD i 0=runT (c.2.getD i dK).1 0 w:=by
 have:∀l:Aq,(Gr c l.reverse).getD i 0=runT (c.2.getD i dK).1 0 l.reverse:=λl=>by
  induction l with
  |nil=>
   show(CH c).getD i 0=0;grind[CH]
  |cons x l d=>
   rw[Afc,FT,(Hg c _ _).cl i hi];grind[Xg,runT]
 have:=this w.reverse;grind
theorem nP{l:List Nat}{i j:Nat}(hi:i∈l)(a:j∈l)(h:i≠j):2<=l.length:=by
 match l with
 | []=>grind
 | [x]=>
  grind
 |x::y::l=>simp
theorem Du.Ir(h:Du c)(hi:i<c.2.length)(k:j<c.2.length)(g:i≠j)(w:Aq):¬(Av c.2[i].1 0 w=Bp/\Av c.2[j].1 0 w=Bp):=λ⟨a,b⟩=>by
 have one:=h.2 w;have e:∀ {i:Nat} (hi:i<c.2.length),Av c.2[i].1 0 w=Bp->i∈(av c.2.length).filter λi=>fin (c.2.getD i dK).1 ((Gr c w).getD i 0):=λhi h=>by refine Aba.2 ⟨Abf.2 hi,?_⟩;rw[Vf hi w,show c.2.getD _ dK=c.2[_]from AO hi];exact h
 grind[MJ,Lf,nP]
theorem aN{c:HM}(h:i<c.1.length):Xv c i=c.1[i]:=by grind[Xv]
theorem N6(x:Sc):Q3 x x:=⟨id,id,id,λ_=>id,λ_=>id,λ_=>id⟩
theorem Db.refl:∀ {d:Nat} {a:Vl},D6 d a->Db d a a
 |0,_,h=>h.elim
 |d+1,a,⟨n,l⟩=>by
  by_cases q:a.any=Bp;· exact .inl q
  have r:∀x∈kids a,KH (Db d) x x:=λx b=>⟨Db.refl (l x b).1,Db.refl (l x b).2⟩;refine .inr ⟨by grind,N6 _,λc hc=>⟨c,hc,?_⟩,λc hc=>⟨c,hc,?_⟩⟩
  ·have t:∀x∈AY c,KH (Db d) x x:=λx b=>r x (AS.2 (.inl (Aad.2 ⟨c,hc,b⟩)));refine⟨Aae _,λh=>⟨Aae _,h⟩,λi m=>?_,λh=>?_⟩;· rw[aN m];exact t _ (AS.2 (.inl (AN m)))
   ·rw[show c.2.getD 0 (GL.v0,GL.v0)=c.2[0]from AO h];exact t _ (AS.2 (.inr (AN h)))
  ·have u:∀x∈Bq c,KH (Db d) x x:=λx b=>r x (AS.2 (.inr (Aad.2 ⟨c,hc,b⟩)));have v:∀f∈c.1,(vw c f.1).2<=(vw c f.1).2/\KH (Db d) (vw c f.1).1 (vw c f.1).1:=λf y=>⟨Abo _,by
    obtain⟨g,n,_,e⟩:=uZ (c:=c) (s:=f.1) ⟨f,y,rfl⟩;rw[e];exact u _ (AS.2 (.inl (By.2 ⟨g,n,rfl⟩)))⟩;refine⟨v,v,λk l A o=>?_⟩;obtain⟨i,m,rfl⟩:=Aas l;obtain⟨j,z,rfl⟩:=Aas o;by_cases e:i=j;· subst e;exact .inl (u _ (AS.2 (.inr (By.2 ⟨_,l,rfl⟩))))
   ·exact .inr ((n.st c hc).2.Ir m z e)
end
end Go.GL
