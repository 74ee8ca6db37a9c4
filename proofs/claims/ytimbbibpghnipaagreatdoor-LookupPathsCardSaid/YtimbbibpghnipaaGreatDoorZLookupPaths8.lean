/- Part 8 of the texts of this claim: what its theorem leans on. -/
import Derived.Test.YtimbbibpghnipaaGreatDoorZLookupPaths7
set_option linter.all false
open Option renaming some→Ac,none→C7
open Bool renaming false→Aj,true→Bp
open Go renaming Value→BZ,Operand→Dn,TypeId→Gs,Program→GQ,World→IW,execOp→Kt,Oper→K_,IntKind→Lr
open Decidable renaming decide→Di
open List renaming length→EW,replicate→Uh,range→a_,take_succ_eq_append_getElem→cu,set→lD,take_append_drop→vX,getElem_mem→Alq
open Int renaming toNat→aC
open Go.Op renaming bytesLess→gq
open Option renaming getD→qa
open Nat renaming strongRecOn→rT
namespace Go.GL
open Go Go.GV Go.GK Go.Proofs
section
variable{l:Tb}{n fu:Nat}{cs a b:List Int}{c:Nat->Int}{i:Nat}{es:List Cm}{s:Nat}{x:Int}{f g:Nat->Bool}{m:Nat}{kn:List Lg}{q:Int}{L:Lg}{w:List UInt8}{d:List Int}{α:Type}{t:Nat}
def AD:Nat->(Nat->Bool)->Nat
 |0,_=>0
 |n+1,f=>AD n f+(if f n then 0 else 1)
theorem Nc{f g:Nat->Bool} :∀ {n:Nat},(∀j,j<n->f j=Bp->g j=Bp)->AD n g<=AD n f
 |0,_=>Aac _
 |n+1,h=>by have:=Nc (n:=n) λj d=>h j (by omega);grind[AD]
theorem QE{f g:Nat->Bool} :∀ {n:Nat},(∀j,j<n->f j=Bp->g j=Bp)->(∃j,j<n/\f j=Aj/\g j=Bp)->AD n g<AD n f
 |0,_,⟨j,a,_⟩=>by omega
 |n+1,h,⟨j,a,c,d⟩=>by
  have l:=Nc (n:=n) (f:=f) (g:=g) λj a=>h j (by omega);simp only[AD];by_cases b:j=n;· grind
  ·have:=QE (n:=n) (f:=f) (g:=g) (λj a=>h j (by omega)) ⟨j,by omega,c,d⟩;grind
theorem QD:∀(n:Nat) (f:Nat->Bool),AD n f<=n
 |0,_=>Aac _
 |n+1,f=>by have:=QD n f;grind[AD]
theorem Jx(h:L w=Bp):live L=Bp:=Hr.2 ⟨w,h⟩
theorem R7{b:Nat}(h:live (IA L b)=Bp):live L=Bp:=by obtain⟨w,a⟩:=Hr.1 h;exact Jx (w:=UInt8.ofNat b::w) a
def sU(l:Tb)(c:Nat->Int)(f:Nat->Bool):Prop:= ∀s,s<Cl l->f (c s).toNat=live (Av l (s:Nat))
theorem ClsB.nat(h:ClsB l c)(a:s<Cl l):(c s).toNat<Cl l/\(((c s).toNat:Nat):Int)=c s:=by have:=h.rg s a;grind[Cl]
theorem gR(P:Bf l)(hc:Bs cs)(hf:DO cs l)(hk:Xd l c)(hl:l.length<=n)(hn:n<4294967296)(hfu:n+2<fu)(hfu':256<fu):
  Ok (F46 fu (FM l cs (Bh (Cl l) c))) (λr=> ∃f,r=Bh (Cl l) f/\sU l c f):=by
 have hN:Cl l=l.length+1:=rfl;rw[F46];unfold FM;rw[Az];refine PK (by grind) ?_;rw[DB];let Sd:(Nat->Bool)->Prop:=λf=> ∀j,j<Cl l->f j=Bp->∀s,s<Cl l->(c s).toNat=j->live (Av l (s:Nat))=Bp;refine XD (X:=List Bool×Bool) (λx=> ∃f,x.1=Bh (Cl l) f/\Sd f/\(x.2=Aj->sU l c f)) (λx=>(if x.2 then 1 else 0)+AD (Cl l) (λj=>x.1.getD j Aj)) ⟨_,rfl,λj _ h=>(by grind),λh=>(by grind)⟩ ?_ λx nx hI _ W=>?_;· grind[Cl,Bh,QD]
 obtain⟨o,again⟩:=x;obtain⟨f,ho,hS,hL⟩:=hI;subst ho
 have R:∀g:Nat->Bool,∀j,j<Cl l->(Bh (Cl l) g).getD j Aj=g j:=λg j e=>by rw[Aae,Jf e];rfl
 have Q:∀g:Nat->Bool,AD (Cl l) (λj=>(Bh (Cl l) g).getD j Aj)=AD (Cl l) g:=λg=>
  Akx (Nc λj e h=>by grind) (Nc λj e h=>by grind);refine P3 (λh=>?_) λh=>MP ⟨f,rfl,hL h⟩;subst h;have d:=λs m=>hk.toClsB.nat (s:=s) m;refine XZ (λk o H=> ∃g,o=Bh (Cl l) g/\Sd g/\(∀j,j<Cl l->f j=Bp->g j=Bp)/\
   (H=Aj->(∀j,j<Cl l->g j=f j)/\∀s,s<k->(U_ l s=Bp\/∃i,i<cs.length/\f (c (G4 l cs s i).toNat).toNat=Bp)->f (c s).toNat=Bp)/\
   (H=Bp->∃j,j<Cl l/\f j=Aj/\g j=Bp)) (Cl l) ⟨f,rfl,hS,λ_ _ h=>h,λ_=>⟨λ_ _=>rfl,λs m=>by omega⟩,λh=>(by grind)⟩ (by omega) (λk o H Z B hJ G=>?_) (λo H Z hJ=>?_)
 ·obtain⟨
      g,rfl,v,p,z,M⟩:=hJ;try dsimp only
  refine T3 (by omega) (BY (AV B) (BY (AV B) ?_));refine SE (λi b=>b=Bp↔U_ l k=Bp\/∃j,j<i/\g (c (G4 l cs k j).toNat).toNat=Bp) cs.length (by simp) (by have:=hc.le;omega) (λi b nx2 N t U=>?_) (λb nx2 t=>?_)
  ·have Y:=Gd P cs k i;have hq:(G4 l cs k i).toNat<Cl l:=by omega
   have hcq:=d _ hq
   refine T3 (by unfold ay;rw[Az];omega) (BY (by exact AV N) (P3 (λh=>U _ ?_) λh=>?_))
   ·subst h;simp only[true_iff]at t⊢;rcases t with t|⟨j,e,t⟩;· grind
    ·exact .inr ⟨j,by omega,t⟩
   ·refine BY (a:=c (G4 l cs k i).toNat) (by rw[show G4 l cs k i=(((G4 l cs k i).toNat:Nat):Int) by omega];exact AV (by omega)) (BY (a:=g (c (G4 l cs k i).toNat).toNat) (by rw[<-hcq.2];exact AV (by omega)) (U _ ?_));subst h;simp only[Aeh,false_iff]at t;constructor;· exact λh=> .inr ⟨i,by omega,h⟩
    ·rintro(h|⟨j,e,h⟩);· grind
     ·rcases Aam j i with I|I;· exact absurd (.inr ⟨j,I,h⟩) t
      ·obtain rfl:j=i:=by omega
       exact h
  ·have y:=d k B;have e1:idx (Bh (Cl l) c) (k:Int)=Ac (c k):=AV B;have e2:idx (Bh (Cl l) g) (c k)=Ac (g (c k).toNat):=by rw[<-y.2];exact AV y.1
   have A:∀(V:¬(b=Bp/\g (c k).toNat=Aj)),Ok (Z (Bh (Cl l) g,H,k+1)) λr=> ∃f,r=Bh (Cl l) f/\sU l c f:=λV=>by
    refine G _ _ ⟨g,rfl,v,p,λh=>⟨(z h).1,λs m q=>?_⟩,M⟩;rcases Aam s k with I|I;· exact(z h).2 s I q
    ·obtain rfl:s=k:=by omega
     have S:=(z h).1;rw[<-S _ y.1];have hbt:b=Bp:=t.2 (by
      rcases q with q|⟨i,N,q⟩;· exact .inl q
      ·refine .inr ⟨i,N,?_⟩;have Y:=Gd P cs s i;rw[S _ (d _ (by omega)).1];exact q);cases E:g (c s).toNat;· exact absurd ⟨hbt,E⟩ V
     ·rfl
   refine Qh (by unfold ay;rw[Az];omega) (P3 (λh=>BY e1 (BY e2 (P3 (λJ=>BY e1 (BY e2 ?_)) λJ=>A ?_))) λh=>A ?_)
   ·have E:g (c k).toNat=Aj:=by cases hh:g (c k).toNat<;>simp[hh]at J⊢
    have O:live (Av l (k:Nat))=Bp:=by
     rcases t.1 h with K|⟨j,e,K⟩;· exact Jx (w:=[]) (by exact K)
     ·have Y:=Gd P cs k j;have:=v _ (d _ (by omega)).1 K _ (by omega:(G4 l cs k j).toNat<Cl l) rfl;rw[Abd Y.1,OB P hc k e]at this;exact R7 this
    rw[Ba];refine G _ _ ⟨_,rfl,λj e T s m D=>?_,λj e hfj=>?_,λh=>(by cases h),λ_=>⟨(c k).toNat,y.1,?_,by simp⟩⟩
    ·by_cases F:j=(c k).toNat
     ·have hcc:c s=c k:=by have:=(d s m).2;omega
      rw[(hk.iff s k m B).1 hcc];exact O
     ·simp only[F,if_false]at T;exact v j e T s m D
    ·by_cases F:j=(c k).toNat;· simp[F]
     ·simp only[F,if_false];exact p j e hfj
    ·cases hfk:f (c k).toNat;· rfl
     ·have:=p _ y.1 hfk;rw[this]at E;cases E
   ·rintro⟨_,K⟩;rw[K]at J;cases J
   ·rintro⟨K,_⟩;rw[K]at h;cases h
 ·obtain⟨g,rfl,v,p,z,M⟩:=hJ;try dsimp only
  refine Qh (by(try rw[Az])<;>omega) (W (_,H) ⟨g,rf,v,λh=>?_⟩ ?_)
  ·obtain⟨I,J⟩:=z h;have hcl:∀(w:List UInt8) (s:Nat),s<Cl l->Av l (s:Nat) w=Bp->f (c s).toNat=Bp:=by
    intro w;induction w with
    |nil=>intro s m C;exact J s m (.inl (by exact C))
    |cons b w ih=>
     intro s m C;obtain⟨i,N,g1,g2⟩:=hc.find b.toNat b.toNat_lt;have Y:=Gd P cs s i;refine J s m (.inr ⟨i,N,ih _ (by omega) ?_⟩);rw[Abd Y.1,OB P hc s N,<-JA P hc hf s N b.toNat_lt g1 g2];simpa [IA]using C
   intro s m;have D:=d s m;rw[I _ D.1];cases L:f (c s).toNat
   ·cases O:live (Av l (s:Nat));· rfl
    ·obtain⟨w,C⟩:=Hr.1 O;rw[hcl w s m C]at L;cases L
   ·exact(hS _ D.1 L s m rf).symm
  ·rw[Q,Q];cases H with
   |true=>
    have:=QE (n:=Cl l) (f:=f) (g:=g) (λj e=>p j e) (M rfl);simp only[if_true];omega
   |false=>
    have:=Nc (n:=Cl l) (f:=f) (g:=g) (λj e=>p j e);simp only[if_true,Aeh,if_false];omega
theorem cr(hc:Bs cs)(hi:i<cs.length):Ok (YG fu ((FM l cs b),(i:Int))) (λr=>r=G5 cs i):=by
 rw[YG];unfold FM;dsimp only;have c:=hc.le;refine PK (by omega) (Ob (λh=>PK (by omega) ?_) λh=>MP (by grind[Hv]));have a:i+1<cs.length:=by omega
 have d:=hc.hi hi;have e:=hc.rg _ (AN hi);rw[E2 a]at d;rw[show((i:Int)+1)=((i+1:Nat):Int) by omega];refine Aah a (PK (by omega) (PK (by omega) (MP (by rw[E2 a]))))
def pos(cs:List Int)(i:Nat):Nat:=if h:i<cs.length then cs[i].toNat else 256
theorem RM(h:Bs cs):pos cs 0=0:=by unfold pos;rw[dif_pos h.pos,h.w_];rfl
theorem pos_at{cs:List Int}(h:Bs cs){i:Nat}(hi:i<cs.length):((pos cs i:Nat):Int)=cs[i]:=by unfold pos;rw[dif_pos hi];have:=h.rg _ (AN hi);omega
theorem VV:pos cs cs.length=256:=by simp[pos]
theorem RN(h:Bs cs)(hi:i<cs.length):((pos cs (i+1):Nat):Int)=G5 cs i+1:=by
 by_cases a:i+1<cs.length;· grind[pos_at,E2]
 simp_all[pos,Hv,dif_neg]
theorem PR(h:Bs cs)(i:Nat):pos cs i<=256:=by
 unfold pos;split;· rename_i a;have:=h.rg _ (AN a);omega
 omega
theorem RI{lo hi n:Int}(h:0<es.length):push es lo hi n=if(es[es.length-1]'(by omega)).2.2=n/\(es[es.length-1]'(by omega)).2.1+1=lo then es.set (es.length-1) ((es[es.length-1]'(by omega)).1,hi,n)else es++[(lo,hi,n)]:=by
 rcases Fo es with rfl|⟨a,y,rfl⟩;· grind
 simp_all[Gb]
theorem RJ(es:List Cm)(lo hi n:Int):(push es lo hi n).length<=es.length+1:=by rcases Fo es with rfl|⟨b,y,rfl⟩;all_goals grind[Jq,Gb]
noncomputable def hQ(fu:Nat)(T:List Int×List (List Int)×List Bool×List Int)(es:List Cm)(i:Nat)(nx:(List (Int×Int)×List Int×List Cm×Nat)->Option (Tb×List Int×List (List Int)×List Bool×List Int))(x:Int)(b:List Int)(m:List (Int×Int)):Option (Tb×List Int×List (List Int)×List Bool×List Int):=
 Ab (idx T.1 (i:Int)) λa=>
 Aa (Lr.u8) (a)<|
 Ab (YG fu (T,(i:Int))) λc=>
 Aa (Lr.i64) (x)<|
 Ag (EW es+1<=Ai)<|
 nx (m,b,es++[(a,c,qa (AB m x) (0:Int))],i+1)
noncomputable def j11(fu:Nat)(T:List Int×List (List Int)×List Bool×List Int)(es:List Cm)(i:Nat)(nx:(List (Int×Int)×List Int×List Cm×Nat)->Option (Tb×List Int×List (List Int)×List Bool×List Int))(x:Int)(a:List Int)(m:List (Int×Int)):Option (Tb×List Int×List (List Int)×List Bool×List Int):=
 bif Di ((0:Int)<(↑(EW es):Int))then
  Aa (Lr.i64) ((↑(EW es):Int)-(1:Int))<|
  Ab (idx es ((↑(EW es):Int)-(1:Int))) λd=>
  Aa (Lr.i64) (x)<|
  bif Di (d.2.2=qa (AB m x) (0:Int))then
   Aa (Lr.i64) ((↑(EW es):Int)-(1:Int))<|
   Ab (idx es ((↑(EW es):Int)-(1:Int))) λb=>
   Aa (Lr.i64) (b.2.1+(1:Int))<|
   Ab (idx T.1 (i:Int)) λe=>
   bif Di (b.2.1+(1:Int)=e)then
    Aa (Lr.i64) ((↑(EW es):Int)-(1:Int))<|
    Ab (YG fu (T,(i:Int))) λf=>
    Ab (idx es ((↑(EW es):Int)-(1:Int))) λc=>
    nx (m,a,es.set (aC ((↑(EW es):Int)-(1:Int))) (c.1,f,c.2.2),i+1)
   else hQ fu T es i nx x a m
  else hQ fu T es i nx x a m
 else hQ fu T es i nx x a m
theorem bu{k:List Int}{q:Nat}{e:List Int}{m:List (Int×Int)}{nx:(List (Int×Int)×List Int×List Cm×Nat)->Option (Tb×List Int×List (List Int)×List Bool×List Int)}{P:Tb×List Int×List (List Int)×List Bool×List Int->Prop}
  (hc:Bs cs) (hi:i<cs.length) (y:BR es (pos cs i) q) (B:es.length<=256) (u:GK.DW x) {n:Int} (C:AB m x=Ac n)
  (h:Ok (nx (m,e,push es cs[i] (G5 cs i) n,i+1)) P):
  Ok (j11 fu (FM l cs k) es i nx x e m) P:=by
 have z:=hc.rg _ (AN hi);have t:(AB m x).getD 0=n:=by grind
 have b:push es cs[i] (G5 cs i) n=es++[(cs[i],G5 cs i,n)]->Ok (hQ fu (FM l cs k) es i nx x e m) P:=λA=>by refine Aah (l:=cs) hi (PK (p:=GK.F8 cs[i]) (by omega) (OH (cr hc hi) λa r=>?_));refine PK (p:=GK.DW x) u (PK (by grind) ?_);grind
 unfold j11;simp only[show(FM l cs k).1=cs from rfl];refine Ob (λw=>?_) λw=>b ?_
 ·have f:0<es.length:=by omega
  have v:((es.length:Int)-1)=((es.length-1:Nat):Int):=by omega
  have c:es.length-1<es.length:=by omega
  have F:=y.rg _ (AN c);have D:=PR hc i;have d:=RI (lo:=cs[i]) (hi:=G5 cs i) (n:=n) f;rw[t,v];refine Aao (Aah c (PK (p:=GK.DW x) u (Ob (λg=>Aao (Aah c (Aao (Aah hi (Ob (λo=>?_) λo=>?_))))) λg=>?_)));· refine Aao (OH (cr hc hi) λa r=>?_);simp_all[Aah,if_pos]
  all_goals grind
 ·obtain rfl:es=[]:=OF.1 (by omega);rfl
theorem XW(l:Tb):live (Av l (l.length:Nat))=Aj:=by have:=aQ l (-1) (by omega);rw[show sk l.length (-1)=((l.length:Nat):Int)from rfl]at this;grind[Hq]
structure KO(l:Tb)(c:Nat->Int)(kn:List Lg)(ord:List Int)(m:List (Int×Int)):Prop extends KnOk (qn l) kn where
 len:ord.length=kn.length
 ord:∀(i:Nat) (q:Int),ord[i]?=Ac q->(0<=q/\q<l.length)/\kn[i]?=Ac (Av l q)
 wI:m.length=kn.length
 map:∀s,s<Cl l->(Av l (s:Nat)∈kn->AB m (c s)=Ac ((Ip kn (Av l (s:Nat)):Nat):Int))/\(Av l (s:Nat)∉kn->AB m (c s)=C7)
theorem KO.nil(l:Tb)(c:Nat->Int):KO l c [] [] []:=⟨⟨.nil,by simp,by simp⟩,rfl,by simp,rfl,λs a=>⟨by simp,λ_=>rfl⟩⟩
theorem KO.put{m:List (Int×Int)}(B:Bf l)(w:Xd l c)(h:KO l c kn a m)(A:s<l.length)(r:Av l (s:Nat)∉kn)(y:live (Av l (s:Nat))=Bp):
  KO l c (IZ kn (Av l (s:Nat))) (a++[(s:Int)]) (Bw m (c s) (a.length:Int)):=by
 have z:Cl l=l.length+1:=rfl;have f:s<Cl l:=by omega
 have x:=h.toKnOk.IZ (D:=Av l (s:Nat)) (Jz (by omega) (by omega)) y;have e:IZ kn (Av l (s:Nat))=kn++[Av l (s:Nat)]:=by simp_all[IZ,if_pos,GG]
 refine⟨x,?_,?_,?_,?_⟩;· rw[e];simp[h.len]
 ·intro i q g;rw[e];by_cases v:i<a.length;· rw[Pe v]at g;have:=h.ord i q g;grind
  ·have p:i=a.length:=by
    grind
   subst p;simp at g;subst g;exact⟨⟨by omega,by omega⟩,by rw[h.len];simp⟩
 ·rw[KA,(h.map s f).2 r,e,h.wI];simp
 ·intro t k;rw[e,Ib];by_cases b:c t=c s;· have n:=(w.iff t s k f).1 b;rw[if_pos b,n,h.len];grind[absurd,Av,JF,GG]
  ·have n:Av l (t:Nat)≠Av l (s:Nat):=λo=>b ((w.iff t s k f).2 o);rw[if_neg b];refine⟨λd=>?_,λd=>(h.map t k).2 λo=>d (by simp[o])⟩;have j:Av l (t:Nat)∈kn:=by
    rcases AS.1 d with d|d;· exact d
    ·simp at d;exact absurd d n
   rw[MU j];exact(h.map t k).1 j
theorem QJ(L:Bf l)(h0:0<l.length)(hc:Bs cs)(hf:DO cs l)(Q:Xd l c)(hl:l.length<=n)(hn:n<4294967296)(hfu:n+2<fu)(Z:256<fu):
  Ok (F48 fu (FM l cs (Bh (Cl l) c))) (λr=>r.1=BW l):=by
 have hN:Cl l=l.length+1:=rfl;have hcl:=hc.le;rw[F48];refine OH (gR L hc hf Q hl hn hfu Z) λlv H=>?_;obtain⟨f,rfl,Y⟩:=H;have I:=λs hs=>Q.toClsB.nat (s:=s) hs;have e0:idx (FM l cs (Bh (Cl l) c)).2.2.2 0=Ac (c 0):=by grind[FM,AV]
 refine BY e0 (BY (a:=f (c 0).toNat) (by grind[AV]) ?_);rw[Y 0 (by omega)];have O:Av l ((0:Nat):Int)=Av l 0:=rfl;refine P3 (λh=>MP ?_) λh=>?_
 ·grind[live,Av,BW,Eu]
 have H:live (Av l 0)=Bp:=by grind
 have hcr:=Q.rg 0 (by omega);refine BY e0 (Aao (PK (by simp) ?_));have S:=(KO.nil l c).put L Q (s:=0) h0 (by simp) H;refine XD (X:=List (Int×Int)×List Int×Tb×Nat) (λx=> ∃u F,KO l c u x.2.1 x.1/\x.2.2.2=x.2.2.1.length/\x.2.2.1.length<=u.length/\l.length<F+x.2.2.1.length/\DK F u x.2.2.1=BW l) (λx=>l.length+1-x.2.2.2)
  ⟨[Av l 0],l.length+1,S,rfl,by simp,by simp,by unfold BW Eu;rw[if_pos H]⟩ (by omega) λx nx hI _ hnx=>?_;obtain⟨m,P,out,k⟩:=x;obtain⟨u,F,v,hkl,hol,hF,M⟩:=hI;dsimp only at v hkl hol hF M;subst hkl;have hkn:u.length<=l.length:=by have:=v.toKnOk.le;rw[Fp]at this;exact this
 have hlen:=v.len;try dsimp only
 refine Ob (λhlt=>?_) λhlt=>MP ?_
 ·have hko:out.length<P.length:=by omega
  obtain⟨⟨hq0,hq1⟩,hK⟩:=v.ord out.length _ (IS hko);generalize hqe:P[out.length]=q at hq0 hq1 hK;obtain⟨t,rfl⟩:∃t:Nat,q=t:=⟨q.toNat,by omega⟩;have hqN:t<Cl l:=by omega
  have e1:idx P (out.length:Int)=Ac (t:Int):=by rw[Bk hko,hqe]
  obtain⟨F,rfl⟩:∃F',F=F'+1:=⟨F-1,by omega⟩;have T:=Aai hK;refine BY e1 (BY (by exact AV hqN) (BY e1 (BY (by exact AV hqN) ?_)));have hrow:=λi G=>ET (H9 L) (v.sub _ T) v.toKnOk (pos cs i) G;refine av (λi m' o es=>o.length=(AL (Av l (t:Nat)) u (pos cs i)).1.length/\es=(AL (Av l (t:Nat)) u (pos cs i)).2/\es.length<=i/\KO l c (AL (Av l (t:Nat)) u (pos cs i)).1 o m') cs.length
   (by rw[RM hc];exact⟨hlen,rfl,by simp,v⟩) (by omega) (λi m' o es nx' G hJ C=>?_) (λm' o es nx' hJ=>?_)
  ·obtain⟨A,rfl,W,d⟩:=hJ;have hpl:=PR hc i;obtain⟨g1,g2,g3⟩:=hrow i hpl;have hr:=Gd L cs t i;obtain⟨g,htn⟩:∃g:Nat,G4 l cs t i=g:=⟨(G4 l cs t i).toNat,by omega⟩;have y:g<Cl l:=by omega
   have V:=I g y;have hpa:=pos_at hc G;have hps:=RN hc G;have hhi:=hc.hi G;have hD:∀b,pos cs i<=b->b<=(G5 cs i).toNat->IA (Av l (t:Nat)) b=Av l (g:Nat):=λb b1 b2=>by rw[JA L hc hf t G (by omega) (by omega) (by omega),<-OB L hc t G,htn]
   have E:AL (Av l (t:Nat)) u (pos cs (i+1))=Dc (AL (Av l (t:Nat)) u (pos cs i)) (Av l (g:Nat)) (pos cs i) (G5 cs i).toNat:=by rw[show pos cs (i+1)=(G5 cs i).toNat+1 by omega];exact H4 _ _ _ _ _ (by omega) hD
   try dsimp only
   refine T3 (by unfold ay;rw[Az];omega) (BY (a:=(g:Int)) (by rw[<-htn];exact AV G) (BY (a:=c g) (by exact AV y) (BY (a:=f (c g).toNat) (by rw[<-V.2];exact AV V.1) ?_)));rw[Y g y];refine P3 (λz=>C _ _ _ ?_) λj=>?_
   ·have z:live (Av l (g:Nat))=Aj:=by cases N:live (Av l (g:Nat))<;>simp[N]at z⊢
    have e:AL (Av l (t:Nat)) u (pos cs (i+1))=AL (Av l (t:Nat)) u (pos cs i):=by rw[E];unfold Dc;rw[z];rfl
    rw[e];exact⟨A,rfl,by omega,d⟩
   ·have j:live (Av l (g:Nat))=Bp:=by cases N:live (Av l (g:Nat))<;>simp[N]at j⊢
    have htl:g<l.length:=by
     rcases Aam g l.length with h1|h1;· exact h1
     ·obtain rfl:g=l.length:=by omega
      rw[XW]at j;cases j
    have hst:AL (Av l (t:Nat)) u (pos cs (i+1))=(IZ (AL (Av l (t:Nat)) u (pos cs i)).1 (Av l (g:Nat)),push (AL (Av l (t:Nat)) u (pos cs i)).2 cs[i] (G5 cs i) (Ip (AL (Av l (t:Nat)) u (pos cs i)).1 (Av l (g:Nat)):Nat)):=by rw[E];unfold Dc;rw[if_pos j,hpa,Abd (by omega)]
    have B:GK.DW (c g):=by unfold GK.DW;omega
    have hkl':=g2.le;rw[Fp]at hkl';have hpush:=RJ (AL (Av l (t:Nat)) u (pos cs i)).2 cs[i] (G5 cs i) (Ip (AL (Av l (t:Nat)) u (pos cs i)).1 (Av l (g:Nat)):Nat);refine PK (p:=GK.DW (c g)) B (P3 (λJ=>?_) λK=>?_)
    ·have hnm:Av l (g:Nat)∉(AL (Av l (t:Nat)) u (pos cs i)).1:=λR=>by
      rw[(d.map g y).1 R]at J;simp at J
     have D:=d.put L Q htl hnm j;have hix:=GG hnm;have hmem:=LP (AL (Av l (t:Nat)) u (pos cs i)).1 (Av l (g:Nat));refine PK (p:=GK.DW (c g)) B (PK (by rw[d.wI];omega) (PK (by unfold Ai;omega) ?_));refine bu hc G g3.1 (by omega) B (((D.map g y).1 hmem).trans (by rw[JF])) (C _ _ _ ?_);rw[hst];exact⟨by rw[D.len],rfl,by omega,D⟩
    ·have R:Av l (g:Nat)∈(AL (Av l (t:Nat)) u (pos cs i)).1:=GB λR=>by
      rw[(d.map g y).2 R]at K;simp at K
     refine bu hc G g3.1 (by omega) B ((d.map g y).1 R) (C _ _ _ ?_);rw[hst,GF R];exact⟨A,rf,by omega,d⟩
  ·obtain⟨A,rfl,W,d⟩:=hJ;rw[VV]at A d⊢;obtain⟨g1,g2,g3⟩:=ET (H9 L) (v.sub _ T) v.toKnOk 256 (Aac _);have:=g1.len;try dsimp only
   refine Qh (by unfold ay;rw[Az];omega) (PK (by(try simp)<;>(unfold Ai;omega)) (hnx _ ⟨(AL (Av l (t:Nat)) u 256).1,F,d,by simp,by simp;omega,by simp;omega,?_⟩ ?_))
   ·rw[<-M];dsimp only;conv=>rhs;unfold DK
    rw[hK];dsimp only;rw[P4]
   ·dsimp only;omega
 ·have hno:u[out.length]?=C7:=Acz (by omega);rw[<-M];cases F with
  |zero=>rfl
  |succ F=>unfold DK;rw[hno]
theorem MK(k:N6 l)(i:DT l n)(g:n<4294967296)(f:n+2<fu)(a:256<fu):
  Ok (oa fu l) (λr=>(Bf l->r=(BW l,0))/\(¬Bf l->r=([],11))):=by
 rw[oa];refine OH (Ea k i (by omega) g) λx e=>P3 (λh=>MP ?_) λh=>?_
 ·grind
 ·have d:Bf l:=e.1 (by grind);refine Ob (λh=>MP ⟨λ_=>?_,λb=>absurd d b⟩) λh=>?_;· obtain rfl:l=[]:=OF.1 (by omega);grind[live,Av,BW,Eu,CW,Ed]
  ·refine OH (S3 d i g (by omega) a) λx e=>?_;obtain⟨o,hc,j,rfl⟩:=e;refine OH (XG d (by omega) hc j i.1 g f a) λx e=>?_;obtain⟨c,m,rfl⟩:=e;refine OH (QJ d (by omega) hc j m i.1 g f a) λx e=>MP ⟨λ_=>?_,λb=>absurd d b⟩;rw[e]
theorem L_(f:N6 l)(d:DT l n)(g:n<4294967296)(c:n+2<fu)(a:256<fu):
  Ok (vG fu l) (λr=>r=Bp↔Bf l/\BW l=l):=by
 rw[vG];refine OH (MK f d g c a) λx e=>?_;by_cases b:Bf l;· rw[e.1 b];refine T3 rfl (OH (KQ d (by omega)) λr i=>MP ?_);grind
 simp_all[absurd,Qh,MP]
theorem Bf.by(h:Bf l):N6 l:=λs b e a=>by have:=(h s b).rg e a;omega
theorem BR.len(h:BR es m n):es.length<=m:=by
 have f:(es.map λe=>e.1.toNat).Nodup:=by refine Adn.2 ?_;refine Agb (λ{a b} g j i=>?_) h.so;have:=h.rg a g;omega
 have:=Ch (b:=a_ m) f (λx k=>by obtain⟨c,hc,rfl⟩:=By.1 k;have:=h.rg c hc;grind);grind
theorem Bf.sh(h:Bf l)(a:l.length<=n)(b:256<=n):DT l n:=⟨a,λs c=>by have:=(h s c).len;omega⟩
theorem GA(K:Lg)(kn:List Lg)(lo:Nat):∀n,(∀b,lo<=b->b<lo+n->live (IA K b)=Aj)->AL K kn (lo+n)=AL K kn lo
 |0,_=>rfl
 |n+1,h=>by rw[<-Adt,Mw,GA K kn lo n λb a c=>h b a (by omega)];grind[Dc]
theorem Mv(K:Lg)(kn:List Lg):AL K kn 0=(kn,[]):=rfl
theorem XC(K D:Lg)(kn:List Lg)(lo hi:Nat)(h1:lo<=hi)(h2:hi<256)(d:∀b,b<256->b<lo\/hi<b->live (IA K b)=Aj)(f:∀b,lo<=b->b<=hi->IA K b=D)(g:live D=Bp):
  AL K kn 256=(IZ kn D,[((lo:Int),(hi:Int),((Ip kn D:Nat):Int))]):=by
 have a:AL K kn (0+lo)=AL K kn 0:=GA K kn 0 lo λb _ h=>d b (by omega) (.inl (by omega));have e:AL K kn (hi+1)=Dc (AL K kn lo) D lo hi:=H4 K kn D lo hi h1 f;have c:AL K kn (hi+1+(255-hi))=AL K kn (hi+1):=GA K kn (hi+1) (255-hi) λb i j=>d b (by omega) (.inr (by omega));rw[show hi+1+(255-hi)=256 by omega]at c;rw[Abm,Mv]at a;rw[c,e,a];unfold Dc;rw[if_pos g];rfl
theorem Ud(K:Lg)(kn:List Lg)(a:∀b,b<256->live (IA K b)=Aj):AL K kn 256=(kn,[]):=by have:=GA K kn 0 256 λb _ h=>a b (by omega);trivial
def single(w:List UInt8):Lg:=λv=>Di (v=w)
theorem K7(w:List UInt8):live (single w)=Bp:=Jx (w:=w) (by simp[single])
theorem T_{v:List UInt8}(h:single v=single w):v=w:=by have:=congrFun h v;grind[single]
theorem ofNat_eq{b:Nat}(a:b<256)(c:UInt8):UInt8.ofNat b=c↔b=c.toNat:=by
 constructor;· rintro rfl;simp;omega
 simp_all
theorem IK{b:Nat}(a:b<256)(c:UInt8)(w:List UInt8):IA (single (c::w)) b=if b=c.toNat then single w else λ_=>Aj:=by grind[IA,single,List.cons.injEq,ofNat_eq]
theorem Mq(b:Nat):IA (single []) b=λ_=>Aj:=by rfl
theorem H8:live (λ_=>Aj)=Aj:=CW.2 λ_=>rfl
def UC(s:List UInt8)(k:Nat):List Lg:=Bh k λj=>single (s.drop j)
theorem Vv(s:List UInt8):∀(d k fu:Nat),k+d=s.length->d+1<=fu->DK fu (UC s (k+1)) (CI s k)=Bv s
 |0,k,fu+1,t,_=>by
  obtain rfl:k=s.length:=by omega
  have j:(CI s s.length).length=s.length:=by simp[CI]
  have g:(UC s (s.length+1))[(CI s s.length).length]?=Ac (single []):=by grind[UC,Jf]
  unfold DK;rw[g];dsimp only;rw[Ud _ _ λb q=>by grind[Mq,H8]];have e:CI s s.length++[(single [] [],[])]=Bv s:=by simp[CI,Bv,single]
  rw[e];cases fu with
  |zero=>rfl
  |succ fu=>
   grind[DK,UC,Bv,List.getElem?_eq_none,Az]
 |d+1,k,fu+1,t,x=>by
  have l:k<s.length:=by omega
  have j:(CI s k).length=k:=by simp[CI];omega
  have g:(UC s (k+1))[(CI s k).length]?=Ac (single (s.drop k)):=by rw[j];unfold UC;rw[Jf (by omega)]
  have c:s.drop k=s[k]::s.drop (k+1):=Aak l;have m:single (s.drop (k+1))∉UC s (k+1):=λu=>by obtain⟨i,y,r⟩:=EG.1 u;have:=congrArg EW (T_ r);simp at this;omega
  have n:=XC (single (s.drop k)) (single (s.drop (k+1))) (UC s (k+1)) s[k].toNat s[k].toNat (Aac _) s[k].toNat_lt
   (λb q h=>by rw[c,IK q,if_neg (by omega)];exact H8)
   (λb v w=>by have:=s[k].toNat_lt;rw[c,IK (by omega),if_pos (by omega)]) (K7 _);have o:Ip (UC s (k+1)) (single (s.drop (k+1)))=k+1:=by rw[GG m];unfold UC;rw[Az]
  have p:IZ (UC s (k+1)) (single (s.drop (k+1)))=UC s (k+2):=by unfold IZ;rw[if_pos (GG m)];unfold UC;rw[Dg (k+1)]
  unfold DK;rw[g];dsimp only;rw[n,p,o];have e:CI s k++[(single (s.drop k) [],[((s[k].toNat:Int),(s[k].toNat:Int),((k+1:Nat):Int))])]=CI s (k+1):=by rw[K1 l,c];simp[single,K2,l]
  rw[e];exact Vv s d (k+1) fu (by omega) (by omega)
theorem Zs(s:List UInt8){fu:Nat}(a:s.length+1<=fu):Eu fu (single s)=Bv s:=by unfold Eu;rw[if_pos (K7 s)];have:=Vv s s.length 0 fu (by omega) a;trivial
theorem Zr(s:List UInt8):uZ (UC s (s.length+1)):=by
 intro K d b e a;obtain⟨i,f,rfl⟩:=EG.1 d;rcases Aam i s.length with h|h
 ·rw[Aak h,IK e]at a⊢;split at a;· rename_i c;rw[if_pos c];exact EG.2 ⟨i+1,by omega,rfl⟩
  grind[H8]
 grind[List.drop_of_length_le,Mq,H8]
theorem TZ(s:List UInt8):Bf (Bv s)/\Av (Bv s) 0=single s:=by have:=WU (Zr s) (L:=single s) (λ_=>EG.2 ⟨0,by omega,rfl⟩) (fu:=s.length+2) (by grind[UC,Az]);grind[Zs]
def KT:Tb:=[(Bp,[(0,255,0)])]
theorem sM:Bf KT:=by intro s a;simp[KT]at a;subst a;exact⟨by trivial,by simp⟩
theorem dG:Av KT 0=λ_=>Bp:=by
 funext w;induction w with
 |nil=>rfl
 |cons c w b=>
  have:Bl KT 0 c.toNat=0:=by have:=c.toNat_lt;grind[Bl,Be,KT,AP,BN]
  show Av KT (Bl KT 0 c.toNat) w=Bp;grind
theorem dH:BW KT=KT:=by
 unfold BW;rw[dG];have c:live (λ_=>Bp)=Bp:=Jx (w:=[]) rfl;have a:AL (λ_=>Bp) [λ_=>Bp] 256=Dc (AL (λ_=>Bp) [λ_=>Bp] 0) (λ_=>Bp) 0 255:=H4 _ _ _ 0 255 (by simp) λb _ _=>rfl;have f:Ip [λ_=>Bp] (λ_=>Bp)=0:=by have:=hU (kn:=[λ_=>Bp]) (by simp) (i:=0) (by simp);simpa using this
 have d:IZ [λ_=>Bp] (λ_=>Bp)=[λ_=>Bp]:=GF (by simp);have e:AL (λ_=>Bp) [λ_=>Bp] 256=([λ_=>Bp],[(0,255,0)]):=by rw[a,Mv];unfold Dc;rw[if_pos c];rw[d,f];rfl
 show Eu 2 _=_;unfold Eu;rw[if_pos c];unfold DK;simp only[Adq,Alm];rw[e];rfl
theorem LJ{b:Nat}{i:Int}(w:DT l n)(x:n<fu)(h1:i<l.length):Ok (uI fu (l,i,(b:Int))) (λr=>r=Bl l i b):=by
 refine Ob (λh=>MP (by grind[Jh])) λh=>Adg (by omega) h1 ?_;have v:=Bt (by omega) h1;have p:Bl l i b=AP (l[i.toNat]'(by omega)).2 b:=by grind[Bl]
 rw[p];have o:=w.2 _ (AN (by omega:i.toNat<l.length));generalize l[i.toNat]'(by omega)=s at o;refine V_ (λk=> ∀j (_:j<k) (q:j<s.2.length),BN b s.2[j]=Aj) s.2.length (by omega) (by omega) (λk nx t e u=>?_) (λnx e=>?_)
 ·have d:BN b s.2[k]=Aj->∀j (_:j<k+1) (q:j<s.2.length),BN b s.2[j]=Aj:=λh j q m=>by
   grind
  refine P7 (Aah t (Ob (λc=>Ob (λg=>MP ?_) λg=>u (d ?_)) λc=>u (d ?_)));· exact(Ha t (by simp[BN,c,g]) λi f=>e i f (by omega)).symm
  all_goals grind[BN]
 simp_all[P8,MP,Gv]
theorem og(fu:Nat)(l:Tb):F9 fu l=x_ fu l:=rfl
theorem Tz{s:Aq}(A:N6 l)(o:DT l n)(m:n<fu)(E:n<4294967296)(C:s.length<fu)(D:s.length<4294967296):Ok (eD fu (l,s)) (λr=>r=I6 l s):=by
 rw[eD];rw[og];refine OH (Ea A o m E) λx t=>P3 (λh=>MP ?_) λh=>Ob (λh=>MP ?_) λG=>?_;· refine(TA (λf=>?_) s).symm;have:=t.2 f;subst this;cases h
 ·obtain rfl:l=[]:=OF.1 (by omega);rw[L3 (by simp[Bf]),Ed]
 have f:Bf l:=t.1 (by cases x;cases h;rfl);rw[L3 f];refine XD (X:=Int×Int) (λp=>p.1<l.length/\(0<=p.2/\p.2<=s.length)/\runT l 0 s=runT l p.1 (s.drop p.2.toNat)) (λp=>s.length-p.2.toNat) ⟨by(try simp only);omega,⟨by decide,by(try simp only);omega⟩,rfl⟩ (by simpa using C) λp nx w _ j=>?_;obtain⟨q,i⟩:=p;obtain⟨e,⟨u,v⟩,c⟩:=w;simp only at e u v c;try dsimp only
 refine Ob (λB=>?_) λB=>?_
 ·have b:i.toNat<s.length:=by omega
  have g:i=((i.toNat:Nat):Int):=by omega
  have y:∀ {k:Int->Option Bool} {P},Ok (k (((s[i.toNat]'b).toNat:Nat):Int)) P->Ok (Ab (Ez s i) k) P:=λh=>by rw[g];exact ZE b h
  refine y (OH (LJ o m e) λa z=>PK (by unfold GK.DW;omega) ?_);subst z;have F:=f.st q (s[i.toNat]'b).toNat;refine j (_,i+1) ⟨by(try simp only);omega,⟨by(try simp only);omega,by(try simp only);omega⟩,?_⟩ (by(try simp only);omega);try simp only
  rw[c,show(i+1).toNat=i.toNat+1 by omega,<-H0,Aak b]
 ·have b:i.toNat=s.length:=by omega
  rw[b,Aax (Aac _)]at c;refine Ob (λd=>Adg d e (MP ?_)) λd=>MP ?_;· unfold Av;rw[c];exact(Ef d e).symm
  ·unfold Av;rw[c];unfold fin runT;simp[d]
theorem T6(fu:Nat)(l:Tb):F13 fu l=F38 fu l:=by rfl
def alB(fu k:Nat)(nx:(List Bool×Nat)->Option (List Bool))(x:TX)(o:List Bool)(j:Nat)(a:(List Bool×Nat)->Option (List Bool)):Option (List Bool):=bif Di ((↑j:Int)<(↑(EW x.2):Int))then Ab (idx x.2 (↑j:Int)) λb=>Ab (idx o (↑k:Int)) λc=>bif c then Ab (idx o (↑k:Int)) λe=>a (o.set k Bp,j+1)else Ab (idx o b.2.2) λd=>Ab (idx o (↑k:Int)) λf=>a (o.set k d,j+1)else nx (o,k+1)
def Ar(l:Tb)(f:Nat->Bool)(s:Nat):Prop:= ∃st,l[s]?=Ac st/\(st.1=Bp\/∃e∈st.2,f e.2.2.toNat=Bp)
def GP(l:Tb)(f:Nat->Bool):Prop:= ∀s,s<l.length->Ar l f s->f s=Bp
def NA(l:Tb)(f:Nat->Bool):Prop:= ∀s,s<l.length->f s=Bp->live (Av l (s:Nat))=Bp
theorem Ar.mono(k:Bf l)(a:∀j,j<l.length->f j=Bp->g j=Bp)(h:Ar l f s):Ar l g s:=by obtain⟨st,b,d⟩:=h;refine⟨st,b,d.imp id λ⟨e,c,i⟩=>⟨e,c,a _ ?_ i⟩⟩;have:=(k st (Aai b)).rg e c;omega
theorem Oi{es:List Cm}{m n:Nat}(h:BR es m n){e:Cm}(a:e∈es):AP es e.1.toNat=e.2.2:=by obtain⟨i,b,rfl⟩:=Aat a;have g:=h.rg _ a;refine Ha b (by grind[BN]) λj c=>?_;have d:=Aaw.1 h.so j i (by omega) b c;grind[BN]
theorem Ar.live(o:Bf l)(k:NA l f)(h:Ar l f s):live (Av l (s:Nat))=Bp:=by
 obtain⟨st,c,d⟩:=h;have a:Be l (s:Nat)=st:=by grind[Be]
 have i:=o st (Aai c);rcases d with d|⟨e,j,m⟩;· exact Jx (w:=[]) (by grind[Av,runT,fin])
 ·have n:=i.rg e j;have g:=k _ (by omega) m;refine R7 (b:=e.1.toNat) ?_;rw[Fv _ _ _ (by omega)];have:Bl l (s:Nat) e.1.toNat=e.2.2:=by unfold Bl;grind[Oi]
  grind
theorem GP.all{l:Tb}{f:Nat->Bool}(m:Bf l)(h:GP l f):∀(w:List UInt8) (s:Nat),s<l.length->Av l (s:Nat) w=Bp->f s=Bp
 | [],s,c,a=>by refine h s c ⟨l[s],IS c, .inl ?_⟩;grind[Av,runT,fin,Be]
 |b::w,s,c,a=>by
  have g:Be l (s:Nat)=l[s]:=Bt (by omega) (by omega);have e:Av l (s:Nat) (b::w)=Av l (Bl l (s:Nat) b.toNat) w:=rfl;rw[e]at a;have k:Bl l (s:Nat) b.toNat=AP l[s].2 b.toNat:=by grind[Bl]
  rw[k]at a;unfold AP at a;cases j:l[s].2.find? (BN b.toNat)with
  |none=>grind[Ee]
  |some e=>
   have d:=Aca j;have n:=(m _ (AN c)).rg e d;refine h s c ⟨l[s],IS c, .inr ⟨e,d,?_⟩⟩;refine GP.all m h w e.2.2.toNat (by omega) ?_;grind
theorem J6{k:Nat}(I:Bf l)(H:DT l n)(J:n<fu)(v:k<l.length){P:List Bool->Prop}{nx:(List Bool×Nat)->Option (List Bool)}
  (b:(Nat->((List Bool)×Nat->Option (List Bool))->List Bool->Nat->((List Bool)×Nat->Option (List Bool))->Option (List Bool)))
  (C:∀y o j f,b k y o j f=alB fu k y l[k] o j f)
  (F:∀m,(∀j,j<l.length->m j=if j=k then(g k||l[k].2.any λe=>g e.2.2.toNat)else g j)->Ok (nx (Bh l.length m,k+1)) P):
  Ok (Ad fu (λp f=>b k nx p.1 p.2 f) (Bh l.length g,0)) P:=by
 have D:=I _ (AN v);refine SE (λj o=> ∃m,o=Bh l.length m/\∀i,i<l.length->m i=if i=k then(g k||(l[k].2.take j).any λe=>g e.2.2.toNat)else g i) l[k].2.length ⟨g,rfl,λi _=>by grind⟩ (by have:=H.2 _ (AN v);omega) (λj o f B A w=>?_) (λo f A=>?_)
 ·obtain⟨m,rfl,c⟩:=A;have G:=D.rg _ (AN B)
  rw[C];have q:((l[k].2.take (j+1)).any λe=>g e.2.2.toNat)=(((l[k].2.take j).any λe=>g e.2.2.toNat)||g l[k].2[j].2.2.toNat):=by rw[<-Ack B,Afn];simp
  refine P7 (Aah B (BY (AV v) (P3 (λh=>BY (AV v) (w _ ⟨_,Ba _ _ _ _,λi u=>?_⟩)) λh=>?_)))
  ·grind
  ·have x:l[k].2[j].2.2.toNat<l.length:=by omega
   refine BY (a:=m l[k].2[j].2.2.toNat) (Hu G.2.2.2.1 x) (BY (AV v) (w _ ⟨_,Ba _ _ _ _,λi u=>?_⟩));by_cases d:i=k
   ·subst d;have t:=c i u;rw[h]at t;simp only[if_true]at t⊢;rw[q,<-Bool.or_assoc,<-t,Alk,c _ x]
    all_goals grind
   grind
 ·obtain⟨m,rfl,c⟩:=A;simp_all[alB]
theorem Pn(z:Bf l)(X:DT l n)(hn:n<4294967296)(hf:n<fu):Ok (yx fu l) (λr=>r=Bh l.length λs=>live (Av l (s:Nat))):=by
 have hln:=X.1;rw[yx];refine PK (by grind) ?_;rw[DB];refine SE (λk o=> ∃f,o=Bh l.length f/\NA l f/\(GP l f\/AD l.length f+k<=l.length)) l.length ⟨_,rfl,λs _ h=>(by grind), .inr (by grind[QD])⟩ (by omega) (λk o nx hk C W=>?_) (λo nx C=>?_)
 ·obtain⟨
      f,rfl,Q,P⟩:=C
  refine T3 (by omega) ?_;refine SE (λq o=> ∃g,o=Bh l.length g/\NA l g/\(∀j,j<l.length->f j=Bp->g j=Bp)/\(∀s,s<q->Ar l f s->g s=Bp)/\(GP l f->∀j,j<l.length->g j=f j)) l.length ⟨f,rf,Q,λ_ _ h=>h,λs h=>by omega,λ_ _ _=>rfl⟩ (by omega) (λq o K u C U=>?_) (λo K C=>?_)
  ·obtain⟨
       g,rfl,t,y,O,x⟩:=C
   have B:∀i:Nat->Bool,(∀j,j<l.length->i j=if j=q then(g q||l[q].1)else g j)->∀v,(∀j,j<l.length->v j=if j=q then(i q||l[q].2.any λe=>i e.2.2.toNat)else i j)->Ok (K (Bh l.length v,q+1)) (λr=>r=Bh l.length λs=>live (Av l (s:Nat))):=λi G v L=>by
    have E:∀j,j<l.length->g j=Bp->i j=Bp:=λj b h=>by grind
    have D:NA l i:=λs a h=>by
     rw[G s a]at h;by_cases e:s=q
     ·subst e;rw[if_pos rfl]at h;cases I:g s;· rw[I,Alk]at h;exact Ar.live z t ⟨l[s],IS a, .inl h⟩
      ·exact t s a I
     ·rw[if_neg e]at h;exact t s a h
    have p:∀j,j<l.length->i j=Bp->v j=Bp:=λj b h=>by grind
    have R:NA l v:=λs a h=>by
     rw[L s a]at h;by_cases e:s=q
     ·subst e;rw[if_pos rfl]at h;cases I:i s;· rw[I,Alk,Aci]at h;obtain⟨e,A,M⟩:=h;exact Ar.live z D ⟨l[s],IS a, .inr ⟨e,A,M⟩⟩
      ·exact D s a I
     ·rw[if_neg e]at h;exact D s a h
    refine U _ ⟨v,rf,R,λj b h=>p j b (E j b (y j b h)),λs hsq m=>?_,λc j b=>?_⟩
    ·by_cases e:s=q
     ·subst e;obtain⟨st,Z,H⟩:=m;rw[IS u]at Z;cases Z;rw[L s u,if_pos rfl];rcases H with H|⟨e,A,H⟩;· grind
      ·have:(l[s].2.any λe=>i e.2.2.toNat)=Bp:=Aci.2 ⟨e,A,E _ (by have:=(z _ (AN u)).rg e A;omega) (y _ (by have:=(z _ (AN u)).rg e A;omega) H)⟩;rw[this];simp
     grind
    ·have J:=x c;have N:∀j,j<l.length->i j=f j:=λj b=>by
      rw[G j b];split
      ·rename_i e;subst e;rw[J j b];cases S:l[j].1;· simp
       ·rw[c j b ⟨l[j],IS b, .inl S⟩];rfl
      ·exact J j b
     rw[L j b];split
     ·rename_i e;subst e;rw[N j b];cases S:l[j].2.any λe=>i e.2.2.toNat;· simp
      ·obtain⟨e,A,M⟩:=Aci.1 S;rw[N _ (by have:=(z _ (AN b)).rg e A;omega)]at M;rw[c j b ⟨l[j],IS b, .inr ⟨e,A,M⟩⟩];rfl
     ·exact N j b
   refine P7 (Aah u (BY (AV u) (P3 (λh=>BY (AV u) ?_) λh=>BY (AV u) ?_)));· rw[Ba];refine J6 z X hf u (λk nx o j F=>alB fu k nx l[q] o j F) (λ_ _ _ _=>rfl) λv p=>B _ (λj b=>?_) v p;by_cases e:j=q<;>simp[e,h]
   ·rw[Ba];refine J6 z X hf u (λk nx o j F=>alB fu k nx l[q] o j F) (λ_ _ _ _=>rfl) λv p=>B _ (λj b=>?_) v p;by_cases e:j=q<;>simp[e,h]
  ·obtain⟨g,rfl,t,y,O,x⟩:=C
   refine P8 (W _ ⟨g,rfl,t,?_⟩);by_cases c:GP l f;· left;intro s a m;rw[x c s a];exact c s a (m.mono z λj b h=>by rw[x c j b]at h;exact h)
   ·have G:=P.resolve_left c;have:∃s,s<l.length/\f s=Aj/\g s=Bp:=GB λV=>c λs a m=>by
     cases d:f s;· exact absurd ⟨s,a,d,O s a m⟩ V
     ·rfl
    have:=QE (n:=l.length) (f:=f) (g:=g) y this;omega
 ·obtain⟨f,rfl,Q,P⟩:=C
  have c:GP l f:=by
   rcases P with h|h;· exact h
   ·intro s a _;cases d:f s;· have:=QE (n:=l.length) (f:=f) (g:=λ_=>Bp) (λ_ _ _=>rfl) ⟨s,a,d,rfl⟩;omega
    ·rfl
  refine P8 (MP (AO λs a=>?_));cases d:f s
  ·cases T:live (Av l (s:Nat));· rfl
   ·obtain⟨w,Y⟩:=Hr.1 T;rw[c.all z w s a Y]at d;cases d
  ·exact(Q s a d).symm
noncomputable def Is(l:Tb)(e:Cm):Bool:=live (Av l e.2.2)
noncomputable def DS(l:Tb):Tb:=l.map λs=>(s.1,s.2.filter (Is l))
theorem Mc(l:Tb):(DS l).length=l.length:=by simp[DS]
theorem BR.filter(h:BR es m n)(p:Cm->Bool):BR (es.filter p) m n:=⟨λe a=>h.rg e (Aaz.1 a).1,h.so.filter _⟩
theorem fB(h:Bf l):Bf (DS l):=λs a=>by obtain⟨t,b,rfl⟩:=By.1 a;rw[Mc];exact(h t b).filter _
theorem SL{p q:Cm->Bool}(l:∀e∈es,∀b∈es,q e=Bp->q b=Bp->e=b):(es.filter p).find? q=match es.find? q with
  |some e=>if p e then Ac e else C7
  |none=>C7:=by
 cases h:es.find? q with
 |none=>
  grind
 |some e=>
  try dsimp only
  by_cases c:p e=Bp;· cases d:(es.filter p).find? q with
   |none=>grind
   |some b=>
    grind
  grind
theorem BR.uniq(h:BR es m n)(b:Nat):∀e∈es,∀c∈es,BN b e=Bp->BN b c=Bp->e=c:=λe o c d k l=>by
 obtain⟨i,f,rfl⟩:=Aat o;obtain⟨j,g,rfl⟩:=Aat d;simp[BN]at k l;rcases Acx i j with a|a|a;· have:=Aaw.1 h.so i j f g a;omega
 ·grind
 ·have:=Aaw.1 h.so j i g f a;omega
theorem Od{l:Tb}(h:Bf l)(q:Int)(b:Nat):Bl (DS l) q b=if live (Av l (Bl l q b))then Bl l q b else-1:=by
 unfold Bl;split;· omega
 ·have a:Be (DS l) q=((Be l q).1,(Be l q).2.filter (Is l)):=by
   grind[Be,DS]
  rw[a]
  unfold AP;have j:∀e∈(Be l q).2,∀f∈(Be l q).2,BN b e=Bp->BN b f=Bp->e=f:=by
   unfold Be;rw[Aae];cases k:l[q.toNat]? with
   |none=>simp
   |some s=>exact(h s (Aai k)).uniq b
  rw[SL j];grind[Be,BN,Is,live,Av]
theorem Pw{l:Tb}(h:Bf l):∀(w:List UInt8) (q:Int),Av (DS l) q w=Av l q w
 | [],q=>by grind[Av,runT,fin,Be,DS]
 |c::w,q=>by
  show Av (DS l) (Bl (DS l) q c.toNat) w=Av l (Bl l q c.toNat) w;rw[Od h];split;· exact Pw h w _
  grind[live,Av,Bl,CW,Ee]
theorem fC(h:DT l n):DT (DS l) n:=⟨by rw[Mc];exact h.1,λs a=>by obtain⟨t,b,rfl⟩:=By.1 a;have:=h.2 t b;grind⟩
theorem Rd(y:Bf l)(t:DT l n)(B:n<4294967296)(z:n<fu):Ok (F12 fu l) (λr=>r=DS l):=by
 have A:=t.1;rw[F12];refine OH (Pn y t B z) λx f=>?_;subst f;refine SE (λk o=>o=(l.take k).map λs=>(s.1,s.2.filter (Is l))) l.length (by simp) (by omega) (λk o nx p i q=>?_) (λo nx i=>?_)
 ·subst i
  have v:=AN p;have C:=t.2 _ v;refine P7 (Aah p ?_);refine SE (λj x=>x=(l[k].2.take j).filter (Is l)) l[k].2.length (by simp) (by omega) (λj x u m f c=>?_) (λx u f=>?_)
  ·try dsimp only
   have w:=(y _ v).rg _ (AN m);have d:(l[k].2.take (j+1)).filter (Is l)=(l[k].2.take j).filter (Is l)++(if Is l l[k].2[j]then [l[k].2[j]]else []):=by rw[<-Ack m,Afu];simp[Afg]
   have e:Is l l[k].2[j]=live (Av l ((l[k].2[j].2.2.toNat:Nat):Int)):=by unfold Is;rw[Abd w.2.2.2.1]
   refine P7 (Aah m (BY (Hu w.2.2.2.1 (by omega)) (P3 (λh=>PK ?_ (c _ ?_)) λh=>c _ ?_)));all_goals grind
  ·subst f
   refine P8 (PK ?_ (q _ ?_));· simp only[Aaq,Abh,Abo,Adq];unfold Ai;omega
   ·rw[Al,<-Ack p,Aap];rfl
 ·subst i
  exact P8 (MP (by rw[Al];rfl))
structure Ren(l:Tb)(ord:List Int):Prop where
 nd:ord.Nodup
 rg:∀q∈ord,0<=q/\q<l.length
def MB(a:List Int)(e:Cm):Cm:=(e.1,e.2.1,((a.idxOf e.2.2:Nat):Int))
def Pq(l:Tb)(a:List Int)(q:Int)(s:TX):Prop:=s.1=(Be l q).1/\s.2=(Be l q).2.map (MB a)/\∀e∈(Be l q).2,e.2.2∈a
theorem oQ{d:Tb}(G:Bf l)(r:Ren l a)(I:d.length=a.length)(v:∀(k:Nat) (q:Int) (s:TX),a[k]?=Ac q->d[k]?=Ac s->Pq l a q s):
  Bf d/\∀(w:List UInt8) (k:Nat) (q:Int),a[k]?=Ac q->Av d (k:Nat) w=Av l q w:=by
 have g:∀(k:Nat) (q:Int),a[k]?=Ac q->Pq l a q (Be d (k:Nat)):=λk q f=>by grind[Be,EW]
 have A:∀q∈a,BR (Be l q).2 256 l.length:=λq n=>by have:=r.rg q n;rw[Bt this.1 this.2];exact G _ (AN _)
 refine⟨λs F=>?_,λw=>?_⟩;· obtain⟨k,f,rfl⟩:=Aat F;have n:a[k]?=Ac a[k]:=IS (by omega);obtain⟨z,o,p⟩:=v k _ _ n (IS f);have i:=A _ (Aai n);rw[o];refine⟨λe B=>?_,Adn.2 i.so⟩;obtain⟨t,j,rfl⟩:=By.1 B;have E:=i.rg t j;grind[MB]
 ·induction w with
  |nil=>
   intro k q f;have u:=r.rg q (Aai f);have:=(g k q f).1;grind[Av,runT,fin]
  |cons c w H=>
   intro k q f;have u:=r.rg q (Aai f);obtain⟨z,o,p⟩:=g k q f;show Av d (Bl d (k:Nat) c.toNat) w=Av l (Bl l q c.toNat) w;have x:Bl d (k:Nat) c.toNat=AP ((Be l q).2.map (MB a)) c.toNat:=by grind[Bl]
   have y:Bl l q c.toNat=AP (Be l q).2 c.toNat:=by unfold Bl;rw[if_neg (by omega)]
   rw[x,y];unfold AP;have m:((Be l q).2.map (MB a)).find? (BN c.toNat)=((Be l q).2.find? (BN c.toNat)).map (MB a):=by rw[List.find?_map];rfl
   rw[m];cases C:(Be l q).2.find? (BN c.toNat)with
   |none=>dsimp only[Option.map];rw[Ee (by decide),Ee (by decide)]
   |some e=>
    have D:=p e (Aca C);have h:=Ads D;exact H _ _ (by rw[IS h,Aer h])
theorem Sv(h1:∀j (_:j<i) (f:j<a.length),a[j]≠x)(h2:i<=a.length)(h3:∀h:i<a.length,a[i]=x):a.idxOf x=i:=by
 rcases Aam i a.length with h|h
 ·have d:x∈a:=h3 h▸AN h;have c:=Ads d;have g:=Aer c;rcases Acx (a.idxOf x) i with b|b|b;all_goals simp_all[absurd,List.idxOf]
 grind
def ME(a:List Int)(x:Int):List Int:=if x∈a then a else a++[x]
theorem Z6(a:List Int)(x:Int):x∈ME a x:=by grind[ME]
theorem gh(a:List Int)(x:Int):(ME a x).idxOf x=a.idxOf x:=by grind[ME]
def FT(a b:List Int):Prop:= ∃m,b=a++m
theorem FT.refl(a:List Int):FT a a:=⟨[],by simp⟩
theorem FT.trans{c:List Int}(h:FT a b)(k:FT b c):FT a c:=by obtain⟨x,rfl⟩:=h;obtain⟨y,rfl⟩:=k;exact⟨x++y,by simp⟩
theorem FT.put(a:List Int)(x:Int):FT a (ME a x):=by unfold ME;split;exact .refl a;exact⟨[x],rfl⟩
theorem FT.mem(h:FT a b)(c:x∈a):x∈b:=by obtain⟨m,rfl⟩:=h;grind
theorem FT.ix(h:FT a b)(c:x∈a):b.idxOf x=a.idxOf x:=by obtain⟨m,rfl⟩:=h;grind
theorem FT.get(h:FT a b)(c:a[i]?=Ac x):b[i]?=Ac x:=by obtain⟨m,rfl⟩:=h;grind
theorem FT.len(h:FT a b):a.length<=b.length:=by obtain⟨m,rfl⟩:=h;simp
theorem Pq.ext{s:TX}(h:Pq l a q s)(f:FT a b):Pq l b q s:=by obtain⟨g,i,d⟩:=h;refine⟨g,?_,λe c=>f.mem (d e c)⟩;rw[i];refine Abr λe c=>?_;simp only[MB,f.ix (d e c)]
theorem Ren.put(h:Ren l d)(h0:0<=x)(h1:x<l.length):Ren l (ME d x):=by
 unfold ME;split;· omega
 ·refine⟨Acq.2 ⟨h.nd,by simp,λa f b e=>?_⟩,λq c=>?_⟩;· grind
  ·rcases AS.1 c with c|c;· exact h.rg q c
   grind
theorem Ren.le{c:List Int}(h:Ren l c):c.length<=l.length:=by
 have e:(c.map aC).Nodup:=by refine Adn.2 (Agb (λ{a b} f i g=>?_) h.nd);have:=h.rg a f;have:=h.rg b i;omega
 have:=Ch (b:=a_ l.length) e (λx k=>by obtain⟨q,j,rfl⟩:=By.1 k;have:=h.rg q j;grind);grind
theorem RE(hw:Bf l)(h0:0<l.length)(hs:DT l n)(hn:n<4294967296)(hf:n+1<fu):
  Ok (F11 fu l) (λr=>Bf r/\Av r 0=Av l 0/\DT r n/\0<r.length):=by
 have hln:=hs.1;rw[F11];refine XD (X:=List Int×Tb×Nat) (λx=>Ren l x.1/\x.1[0]?=Ac 0/\x.2.2=x.2.1.length/\x.2.1.length<=x.1.length/\∀(k:Nat) (q:Int) (s:TX),x.1[k]?=Ac q->x.2.1[k]?=Ac s->Pq l x.1 q s)
  (λx=>l.length+1-x.2.2) ⟨⟨by simp,by grind⟩,rfl,rfl,by simp,by simp⟩ (by omega) λx nx S _ hnx=>?_;obtain⟨c,out,k⟩:=x;obtain⟨I,P,F,W,d⟩:=S;dsimp only at I P F W d;subst F;have hol:=I.le;try dsimp only
 refine Ob (λY=>?_) λY=>MP ?_
 ·have A:out.length<c.length:=by omega
  have t:=I.rg _ (AN A);have p:=Bt t.1 t.2;have L:Be l c[out.length]∈l:=p▸AN _;have hE:=hw _ L;have hsl:=hs.2 _ L;refine Aah A (Adg t.1 t.2 (Aah A (Adg t.1 t.2 ?_)));rw[<-p];generalize H:Be l c[out.length]=st at L hE hsl;refine XZ (λj o Q=>Ren l o/\FT c o/\Q=(st.2.take j).map (MB o)/\∀e∈st.2.take j,e.2.2∈o) st.2.length ⟨I, .refl _,by simp,by simp⟩ (by omega) (λj o Q N O T Z=>?_) (λo Q N T=>?_)
  ·obtain⟨y,b,rfl,g⟩:=T
   have hr:=hE.rg _ (AN O);have hrl:=y.le;refine P7 (Aah O ?_);have f:Ok (N (ME o st.2[j].2.2,(st.2.take j).map (MB o)++([(st.2[j].1,st.2[j].2.1,((o.idxOf st.2[j].2.2:Nat):Int))]:List (Int×Int×Int)),j+1)) (λr=>Bf r/\Av r 0=Av l 0/\DT r n/\0<r.length):=by
    refine Z _ _ ⟨y.put hr.2.2.2.1 hr.2.2.2.2,b.trans (.put _ _),?_,λe U=>?_⟩
    ·rw[<-Ack O,Aap];congr 1;· refine Abr λe U=>?_;simp only[MB,(FT.put o st.2[j].2.2).ix (g e U)]
     grind[MB,gh]
    ·rcases(Af O).1 U with h|rfl;· exact(FT.put _ _).mem (g e h)
     grind[Z6]
   refine XD (X:=Int) (λi=>(0<=i/\i<=o.length)/\∀q (_:q<i.toNat) (t:q<o.length),o[q]≠st.2[j].2.2) (λi=>o.length-i.toNat) ⟨⟨by simp,by omega⟩,λq h=>by simp at h⟩ (by omega) λi nx2 S _ hn2=>?_;obtain⟨⟨C,NK⟩,G⟩:=S;try dsimp only
   have B:((st.2.take j).map (MB o)).length+([(st.2[j].1,st.2[j].2.1,i)]:List (Int×Int×Int)).length<=Ai:=by simp only[Aaq,Abh,Abo,Adq];unfold Ai;omega
   refine Ob (λhi=>?_) λhi=>?_
   ·have D:i.toNat<o.length:=by omega
    refine Adg C hi (Ob (λhne=>PK (by omega) (hn2 (i+1) ⟨by omega,λq h1 R=>?_⟩ (by omega))) λheq=>?_)
    ·rcases Aam q i.toNat with h3|h3;· exact G q h3 R
     ·obtain rfl:q=i.toNat:=by omega
      exact hne
    ·have heq:o[i.toNat]=st.2[j].2.2:=GB heq;have E:o.idxOf st.2[j].2.2=i.toNat:=Sv G (by omega) λ_=>heq;have z:st.2[j].2.2∈o:=heq▸AN D;refine Qh (by omega) ?_;refine PK B ?_;rw[E,Abd C]at f;unfold ME at f;rw[if_pos z]at f;exact f
   ·have D:i.toNat=o.length:=by omega
    have z:st.2[j].2.2∉o:=λL=>by obtain⟨q,t,e⟩:=Aat L;exact G q (by omega) t e
    have E:o.idxOf st.2[j].2.2=i.toNat:=by rw[List.idxOf_eq_length z,D]
    refine P7 (PK (by(try simp)<;>(unfold Ai;omega)) ?_);refine PK B ?_;rw[E,Abd C]at f;unfold ME at f;rw[if_neg z]at f;exact f
  ·obtain⟨y,b,rfl,g⟩:=T
   rw[Al]at g;have:=b.len;refine P8 (PK (by(try simp)<;>(unfold Ai;omega)) (hnx _ ⟨y,b.get P,by simp,by simp;omega,λk q s F m=>?_⟩ (by dsimp only;omega)));by_cases V:k<out.length
   ·rw[Pe V]at m;have J:c[k]?=Ac c[k]:=IS (by omega);have u:=b.get J;rw[F]at u;obtain rfl:q=c[k]:=by simpa using u
    exact(d k _ s J m).ext b
   ·rw[Aab (by omega)]at m;have K:k=out.length:=by
     have:=(No.1 m).1;simp at this;omega
    subst K;simp at m;subst m;have u:=b.get (IS A);rw[F]at u;obtain rfl:q=c[out.length]:=by simpa using u
    refine⟨by rw[H],by rw[H,Al],by rw[H];exact g⟩
 ·have hl:out.length=c.length:=by omega
  obtain⟨h1,R⟩:=oQ hw I hl d;have hpos:=(No.1 P).1;refine⟨h1,funext λw=>R w 0 0 P,⟨by omega,λs m=>?_⟩,by omega⟩;obtain⟨k,F,rfl⟩:=Aat m;have t:c[k]?=Ac c[k]:=IS (by omega);have p:=(d k _ _ t (IS F)).2.1;have M:=I.rg _ (Aai t);rw[p,Aaq,Bt M.1 M.2];exact hs.2 _ (AN _)
theorem RA(i:a.length<fu):Ok (F15 fu (a,b)) (λr=>r=Bp↔a=b):=by
 refine Ob (λh=>MP ⟨λh=>(by grind),λc=>by grind⟩) λh=>?_;have m:a.length=b.length:=by omega
 refine V_ (λk=> ∀j (_:j<k) (h:j<a.length) (c:j<b.length),a[j]=b[j]) a.length (by omega) i (λk nx l d n=>?_) (λnx d=>?_)
 ·refine P7 (Aah l (Aah (by omega) (Ob (λh=>MP ⟨λh=>(by grind),λc=>by grind⟩) λh=>n λj o f g=>?_)));grind
 ·exact P8 (MP ⟨λ_=>HE m λj h c=>d j h h c,λ_=>rfl⟩)
theorem Sw[BEq α] [LawfulBEq α]{a:List α}{x:α}(h1:∀j (_:j<i) (f:j<a.length),a[j]≠x)(hi:i<a.length)(h3:a[i]=x):a.idxOf x=i:=by have e:x∈a:=h3▸AN hi;have c:=Ads e;have d:=Aer c;rcases Acx (a.idxOf x) i with b|b|b;all_goals simp_all[absurd,List.idxOf]
theorem b6{l:List (List Int)}{x:List Int}(n:l.length<fu)(o:∀y∈l,y.length<=m)(p:m<fu):Ok (F16 fu (l,x)) (λr=>if x∈l then r=(l.idxOf x:Nat)else r= -1):=by
 refine V_ (λk=> ∀j (_:j<k) (h:j<l.length),l[j]≠x) l.length (by omega) n (λk nx c a q=>?_) (λnx a=>?_)
 ·refine P7 (Aah c (OH (RA (by grind)) λr g=>P3 (λh=>MP ?_) λh=>q λj d i=>?_));· have b:=g.1 h;rw[if_pos (b▸AN c),Sw a c b]
  grind
 ·refine P8 (MP ?_);grind
def Trim(l:Tb):Prop:= ∀(q:Int) (b:Nat),0<=Bl l q b->live (Av l (Bl l q b))=Bp
def c5(c:Nat->Int)(t:Int):Int:=if t<0 then t else c t.toNat
def Fe(l:Tb)(cs:List Int)(c:Nat->Int)(s:Nat):List Int:=c s::cs.map λb=>c5 c (Bl l (s:Nat) b.toNat)
structure Cl5B(l:Tb)(c:Nat->Int):Prop where
 rg:∀s,s<l.length->0<=c s
structure Xe(l:Tb)(c:Nat->Int):Prop where
 iff:∀s t,s<l.length->t<l.length->(c s=c t↔Av l (s:Nat)=Av l (t:Nat))
theorem Gf:Fe l cs c s=Fe l cs c t↔c s=c t/\∀b∈cs,c5 c (Bl l (s:Nat) b.toNat)=c5 c (Bl l (t:Nat) b.toNat):=by simp[Fe]
theorem R_{l:Tb}(f:Bf l){cs:List Int}(hc:Bs cs)(n:DO cs l)(c:Nat->Int)(j:Cl5B l c)
  (h1:∀s t,s<l.length->t<l.length->c s=c t->(Be l (s:Nat)).1=(Be l (t:Nat)).1)
  (h2:∀s t,s<l.length->t<l.length->c s=c t->∀b∈cs,c5 c (Bl l (s:Nat) b.toNat)=c5 c (Bl l (t:Nat) b.toNat)):
  ∀(w:List UInt8) (s t:Nat),s<l.length->t<l.length->c s=c t->Av l (s:Nat) w=Av l (t:Nat) w
 | [],s,t,k,m,h=>by grind[Av,runT,fin]
 |b::w,s,t,k,m,h=>by
  obtain⟨i,o,p,r⟩:=hc.find b.toNat b.toNat_lt;have e:∀q:Nat,Av l (q:Nat) (b::w)=Av l (Bl l (q:Nat) cs[i].toNat) w:=λq=>by show Av l (Bl l (q:Nat) b.toNat) w=_;rw[n.const hc f o p r]
  have a:=h2 s t k m h _ (AN o);have u:=f.st (s:Nat) cs[i].toNat;have v:=f.st (t:Nat) cs[i].toNat;rw[e,e];unfold c5 at a;by_cases g:Bl l (s:Nat) cs[i].toNat<0
  ·by_cases d:Bl l (t:Nat) cs[i].toNat<0;· simp_all
   ·have:=j.rg (Bl l (t:Nat) cs[i].toNat).toNat (by omega);omega
  ·by_cases d:Bl l (t:Nat) cs[i].toNat<0;· have:=j.rg (Bl l (s:Nat) cs[i].toNat).toNat (by omega);omega
   ·rw[if_neg g,if_neg d]at a;have:=R_ f hc n c j h1 h2 w _ _ (by omega) (by omega) a;rwa [Abd (by omega),Abd (by omega)]at this
theorem bq(i:Bf l)(ht:Trim l)(hc:Bs cs)(a:∀s t,s<l.length->t<l.length->Av l (s:Nat)=Av l (t:Nat)->c s=c t)(k:s<l.length)(f:t<l.length)(h:Av l (s:Nat)=Av l (t:Nat)):
  Fe l cs c s=Fe l cs c t:=by
 refine Gf.2 ⟨a s t k f h,λb j=>?_⟩;have m:=hc.rg b j;have n:=i.st (s:Nat) b.toNat;have o:=i.st (t:Nat) b.toNat;have e:Av l (Bl l (s:Nat) b.toNat)=Av l (Bl l (t:Nat) b.toNat):=by rw[<-Fv _ _ _ (by omega),<-Fv _ _ _ (by omega),h]
 unfold c5;by_cases g:Bl l (s:Nat) b.toNat<0
 ·by_cases d:Bl l (t:Nat) b.toNat<0;· omega
  ·have:=ht (t:Nat) b.toNat (by omega);grind[Hq]
 ·by_cases d:Bl l (t:Nat) b.toNat<0;· have:=ht (s:Nat) b.toNat (by omega);rw[e,Hq d]at this;cases this
  ·rw[if_neg g,if_neg d];refine a _ _ (by omega) (by omega) ?_;rw[Abd (by omega),Abd (by omega),e]
theorem Gp.inj{f:Nat->α}{u:List α}(h:Gp n f u)(g:n<=u.length):∀s t,s<n->t<n->f s=f t->s=t:=λs t b c a=>by have d:Gp n (λi=>i) (a_ n):=⟨List.nodup_range,λx=>by simp⟩;have:=(h.bZ d (λs t _ _ e=>by rw[e])).2 (by have:=h.le;grind) s t b c a;omega
structure Ref5(l:Tb)(k r:Nat)(c:Nat->Int):Prop extends Cl5B l c where
 fwd:∀s t,s<l.length->t<l.length->Av l (s:Nat)=Av l (t:Nat)->c s=c t
 acc:∀s t,s<l.length->t<l.length->c s=c t->(Be l (s:Nat)).1=(Be l (t:Nat)).1
 AD:k=0\/∃(key:Nat->List Int) (u:List (List Int)),Gp l.length key u/\u.length=k/\∀s t,s<l.length->t<l.length->c s=c t->key s=key t
 rnd:r<=k
theorem Tc(hw:Bf l)(htr:Trim l)(h0:0<l.length)(hc:Bs cs)(hf:DO cs l)(d:DT l n)(hn:n<4294967296)(hfu:n+2<fu)(hfu':257<fu):
  Ok (F17 fu (l,cs)) (λr=> ∃c,Xe l c/\r=Bh l.length c):=by
 have hln:=d.1;have hcl:=hc.le;have G:∀k (K:k<l.length),Be l (k:Nat)=l[k]:=λk K=>Bt (by omega) (by omega);refine PK (by grind) ?_;rw[DB];refine SE (λk x=>x=Bh l.length (λs=>if s<k then(if(Be l (s:Nat)).1 then 1 else 0)else 0)) l.length (by simp) (by omega) (λk x nx K p E=>?_) (λx nx p=>?_)
 ·subst p
  refine P7 (Aah K (P3 (λh=>BY (AV K) (E _ ?_)) λh=>E _ (AO λs d=>?_)))
  ·rw[Ba];grind
  grind
 ·subst p
  refine Qh (by omega) ?_;refine XZ (S:=List Int) (T:=Nat) (λr X k=>k<=l.length/\∃c,X=Bh l.length c/\Ref5 l k r c) l.length ⟨by omega,_,rf,⟨λs d=>?_⟩,λs t d e h=>?_,λs t d e h=>?_, .inl rf,Aac _⟩ (by omega) (λr X k nx' hr f E=>?_) (λX k nx' f=>?_);· omega
  ·have:=congrFun h [];grind[Av,runT,fin]
  ·grind
  ·obtain⟨
       hkl,c,rfl,f⟩:=f
   refine P7 (PK (by grind) ?_);refine XZ (λj y u=>Gp j (Fe l cs c) u/\(∀x∈u,x.length=cs.length+1)/\y=Bh l.length (λs=>if s<j then((u.idxOf (Fe l cs c s):Nat):Int)else 0)) l.length ⟨.zero _,by simp,by simp⟩ (by omega) (λj y u nx2 hj Y P=>?_) (λy u nx2 Y=>?_)
   ·obtain⟨
        D,F,rfl⟩:=Y;have H:=D.le
    refine P7 (BY (AV hj) ?_);refine SE (λi x=>x=c j::(cs.take i).map λb=>c5 c (Bl l (j:Nat) b.toNat)) cs.length (by simp) (by omega) (λi x V hi p hn3=>?_) (λx V p=>?_)
    ·subst p;try dsimp only
     have Z:=hc.rg _ (AN hi);have hst:=hw.st (j:Nat) cs[i].toNat;have z:Ok (Ag ((c j::(cs.take i).map λb=>c5 c (Bl l (j:Nat) b.toNat)).length+1<=Ai) (V ((c j::(cs.take i).map λb=>c5 c (Bl l (j:Nat) b.toNat))++[c5 c (Bl l (j:Nat) cs[i].toNat)],i+1))) (λr=> ∃c,Xe l c/\r=Bh l.length c):=by refine PK (by(try simp)<;>(unfold Ai;omega)) (hn3 _ ?_);rw[<-Ack hi,Aap];rfl
     refine P7 (Aah hi (PK (by omega) (OH (Q:=λr=>r=Bl l (j:Nat) cs[i].toNat) ?_ λa I=>?_)));· have J:=LJ (b:=cs[i].toNat) (i:=(j:Int)) d (by omega:n<fu) (by omega);rwa [Abd Z.1]at J
     ·subst I;refine Ob (λh=>BY (Hu h (by omega)) ?_) λh=>?_;· unfold c5 at z;rw[if_neg (by omega)]at z;exact z
      ·unfold c5 at z;rw[if_pos (by omega)]at z;exact z
    ·subst p;try dsimp only
     rw[Al];refine P8 (OH (b6 (m:=cs.length+1) (by omega) (λy hy=>by rw[F y hy];exact Aac _) (by omega)) λa I=>?_);have O:(c j::cs.map λb=>c5 c (Bl l (j:Nat) b.toNat))=Fe l cs c j:=rfl;rw[O]at I⊢;refine Ob (λh=>?_) λh=>?_
     ·have C:Fe l cs c j∉u:=λhm=>by rw[if_pos hm]at I;omega
      refine PK (by(try simp)<;>(unfold Ai;omega)) ?_;refine BY (AV hj) (P _ _ ⟨D.new C,λx p=>?_,?_⟩)
      ·rcases AS.1 p with p|p;· exact F x p
       ·simp at p;subst p;simp[Fe]
      ·rw[Ba];refine AO λs d=>?_;by_cases A:s=j;· subst A;rw[if_pos rfl,if_pos (by omega),Aex,if_neg C];simp
       ·rw[if_neg A];by_cases g:s<j;· rw[if_pos g,if_pos (by omega),Aex,if_pos ((D.mem _).2 ⟨s,g,rfl⟩)]
        ·rw[if_neg g,if_neg (by omega)]
     ·have C:Fe l cs c j∈u:=GB λhm=>by rw[if_neg hm]at I;omega
      rw[if_pos C]at I;refine BY (AV hj) (P _ _ ⟨D.old C,F,?_⟩);rw[Ba,I];refine AO λs d=>?_;by_cases A:s=j;· subst A;rw[if_pos rfl,if_pos (by omega)]
      ·rw[if_neg A];by_cases g:s<j;· rw[if_pos g,if_pos (by omega)]
       ·rw[if_neg g,if_neg (by omega)]
   ·obtain⟨D,F,rfl⟩:=Y;have H:=D.le;have B:∀s,s<l.length->Fe l cs c s∈u:=λs d=>(D.mem _).2 ⟨s,d,rfl⟩;have hpos:0<u.length:=Agl (B 0 h0);try dsimp only
    have L:Bh l.length (λs=>if s<l.length then((u.idxOf (Fe l cs c s):Nat):Int)else 0)=Bh l.length (λs=>((u.idxOf (Fe l cs c s):Nat):Int)):=
     AO λs d=>by rw[if_pos d]
    rw[L];have o:∀s t,s<l.length->t<l.length->(((u.idxOf (Fe l cs c s):Nat):Int)=((u.idxOf (Fe l cs c t):Nat):Int)↔Fe l cs c s=Fe l cs c t):=λs t d e=>
     ⟨λh=>OS (B s d) (B t e) (Int.ofNat_inj.1 h),λh=>by rw[h]⟩;have N:∀s t,s<l.length->t<l.length->Av l (s:Nat)=Av l (t:Nat)->Fe l cs c s=Fe l cs c t:=λs t d e h=>bq hw htr hc f.fwd d e h;refine P8 (Ob (λh=>MP ⟨λs=>((u.idxOf (Fe l cs c s):Nat):Int),⟨λs t d e=>?_⟩,rfl⟩) λh=>?_)
    ·rw[o s t d e];refine⟨λhe=>?_,N s t d e⟩;have hk':u.length=k:=by omega
     obtain⟨key,v,R,U,q⟩:=f.AD.resolve_left (by omega);have M:=(R.bZ D (λs t d e h=>q s t d e (Gf.1 h).1)).2 (by omega);funext w;exact R_ hw hc hf c f.toCl5B (λs t d e h=>f.acc s t d e h) (λs t d e h=>(Gf.1 (M s t d e (q s t d e h))).2) w s t d e (Gf.1 he).1
    ·have hlt:k<u.length:=by
      rcases f.AD with h0|⟨key,v,R,U,q⟩;· omega
      ·have:=(R.bZ D (λs t d e h=>q s t d e (Gf.1 h).1)).1;omega
     have:=f.rnd;exact E _ _ ⟨H,_,rfl,⟨⟨λs d=>by omega⟩,λs t d e h=>(o s t d e).2 (N s t d e h),λs t d e h=>f.acc s t d e (Gf.1 ((o s t d e).1 h)).1, .inr ⟨Fe l cs c,u,D,rfl,λs t d e h=>(o s t d e).1 h⟩,by omega⟩⟩
  ·obtain⟨hkl,c,rfl,f⟩:=f;try dsimp only
   refine P8 (MP ⟨c,⟨λs t d e=>⟨λh=>?_,f.fwd s t d e⟩⟩,rfl⟩);have:=f.rnd;obtain⟨key,v,R,U,q⟩:=f.AD.resolve_left (by omega);rw[R.inj (by omega) s t d e (q s t d e h)]
theorem OP{D:Lg}(h1:∀j (_:j<i) (e:j<kn.length),kn[j]≠D)(h2:i<=kn.length)(h3:∀h:i<kn.length,kn[i]=D):Ip kn D=i:=by grind[Ip,absurd]
structure vB(l:Tb)(kn:List Lg)(ord:List Int):Prop extends KnOk (qn l) kn where
 len:ord.length=kn.length
 ord:∀(i:Nat) (q:Int),ord[i]?=Ac q->(0<=q/\q<l.length)/\kn[i]?=Ac (Av l q)
theorem vB.put(h:vB l kn a)(h0:0<=q)(h1:q<l.length)(f:live (Av l q)=Bp)(g:Av l q∉kn):vB l (IZ kn (Av l q)) (a++[q]):=by
 have e:IZ kn (Av l q)=kn++[Av l q]:=by simp_all[IZ,if_pos,GG]
 refine⟨h.toKnOk.IZ (Jz h0 h1) f,by rw[e];simp[h.len],λi x b=>?_⟩;rw[e];by_cases d:i<a.length;· rw[Pe d]at b;have:=h.ord i x b;grind
 ·have c:i=a.length:=by
   grind
  subst c;simp at b;subst b;exact⟨⟨h0,h1⟩,by rw[h.len];simp⟩
theorem PW(v:Xe l c)(h:vB l kn a)(h0:0<=q)(h1:q<l.length)(t:a.length<fu):
  Ok (yo fu (a,(Bh l.length c),q)) (λr=>r=(Ip kn (Av l q):Nat)):=by
 have p:=h.len;refine V_ (λk=> ∀j (_:j<k) (u:j<kn.length),kn[j]≠Av l q) a.length (by omega) t (λk nx f i w=>?_) (λnx i=>?_)
 ·obtain⟨⟨g,x⟩,o⟩:=h.ord k _ (IS f)
  have b:c a[k].toNat=c q.toNat↔Av l a[k]=Av l q:=by have:=v.iff a[k].toNat q.toNat (by omega) (by omega);grind
  refine P7 (Aah f (BY (Hu g (by omega)) (BY (Hu h0 (by omega)) (Ob (λm=>MP ?_) λm=>w λj u s=>?_))));· rw[OP i (by omega) λ_=>by simp_all]
  grind
 ·refine P8 (MP ?_);rw[OP i (by omega) λh=>by omega]
def hH(fu:Nat)(es:List Cm)(i:Nat)(nx:(List Int×List Cm×Nat)->Option (Tb×Int))(lo hi n:Int)(a:List Int):Option (Tb×Int):=Aa (Lr.u8) lo<|Aa (Lr.u8) hi<|Ag (EW es+1<=Ai)<|nx (a,es++[(lo,hi,n)],i+1)
def j20(fu:Nat)(es:List Cm)(i:Nat)(nx:(List Int×List Cm×Nat)->Option (Tb×Int))(lo hi n:Int)(a:List Int):Option (Tb×Int):=Aa (Lr.i64) ((↑(EW es):Int)-(1:Int))<|bif Di ((0:Int)<=(↑(EW es):Int)-(1:Int))then Ab (idx es ((↑(EW es):Int)-(1:Int))) λd=>bif Di (d.2.2=n)then Ab (idx es ((↑(EW es):Int)-(1:Int))) λb=>Aa (Lr.i64) (b.2.1+(1:Int))<|bif Di (b.2.1+(1:Int)=lo)then Aa (Lr.u8) hi<|Ab (idx es ((↑(EW es):Int)-(1:Int))) λc=>nx (a,es.set (aC ((↑(EW es):Int)-(1:Int))) (c.1,hi,c.2.2),i+1)else hH fu es i nx lo hi n a else hH fu es i nx lo hi n a else hH fu es i nx lo hi n a
noncomputable def j19(fu:Nat)(d a:List Int)(es:List Cm)(i:Nat)(nx:(List Int×List Cm×Nat)->Option (Tb×Int))(lo c hi:Int):Option (Tb×Int):=
 Ab (yo fu (a,d,c)) λb=>
 bif Di (b=(↑(EW a):Int))then
  Ag (EW a+1<=Ai)<|
  j20 fu es i nx lo hi b (a++[c])
 else
  j20 fu es i nx lo hi b a
theorem br{q:Nat}{n:Int}{nx:(List Int×List Cm×Nat)->Option (Tb×Int)}{P:Tb×Int->Prop}
  (hc:Bs cs) (hi:i<cs.length) (m:BR es (pos cs i) q) (s:es.length<=256) (h:Ok (nx (d,push es cs[i] (G5 cs i) n,i+1)) P):
  Ok (j20 fu es i nx cs[i] (G5 cs i) n d) P:=by
 have o:=hc.rg _ (AN hi);have g:=hc.hi hi;have a:push es cs[i] (G5 cs i) n=es++[(cs[i],G5 cs i,n)]->Ok (hH fu es i nx cs[i] (G5 cs i) n d) P:=λr=>
  PK (p:=GK.F8 cs[i]) (by omega) (PK (p:=GK.F8 (G5 cs i)) (by omega) (PK (by grind) (by grind)));refine PK (by omega) (Ob (λl=>?_) λl=>a ?_)
 ·have e:0<es.length:=by omega
  have k:((es.length:Int)-1)=((es.length-1:Nat):Int):=by omega
  have b:es.length-1<es.length:=by omega
  have u:=m.rg _ (AN b);have t:=PR hc i;have c:=RI (lo:=cs[i]) (hi:=G5 cs i) (n:=n) e;rw[k];refine Aah b (Ob (λf=>Aah b (PK (by omega) (Ob (λj=>?_) λj=>?_))) λf=>?_);· refine PK (by omega) (Aah b ?_);rw[if_pos ⟨f,j⟩]at c;rw[c]at h;rw[f];exact h
  all_goals grind
 ·obtain rfl:es=[]:=OF.1 (by omega);rfl
noncomputable def wJ(fu:Nat)(l:Tb)(cs k:List Int):Option (Tb×Int):=
 Ad fu (
      λ(c:List Int×Tb×Nat) g=>
  bif Di ((↑c.2.2:Int)<(↑(EW c.1):Int))then
   Ab (idx c.1 (↑c.2.2:Int)) λh=>
   Ab (idx l h) λi=>
   Ad fu (λ(a:List Int×List Cm×Nat) b=>
    bif Di ((↑a.2.2:Int)<(↑(EW cs):Int))then
     Ab (idx cs (↑a.2.2:Int)) λd=>
     Ab (idx a.1 (↑c.2.2:Int)) λj=>
     Aa (Lr.u8) (d)<|
     Ab (uI fu (l,j,d)) λe=>
     bif Di (e<(0:Int))then
      b (a.1,a.2.1,a.2.2+1)
     else
      bif Di ((↑(a.2.2+1):Int)<(↑(EW cs):Int))then
       Ab (idx cs (↑(a.2.2+1):Int)) λf=>
       Aa (Lr.i64) (f-(1:Int))<|
       j19 fu k a.1 a.2.1 a.2.2 b d e (f-1)
      else
       j19 fu k a.1 a.2.1 a.2.2 b d e 255
    else
     Ag (EW c.2.1+1<=Ai)<|
     g (a.1,c.2.1++[(i.1,a.2.1)],c.2.2+1)) (c.1,[],0)
  else
   Ac (c.2.1,(0:Int))) ([(0:Int)],[],0)
theorem aK(S:Bf l)(htr:Trim l)(h0:0<l.length)(M:live (Av l 0)=Bp)(hc:Bs cs)(hf:DO cs l)(hk:Xe l c)(hs:DT l n)(hn:n<4294967296)(hfu:n+2<fu)(hfu':257<fu):
  Ok (wJ fu l cs (Bh l.length c)) (λr=>r=(BW l,0)):=by
 have hcl:=hc.le;have hln:=hs.1;refine XD (X:=List Int×Tb×Nat) (λx=> ∃f F,vB l f x.1/\x.2.2=x.2.1.length/\x.2.1.length<=f.length/\l.length<F+x.2.1.length/\DK F f x.2.1=BW l) (λx=>l.length+1-x.2.2)
  ⟨[Av l 0],l.length+1,⟨⟨by simp,by grind[Jz],by grind⟩,rfl,λi q hq=>?_⟩,rfl,by simp,by simp,by grind[BW,Eu]⟩ (by omega) λx nx hI _ hnx=>?_;· grind
 obtain⟨v,out,k⟩:=x;obtain⟨f,F,g,J,hol,hF,G⟩:=hI;dsimp only at g J hol hF G;subst J;have hkn:f.length<=l.length:=by have:=g.toKnOk.le;grind[Fp]
 have hlen:=g.len;try dsimp only
 refine Ob (λhlt=>?_) λhlt=>MP ?_
 ·have L:out.length<v.length:=by omega
  have p:v[out.length]?=Ac v[out.length]:=IS L;obtain⟨⟨y,z⟩,V⟩:=g.ord out.length _ p;generalize hqe:v[out.length]=q at y z V p;have P:=Bt y z;obtain⟨F,rfl⟩:∃F',F=F'+1:=⟨F-1,by omega⟩;have H:=Aai V;refine BY (by rw[Bk L,hqe]) (Adg y z ?_);rw[<-P];have hro:=λi w=>ET (H9 S) (g.sub _ H) g.toKnOk (pos cs i) w;refine XZ (λi o R=>FT v o/\R=(AL (Av l q) f (pos cs i)).2/\R.length<=i/\vB l (AL (Av l q) f (pos cs i)).1 o) cs.length
   (by rw[RM hc];exact⟨.refl _,rfl,by simp,g⟩) (by omega) (λi o R Q w U t=>?_) (λo R Q U=>?_)
  ·obtain⟨j,rfl,I,d⟩:=U;have hpl:=PR hc i;obtain⟨g1,g2,T⟩:=hro i hpl;have Y:=hc.rg _ (AN w);have hpa:=pos_at hc w;have hps:=RN hc w;have hhi:=hc.hi w;have hst:=S.st q cs[i].toNat;have O:=j.get p;have hD:∀b,pos cs i<=b->b<=(G5 cs i).toNat->IA (Av l q) b=Av l (Bl l q cs[i].toNat):=λb b1 b2=>by
    rw[JA S hc hf q w (by omega) (by omega) (by omega),Fv _ _ _ (by omega)]
   have u:AL (Av l q) f (pos cs (i+1))=Dc (AL (Av l q) f (pos cs i)) (Av l (Bl l q cs[i].toNat)) (pos cs i) (G5 cs i).toNat:=by rw[show pos cs (i+1)=(G5 cs i).toNat+1 by omega];exact H4 _ _ _ _ _ (by omega) hD
   have D:=LJ (b:=cs[i].toNat) (i:=q) hs (by omega:n<fu) z;rw[Abd Y.1]at D;have B:=(No.1 O).1;try dsimp only
   refine P7 (Aah w (BY (by rw[Bk B];exact O▸(IS B).symm) (PK (by omega) (OH D λa W=>?_))));subst W;refine Ob (λA=>t _ _ ?_) λA=>?_
   ·have e:AL (Av l q) f (pos cs (i+1))=AL (Av l q) f (pos cs i):=by rw[u];unfold Dc;rw[Hq A];rfl
    rw[e];exact⟨j,rfl,by omega,d⟩
   ·have s:=htr q cs[i].toNat (by omega);have C:AL (Av l q) f (pos cs (i+1))=(IZ (AL (Av l q) f (pos cs i)).1 (Av l (Bl l q cs[i].toNat)),push (AL (Av l q) f (pos cs i)).2 cs[i] (G5 cs i) (Ip (AL (Av l q) f (pos cs i)).1 (Av l (Bl l q cs[i].toNat)):Nat)):=by
     rw[u];unfold Dc;rw[if_pos s,hpa,Abd (by omega)]
    have K:=g2.le;rw[Fp]at K;have hlen':=d.len;have hpush:=RJ (AL (Av l q) f (pos cs i)).2 cs[i] (G5 cs i) (Ip (AL (Av l q) f (pos cs i)).1 (Av l (Bl l q cs[i].toNat)):Nat);have h:Ok (j19 fu (Bh l.length c) o (AL (Av l q) f (pos cs i)).2 i Q cs[i] (Bl l q cs[i].toNat) (G5 cs i)) (λr=>r=(BW l,0)):=by
     unfold j19;refine OH (PW hk d (by omega) (by omega) (by omega)) λa W=>?_;subst W;have Z:=bz (AL (Av l q) f (pos cs i)).1 (Av l (Bl l q cs[i].toNat));refine Ob (λhe=>?_) λhe=>?_
     ·have hnm:Av l (Bl l q cs[i].toNat)∉(AL (Av l q) f (pos cs i)).1:=λN=>by have:=JE N;omega
      refine PK (by unfold Ai;omega) (br hc w T.1 (by omega) (t _ _ ?_));rw[C];exact⟨j.trans ⟨_,rf⟩,rf,by omega,d.put (by omega) (by omega) s hnm⟩
     ·have N:Av l (Bl l q cs[i].toNat)∈(AL (Av l q) f (pos cs i)).1:=GB λN=>by have:=GG N;omega
      refine br hc w T.1 (by omega) (t _ _ ?_);rw[C,GF N];exact⟨j,rf,by omega,d⟩
    refine Ob (λh1=>?_) λh1=>?_
    ·have E:i+1<cs.length:=by omega
     have hr2:=hc.rg _ (AN E);refine Aah E (PK (by unfold GK.DW;omega) ?_);rw[E2 E]at h;exact h
    ·rw[Hv (by omega)]at h;exact h
  ·obtain⟨j,rfl,I,d⟩:=U;rw[VV]at d⊢;obtain⟨g1,g2,T⟩:=ET (H9 S) (g.sub _ H) g.toKnOk 256 (Aac _);have:=g1.len;try dsimp only
   refine P8 (PK (by(try simp)<;>(unfold Ai;omega)) (hnx _ ⟨(AL (Av l q) f 256).1,F,d,by simp,by simp;omega,by simp;omega,?_⟩ ?_))
   ·rw[<-G];dsimp only;conv=>rhs;unfold DK
    rw[V];dsimp only;have:Av l q []=(Be l q).1:=by simp[Av,runT,fin,y]
    rw[this]
   ·dsimp only;omega
 ·have hno:f[out.length]?=C7:=Acz (by omega);rw[<-G];cases F with
  |zero=>rfl
  |succ F=>unfold DK;rw[hno]
theorem Oc(h:Bf l):Trim (DS l):=λq b c=>by have:Av (DS l) (Bl (DS l) q b)=Av l (Bl (DS l) q b):=funext λw=>Pw h w _;grind[Od]
theorem Lb(C:N6 l)(v:DT l n)(f:n<4294967296)(k:n+2<fu)(e:257<fu):
  Ok (vJ fu l) (λr=>(Bf l->r=(BW l,0))/\(¬Bf l->r=([],11))):=by
 rw[vJ];refine OH (Ea C v (by omega) f) λx g=>P3 (λh=>MP ?_) λh=>?_
 ·grind
 ·have d:Bf l:=g.1 (by grind);refine Ob (λh=>MP ⟨λ_=>?_,λa=>absurd d a⟩) λh=>?_;· obtain rfl:l=[]:=OF.1 (by omega);grind[live,Av,BW,Eu,CW,Ed]
  ·refine Ok.mono (P:=λr=>r=(BW l,0)) ?_ λr E=>⟨λ_=>E,λa=>absurd d a⟩;refine OH (Pn d v f (by omega)) λx g=>?_;subst g;have o:0<l.length:=by omega
   refine BY (AV (i:=0) o) (P3 (λj=>MP ?_) λj=>?_)
   ·simp_all[live,Av,BW,Eu]
   ·have u:live (Av l 0)=Bp:=by cases t:live (Av l 0)<;>simp[t]at j⊢
    refine OH (RE d o v f (by omega)) λm D=>?_;obtain⟨p,F,z,G⟩:=D;refine OH (Rd p z f (by omega)) λx g=>?_;subst g;have s:=fB p;have y:=fC z;have B:Av (DS m) 0=Av l 0:=by rw[<-F];exact funext λw=>Pw p w 0
    have A:0<(DS m).length:=by rw[Mc];exact G
    rw[T6];refine OH (cG s y (by omega) (by omega)) λH b=>OH (Tc s (Oc p) A b.1 b.2 y f k e) λc hc=>?_;obtain⟨c,hc,rfl⟩:=hc;rw[<-I2 s d B];exact aK s (Oc p) A (by rw[B];exact u) b.1 b.2 hc y f k e
theorem Kb(f:N6 l)(d:DT l n)(g:n<4294967296)(c:n+2<fu)(a:257<fu):
  Ok (yn fu l) (λr=>r=Bp↔Bf l/\BW l=l):=by
 refine OH (Lb f d g c a) λx e=>?_;by_cases b:Bf l;· rw[e.1 b];refine T3 rf (OH (ZQ d (by omega)) λr i=>MP ?_);grind
 simp_all[absurd,Qh,MP]
end
section
variable {σ : Type} {acc : σ -> Bool} {PD : σ -> Nat -> σ}
section
variable{a:List σ}{T:Tb}
def sS(acc:σ->Bool)(PD:σ->Nat->σ)(s:σ):Lg:=λw=>acc (w.foldl (λs c=>PD s c.toNat) s)
structure U'(acc:σ->Bool)(PD:σ->Nat->σ)(ord:List σ)(s:σ)(r:TX):Prop where
 acc:r.1=acc s
 ed:BR r.2 256 ord.length
 to:∀c,c<256->∃i:Nat,AP r.2 c=i/\ord[i]?=Ac (PD s c)
theorem U'.ext{more:List σ}{s:σ}{r:TX}(h:U' acc PD a s r):U' acc PD (a++more) s r:=by refine⟨h.acc,h.ed.mono (Aac _) (by simp),λc hc=>?_⟩;obtain⟨i,d,b⟩:=h.to c hc;grind
structure YF(acc:σ->Bool)(PD:σ->Nat->σ)(ord:List σ)(T:Tb):Prop where
 len:T.length=ord.length
 row:∀(k:Nat) (s:σ) (r:TX),ord[k]?=Ac s->T[k]?=Ac r->U' acc PD ord s r
theorem YF.wf(h:YF acc PD a T):Bf T:=λr b=>by obtain⟨k,d,rfl⟩:=Aat b;have:=(h.row k (a[k]'(by have:=h.len;omega)) T[k] (IS _) (IS _)).ed;rwa [h.len]
theorem YF.lg{d:List σ}{T:Tb}(h:YF acc PD d T):∀(w:List UInt8) (k:Nat) (s:σ),d[k]?=Ac s->Av T (k:Int) w=sS acc PD s w
 | [],k,s,b=>by
  have e:=(No.1 b).1;have a:k<T.length:=by have:=h.len;omega
  have r:=h.row k s T[k] b (IS a);show fin T (k:Int)=acc s;rw[Ef (by omega) (by omega)];exact r.acc
 |c::w,k,s,b=>by
  have e:=(No.1 b).1;have a:k<T.length:=by have:=h.len;omega
  have r:=h.row k s T[k] b (IS a);have hc:c.toNat<256:=c.toNat_lt;obtain⟨i,f,g⟩:=r.to c.toNat hc;show fin T (runT T (k:Int) (c::w))=sS acc PD (PD s c.toNat) w;rw[H0];have:Bl T (k:Int) c.toNat=(i:Int):=by simp_all[Bl,if_neg,Bt]
  rw[this];exact YF.lg h w i _ g
end
end
section
variable{es:List Cm}
theorem Mm{b:Nat}(h0:0<b)(h1:∀e∈es,e.1≠(b:Int))(h2:∀e∈es,e.2.1+1≠(b:Int)):AP es b=AP es (b-1):=by
 have:es.find? (BN b)=es.find? (BN (b-1)):=by
  induction es with
  |nil=>rfl
  |cons e es c=>
   grind[BN]
 grind[AP]
theorem G'{es:List Cm}{lo:Nat} :∀(n:Nat),(∀b,lo<b->b<=lo+n->∀e∈es,e.1≠(b:Int)/\e.2.1+1≠(b:Int))->AP es (lo+n)=AP es lo
 |0,_=>rfl
 |n+1,h=>by rw[Mm (by omega) (λe a=>(h _ (by omega) (Aac _) e a).1) (λe a=>(h _ (by omega) (Aac _) e a).2)];exact G' n λb c d=>h b c (by omega)
end
section
variable {σ : Type} [BEq σ] [LawfulBEq σ]
section
variable{f:Nat->σ}{a:List σ}{es:List Cm}{c:Nat}
structure FE(f:Nat->σ)(ord:List σ)(es:List Cm)(c:Nat):Prop where
 ed:BR es c ord.length
 to:∀b,b<c->f b∈ord/\AP es b=((ord.idxOf (f b):Nat):Int)
 last:0<c->∃es' lo q,es=es'++[(lo,(c:Int)-1,q)]
theorem FE.zero:FE f a [] 0:=⟨.nil,λb h=>by omega,λh=>by omega⟩
theorem Jg{es:List Cm}{c n:Nat}(h:BR es c n){x:Cm}{b:Nat}(d:b<c)(a:BN b x=Aj):AP (es++[x]) b=AP es b:=by grind[AP,BN]
theorem EE{es:List Cm}{c n:Nat}(h:BR es c n){x:Cm}{b:Nat}(f:c<=b)(d:BN b x=Bp):AP (es++[x]) b=x.2.2:=by
 unfold AP;have:es.find? (BN b)=C7:=Acu.2 λe a=>by have:=h.rg e a;grind[BN]
 grind
theorem FE.new{more:List σ}{e:Nat}(h:FE f a es c)(j:f c∈a++more)(o:c<e)(p:∀b,c<=b->b<e->f b=f c):
  FE f (a++more) (es++[((c:Int),(e:Int)-1,(((a++more).idxOf (f c):Nat):Int))]) e:=by
 refine⟨⟨λx d=>?_,Aba.2 ⟨h.ed.so,by simp,λx d y k=>?_⟩⟩,λb n=>?_,λ_=>⟨es,_,_,rf⟩⟩
 ·rcases AS.1 d with d|d;· have:=h.ed.rg x d;grind
  grind
 ·have:=h.ed.rg x d;grind
 ·rcases Aam b c with g|g;· obtain⟨l,q⟩:=h.to b g;refine⟨by grind,?_⟩;rw[Jg h.ed g (by unfold BN;simp;omega),q,Aex,if_pos l]
  ·have m:=p b g n;rw[m];refine⟨j,?_⟩;rw[EE h.ed g (by unfold BN;simp;omega)]
theorem FE.more{i:List σ}{lo q:Int}(h:FE f i (es++[(lo,(c:Int)-1,q)]) c)(h0:0<c)(m:f c=f (c-1)):FE f i (es++[(lo,(c:Int),q)]) (c+1):=by
 have n:=h.ed.rg (lo,(c:Int)-1,q) (by simp);have d:BR es c i.length:=⟨λx a=>h.ed.rg x (by grind),(Aba.1 h.ed.so).1⟩;have j:∀x∈es,x.2.1<lo:=λx a=>(Aba.1 h.ed.so).2.2 x a (lo,(c:Int)-1,q) (by simp);have e:BR es lo.toNat i.length:=⟨λx a=>by have:=h.ed.rg x (by grind);grind,d.so⟩;have g:=h.to (c-1) (by omega);rw[EE e (by omega) (by grind[BN])]at g;refine⟨⟨λx a=>?_,Aba.2 ⟨d.so,by simp,λx a y l=>?_⟩⟩,λb s=>?_,λ_=>⟨es,lo,q,by simp⟩⟩
 ·rcases AS.1 a with a|a;· have:=d.rg x a;omega
  grind
 ·grind
 ·rcases Aam b c with k|k
  ·obtain⟨o,p⟩:=h.to b k;grind[BN,EE,Jg]
  ·obtain rfl:b=c:=by omega
   rw[m,EE e (by omega) (by unfold BN;simp;omega)];exact⟨g.1,g.2⟩
theorem FE.row{acc:σ->Bool}{PD:σ->Nat->σ}{s:σ}(h:FE (PD s) a es 256):U' acc PD a s (acc s,es):=
 ⟨rfl,h.ed,λc hc=>by obtain⟨d,e⟩:=h.to c hc;grind⟩
end
end
section
variable{fu n:Nat}{l a b:Tb}{m:Nat}{L:Lg}{r:Tb}{i:Int}{x:Int×Int}{f:Bool->Bool->Bool}{k c:Nat}{out:Tb}{is:Bool->Bool->Option Bool}{z:Int}{d:List (Int×Int)}{es:List Cm}{w:Aq}
def jG(f:Bool->Bool->Bool)(a b:Tb)(p:Int×Int):Bool:=f (fin a p.1) (fin b p.2)
def CU(a b:Tb)(p:Int×Int)(c:Nat):Int×Int:=(Bl a p.1 c,Bl b p.2 c)
theorem Po(f:Bool->Bool->Bool)(a b:Tb):∀(w:List UInt8) (p:Int×Int),sS (jG f a b) (CU a b) p w=f (Av a p.1 w) (Av b p.2 w)
 | [],p=>rfl
 |c::w,p=>Po f a b w (CU a b p c.toNat)
open Classical in
noncomputable def Da(l:Tb):Tb:=if Bf l/\BW l=l then l else []
theorem Hw(l:Tb):Bf (Da l):=by grind[Da,Bf]
theorem Kx(l:Tb):(Da l).length<=l.length:=by grind[Da]
theorem Hx(h:DT l n):DT (Da l) n:=by
 unfold Da;split;· omega
 ·exact⟨by simp,by simp⟩
theorem Sy(h:Bf l)(k:BW l=l):Da l=l:=by grind[Da]
theorem Nj:BW ([]:Tb)=[]:=by grind[live,Av,BW,Eu,CW,Ed]
theorem X8(l:Tb):BW (Da l)=Da l:=by grind[Da,Nj]
theorem Gg(d:N6 l)(f:DT l n)(e:n<4294967296)(a:n+2<fu)(b:257<fu):Q7 fu l=Ac (Da l):=by refine(Ok.eq ?_);refine OH (L_ d f e a (by omega)) λx c=>P3 (λh=>MP ?_) λh=>MP ?_;all_goals grind[Da]
theorem M3(d:N6 l)(f:DT l n)(e:n<4294967296)(b:n+2<fu)(a:257<fu):ym fu l=Ac (Da l):=by refine(Ok.eq ?_);refine OH (Kb d f e b a) λx c=>P3 (λh=>MP ?_) λh=>MP ?_;all_goals grind[Da]
theorem He{l:Tb}{i:Int}(h:(l.length:Int)<=i):Be l i=(Aj,[]):=by grind[Be]
theorem VI{l:Tb}{i:Int}(b:Nat)(h:(l.length:Int)<=i):Bl l i b= -1:=by unfold Bl;rw[if_neg (by omega),He h];rfl
theorem Qq{l:Tb}{i:Int}(h:(l.length:Int)<=i):fin l i=Aj:=by grind[fin,He]
theorem fin_neg{l:Tb}{i:Int}(h:i<0):fin l i=Aj:=by grind[fin]
theorem W7:N5 fu (l,i)=Ac (fin l i):=by refine(Ok.eq ?_);refine Ob (λh=>Ob (λk=>Adg h k (MP (Ef h k).symm)) λk=>MP (Qq (by omega)).symm) λh=>MP (fin_neg (by omega)).symm
theorem Rl{b:Nat}(v:DT l n)(w:n<fu):N3 fu (l,i,(b:Int))=Ac (Bl l i b):=by
 refine(Ok.eq ?_);refine Ob (λh=>MP (Jh _ h).symm) λh=>Ob (λk=>MP (VI _ k).symm) λk=>Adg (by omega) (by omega) ?_;have u:=Bt (l:=l) (i:=i) (by omega) (by omega);have p:Bl l i b=AP (l[i.toNat]'(by omega)).2 b:=by grind[Bl]
 rw[p];have o:=v.2 _ (AN (by omega:i.toNat<l.length));generalize l[i.toNat]'(by omega)=s at o;refine V_ (λk=> ∀j (_:j<k) (q:j<s.2.length),BN b s.2[j]=Aj) s.2.length (by omega) (by omega) (λk nx r e t=>?_) (λnx e=>?_)
 ·have d:BN b s.2[k]=Aj->∀j (_:j<k+1) (q:j<s.2.length),BN b s.2[j]=Aj:=λh j q m=>by
   grind
  refine P7 (Aah r (Ob (λc=>Ob (λg=>MP ?_) λg=>t (d ?_)) λc=>t (d ?_)));· grind[BN,Ha]
  all_goals grind[BN]
 simp_all[P8,MP,Gv]
def J8(es:List Cm)(b:Nat):Prop:= ∃e∈es,e.1=(b:Int)\/e.2.1+1=(b:Int)
def CT(l:Tb)(i:Int):List Cm:=if i<0 then []else(Be l i).2
theorem HX(l:Tb)(i:Int)(b:Nat):Bl l i b=AP (CT l i) b:=by unfold Bl CT;split<;>rfl
theorem fV(h:Bf l)(i:Int):BR (CT l i) 256 l.length:=by
 unfold CT;split;· exact .nil
 ·rcases Aeg i l.length with a|a;· rw[Bt (by omega) a];exact h _ (AN _)
  ·rw[He a];exact .nil
theorem WC{p:Nat->Bool}(D:Bf l)(C:DT l n)(E:n<fu):
  Ok (N4 fu (l,i,Bh 256 p)) λr=> ∃q,r=Bh 256 q/\∀b,b<256->(q b=Bp↔p b=Bp\/J8 (CT l i) b):=by
 have C7:CT l i=[]->∃q,Bh 256 p=Bh 256 q/\∀b,b<256->(q b=Bp↔p b=Bp\/J8 (CT l i) b):=λh=>⟨p,rfl,λb _=>by grind[J8]⟩;refine Ob (λh=>MP (C7 (by grind[CT]))) λh=>Ob (λk=>MP (C7 (by simp_all[CT,if_neg,He]))) λk=>Adg (by omega) (by omega) ?_;have B:CT l i=(l[i.toNat]'(by omega)).2:=by unfold CT;rw[if_neg h,Bt (by omega) (by omega)]
 have o:=fV D i;have w:=C.2 _ (AN (by omega:i.toNat<l.length));rw[B]at o⊢;generalize l[i.toNat]'(by omega)=s at o w;refine SE (λj x=> ∃q,x=Bh 256 q/\∀b,b<256->(q b=Bp↔p b=Bp\/J8 (s.2.take j) b)) s.2.length ⟨p,rfl,λb _=>by simp[J8]⟩ (by omega) (λj x nx v t z=>?_) (λx nx t=>?_)
 ·obtain⟨
      q,rfl,d⟩:=t;have F:=o.rg _ (AN v);have y:∀b,J8 (s.2.take (j+1)) b↔J8 (s.2.take j) b\/s.2[j].1=(b:Int)\/s.2[j].2.1+1=(b:Int):=λb=>by
   unfold J8;simp only[Af v];simp
  refine P7 (Aah v ?_);dsimp only;rw[Abm,Ada,Abm,Ada];refine Abw (Abw (Ob (λA=>PK (p:=GK.F8 (s.2[j].2.1+1)) (by omega) (Abw (PK (by omega) ?_))) λA=>?_))
  ·rw[Ba,Ba];refine z _ ⟨_,rfl,λb u=>?_⟩;rw[y];by_cases m:b=(s.2[j].2.1+1).toNat;· simp only[m,if_true,true_iff];exact .inr (.inr (.inr (by omega)))
   ·by_cases c:b=s.2[j].1.toNat;· simp only[m,if_false];simp only[c,if_true,true_iff];exact .inr (.inr (.inl (by omega)))
    ·simp only[m,c,if_false,d b u];constructor
     ·rintro(h|h);· exact .inl h
      ·exact .inr (.inl h)
     ·rintro(h|h|h|h);· exact .inl h
      ·exact .inr h
      ·omega
      ·omega
  ·rw[Ba];refine z _ ⟨_,rfl,λb u=>?_⟩;rw[y];by_cases c:b=s.2[j].1.toNat;· simp only[c,if_true,true_iff];exact .inr (.inr (.inl (by omega)))
   ·simp only[c,if_false,d b u];constructor
    ·rintro(h|h);· exact .inl h
     ·exact .inr (.inl h)
    ·rintro(h|h|h|h);· exact .inl h
     ·exact .inr h
     ·omega
     ·omega
 ·obtain⟨q,rfl,d⟩:=t;rw[Al]at d;exact P8 (MP ⟨q,rfl,d⟩)
theorem RO{a:List (Int×Int)}{b:Nat->(Nat->Option Int)->Option Int}(p:a.length<fu)(n:∀k nx,k<a.length->b k nx=(bif Di (x=a.getD k (0,0))then Ac (k:Int)else nx (k+1)))(o:∀nx,b a.length nx=Ac (-1)):
  Ad fu b 0=Ac (if x∈a then((a.idxOf x:Nat):Int)else-1):=by
 refine Ok.eq (V_ (λk=> ∀j (_:j<k) (h:j<a.length),a[j]≠x) a.length (by omega) p (λk nx d c q=>?_) (λnx c=>?_))
 ·rw[n k nx d];have e:a.getD k (0,0)=a[k]:=by grind
  rw[e];refine Ob (λh=>MP ?_) λh=>q λj f l=>?_;· have g:x∈a:=h▸AN d;rw[if_pos g,Sw c d h.symm]
  grind
 grind[MP]
theorem XJ{a:List (Int×Int)}(d:a.length<fu):uV fu (a,x)=Ac (if x∈a then((a.idxOf x:Nat):Int)else-1):=by
 refine RO d (λk nx b=>?_) (λnx=>?_)
 all_goals grind[decide,Ab,idx]
theorem XI{a:List (Int×Int)}(d:a.length<fu):F28 fu (a,x)=Ac (if x∈a then((a.idxOf x:Nat):Int)else-1):=by
 refine RO d (λk nx b=>?_) (λnx=>?_)
 all_goals grind[decide,Ab,idx]
def EX(a:List (Int×Int))(x:Int×Int):List (Int×Int):=if x∈a then a else a++[x]
theorem MD(a:List (Int×Int))(x:Int×Int):∃more,EX a x=a++more:=by unfold EX;split;all_goals simp
theorem RG(a:List (Int×Int))(x:Int×Int):x∈EX a x:=by grind[EX]
theorem gg{c:List (Int×Int)}(h:c.Nodup):(EX c x).Nodup:=by grind[EX]
theorem PM(a:List (Int×Int))(x:Int×Int):(EX a x).idxOf x=if x∈a then a.idxOf x else a.length:=by grind[EX]
theorem rN:4294967296<=Ai:=by decide
theorem gC{a:List (Int×Int)}(d:a.length<fu)(e:a.length<4294967295):Za fu (x,a)=Ac ((((EX a x).idxOf x:Nat):Int),EX a x):=by
 refine(Ok.eq ?_);have c:=rN;refine BY (XJ d) ?_;by_cases h:x∈a;· simp_all[EX,if_pos,P8,MP,PM]
 ·rw[if_neg h];refine P7 (Abw (MP ?_));grind[EX]
structure CD(r:Tb)(L:Lg)(m:Nat):Prop where
 wf:Bf r
 can:BW r=r
 lg:Av r 0=L
 len:r.length<=m
theorem CD.of{T:Tb}(a:Bf T)(b:Av T 0=L)(c:T.length<=m):CD (BW T) L m:=⟨WS a,Yv a,(WT a).trans b,Aan (jh a) c⟩
theorem CD.unique{s:Tb}(h:CD r L m)(k:CD s L n):r=s:=by rw[<-h.can,<-k.can];exact I2 h.wf k.wf (h.lg.trans k.lg.symm)
theorem CD.mono(h:CD r L m)(k:m<=n):CD r L n:=⟨h.wf,h.can,h.lg,Aan h.len k⟩
theorem CD.E6(h:CD r L m):Da r=r:=Sy h.wf h.can
theorem CD.congr{M:Lg}(h:CD r L m)(k:L=M):CD r M m:=k▸h
theorem M1(l:Tb):CD (Da l) (Av (Da l) 0) l.length:=⟨Hw l,X8 l,rfl,Kx l⟩
theorem CD.nil:CD [] (λ_=>Aj) m:=⟨by simp[Bf],Nj,funext λw=>Ed 0 w,by simp⟩
def Zi(a b:Tb)(p:Int×Int):Prop:=(-1<=p.1/\p.1<=a.length)/\ -1<=p.2/\p.2<=b.length
def G1(a b:Tb):Nat:=(a.length+2)*(b.length+2)
theorem Hm{c:List (Int×Int)}(f:c.Nodup)(h:∀p∈c,Zi a b p):c.length<=G1 a b:=by
 have key:∀(n m:Nat),((a_ n).flatMap λ(i:Nat)=>(a_ m).map λ(j:Nat)=>(((i:Int)-1,(j:Int)-1):Int×Int)).length=n*m:=λn m=>by
  induction n with
  |zero=>simp
  |succ n k=>simp_all[Aej,Acm,Aaa,Ady]
 rw[G1,<-key];refine Ch f λp g=>?_;obtain⟨⟨l,o⟩,q,r⟩:=h p g;refine Aad.2 ⟨(p.1+1).toNat,Abg.2 (by omega),By.2 ⟨(p.2+1).toNat,Abg.2 (by omega),?_⟩⟩;grind
theorem Zi.step(d:Bf a)(e:Bf b)(p:Int×Int)(c:Nat):Zi a b (CU a b p c):=by have:=d.st p.1 c;have:=e.st p.2 c;grind[Zi,CU]
structure GY(f:Bool->Bool->Bool)(a b:Tb)(p0:Int×Int)(ord:List (Int×Int))(out:Tb):Prop where
 zero:ord[0]?=Ac p0
 nd:ord.Nodup
 nB:∀p∈ord,Zi a b p
 le:out.length<=ord.length
 row:∀(k:Nat) (s:Int×Int) (r:TX),ord[k]?=Ac s->out[k]?=Ac r->U' (jG f a b) (CU a b) ord s r
theorem GY.put{l:Int×Int}(h:GY f a b l d out)(m:Zi a b x):GY f a b l (EX d x) out:=by
 obtain⟨j,e⟩:=MD d x;refine⟨?_,gg h.nd,λp c=>?_,?_,λk s r g i=>?_⟩;· have:=(No.1 h.zero).1;rw[e,Pe this];exact h.zero
 ·unfold EX at c;split at c;· exact h.nB p c
  ·rcases AS.1 c with c|c;· exact h.nB p c
   grind
 ·have:=h.le;grind
 ·have n:=(No.1 i).1;have:=h.le;rw[e,Pe (by omega)]at g;rw[e];exact(h.row k s r g i).ext
theorem GY.add{l s:Int×Int}{r:TX}(h:GY f a b l d out)(j:d[out.length]?=Ac s)(m:U' (jG f a b) (CU a b) d s r):GY f a b l d (out++[r]):=by
 refine⟨h.zero,h.nd,h.nB,by grind,λk o n e c=>?_⟩;by_cases i:k<out.length;· rw[Pe i]at c;exact h.row k o n e c
 grind
theorem GY.done{e:Int×Int}{c:List (Int×Int)}(h:GY f a b e c out)(i:¬out.length<c.length):Bf out/\Av out 0=(λw=>f (Av a e.1 w) (Av b e.2 w))/\out.length<=G1 a b:=by
 have d:out.length=c.length:=by have:=h.le;omega
 have g:YF (jG f a b) (CU a b) c out:=⟨d,h.row⟩;refine⟨g.wf,funext λw=>?_,by rw[d];exact Hm h.nd h.nB⟩;have:=g.lg w 0 e h.zero;grind[Po]
noncomputable def mj(fu:Nat)(is:Bool->Bool->Option Bool)(i o:Tb):Option Tb:=
 Ad fu (
      λ(c:List (Int×Int)×List (Bool×List (Int×Int×Int))×Nat) h=>
  bif Di ((↑c.2.2:Int)<(↑(EW c.1):Int))then
   Ab (idx c.1 (↑c.2.2:Int)) λe=>
   Ab (N5 fu (i,e.1)) λp=>
   Ab (N5 fu (o,e.2)) λq=>
   Ab (is p q) λr=>
   Ab (N4 fu (i,e.1,(lD (Uh 256 Aj) 0 Bp))) λs=>
   Ab (N4 fu (o,e.2,s)) λj=>
   Ad fu (λ(a:List (Int×Int)×List (Int×Int×Int)×Int) d=>
    bif Di (a.2.2<(256:Int))then
     Ag ((0:Int)<=a.2.2/\a.2.2<(↑256:Int))<|
     Ab (idx j (↑(0+aC a.2.2*1):Int)) λk=>
     bif k then
      Aa (Lr.u8) (a.2.2)<|
      Aa (Lr.u8) (a.2.2)<|
      Ab (N3 fu (i,e.1,a.2.2)) λl=>
      Aa (Lr.u8) (a.2.2)<|
      Ab (N3 fu (o,e.2,a.2.2)) λm=>
      Ab (Za fu ((l,m),a.1)) λb=>
      Ag (EW a.2.1+1<=Ai)<|
      Aa (Lr.i64) ((↑(EW (a.2.1++[(a.2.2,(0:Int),b.1)])):Int)-(1:Int))<|
      Aa (Lr.u8) (a.2.2)<|
      Ab (idx (a.2.1++[(a.2.2,(0:Int),b.1)]) ((↑(EW (a.2.1++[(a.2.2,(0:Int),b.1)])):Int)-(1:Int))) λf=>
      Aa (Lr.i64) (a.2.2+(1:Int))<|
      d ((b.2,((a.2.1++[(a.2.2,(0:Int),b.1)]).set (aC ((↑(EW (a.2.1++[(a.2.2,(0:Int),b.1)])):Int)-(1:Int))) (f.1,a.2.2,f.2.2)),(a.2.2+(1:Int))))
     else
      Aa (Lr.i64) ((↑(EW a.2.1):Int)-(1:Int))<|
      Aa (Lr.u8) (a.2.2)<|
      Ab (idx a.2.1 ((↑(EW a.2.1):Int)-(1:Int))) λg=>
      Aa (Lr.i64) (a.2.2+(1:Int))<|
      d ((a.1,(a.2.1.set (aC ((↑(EW a.2.1):Int)-(1:Int))) (g.1,a.2.2,g.2.2)),(a.2.2+(1:Int))))
    else
     Ag (EW c.2.1+1<=Ai)<|
     h ((a.1,(c.2.1++[(r,a.2.1)]),c.2.2+1))) ((c.1,[],(0:Int)))
  else
   Ab (oa fu c.2.1) λn=>
   Ac (n.1)) (([((0:Int),(0:Int))],[],0))
theorem Z8(Z:∀x y,is x y=Ac (f x y))(ha:Bf a)(hb:Bf b)(sa:DT a n)(sb:DT b n)(hM:G1 a b<=4000000000)(hn:n<4294967296)(hf:n+2<fu)(bM:300<fu)(hfM:G1 a b+2<fu):
  Ok (mj fu is a b) λr=>CD r (λw=>f (Av a 0 w) (Av b 0 w)) (G1 a b):=by
 refine XD (X:=List (Int×Int)×Tb×Nat) (λx=>GY f a b (0,0) x.1 x.2.1/\x.2.2=x.2.1.length) (λx=>G1 a b+1-x.2.2)
  ⟨⟨rfl,by simp,λp hp=>by grind[Zi],by simp,λk s r _ hr=>by grind⟩,rfl⟩ (by omega) λx nx H _ hnx=>?_;obtain⟨g,out,k⟩:=x;obtain⟨H,hk⟩:=H;dsimp only at H hk;subst hk;have hol:=Hm H.nd H.nB;refine Ob (λd=>?_) λd=>?_
 ·have d:(out.length:Int)<g.length:=d;have d:out.length<g.length:=by omega
  have D:g[out.length]?=Ac g[out.length]:=IS d;refine Aah d ?_;generalize hs:g[out.length]=s at D;refine BY W7 (BY W7 (BY (Z _ _) ?_));rw[DB,Ba];refine OH (WC ha sa (by omega)) λr9 h9=>?_;obtain⟨q9,rfl,hq9⟩:=h9;refine OH (WC hb sb (by omega)) λr10 Q=>?_;obtain⟨q,rfl,hq⟩:=Q;refine XD (X:=List (Int×Int)×List Cm×Int) (λx=>GY f a b (0,0) x.1 out/\(∃more,x.1=g++more)/\(0<=x.2.2/\x.2.2<=256)/\FE (CU a b s) x.1 x.2.1 x.2.2.toNat) (λx=>256-x.2.2.toNat)
   ⟨H,⟨[],by simp⟩,⟨by simp,by simp⟩,FE.zero⟩ (by omega) λx nx2 hJ _ j=>?_;obtain⟨o,J,ci⟩:=x;obtain⟨t,⟨more,A⟩,⟨S,T⟩,G⟩:=hJ;dsimp only at t A S T G j;obtain⟨c,rfl⟩:∃c:Nat,ci=c:=⟨ci.toNat,by omega⟩;rw[Acd]at G j;have hoM:=Hm t.nd t.nB;have V:J.length<=256:=by have:=G.ed.len;omega
  refine Ob (λhc=>?_) λhc=>?_
  ·have hc:(c:Int)<256:=hc;have hc:c<256:=by omega
   dsimp only;rw[Acd,Abm,Ada];have v:GK.F8 (c:Int):=by omega
   have I:Zi a b (CU a b s c):=Zi.step ha hb s c;refine Abw (BY (AV hc) (P3 (λh=>?_) λh=>?_))
   ·have R:=t.put I;refine PK (p:=GK.F8 (c:Int)) v (PK (p:=GK.F8 (c:Int)) v (BY (Rl sa (by omega)) (PK (p:=GK.F8 (c:Int)) v (BY (Rl sb (by omega)) (BY (gC (x:=CU a b s c) (by omega) (by omega)) ?_)))));have M:((J++[((c:Int),(0:Int),(((EX o (CU a b s c)).idxOf (CU a b s c):Nat):Int))]).length:Int)-1=(J.length:Nat):=by simp
    have N:idx (J++[((c:Int),(0:Int),(((EX o (CU a b s c)).idxOf (CU a b s c):Nat):Int))]) ((J.length:Nat):Int)=Ac ((c:Int),(0:Int),(((EX o (CU a b s c)).idxOf (CU a b s c):Nat):Int)):=by rw[Bk (by simp)];simp
    rw[M];refine PK (by unfold Ai;omega) (Aao (PK (p:=GK.F8 (c:Int)) v (BY N (Abx (by omega) ?_))));rw[Acd,Acy _ _ (by omega),Aim,Ahs];obtain⟨m2,O⟩:=MD o (CU a b s c);have E:=G.new (more:=m2) (e:=c+1) (O▸RG o (CU a b s c)) (by omega) (λb' C h2=>by rw[show b'=c by omega]);rw[<-O,show(((c+1:Nat):Int)-1)=(c:Int) by omega]at E;exact j (_,_,(c:Int)+1) ⟨R,⟨more++m2,by rw[O,A];simp⟩,⟨by dsimp only;omega,by dsimp only;omega⟩,by exact E⟩ (by dsimp only;omega)
   ·have B:¬(q c=Bp):=by rw[h];decide
    rw[hq c hc,hq9 c hc]at B;have P:0<c:=by
     rcases Ahr c with e|e;· subst e;exact absurd (.inl (.inl rfl)) B
     ·exact e
    obtain⟨z,lo,qq,rfl⟩:=G.last P;have F:∀ {l:Tb} {i:Int},¬J8 (CT l i) c->Bl l i c=Bl l i (c-1):=λ{l i} K=>by rw[HX,HX];exact Mm P (λe U C=>K ⟨e,U, .inl C⟩) (λe U C=>K ⟨e,U, .inr C⟩)
    have W:CU a b s c=CU a b s (c-1):=Acp (F λC=>B (.inl (.inr C))) (F λC=>B (.inr C));have M:((z++[(lo,(c:Int)-1,qq)]).length:Int)-1=(z.length:Nat):=by simp
    have N:idx (z++[(lo,(c:Int)-1,qq)]) ((z.length:Nat):Int)=Ac (lo,(c:Int)-1,qq):=by rw[Bk (by simp)];simp
    rw[M];refine Aao (PK (p:=GK.F8 (c:Int)) v (BY N (Abx (by omega) ?_)));rw[Acd,Acy _ _ (by omega),Aim,Ahs];exact j (_,_,(c:Int)+1) ⟨t,⟨more,A⟩,⟨by dsimp only;omega,by dsimp only;omega⟩,by rw[show((c:Int)+1).toNat=c+1 by omega];exact G.more P W⟩ (by dsimp only;omega)
  ·have hc:¬(c:Int)<256:=hc;obtain rfl:c=256:=by omega
   have Y:o[out.length]?=Ac s:=by rw[A,Pe d];exact D
   refine PK (by dsimp only;unfold Ai;omega) (hnx (_,_,out.length+1) ⟨t.add Y G.row,by simp⟩ (by dsimp only;omega))
 ·have d:¬(out.length:Int)<g.length:=d;obtain⟨L,t2,t3⟩:=H.done (by omega);have hsh:DT out (max (G1 a b) 256):=L.sh (by omega) (by omega);refine OH (MK L.by hsh (by omega) (by omega) (by omega)) λr hr=>MP ?_;rw[hr.1 L];exact CD.of L t2 t3
def DZ(l:Tb):Int:=if l.length=0 then-1 else 0
theorem Ol:yk fu l=Ac (DZ l):=by grind[yk,DZ]
theorem Oj(l:Tb):Av l (DZ l)=Av l 0:=by
 unfold DZ;split;· rename_i h;grind[Ee,Ed]
 rfl
theorem Kh(l:Tb): -1<=DZ l/\DZ l<l.length:=by grind[DZ]
theorem W6(h:i<l.length):vI fu (l,i)=Ac (fin l i):=by refine(Ok.eq ?_);exact Ob (λa=>Adg a h (MP (Ef a h).symm)) λa=>MP (fin_neg (by omega)).symm
theorem RY{b:Nat}(w:DT l n)(x:n<fu)(h1:i<l.length):vH fu (l,i,(b:Int))=Ac (Bl l i b):=by
 refine(Ok.eq ?_);refine Ob (λh=>MP (Jh _ h).symm) λh=>?_;have v:=Bt (l:=l) (i:=i) (by omega) (by omega);have q:Bl l i b=AP (l[i.toNat]'(by omega)).2 b:=by grind[Bl]
 have c:idx l i=Ac (l[i.toNat]'(by omega)):=Fs (by omega) h1;rw[q];have p:=w.2 _ (AN (by omega:i.toNat<l.length));generalize l[i.toNat]'(by omega)=s at p c;refine V_ (λk=> ∀j (_:j<k) (r:j<s.2.length),BN b s.2[j]=Aj) s.2.length (by omega) (by omega) (λk nx t f u=>?_) (λnx f=>?_)
 ·have e:BN b s.2[k]=Aj->∀j (_:j<k+1) (r:j<s.2.length),BN b s.2[j]=Aj:=λh j r o=>by
   grind
  refine BY c (P7 (BY c (Aah t (Ob (λd=>Ob (λm=>MP ?_) λm=>u (e ?_)) λd=>u (e ?_)))));· grind[BN,Ha]
  all_goals grind[BN]
 simp_all[BY,P8,MP,Gv]
def Fi(es:List Cm)(c:Nat)(z:Int):Prop:= ∀e∈es,((c:Int)<e.1->z<=e.1)/\((c:Int)<=e.2.1->z<=e.2.1+1)
theorem Fi.no(h:Fi es c z){b:Nat}(h1:c<b)(h2:(b:Int)<z):∀e∈es,e.1≠(b:Int)/\e.2.1+1≠(b:Int):=λe a=>by have:=h e a;omega
theorem Fi.mono{y:Int}(h:Fi es c z)(k:y<=z):Fi es c y:=λe a=>by have:=h e a;omega
theorem KG{s:TX}{P:Int->Prop}{nx:Int->Option Int}(hc:c<256)(F:(c:Int)<z/\z<=256)(q:∃n,BR s.2 256 n)(D:s.2.length<fu)
  (E:∀y,(c:Int)<y/\y<=z->Fi s.2 c y->Ok (nx y) P):
  Ok (Ad fu (λ(a:Int×Nat) i=>
    bif Di ((↑a.2:Int)<(↑(EW s.2):Int))then
     Ab (idx s.2 (↑a.2:Int)) λG=>
     bif Di ((c:Int)<G.1)then
      Ab (idx s.2 (↑a.2:Int)) λb=>
      Aa (Lr.i64) (if b.1<a.1 then b.1 else a.1)<|
      Ab (idx s.2 (↑a.2:Int)) λv=>
      bif Di ((c:Int)<=v.2.1)then
       Ab (idx s.2 (↑a.2:Int)) λd=>
       Aa (Lr.i64) (d.2.1+(1:Int))<|
       Aa (Lr.i64) (if d.2.1+(1:Int)<if b.1<a.1 then b.1 else a.1 then d.2.1+(1:Int)else if b.1<a.1 then b.1 else a.1)<|
       i (((if(d.2.1+(1:Int))<(if b.1<a.1 then b.1 else a.1)then d.2.1+(1:Int)else if b.1<a.1 then b.1 else a.1),a.2+1))
      else
       i (((if b.1<a.1 then b.1 else a.1),a.2+1))
     else
      Ab (idx s.2 (↑a.2:Int)) λw=>
      bif Di ((c:Int)<=w.2.1)then
       Ab (idx s.2 (↑a.2:Int)) λf=>
       Aa (Lr.i64) (f.2.1+(1:Int))<|
       Aa (Lr.i64) (if f.2.1+(1:Int)<a.1 then f.2.1+(1:Int)else a.1)<|
       i (((if(f.2.1+(1:Int))<a.1 then f.2.1+(1:Int)else a.1),a.2+1))
      else
       i ((a.1,a.2+1))
    else
     nx a.1) ((z,0))) P:=by
 obtain⟨n,q⟩:=q;refine SE (λj y=>((c:Int)<y/\y<=z)/\Fi (s.2.take j) c y) s.2.length ⟨⟨F.1,Abn _⟩,λe t=>by grind⟩ D (λj y o l r u=>?_) (λy o r=>?_)
 ·obtain⟨x,p⟩:=r;have J:=q.rg _ (AN l);have step:∀m,(c:Int)<m/\m<=y->((c:Int)<s.2[j].1->m<=s.2[j].1)->((c:Int)<=s.2[j].2.1->m<=s.2[j].2.1+1)->Ok (o (m,j+1)) P:=λm H B C=>u _ ⟨by omega,λe t=>by
   rcases(Af l).1 t with h|rfl;· have:=p e h;omega
   omega⟩;dsimp only;refine P7 (Aah l (Ob (λh=>Aah l (Abx (by omega) (Aah l (Ob (λk=>Aah l (Aao (Abx (by split<;>split<;>omega) (step _ ?_ ?_ ?_)))) λk=>step _ ?_ ?_ ?_)))) λh=>Aah l (Ob (λk=>Aah l (Aao (Abx (by split<;>omega) (step _ ?_ ?_ ?_)))) λk=>step _ ?_ ?_ ?_)));all_goals(first|(split<;>split<;>omega)|(split<;>omega)|omega|(split<;>split<;>omega)|(split<;>omega)|(omega))
 grind
theorem iU{p q:Int}(G:Bf a)(H:Bf b)(N:DT a n)(sb:DT b n)(O:n<fu)(I:2<fu)(hc:c<256)(C:p<a.length)(D:q<b.length):
  Ok (ob fu ([a,b],[p,q],(c:Int))) λe=>((c:Int)<e/\e<=256)/\Fi (CT a p) c e/\Fi (CT b q) c e:=by
 rw[ob];obtain⟨f,rfl⟩:∃f,fu=f+3:=⟨fu-3,by omega⟩;have neg:∀ {l:Tb} {i:Int},i<0->CT l i=[]:=λh=>by grind[CT]
 have row:∀ {l:Tb} {i:Int} (B:0<=i) (s:i<l.length),CT l i=(l[i.toNat]'(by omega)).2:=λB s=>by simp_all[CT,if_neg,Bt]
 rw[Ad];refine T3 (by simp) (BY (a:=p) rfl ?_);have j:∀y,(c:Int)<y/\y<=256->Fi (CT a p) c y->Ok (Ad (f+2) (λ(r:Int×Nat) w=>
  bif Di (
        (↑r.2:Int)<(↑(EW [a,b]):Int))then
   Ab (idx [p,q] (↑r.2:Int)) λJ=>
   bif Di (J<(0:Int))then
    w ((r.1,r.2+1))
   else
    Ab (idx [a,b] (↑r.2:Int)) λK=>
    Ab (idx [p,q] (↑r.2:Int)) λL=>
    Ab (idx K L) λt=>
    Ad (f+3) (λ(d:Int×Nat) o=>
     bif Di ((↑d.2:Int)<(↑(EW t.2):Int))then
      Ab (idx t.2 (↑d.2:Int)) λM=>
      bif Di ((c:Int)<M.1)then
       Ab (idx t.2 (↑d.2:Int)) λg=>
       Aa (Lr.i64) (if g.1<d.1 then g.1 else d.1)<|
       Ab (idx t.2 (↑d.2:Int)) λz=>
       bif Di ((c:Int)<=z.2.1)then
        Ab (idx t.2 (↑d.2:Int)) λk=>
        Aa (Lr.i64) (k.2.1+(1:Int))<|
        Aa (Lr.i64) (if k.2.1+(1:Int)<if g.1<d.1 then g.1 else d.1 then k.2.1+(1:Int)else if g.1<d.1 then g.1 else d.1)<|
        o (((if(k.2.1+(1:Int))<(if g.1<d.1 then g.1 else d.1)then k.2.1+(1:Int)else if g.1<d.1 then g.1 else d.1),d.2+1))
       else
        o (((if g.1<d.1 then g.1 else d.1),d.2+1))
      else
       Ab (idx t.2 (↑d.2:Int)) λA=>
       bif Di ((c:Int)<=A.2.1)then
        Ab (idx t.2 (↑d.2:Int)) λm=>
        Aa (Lr.i64) (m.2.1+(1:Int))<|
        Aa (Lr.i64) (if m.2.1+(1:Int)<d.1 then m.2.1+(1:Int)else d.1)<|
        o (((if(m.2.1+(1:Int))<d.1 then m.2.1+(1:Int)else d.1),d.2+1))
       else
        o ((d.1,d.2+1))
     else
      w ((d.1,r.2+1))) ((r.1,0))
  else
   Ac (r.1)) (y,1)) λe=>((c:Int)<e/\e<=256)/\Fi (CT a p) c e/\Fi (CT b q) c e:=λy E F=>by
  rw[Ad];refine T3 (by simp) (BY (a:=q) rfl ?_);have last:∀u,(c:Int)<u/\u<=y->Fi (CT b q) c u->Ok (Ac u) λe=>((c:Int)<e/\e<=256)/\Fi (CT a p) c e/\Fi (CT b q) c e:=λu s v=>MP ⟨by omega,F.mono s.2,v⟩;refine Ob (λh=>?_) λh=>BY (a:=b) rfl (BY (a:=q) rfl (Adg (by omega) D ?_));· rw[Ad];exact Qh (by simp) (last y ⟨E.1,Abn _⟩ (by intro e x;grind))
  ·refine KG hc E ⟨_,H _ (AN _)⟩ (by have:=sb.2 _ (AN (by omega:q.toNat<b.length));omega) λu s v=>?_;grind
 refine Ob (λh=>j 256 (by omega) (by rw[neg h];intro e x;cases x)) λh=>BY (a:=a) rfl (BY (a:=p) rfl (Adg (by omega) C ?_));exact KG hc (by omega) ⟨_,G _ (AN _)⟩ (by have:=N.2 _ (AN (by omega:p.toNat<a.length));omega) λy s v=>j y (by omega) (by rw[row (by omega) C];omega)
noncomputable def xt(fu:Nat)(is:Bool->Bool->Option Bool)(j m:Tb)(n o:Int):Option Tb:=
 Ad fu (
      λ(c:List (Int×Int)×List (Bool×List (Int×Int×Int))×Nat) i=>
  bif Di ((↑c.2.2:Int)<(↑(EW c.1):Int))then
   Ab (idx c.1 (↑c.2.2:Int)) λe=>
   Ag ((0:Int)<=(0:Int)/\(0:Int)<(↑2:Int))<|
   Ab (vI fu (j,e.1)) λp=>
   Ag ((0:Int)<=(1:Int)/\(1:Int)<(↑2:Int))<|
   Ab (vI fu (m,e.2)) λq=>
   Ab (is p q) λk=>
   Ad fu (λ(a:List (Int×Int)×List (Int×Int×Int)×Int) d=>
    bif Di (a.2.2<(256:Int))then
     Ag ((0:Int)<=(0:Int)/\(0:Int)<(↑2:Int))<|
     Ag ((0:Int)<=(1:Int)/\(1:Int)<(↑2:Int))<|
     Ab (ob fu ([j,m],[e.1,e.2],a.2.2)) λb=>
     Ag ((0:Int)<=(0:Int)/\(0:Int)<(↑2:Int))<|
     Ab (vH fu (j,e.1,a.2.2)) λf=>
     Ag ((0:Int)<=(1:Int)/\(1:Int)<(↑2:Int))<|
     Ab (vH fu (m,e.2,a.2.2)) λg=>
     Ab (F28 fu (a.1,f,g)) λh=>
     bif Di (h<(0:Int))then
      Ag (EW a.1+1<=Ai)<|
      Aa (Lr.u8) (a.2.2)<|
      Aa (Lr.i64) (b-(1:Int))<|
      Aa (Lr.u8) (b-(1:Int))<|
      Ag (EW a.2.1+1<=Ai)<|
      d (((a.1++[(f,g)]),(a.2.1++[(a.2.2,(b-(1:Int)),(↑(EW a.1):Int))]),b))
     else
      Aa (Lr.u8) (a.2.2)<|
      Aa (Lr.i64) (b-(1:Int))<|
      Aa (Lr.u8) (b-(1:Int))<|
      Ag (EW a.2.1+1<=Ai)<|
      d ((a.1,(a.2.1++[(a.2.2,(b-(1:Int)),h)]),b))
    else
     Ag (EW c.2.1+1<=Ai)<|
     i ((a.1,(c.2.1++[(k,a.2.1)]),c.2.2+1))) ((c.1,[],(0:Int)))
  else
   Ab (vJ fu c.2.1) λl=>
   Ac (l.1)) (([(n,o)],[],0))
theorem rO:4294967296<=Ai:=by decide
def xR(a b:Tb)(p:Int×Int):Prop:=p.1<a.length/\p.2<b.length
theorem cT(Y:∀x y,is x y=Ac (f x y))(T:Bf a)(U:Bf b)(sa:DT a n)(sb:DT b n)(hM:G1 a b<=4000000000)(hn:n<4294967296)(hf:n+2<fu)(bM:300<fu)(hfM:G1 a b+2<fu):
  Ok (xt fu is a b (DZ a) (DZ b)) λr=>CD r (λw=>f (Av a 0 w) (Av b 0 w)) (G1 a b):=by
 have c187:=rO;refine XD (X:=List (Int×Int)×Tb×Nat) (λx=>GY f a b (DZ a,DZ b) x.1 x.2.1/\(∀p∈x.1,xR a b p)/\x.2.2=x.2.1.length) (λx=>G1 a b+1-x.2.2)
  ⟨⟨rfl,by simp,λp j=>by grind[Zi,Kh],by simp,λk s r _ hr=>by grind⟩,λp j=>by simp at j;subst j;exact⟨(Kh a).2,(Kh b).2⟩,rfl⟩ (by omega) λx nx B _ Z=>?_;obtain⟨l,out,k⟩:=x;obtain⟨B,R,hk⟩:=B;dsimp only at B R hk;subst hk;have hol:=Hm B.nd B.nB;refine Ob (λh=>?_) λh=>?_
 ·have h:(out.length:Int)<l.length:=h;have h:out.length<l.length:=by omega
  have z:l[out.length]?=Ac l[out.length]:=IS h;have i:=R _ (AN h);refine Aah h ?_;generalize hs:l[out.length]=s at z i;refine PK (by simp) (BY (W6 i.1) (PK (by simp) (BY (W6 i.2) (BY (Y _ _) ?_))));refine XD (X:=List (Int×Int)×List Cm×Int) (λx=>GY f a b (DZ a,DZ b) x.1 out/\(∀p∈x.1,xR a b p)/\(∃more,x.1=l++more)/\(0<=x.2.2/\x.2.2<=256)/\FE (CU a b s) x.1 x.2.1 x.2.2.toNat) (λx=>256-x.2.2.toNat)
   ⟨B,R,⟨[],by simp⟩,⟨by simp,by dsimp only;omega⟩,FE.zero⟩ (by omega) λx nx2 hJ _ q=>?_;obtain⟨o,es,ci⟩:=x;obtain⟨m,u,⟨more,C⟩,⟨V,W⟩,G⟩:=hJ;dsimp only at m u C V W G q;obtain⟨c,rfl⟩:∃c:Nat,ci=c:=⟨ci.toNat,by omega⟩;have hoM:=Hm m.nd m.nB;have hel:es.length<=256:=by have:=G.ed.len;omega
  refine Ob (λhc=>?_) λhc=>?_
  ·have hc:(c:Int)<256:=hc;have hc:c<256:=by omega
   have J:GK.F8 (c:Int):=by omega
   have D:Zi a b (CU a b s c):=Zi.step T U s c;have I:xR a b (CU a b s c):=by have:=T.st s.1 c;have:=U.st s.2 c;unfold xR CU;omega
   dsimp only;refine PK (by decide) (PK (by decide) (OH (iU T U sa sb (by omega) (by omega) hc i.1 i.2) λe he=>?_));obtain⟨⟨he0,he1⟩,P,Q⟩:=he;obtain⟨t,rfl⟩:∃t:Nat,e=t:=⟨e.toNat,by omega⟩;have v:∀E,c<=E->E<t->CU a b s E=CU a b s c:=λE h1 h2=>by obtain⟨d,rfl⟩:∃d,E=c+d:=⟨E-c,by omega⟩;have k1:=G' (es:=CT a s.1) (lo:=c) d λb2 O h4=>P.no O (by omega);have k2:=G' (es:=CT b s.2) (lo:=c) d λb2 O h4=>Q.no O (by omega);unfold CU;rw[HX,HX,k1,k2,<-HX,<-HX]
   have H:=m.put D;obtain⟨m2,N⟩:=MD o (CU a b s c);have A:=G.new (more:=m2) (e:=t) (N▸RG o (CU a b s c)) (by omega) v;rw[<-N]at A;have S:∀p∈EX o (CU a b s c),xR a b p:=λp j=>by
    unfold EX at j;split at j;· exact u p j
    ·rcases AS.1 j with j|j;· exact u p j
     ·simp at j;subst j;exact I
   have g:=q (EX o (CU a b s c),es++[((c:Int),(t:Int)-1,(((EX o (CU a b s c)).idxOf (CU a b s c):Nat):Int))],(t:Int)) ⟨H,S,⟨more++m2,by rw[N,C];simp⟩,⟨by dsimp only;omega,by dsimp only;omega⟩,by rw[Acd];exact A⟩ (by dsimp only;omega);refine PK (by decide) (BY (RY sa (by omega) i.1) (PK (by decide) (BY (RY sb (by omega) i.2) (BY (XI (x:=CU a b s c) (by omega)) ?_))));have K:GK.F8 ((t:Int)-1):=by unfold GK.F8;omega
   by_cases F:CU a b s c∈o;· rw[if_pos F];rw[PM,if_pos F]at g;unfold EX at g;rw[if_pos F]at g;exact P8 (PK (p:=GK.F8 (c:Int)) J (Aao (PK (p:=GK.F8 ((t:Int)-1)) K (PK (by unfold Ai;omega) g))))
   ·rw[if_neg F];rw[PM,if_neg F]at g;unfold EX at g;rw[if_neg F]at g;exact P7 (Abw (PK (p:=GK.F8 (c:Int)) J (Aao (PK (p:=GK.F8 ((t:Int)-1)) K (PK (by unfold Ai;omega) g)))))
  ·have hc:¬(c:Int)<256:=hc;obtain rfl:c=256:=by omega
   have g:o[out.length]?=Ac s:=by rw[C,Pe h];exact z
   refine PK (by dsimp only;unfold Ai;omega) (Z (_,_,out.length+1) ⟨m.add g G.row,u,by simp⟩ (by dsimp only;omega))
 ·have h:¬(out.length:Int)<l.length:=h;obtain⟨M,t2,t3⟩:=B.done (by omega);have hsh:DT out (max (G1 a b) 256):=M.sh (by omega) (by omega);refine OH (Lb M.by hsh (by omega) (by omega) (by omega)) λr hr=>MP ?_;rw[hr.1 M];refine(CD.of M t2 t3).congr (funext λw=>?_);rw[Oj,Oj]
structure nT(n fu:Nat)(a b:Tb):Prop where
 ha:N6 a
 hb:N6 b
 sa:DT a n
 sb:DT b n
 hM:G1 a b<=4000000000
 hn:n<4294967296
 hf:n+2<fu
 bM:300<fu
 hfM:G1 a b+2<fu
theorem RL(a b:Tb):G1 (Da a) (Da b)<=G1 a b:=Abv (by grind[Kx]) (by grind[Kx])
theorem ml(a b:Tb):a.length<=G1 a b:=Aan (by omega:a.length<=(a.length+2)*1) (Abv (Aac _) (by omega))
theorem wi(a b:Tb):b.length<=G1 a b:=Aan (by omega:b.length<=1*(b.length+2)) (Abv (by omega) (Aac _))
noncomputable def gL(a:Tb):Lg:=Av (Da a) 0
theorem Hz:gL []=λ_=>Aj:=by unfold gL;rw[Sy (by simp[Bf]) Nj];exact funext λw=>Ed 0 w
theorem PO(c:nT n fu a b)(d:∀x y,is x y=Ac (f x y)):
  Ok (Ab (Q7 fu a) λg=>Ab (Q7 fu b) λi=>mj fu is g i) λr=>CD r (λw=>f (gL a w) (gL b w)) (G1 a b):=by
 have h:=RL a b;refine BY (Gg c.ha c.sa c.hn c.hf (by have:=c.bM;omega)) (BY (Gg c.hb c.sb c.hn c.hf (by have:=c.bM;omega)) ?_);exact(Z8 d (Hw a) (Hw b) (Hx c.sa) (Hx c.sb) (by have:=c.hM;omega) c.hn c.hf c.bM (by have:=c.hfM;omega)).mono λr e=>e.mono h
theorem jd{l:List Cm}(h:l.length<4294967296):F99 fu l=Ac l:=by
 cases l with
 |nil=>grind[d99n]
 |cons x l=>exact(d99c fu x l).trans (by unfold Ag Ai;grind)
theorem Yn(e:DT l n)(g:n<4294967296)(i:n<fu):Zb fu l=Ac l:=by
 refine(Ok.eq ?_);refine SE (λk (o:Tb)=>o=l.take k) l.length (by simp) (by have:=e.1;omega) (λk o nx c b d=>?_) (λo nx b=>?_);· have f:(l[k]).2.length<4294967296:=Afr (e.2 _ (AN c)) g;have h:=e.1;refine P7 (Aah c (BY (jd f) (PK (by grind) (d _ ?_))));grind[List.take_add_one,List.getElem?_eq_getElem]
 simp_all[P8,MP]
theorem QB(d:N6 a)(c:DT a n)(b:n<4294967296)(e:n+2<fu)(f:300<fu){P:Tb->Prop}(h:P (Da a)):
  Ok (Ab (Q7 fu a) λr=>Ab (Zb fu r) λr=>Ac r) P:=
 BY (Gg d c b e (by omega)) (BY (Yn (Hx c) b (by omega)) (MP h))
theorem Ul(c:nT n fu a b):Ok (Vu fu (a,b)) λr=>CD r (λw=>gL a w||gL b w) (G1 a b):=by
 refine Ob (λh=>?_) λ_=>Ob (λh=>?_) λ_=>?_;· obtain rfl:a=[]:=OF.1 (by omega);refine QB c.hb c.sb c.hn c.hf c.bM (((M1 b).congr (funext λw=>?_)).mono (wi _ _));rw[Hz];rfl
 ·obtain rfl:b=[]:=OF.1 (by omega);refine QB c.ha c.sa c.hn c.hf c.bM (((M1 a).congr (funext λw=>?_)).mono (ml _ _));rw[Hz];simp[gL]
 ·refine OH (PO (f:=λx y=>x||y) c λx y=>?_) λr h=>MP h;grind[uW]
theorem Ox(c:nT n fu a b):Ok (YZ fu (a,b)) λr=>CD r (λw=>gL a w&& !gL b w) (G1 a b):=by
 refine Ob (λh=>?_) λ_=>Ob (λh=>?_) λ_=>?_;· obtain rfl:a=[]:=OF.1 (by omega);refine MP (CD.nil.congr (funext λw=>?_));grind[Hz]
 ·obtain rfl:b=[]:=OF.1 (by omega);refine QB c.ha c.sa c.hn c.hf c.bM (((M1 a).congr (funext λw=>?_)).mono (ml _ _));rw[Hz];simp[gL]
 ·refine OH (PO (f:=λx y=>x&& !y) c λx y=>?_) λr h=>MP h;grind[uH]
theorem jC(c:nT n fu a b):Ok (um fu (a,b)) λr=>CD r (λw=>gL a w&&gL b w) (G1 a b):=by
 refine Ob (λh=>?_) λ_=>Ob (λh=>?_) λ_=>?_;· obtain rfl:a=[]:=OF.1 (by omega);refine MP (CD.nil.congr (funext λw=>?_));grind[Hz]
 ·obtain rfl:b=[]:=OF.1 (by omega);refine MP (CD.nil.congr (funext λw=>?_));grind[Hz]
 ·refine OH (PO (f:=λx y=>x&&y) c λx y=>?_) λr h=>MP h;grind[uo]
def gv(o:Int)(x y:Bool):Bool:=if o=38 then x&&y else if o=124 then x||y else x&& !y
theorem fw(fu:Nat)(o:Int)(x y:Bool):F25 fu (o,x,y)=Ac (gv o x y):=by
 rw[F25];unfold gv;dsimp only[iF,iB];by_cases h:o=38;· rw[decide_eq_true h,if_pos h];cases x<;>rfl
 ·by_cases a:o=124;· rw[decide_eq_false h,if_neg h,decide_eq_true a,if_pos a];cases x<;>rfl
  ·rw[decide_eq_false h,if_neg h,decide_eq_false a,if_neg a];cases x<;>rfl
theorem WD{o:Int}(c:nT n fu a b):Ok (F29 fu (a,b,o)) λr=>CD r (λw=>gv o (gL a w) (gL b w)) (G1 a b):=by have h:=RL a b;refine BY (M3 c.ha c.sa c.hn c.hf (by have:=c.bM;omega)) (BY (M3 c.hb c.sb c.hn c.hf (by have:=c.bM;omega)) (BY Ol (BY Ol ?_)));exact(cT (fw fu o) (Hw a) (Hw b) (Hx c.sa) (Hx c.sb) (by have:=c.hM;omega) c.hn c.hf c.bM (by have:=c.hfM;omega)).mono λr d=>d.mono h
theorem MJ(c:nT n fu a b):Ok (Xc fu (a,b)) λr=>CD r (λw=>gL a w&& !gL b w) (G1 a b):=by exact OH (WD c) λr h=>MP h
theorem dE(c:nT n fu a b):Ok (jY fu (a,b)) λr=>CD r (λw=>gL a w&&gL b w) (G1 a b):=by rw[jY];exact OH (WD c) λr h=>MP h
theorem jD(fu:Nat):F8 fu () =Ac KT:=(rfl)
theorem CD.GC(h:CD r L m):r=[]↔L=λ_=>Aj:=by
 constructor;· rintro rfl;rw[<-h.lg];exact funext λw=>Ed 0 w
 ·intro e;exact h.unique ((CD.nil (m:=0)).congr e.symm)
def Im(l:Tb)(i:Nat):List Cm:=(Be l (i:Int)).2
def lw(l:Tb):Nat->Nat->Option Aq
 |0,i=>if fin l (i:Int)then Ac []else C7
 |k+1,i=>(Im l i).findSome? λe=>(lw l k e.2.2.toNat).map λw=>UInt8.ofNat e.1.toNat::w
def Em(l:Tb)(k i:Nat):Bool:=(lw l k i).isSome
theorem Hh(l:Tb)(i:Nat):Em l 0 i=fin l (i:Int):=by grind[Em,lw,fin]
theorem Hi(l:Tb)(k i:Nat):Em l (k+1) i=(Im l i).any λe=>Em l k e.2.2.toNat:=by
 rw[Em,show lw l (k+1) i=(Im l i).findSome? λe=>(lw l k e.2.2.toNat).map λw=>UInt8.ofNat e.1.toNat::w from rfl];induction Im l i with
 |nil=>rfl
 |cons e c b=>
  rw[List.findSome?_cons,List.any_cons,<-b,Em];cases lw l k e.2.2.toNat with
  |none=>rfl
  |some w=>rfl
theorem Uw{l:Tb} :∀ {k i:Nat} {w:Aq},lw l k i=Ac w->w.length=k
 |0,i,w,h=>by grind[lw]
 |k+1,i,w,h=>by obtain⟨e,_,a⟩:=Aez h;obtain⟨v,b,rfl⟩:=Pd.1 a;rw[Abo,Uw b]
theorem Hf{i:Nat}(h:i<l.length):Im l i=l[i].2:=by grind[Im,Bt]
theorem RD{l:Tb}{i:Nat}(h:l.length<=i):Im l i=[]:=by grind[Im,He]
theorem PH{l:Tb}(h:Bf l)(i:Nat):BR (Im l i) 256 l.length:=by
 rcases Aam i l.length with k|k;· rw[Hf k];exact h _ (AN k)
 ·rw[RD k];exact .nil
theorem oR(h:Bf l){i:Nat}(a:Em l k i=Bp):i<l.length:=by
 cases k with
 |zero=>grind[Hh,Qq]
 |succ k=>grind[Hi,RD]
theorem MC{l:Tb}(h:Bf l){k:Nat} :∀ {d i:Nat},Em l (k+d) i=Bp->∃j,j<l.length/\Em l k j=Bp
 |0,i,a=>⟨i,oR h a,a⟩
 |d+1,i,a=>by rw[<-Adt,Hi]at a;obtain⟨e,_,b⟩:=Aci.1 a;exact MC h b
theorem Z5{l:Tb}(h:Bf l):∀ {w:Aq} {i:Nat},Av l (i:Int) w=Bp->Em l w.length i=Bp
 | [],i,g=>by rw[Adq,Hh];exact g
 |c::w,i,g=>by
  have a:Av l (Bl l i c.toNat) w=Bp:=g;have f:Bl l i c.toNat=AP (Im l i) c.toNat:=by rfl
  rw[f]at a;unfold AP at a;cases d:(Im l i).find? (BN c.toNat)with
  |none=>grind[Ee]
  |some e=>
   have j:=Aca d;have k:=(PH h i).rg e j;rw[Abo,Hi];refine Aci.2 ⟨e,j,Z5 h (w:=w) ?_⟩;grind
theorem RB(l:Tb)(i:Int)(v w:Aq):runT l i (v++w)=runT l (runT l i v) w:=by simp[runT]
theorem Ua(C:Bf l) :∀(n:Nat) (w:Aq),w.length=n->Av l i w=Bp->∃v,v.length<l.length/\Av l i v=Bp:=by
 intro n;induction n using rT with
 |_ n A=>
  intro w B p;rcases Aam w.length l.length with h|h;· grind
  ·have f:∀j,0<=runT l i (w.take j)/\runT l i (w.take j)<l.length:=λj=>by
    have e:runT l i w=runT l (runT l i (w.take j)) (w.drop j):=by grind[RB,vX]
    have d:fin l (runT l (runT l i (w.take j)) (w.drop j))=Bp:=by rw[<-e];exact p
    constructor;· grind[Int.not_lt,fin_neg,Hc]
    ·refine Int.not_le.1 λm=>?_;cases y:w.drop j with
     |nil=>rw[y]at d;rw[show runT l (runT l i (w.take j)) []=runT l i (w.take j)from rfl,Qq m]at d;grind
     |cons c v=>
      grind[H0,VI,fin_neg,Hc]
   have g:¬(Bh (w.length+1) λj=>(runT l i (w.take j)).toNat).Nodup:=λg=>by
    have:=Ch (b:=a_ l.length) g λx z=>by obtain⟨j,_,rfl⟩:=EG.1 z;have:=f j;exact Abg.2 (by omega)
    rw[Az,Ain]at this;omega
   have s:∃a b,a<b/\b<=w.length/\runT l i (w.take a)=runT l i (w.take b):=by refine GB λt=>g ?_;refine Aaw.2 λa b p u k=>?_;rw[Bm,Bm];intro heq;rw[Az]at u;have:=f a;have:=f b;exact t ⟨a,b,k,by omega,by omega⟩
   obtain⟨a,b,k,u,heq⟩:=s;refine A (w.take a++w.drop b).length ?_ _ rfl ?_;· rw[Aaa,Abh,Ajh];omega
   grind[Av,RB,vX]
theorem JB(h:CD r L m)(e:r≠ []):∃k,k<r.length/\Em r k 0=Bp:=by
 have a:∃w,Av r 0 w=Bp:=GB λb=>e (h.GC.2 (by rw[<-h.lg];grind));obtain⟨w,d⟩:=a;obtain⟨v,f,c⟩:=Ua h.wf _ w rfl d;exact⟨v.length,f,Z5 h.wf (i:=0) c⟩
theorem H_(h:∃k,k<n/\Em l k 0=Bp):∃k,k<n/\Em l k 0=Bp/\∀j,j<k->Em l j 0=Aj:=by
 obtain⟨k,f,g⟩:=h;induction k using rT with
 |_ k i=>
  grind
def Cn(l:Tb)(k:Nat):List Bool:=Bh l.length (Em l k)
theorem di(B:Bf l)(x:DT l n)(F:n<4294967296)(E:n<fu):uR fu (l,Cn l k)=Ac (Cn l (k+1)):=by
 refine(Ok.eq ?_);have z:=x.1;refine PK (by grind) ?_;refine SE (λi (s:List Bool)=>s=Bh l.length λj=>Di (j<i)&&Em l (k+1) j) l.length (by grind[DB,AO]) (by omega) (λi s nx p r u=>?_) (λs nx r=>?_)
 ·have A:(l[i]).2.length<=n:=x.2 _ (AN p);have y:=B _ (AN p);have g:Im l i=(l[i]).2:=Hf p;refine P7 (Aah p ?_);refine SE (λm (t:List Bool)=>t=Bh l.length λj=>if j=i then((l[i]).2.take m).any (λe=>Em l k e.2.2.toNat)else Di (j<i)&&Em l (k+1) j) (l[i]).2.length ?_ (by omega) (λm t v q d f=>?_) (λt v d=>?_)
  ·grind
  ·have w:t.length=l.length:=by rw[d,Az]
   have c:t[i]'(by omega)=((l[i]).2.take m).any (λe=>Em l k e.2.2.toNat):=by simp only[d];rw[Bm,if_pos rfl]
   have D:=y.rg _ (AN q);have C:idx (Cn l k) ((l[i]).2[m]).2.2=Ac (Em l k ((l[i]).2[m]).2.2.toNat):=by grind[Cn,Fs,Az,Bm]
   refine P7 (Aah q (Aah (by dsimp only;omega) (P3 (λh=>Aah (by dsimp only;omega) (f _ ?_)) λh=>BY C (Aah (by dsimp only;omega) (f _ ?_)))))
   ·rw[d,Ba];refine AO λj _=>?_;by_cases a:j=i;· rw[if_pos a,if_pos a,IN q,Afn,<-c,h];rfl
    ·rw[if_neg a,if_neg a,if_neg a]
   ·rw[d,Ba];refine AO λj _=>?_;by_cases a:j=i;· rw[if_pos a,if_pos a,IN q,Afn,<-c,h];simp
    ·rw[if_neg a,if_neg a,if_neg a]
  ·refine P8 (u _ ?_);rw[d,Al];refine AO λj _=>?_;by_cases a:j=i;· rw[if_pos a,Hi,a,g];simp
   ·rw[if_neg a,show Di (j<i+1)=Di (j<i) by simp;omega]
 ·refine P8 (MP ?_);rw[r];exact AO λj a=>by simp[a]
theorem LV{l:List Bool}(d:l.length<fu):eV fu (l,Bp)=Ac (l.any λb=>b):=by
 refine(Ok.eq ?_);rw[eV];have key:Ok (uQ fu (l,Bp)) λi=>Di ((0:Int)<=i)=l.any λb=>b:=by
  refine V_ (λk=>(l.take k).any (λb=>b)=Aj) l.length (by simp) d (λk nx c a f=>?_) (λnx a=>?_)
  ·refine P7 (Aah c (P3 (λh=>MP ?_) λh=>f ?_))
   ·grind[decide_eq_true,List.any_eq_true,Alq]
   grind[cu]
  simp_all[P8,MP,Al]
 grind[OH,MP]
theorem VN{i:Nat}(hi:i<l.length)(h:Em l k i=Bp):((Cn l k).any λb=>b)=Bp:=
 Aci.2 ⟨_,EG.2 ⟨i,hi,rfl⟩,h⟩
def vC(w:Aq)(r:List (List UInt8)×Option Bool):Prop:=r.1.head?=Ac w
theorem Wx{kb:Bool->Option (List (List UInt8)×Option Bool)}{r:List (List UInt8)×Option Bool}(h:vC w r):Ok (xo kb r.1 r.2) (vC w):=by
 obtain⟨l,b⟩:=r;cases l with
 |nil=>cases h
 |cons y l=>
  cases h;unfold xo;split;· exact MP rfl
  ·exact MP rf
theorem Wy{kb:Bool->Option (List (List UInt8)×Bool)}{r:List (List UInt8)×Option Bool}(h:vC w r):Ok (rA kb r.1 r.2) λo=>o.1.head?=Ac w:=by
 obtain⟨l,b⟩:=r;cases l with
 |nil=>cases h
 |cons y l=>
  cases h;unfold rA;split;· exact MP rfl
  ·exact MP rf
theorem RF{i:Nat}(h:Em l k i=Aj):lw l k i=C7:=by simp_all[lw,Em]
def vS(l:List Int):Aq:=l.map λn=>UInt8.ofNat n.toNat
theorem VK{l:Tb}{n K:Nat}(G:Bf l)(E:DT l n)(N:n<4294967296){b:List (List Bool)}(D:b=Bh (K+1) (Cn l)):∀ {k fu:Nat} {i:Nat} {pre:List Int} {w:Aq},
  k<=K->K<4294967296->n+300+k<fu->pre.length+k<4294967296->lw l k i=Ac w->i<l.length->Ok (Y_ fu ((i:Int),(k:Int),pre,l,b)) (vC (vS pre++w))
 |0,fu+1,i,pre,w,M,C,J,O,h,o=>by
  rw[show Y_ (fu+1) ((i:Int),((0:Nat):Int),pre,l,b)=_ from d120 fu _ _ _ _ _];unfold uX;have:w=[]:=by have:=Uw h;grind
  subst this;exact T3 (by rfl) (MP (by simp[vC,vS]))
 |k+1,fu+1,i,pre,w,M,C,J,O,h,o=>by
  rw[show Y_ (fu+1) ((i:Int),((k+1:Nat):Int),pre,l,b)=_ from d120 fu _ _ _ _ _];unfold uX;have P:(l[i]).2.length<=n:=E.2 _ (AN o);have L:=G _ (AN o);have s:Im l i=(l[i]).2:=Hf o;have h:((l[i]).2.findSome? λe=>(lw l k e.2.2.toNat).map λw=>UInt8.ofNat e.1.toNat::w)=Ac w:=s▸h;refine P8 (Aah o ?_);refine V_ (λm=> ∀j (_:j<m) (d:j<(l[i]).2.length),Em l k ((l[i]).2[j]).2.2.toNat=Aj) (l[i]).2.length (by omega) (by omega) (λm nx x t y=>?_) (λnx t=>?_)
  ·have g:=L.rg _ (AN x);refine P7 (Aah x ?_);obtain⟨f,rfl⟩:∃f,fu=f+1:=⟨fu-1,by omega⟩;refine P7 (Abx (by omega) ?_);have Q:idx b (((k+1:Nat):Int)-1)=Ac (Cn l k):=by
    grind[Bk,Az,Bm]
   have R:idx (Cn l k) ((l[i]).2[m]).2.2=Ac (Em l k ((l[i]).2[m]).2.2.toNat):=by simp_all[Cn,Fs,Az,Bm]
   refine BY Q (BY R (P3 (λq=>?_) λq=>y ?_))
   ·obtain⟨v,F⟩:=Abk.1 q;have z:w=UInt8.ofNat ((l[i]).2[m]).1.toNat::v:=by
     have:((l[i]).2.findSome? λe=>(lw l k e.2.2.toNat).map λw=>UInt8.ofNat e.1.toNat::w)=Ac (UInt8.ofNat ((l[i]).2[m]).1.toNat::v):=by
      conv=>lhs;rw[<-Ace m (l[i]).2]
      rw[Agq,Aak x,List.findSome?_cons,F];have:((l[i]).2.take m).findSome? (λe=>(lw l k e.2.2.toNat).map λw=>UInt8.ofNat e.1.toNat::w)=C7:=by refine Ale.2 λe g=>?_;obtain⟨j,d,rfl⟩:=Adi.1 g;rw[RF (t j (by omega) (by omega))];rfl
      rw[this];rfl
     rw[this]at h;cases h;rfl
    have A:=VK G E N D (k:=k) (fu:=f+1) (i:=((l[i]).2[m]).2.2.toNat) (pre:=pre++[((l[i]).2[m]).1]) (w:=v) (by omega) C (by omega) (by rw[Aaa,Acl];omega) F (by omega);rw[Abd g.2.2.2.1,show(k:Int)=(((k+1:Nat):Int)-1) by omega]at A;have I:vS (pre++[((l[i]).2[m]).1])++v=vS pre++w:=by rw[z];simp[vS]
    rw[I]at A;refine Aao (PK ⟨rfl,rfl⟩ (PK (p:=GK.F8 _) (by omega) (PK ⟨by unfold Ai;omega,by decide⟩ (OH A λr q=>Wx q))))
   grind
  ·have:((l[i]).2.findSome? λe=>(lw l k e.2.2.toNat).map λw=>UInt8.ofNat e.1.toNat::w)=C7:=by
    refine Ale.2 λe g=>?_;obtain⟨j,d,rfl⟩:=Aat g;rw[RF (t j d d)];rfl
   rw[this]at h;cases h
theorem WR:4294967296<=Ai:=by decide
theorem Ru(p:Bf l)(m:DT l n)(g:n<4294967296)(h0:0<l.length)(f:k<4294967296)(e:n+300+k<fu):
  Ok (Y9 fu (l,k,1,(k:Int),Bh (k+1) (Cn l))) λr=>(Em l k 0=Aj->r=([],Ac Bp))/\∀w,lw l k 0=Ac w->vC w r:=by
 have q:idx (Bh (k+1) (Cn l)) ((k:Int)+0)=Ac (Cn l k):=by simp_all[Int.add_zero,Bk,Az,Bm]
 have s:idx (Cn l k) (0:Int)=Ac (Em l k 0):=by grind[Cn,Fs,Az,Bm]
 refine PK (by simp) (BY q (BY s ?_));cases b:Em l k 0 with
 |false=>exact VP rfl (MP ⟨λ_=>rfl,λw h=>by grind[Em]⟩)
 |true=>
  obtain⟨w,a⟩:=Abk.1 b;have:=VK p m g (K:=k) rfl (k:=k) (fu:=fu) (i:=0) (pre:=[]) (Aac _) f e (by grind) a h0;refine Qb rfl (OH this λr c=>(Wx c).mono λo j=>⟨λh=>(by grind),λv d=>?_⟩);rw[a]at d;cases d;exact j
theorem Zp(J:Bf l)(I:DT l n)(hn:n<4294967295)(h0:0<l.length)(C:m<l.length)(N:Em l m 0=Bp)(v:∀j,j<m->Em l j 0=Aj)(hf:2*n+400<fu):
  Ok (TT fu l) λr=> ∃w,r.1.head?=Ac w:=by
 have Q:=WR;obtain⟨P,K⟩:=Abk.1 N;have Y:=I.1;refine SE (λk (s:List Bool)=>s=(Bh k λi=>fin l (i:Int))) l.length rfl (by omega) (λk s nx C B H=>?_) (λs nx B=>?_);· refine P7 (Aah C (PK (by grind[Az]) (H _ ?_)));grind[Dg,Ef]
 refine P8 (PK (by omega) ?_);have t:s=Cn l 0:=by rw[B];exact AO λi _=>(Hh l i).symm
 refine XD (X:=List (List Bool)×Int) (λx=> ∃k:Nat,x.2=k/\k<=m/\x.1=Bh (max k 1) (Cn l)) (λx=>m+1-x.2.toNat) ⟨0,rfl,by omega,by rw[t];rfl⟩ (by omega) λx nx2 S _ g=>?_;obtain⟨e,z⟩:=x;obtain⟨k,O,V,c⟩:=S;dsimp only at O c g;subst O;have q:((Cn l k).any λb=>b)=Bp:=by obtain⟨j,U,E⟩:=MC J (k:=k) (d:=m-k) (i:=0) (by rw[show k+(m-k)=m by omega];exact N);exact VN U E
 have u:(Cn l k).length<fu:=by unfold Cn;rw[Az];omega
 have p:∀ {R:List (List Bool)} {kb:Bool->Option (List (List UInt8)×Bool)},R=Bh (k+1) (Cn l)->
   (k<m->Ok (kb Bp) λr=> ∃w,r.1.head?=Ac w)->
   Ok (Ab (Y9 fu (l,aC (k:Int),aC ((k:Int)+1-(k:Int)),(k:Int),R)) λA=>rA kb A.1 A.2) λr=> ∃w,r.1.head?=Ac w:=λ{R kb} T F=>by
  rw[T,show aC (k:Int)=k by omega,show aC ((k:Int)+1-(k:Int))=1 by omega];refine OH (Ru J I (by omega) h0 (by omega) (by omega)) λr y=>?_;rcases Aam k m with h|h;· rw[y.1 (v k h)];have:=F h;exact this
  ·obtain rfl:k=m:=by omega
   exact(Wy (y.2 P K)).mono λo W=>⟨P,W⟩
 dsimp only;refine P7 (Ob (λC=>?_) λC=>?_)
 ·have Z:idx e ((k:Int)-1)=Ac (Cn l (k-1)):=by
   rw[show((k:Int)-1)=((k-1:Nat):Int) by omega,c,Bk (by rw[Az];omega),Bm]
  have hc:=di (l:=l) (k:=k-1) (fu:=fu) J I (by omega) (by omega);rw[show k-1+1=k by omega]at hc;have a:e++[Cn l k]=Bh (k+1) (Cn l):=by rw[c,show max k 1=k by omega,Dg]
  have M:e.length=k:=by rw[c,Az];omega
  have L:idx (e++[Cn l k]) (k:Int)=Ac (Cn l k):=by rw[a,Bk (by rw[Az];omega),Bm]
  refine Aao (BY Z (BY hc (Abw (BY L (BY (LV u) ?_)))));rw[q];refine Qb rf (Aao (Aao (PK ⟨⟨by omega,by omega⟩,rf,by rw[a,Az];omega⟩ ?_)));refine p a λG=>Qb rf (Aao (g _ ⟨k+1,by dsimp only;omega,by omega,by dsimp only;rw[a,show max (k+1) 1=k+1 by omega]⟩ (by dsimp only;omega)))
 ·obtain rfl:k=0:=by omega
  have a:e=Bh (0+1) (Cn l):=c;have L:idx e ((0:Nat):Int)=Ac (Cn l 0):=by rw[a,Bk (by rw[Az];omega),Bm]
  refine BY L (BY (LV u) ?_);rw[q];refine Qb rf (Aao (Aao (PK ⟨⟨by omega,by omega⟩,rf,by rw[a,Az];omega⟩ ?_)));refine p a λG=>Qb rf (Aao (g _ ⟨1,by dsimp only;omega,by omega,by dsimp only;rw[a];rfl⟩ (by dsimp only;omega)))
theorem aX(h:CD r L m)(i:DT r n)(t:n<4294967295)(p:2*n+400<fu):Ok (Vr fu r) λo=>o.2=Di (r≠ []):=by
 have key:Ok (Y4 fu (r,1)) λo=>(r=[]->o=[])/\(r≠ []->∃w,o=[w]):=by
  rw[Y4];refine Qh (by simp) (BY (Gg h.wf.by i (by omega) (by omega) (by omega)) ?_);rw[h.E6];refine BY (rfl) ?_;by_cases c:r=[]
  ·subst c;have:TT fu []=Ac ([],Bp):=by
    refine(Ok.eq ?_);have j:=WR;rw[TT];obtain⟨f,rfl⟩:∃f,fu=f+1:=⟨fu-1,by omega⟩;rw[Ad];exact Qh (by simp) (MP rfl)
   refine BY this ?_;exact MP ⟨λ_=>rfl,λh=>absurd rf h⟩
  ·have s:0<r.length:=Aeb.2 c;obtain⟨k,q,e,g⟩:=H_ (JB h c);refine OH (Zp h.wf i t s q e g p) λo d=>?_;obtain⟨l,b⟩:=o;cases l with
   |nil=>grind
   |cons y l=>
    refine PK (by trivial) (Abx (by decide) (T3 (by simp) (MP ⟨λh=>absurd h c,λ_=>⟨y,rf⟩⟩)))
 rw[Vr];refine OH key λo d=>?_;by_cases c:r=[];· rw[d.1 c];exact T3 rfl (MP (by simp[c]))
 ·obtain⟨w,rfl⟩:=d.2 c;exact Qh (by simp) (BY (a:=w) rfl (MP (by simp[c])))
abbrev Sc:=Bool×Bool×Bool×(List Sp×List Sp)×Tb
end
section
variable{m k:Nat}{s:Sc}{fu:Nat}{L:Lg}{r:Tb}
def EL:Sc:=(Aj,Aj,Aj,([],[]),[])
structure dQ(k m:Nat)(s:Sc):Prop where
 sm:LB s.2.2.2.1
 n1:s.2.2.2.1.1.length<=k
 n2:s.2.2.2.1.2.length<=k
 bt:N6 s.2.2.2.2
 sh:DT s.2.2.2.2 m
structure Ij(k m:Nat)(s:Sc):Prop where
 nu:Eh s.2.2.2.1 (A8 s.2.2.2.1) (A6 s.2.2.2.1)
 n1:s.2.2.2.1.1.length<=k
 n2:s.2.2.2.1.2.length<=k
 ln:CD s.2.2.2.2 (Av s.2.2.2.2 0) m
theorem CD.self(h:CD r L m):CD r (Av r 0) m:=⟨h.wf,h.can,rfl,h.len⟩
theorem CD.gL(h:CD r L m):gL r=L:=by unfold Go.GL.gL;rw[h.E6,h.lg]
theorem Eh.self{r:List Sp×List Sp}{I F:Int->Prop}(h:Eh r I F)(hi:∀n,I n-> -100000000000<=n/\n<=100000000000)(a:∀y,F y-> -1000000000000000<=ur y/\ur y<=1000000000000000):Eh r (GL.A8 r) (GL.A6 r):=
 h.congr (λn=>((h.A8 n).trans ⟨Aip,λk=>⟨k,hi n k⟩⟩).symm) λy=>((h.A6 y).trans ⟨Aip,λk=>⟨k,a y k⟩⟩).symm
theorem Ij.sc(h:Ij k m s)(a:k<=12):dQ k (max m 256) s:=
 ⟨h.nu.sm (Aan h.n1 a) (Aan h.n2 a),h.n1,h.n2,h.ln.wf.by,h.ln.wf.sh (Aan h.ln.len (Akw _ _)) (Ajg _ _)⟩
theorem PY:Eh (([],[]):List Sp×List Sp) (A8 ([],[])) (A6 ([],[])):=
 ⟨[],rfl, .nil,by simp, .nil,by simp,λn=>⟨λh=>absurd h Bb,λh=>absurd h.1 Bb⟩,λn=>⟨λh=>absurd h Bb,λh=>absurd h.1 Bb⟩⟩
theorem L5:Ij k m EL:=⟨PY,Abe _,Abe _,CD.nil.self⟩
theorem HZ(h:dQ k m s)(j:m<1000000000)(i:1000000000000<fu):Ok (dZ fu s) λb=>b=Bp↔Eh s.2.2.2.1 (A8 s.2.2.2.1) (A6 s.2.2.2.1)/\Bf s.2.2.2.2/\BW s.2.2.2.2=s.2.2.2.2:=by
 obtain⟨r,e,d,_⟩:=Ep (fu:=fu) h.sm (by omega);have l:=h.sm.n1;have n:=h.sm.n2;have g:F79 fu s.2.2.2.1=Ac (Di (s.2.2.2.1=r)):=by refine(Ok.eq ?_);exact BY e (BY (v8 (by omega) (by omega)) (MP rf))
 have a:s.2.2.2.1=r↔Eh s.2.2.2.1 (A8 s.2.2.2.1) (A6 s.2.2.2.1):=⟨λc=>c▸d,λc=>c.unique d⟩;refine BY g (P3 (λc=>OH (L_ h.bt h.sh (by omega) (by omega) (by omega)) λb f=>MP ?_) λc=>MP ?_);all_goals grind
theorem Ij.valid(h:Ij k m s)(d:k<=12)(f:m<=100000000)(a:1000000000000<fu):dZ fu s=Ac Bp:=by obtain⟨b,e,c⟩:=HZ (fu:=fu) (h.sc d) (by omega) a;rw[e,c.2 ⟨h.nu,h.ln.wf,h.ln.can⟩]
theorem Ij.E6(h:Ij k m s)(b:k<=12)(c:m<=100000000)(a:1000000000000<fu):n_ fu s=Ac s:=by refine(Ok.eq ?_);exact BY (h.valid b c a) (Qb rf (MP rf))
theorem GD{a b:Tb}{M:Lg}{p:Nat}(c:CD a L m)(d:CD b M p)(h:(m+2)*(p+2)<=1000000000)(g:1000000000000<fu):nT (max (max m p) 256) fu a b:=by have e:=c.len;have f:=d.len;have i:G1 a b<=(m+2)*(p+2):=Abv (by omega) (by omega);have j:m<=(m+2)*(p+2):=Aan (by omega:m<=(m+2)*1) (Abv (Aac _) (by omega));have k:p<=(m+2)*(p+2):=Aan (by omega:p<=1*(p+2)) (Abv (by omega) (Aac _));exact⟨c.wf.by,d.wf.by,c.wf.sh (by omega) (by omega),d.wf.sh (by omega) (by omega),by omega,by omega,by omega,by omega,by omega⟩
theorem orB(fu:Nat)(x y:Bool):vF fu (x,y)=Ac (x||y):=(by grind[vF])
theorem Uv(fu:Nat)(x y:Bool):YV fu (x,y)=Ac (x&& !y):=(by grind[YV])
theorem S2(h:Ij k m s)(v:k<=12)(C:m<=100000)(g:1000000000000<fu):uS fu s=Ac s:=by
 obtain⟨a,b,c,d,L⟩:=s;have z:n_ fu EL=Ac EL:=(L5 (k:=0) (m:=0)).E6 (by omega) (by omega) g;have i:=h.nu;have A:=h.n1;have B:=h.n2;have f:=h.ln;obtain⟨r,o,x,_⟩:=oV (fu:=fu) (i.sm (by omega) (by omega)) ((PY).sm (by simp) (by simp)) (by grind) (by omega);have j:d=r:=i.unique (x.congr (λn=>⟨λh=>h.resolve_right λh=>absurd h.1 Bb, .inl⟩) λn=>⟨λh=>h.resolve_right λh=>absurd h.1 Bb, .inl⟩);obtain⟨t,p,y⟩:=Ul (GD (fu:=fu) f (CD.nil (m:=0)) (by omega) g);have l:L=t:=f.unique (y.congr (funext λw=>by rw[f.gL,Hz,Ali]));rw[<-j]at o;rw[<-l]at p;have e:uU fu ((a,b,c,d,L),EL)=Ac (a,b,c,d,L):=by refine(Ok.eq ?_);refine BY (h.E6 v (by omega) g) (BY z (BY (orB fu _ _) (BY (orB fu _ _) (BY (orB fu _ _) (BY o (BY p (MP ?_)))))));simp[EL]
 have u:uT fu ((a,b,c,d,L),EL)=Ac (a,b,c,d,L):=by refine(Ok.eq ?_);exact BY e (MP rf)
 refine(Ok.eq ?_);exact BY u (MP rf)
theorem I0{fu k m:Nat}{s:Sc}(h:Ij k m s)(C:k<=12)(H:m<=100000000)(A:1000000000000<fu):Ok (Y2 fu s) λb=>b=Bp↔s=EL:=by
 obtain⟨a,b,c,t,L⟩:=s;have l:=h.nu;have F:=h.n1;have G:=h.n2;have q:=h.ln;dsimp only at l F G q;obtain⟨r,v,f,E,y,lf⟩:=XX (fu:=fu) (l.sm (by omega) (by omega)) (by omega);obtain rfl:t=r:=l.unique E;have B:f= !decide (t=([],[])):=by
  cases f with
  |false=>rw[(Agi l).1 (lf.no rfl).2];rfl
  |true=>rw[decide_eq_false λe=>(Agi l).2 e v (lf.yes rfl).1];rfl
 obtain⟨⟨w,g⟩,z,x⟩:=aX (fu:=fu) (n:=max m 256) q (q.wf.sh (Aan q.len (by omega)) (by omega)) (by omega) (by omega);have key:Ok (uP fu (a,b,c,t,L)) λo=>o.2.2.2.2.2=(a||b||c||f||g):=by refine BY (h.E6 C (by omega) A) (BY y (BY z ?_));dsimp only;refine P3 (λd=>MP (by grind)) λd=>P3 (λi=>MP (by grind)) λi=>P3 (λj=>MP (by grind)) λj=>P3 (λp=>MP (by rw[d,i,j,p];rfl)) λp=>P3 (λu=>MP (by rw[d,i,j,p,u];rfl)) λu=>MP (by rw[d,i,j,p,u];rfl)
 grind[Y2,EL,OH,MP]
abbrev A9:=Vl×Vl
end
abbrev Bz:=List (Aq×Int×A9)×List (Tb×A9)
abbrev GZ:=List A9×List A9
section
variable{c:Bz}{fu:Nat}{v:List Int}{b d k i m:Nat}{ls:List Tb}{n:Nat}{s:List Bool}{x:A9}{α:Type}{y:Sc}{l:List (Aq×Int×A9)}{a:Nat}{u:List Int}{es:List Cm}{p j:Nat}{r:List Sp×List Sp}{P:A9->Prop}
structure BX(c:Bz)(v:List Int):Prop where
 len:v.length=c.2.length+c.1.length
 cl:∀i (h:i<c.2.length), -1<=v.getD i 0/\v.getD i 0<(c.2[i]).1.length
 fd:∀j (h:j<c.1.length), -1<=v.getD (c.2.length+j) 0/\v.getD (c.2.length+j) 0<=(c.1[j]).1.length
structure dP(c:Bz):Prop where
 nf:c.1.length<=4
 nc:c.2.length<=4
 lb:∀f∈c.1,f.1.length<=60
 st:∀k∈c.2,k.1.length<=20000
 bt:∀k∈c.2,N6 k.1
 ed:∀k∈c.2,∀s∈k.1,s.2.length<=256
theorem AM{α:Type}{l:List α}{i:Nat}{d:α}(h:i<l.length):l.getD i d=l[i]:=by grind
theorem BG{l:List Int}(h:i<l.length):idx l (i:Int)=Ac (l.getD i 0):=by grind[Bk,AM]
theorem JI{l:List Int}(h:a+b<l.length):idx l ((a:Int)+(b:Int))=Ac (l.getD (a+b) 0):=by rw[show((a:Int)+(b:Int))=((a+b:Nat):Int) by omega,BG h]
def XY(v:List Int):List Int:=v.flatMap λn=>44::(Lib.itoa n).map λb=>((b.toNat:Nat):Int)
def Dw(v:List Int):Aq:=(XY v).map λn=>UInt8.ofNat n.toNat
theorem X2{n:Int}(h0: -1<=n)(h:n<10000000000):(Lib.itoa n).length<=10:=by
 rcases Aeg n 0 with b|b
 ·obtain rfl:n= -1:=by omega
  have:(Lib.itoa (-1)).length=(Lib.decDigits 1).length+1:=rfl;simp_all[Lib.decDigits_length,IU]
 grind[OR]
theorem Si{v:List Int}(h:∀n∈v, -1<=n/\n<10000000000):(XY v).length<=11*v.length:=by
 induction v with
 |nil=>trivial
 |cons n v c=>
  have d:=X2 (h n (Aau ..)).1 (h n (Aau ..)).2;have:=c λm b=>h m (Aag _ b);grind[XY]
theorem qG{v:List Int}{fu:Nat}(h:∀n∈v, -1<=n/\n<10000000000)(i:v.length<=100)(g:1000000000000<fu):x7 fu v=Ac (Dw v):=by
 refine(Ok.eq ?_);refine SE (λk (s:List Int)=>s=XY (v.take k)) v.length (by rfl) (by omega) (λk s nx d c e=>?_) (λs nx c=>?_)
 ·have j:=h _ (AN d);have a:=Si (v:=v.take k) λn e=>h n (Acj e);have f:F58 fu (v[k],10,s++[44])=Ac (s++[44]++(Lib.itoa v[k]).map λb=>((b.toNat:Nat):Int)):=by
   exact(d58i fu _ _).trans (Ok.eq (PK (by grind) (Aao (MP rf))))
  refine P7 (Aah d (PK (by grind) (BY f (e _ ?_))));grind[XY,cu]
 ·refine P8 (MP ?_);rw[c,Al];rfl
theorem BX.mem(d:dP c)(b:BX c v):∀n∈v, -1<=n/\n<20001:=λn f=>by
 obtain⟨i,e,rfl⟩:=Aat f;have g:=b.len;rcases Aam i c.2.length with h|h;· have:=b.cl i h;rw[AM e]at this;have:=d.st _ (AN h);omega
 ·obtain⟨j,rfl⟩:∃j,i=c.2.length+j:=⟨i-c.2.length,by omega⟩;have:=b.fd j (by omega);rw[AM e]at this;have:=d.lb _ (AN (by omega:j<c.1.length));omega
theorem BX.key(d:dP c)(e:BX c v)(f:1000000000000<fu):x7 fu v=Ac (Dw v)/\(Dw v).length<=100:=by
 have g:=e.mem d;have k:=e.len;have i:=d.nf;have j:=d.nc;have a:∀n∈v, -1<=n/\n<10000000000:=λn h=>by grind
 grind[Dw,qG,Si,List.length_map]
theorem Hy{l:List Int}{i j:Nat}{x:Int}(h:i<l.length):(l.set i x).getD j 0=if i=j then x else l.getD j 0:=by grind
def G3:List Nat->Nat
 | []=>1
 |n::l=>n*G3 l
def NN:List Nat->List (List Int)
 | []=>[[]]
 |n::l=>(a_ n).flatMap λ(i:Nat)=>(NN l).map λv=>((i:Int)-1)::v
theorem L9:∀l,(NN l).length=G3 l
 | []=>rfl
 |n::l=>by
  have:∀m,((a_ m).flatMap λ(i:Nat)=>(NN l).map λv=>((i:Int)-1)::v).length=m*G3 l:=λm=>by
   induction m with
   |zero=>simp
   |succ m c=>rw[Aej,Acm,Aaa,c,Aef,Aaq,L9 l,Ady]
  exact this n
theorem ML:∀ {l:List Nat} {v:List Int},v.length=l.length->(∀i (h:i<l.length), -1<=v.getD i 0/\v.getD i 0+1<l[i])->v∈NN l
 | [],v,h,_=>by obtain rfl:v=[]:=OF.1 h;trivial
 |n::l,[],h,_=>by grind
 |n::l,x::v,h,k=>by have a:=k 0 (by simp);have a: -1<=x/\x+1<(n:Int):=a;refine Aad.2 ⟨(x+1).toNat,Abg.2 (by omega),By.2 ⟨v,ML (by grind) (λi b=>?_),by grind⟩⟩;exact k (i+1) (by grind)
def GI(c:Bz):List Nat:=c.2.map (λk=>k.1.length+1)++c.1.map λf=>f.1.length+2
theorem BX.NN(b:BX c v):v∈NN (GI c):=by
 refine ML (by rw[b.len];simp[GI]) λi d=>?_;have e:i<c.2.length+c.1.length:=by grind[GI]
 rcases Aam i c.2.length with h|h;· have:=b.cl i h;grind[GI]
 ·obtain⟨j,rfl⟩:∃j,i=c.2.length+j:=⟨i-c.2.length,by omega⟩;have:=b.fd j (by omega);grind[GI]
theorem gX{l:List Aq}(a:l.Nodup)(h:∀x∈l,∃v,BX c v/\x=Dw v):l.length<=G3 (GI c):=by rw[<-L9,<-Aaq (f:=Dw)];refine Ch a λx d=>?_;obtain⟨v,b,rfl⟩:=h x d;exact By.2 ⟨v,b.NN,rfl⟩
theorem rM:1000000000000<=Ai:=by decide
structure FQ(c:Bz)(m:List (Aq×Bool)):Prop where
 nd:(m.map (·.1)).Nodup
 tr:∀p∈m,p.2=Bp
 ky:∀p∈m,∃v,BX c v/\p.1=Dw v
theorem FQ.le{m:List (Aq×Bool)}(h:FQ c m):m.length<=G3 (GI c):=by rw[<-Aaq (f:=λp:Aq×Bool=>p.1)];refine gX h.nd λx b=>?_;obtain⟨p,a,rfl⟩:=By.1 b;exact h.ky p a
theorem UM{m:List (Aq×Bool)}{x:Aq}(h:AB m x=C7):x∉m.map (·.1):=by
 induction m with
 |nil=>simp
 |cons p m d=>
  grind[AB]
theorem OV{m:List (Aq×Bool)}{x:Aq}{b:Bool}(h:AB m x=Ac b):(x,b)∈m:=by
 induction m with
 |nil=>cases h
 |cons p m d=>
  grind[AB]
theorem FQ.get{m:List (Aq×Bool)}(h:FQ c m){x:Aq} :AB m x=C7\/AB m x=Ac Bp:=by
 cases a:AB m x with
 |none=>simp
 |some b=>exact .inr (congrArg Ac (h.tr _ (OV a)))
theorem FQ.put{m:List (Aq×Bool)}(h:FQ c m)(k:BX c v)(i:AB m (Dw v)=C7):FQ c (Bw m (Dw v) Bp)/\(Bw m (Dw v) Bp).length=m.length+1:=by
 have e:Bw m (Dw v) Bp=m++[(Dw v,Bp)]:=by grind[Bw]
 rw[e];refine⟨⟨?_,λp d=>?_,λp d=>?_⟩,by simp⟩;· rw[Aap];refine Aba.2 ⟨h.nd,by simp,λa j b g=>?_⟩;simp at g;grind[UM]
 ·rcases AS.1 d with d|d;· exact h.tr p d
  grind
 ·rcases AS.1 d with d|d;· exact h.ky p d
  grind
theorem nO:4294967296<=4294967296:=by decide
theorem bO(h:n<4294967296):F82 fu n=Ac []:=by refine(Ok.eq ?_);rw[F82];have a:=nO;refine P8 (Aao (Aao (Ob (λc=>PK (by omega) ?_) (λ_=>MP rfl))));obtain⟨k,b⟩:∃k,aC ((n:Int)-((0:Int)-(0:Int)))=k+1:=⟨n-1,by omega⟩;rw[b];simp only[qc];exact Abw (PK ⟨by omega,by omega⟩ (MP rfl))
theorem UU{fu:Nat}{L:List (List A9)}(h:L.flatten.length<1000000000)(g:L.length<fu):xX fu L=Ac L.flatten:=by
 refine(Ok.eq ?_);rw[xX];have j:=nO;have i (k:Nat) (b:k<L.length):(L.take (k+1)).flatten=(L.take k).flatten++L[k]:=by rw[IN b,Ahb];simp
 have le (k:Nat):(L.take k).flatten.length<=L.flatten.length:=by have:=congrArg EW (congrArg List.flatten (Ace k L));rw[Ahb,Aaa]at this;omega
 refine SE (λk (s:Int)=>s=((L.take k).flatten.length:Nat)) L.length (by simp) g ?_ ?_;· intro k s nx b e c;have t:=i k b;have l:=le (k+1);rw[t,Aaa]at l;refine T3 (by show(k:Int)<L.length;omega) (Aah b ?_);dsimp only;refine Aao (P8 (c _ ?_));rw[t,Aaa,e];omega
 ·intro s nx e;refine Qh (by show¬(L.length:Int)<L.length;omega) ?_;rw[Aar]at e;dsimp only;rw[e];refine BY (bO (by omega)) ?_;refine SE (λk out=>out=(L.take k).flatten) L.length (by simp) g ?_ ?_
  ·intro k out nx b d c;have t:=i k b;have l:=le (k+1);rw[t,Aaa]at l;have m:out.length+L[k].length<=4294967296:=by rw[d];omega
   refine T3 (by show(k:Int)<L.length;omega) (Aah b (PK m (c _ ?_)));rw[t,d]
  ·intro out nx d;refine Qh (by show¬(L.length:Int)<L.length;omega) (MP ?_);rw[d,Aar]
def Br(c:Bz):List A9:=c.1.map (·.2.2)++c.2.map (·.2)
def AY(c:GZ):List A9:=c.1++c.2
def kids(v:Vl):List A9:=v.lists.flatMap AY++v.structs.flatMap Br
structure NY(c:Bz):Prop where
 nf:c.1.length<=4
 nc:c.2.length<=4
 lb:∀f∈c.1,f.1.length<=60
 st:G3 (c.2.map λk=>k.1.length+3)<=14641
 bt:∀k∈c.2,N6 k.1
 ed:∀k∈c.2,∀s∈k.1,s.2.length<=256
theorem VS{l:List Nat}(h:∀n∈l,0<n):0<G3 l:=by
 induction l with
 |nil=>exact Nat.one_pos
 |cons n l b=>exact Nat.mul_pos (h n (Aau ..)) (b λm a=>h m (Aag _ a))
theorem VT{l:List Nat}(h:∀n∈l,0<n)(a:n∈l):n<=G3 l:=by
 induction l with
 |nil=>cases a
 |cons m l e=>
  have d:=VS λk b=>h k (Aag _ b);have c:=h m (Aau ..);rcases Aav.1 a with rfl|a;· exact Aes _ d
  ·exact Aan (e (λk b=>h k (Aag _ b)) a) (Nat.le_mul_of_pos_left _ c)
theorem VU(a b:List Nat):G3 (a++b)=G3 a*G3 b:=by
 induction a with
 |nil=>simp[G3]
 |cons n a c=>rw[Afh,G3,G3,c,Aek]
theorem Uj{l:List α}{f g:α->Nat}(h:∀x∈l,f x<=g x):G3 (l.map f)<=G3 (l.map g):=by
 induction l with
 |nil=>exact Aac _
 |cons x l b=>exact Abv (h x (Aau ..)) (b λy a=>h y (Aag _ a))
theorem Oo(n:Nat)(l:List α):G3 (l.map λ_=>n)=n^l.length:=by
 induction l with
 |nil=>rfl
 |cons x l a=>rw[Aas,G3,a,Abo,Nat.pow_succ,Adb]
theorem NY.each(h:NY c):∀k∈c.2,k.1.length<=14641:=λk b=>by have:=VT (l:=c.2.map λk=>k.1.length+3) (λn d=>by obtain⟨q,_,rfl⟩:=By.1 d;omega) (By.2 ⟨k,b,rfl⟩);have:=h.st;omega
theorem NY.lim(h:NY c):dP c:=⟨h.nf,h.nc,h.lb,λk a=>by have:=h.each k a;omega,h.bt,h.ed⟩
theorem NY.GI(h:NY c):G3 (GI c)<=400000000000:=by
 unfold Go.GL.GI;rw[VU];have b:G3 (c.2.map λk=>k.1.length+1)<=14641:=Aan (Uj λk _=>by omega) h.st;have d:G3 (c.1.map λf=>f.1.length+2)<=62^c.1.length:=by rw[<-Oo 62 c.1];exact Uj λf g=>by have:=h.lb f g;omega
 have e:62^c.1.length<=62^4:=Ags (by decide) h.nf;exact Aan (Abv b (Aan d e)) (by decide)
def Bd:Nat->Vl->Prop
 |0,_=>False
 |d+1,v=>dQ 5 12 v.sc/\(v.lists.length<=3/\∀c∈v.lists,c.1.length<=3/\c.2.length<=2)/\(v.structs.length<=3/\∀c∈v.structs,NY c)/\∀x∈kids v,Bd d x.1/\Bd d x.2
def eZ(l:List (Aq×Int×A9)):Prop:= ∀i (h:i+1<l.length),gq l[i].1 l[i+1].1=Bp
def Snd:Nat->Vl->Prop
 |0,_=>False
 |d+1,v=>Ij 5 12 v.sc/\(∀c∈v.lists,c.2.length<=1)/\(∀c∈v.structs,eZ c.1/\∀k∈c.2,Bf k.1/\BW k.1=k.1)/\∀x∈kids v,Snd d x.1/\Snd d x.2
theorem Dx{α β:Type}{f:α->List β}{n:Nat} :∀ {l:List α},(∀x∈l,(f x).length<=n)->(l.flatMap f).length<=l.length*n
 | [],_=>by simp
 |x::l,h=>by have:=Dx (f:=f) (n:=n) (l:=l) λy b=>h y (Aag _ b);have:=h x (Aau ..);rw[Afx,Aaa,Abo,Ady];omega
theorem Bd.kids{v:Vl}(h:Bd (d+1) v):(kids v).length<=39:=by
 obtain⟨_,⟨j,i⟩,⟨k,g⟩,_⟩:=h;have a:=Dx (f:=AY) (n:=5) (l:=v.lists) λc hc=>by have:=i c hc;unfold AY;rw[Aaa];omega
 have b:=Dx (f:=Br) (n:=8) (l:=v.structs) λc hc=>by have:=(g c hc).nf;have:=(g c hc).nc;unfold Br;rw[Aaa,Aaq,Aaq];omega
 unfold Go.GL.kids;rw[Aaa];omega
theorem V0{s:Sc}(h1:s.2.2.2.1.1.length<=12)(h2:s.2.2.2.1.2.length<=12)(h3:s.2.2.2.2.length<=1000000):Ok (ya fu s) λr=>r=Bp↔s=EL:=by
 rw[ya];obtain⟨a,b,c,⟨e,f⟩,l⟩:=s;dsimp only at h1 h2 h3;have no:∀ {P:Prop},¬P->Ok (Ac Aj) λr=>r=Bp↔P:=λh=>MP ⟨λk=>(by cases k),λk=>absurd k h⟩;cases a with
 |true=>exact no λh=>by cases h
 |false=>cases b with
  |true=>exact no λh=>by cases h
  |false=>cases c with
   |true=>exact no λh=>by cases h
   |false=>
    refine VP rfl (VP rfl (VP rfl (Aao (Aao (MP ?_)))));rw[decide_eq_true_iff];constructor;· intro h;have h:((e.length:Int)+f.length+l.length)=0:=h;obtain rfl:e=[]:=OF.1 (by omega);obtain rfl:f=[]:=OF.1 (by omega);obtain rfl:l=[]:=OF.1 (by omega);rfl
    ·intro h;unfold EL at h;simp only[Aep]at h;obtain⟨_,_,_,⟨rfl,rfl⟩,rfl⟩:=h;rfl
theorem Ho{c:GZ}(h:c.1.length<=1000/\c.2.length<=1000)(b:1000000000000<fu):fq fu c=Ac (AY c):=by
 refine(Ok.eq ?_);have e:xX fu [c.1,c.2]=Ac (AY c):=by grind[AY,UU]
 exact BY e (MP rf)
theorem ZA(h:c.1.length<=1000/\c.2.length<=1000)(j:1000000000000<fu):F85 fu c=Ac (Br c):=by
 refine(Ok.eq ?_);refine SE (λk (s:List A9)=>s=(c.1.take k).map (·.2.2)) c.1.length rf (by omega) (λk s nx e d g=>?_) (λs nx d=>?_);· refine P7 (Aah e (PK (by grind) (g _ ?_)));rw[d,IN e,Aap];rfl
 rw[Al]at d;refine Qh (by omega) ?_;refine SE (λk (s:List A9)=>s=c.1.map (·.2.2)++(c.2.take k).map (·.2)) c.2.length (by grind) (by omega) (λk s nx e b g=>?_) (λs nx b=>?_);· refine P7 (Aah e (PK (by grind) (g _ ?_)));rw[b,IN e,Aap,<-Aal];rfl
 ·refine P8 (MP ?_);rw[b,Al];rfl
theorem Wc{v:Vl}(h:Bd (d+1) v)(u:1000000000000<fu):F86 fu v=Ac (kids v):=by
 obtain⟨_,⟨B,w⟩,⟨E,t⟩,_⟩:=h;have x:∀k,((v.lists.take k).flatMap AY).length<=15:=λk=>by
  have:=Dx (f:=AY) (n:=5) (l:=v.lists.take k) λc hc=>by grind[AY]
  grind
 have lb:∀k,((v.structs.take k).flatMap Br).length<=24:=λk=>by
  have:=Dx (f:=Br) (n:=8) (l:=v.structs.take k) λc hc=>by have:=(t c (Acj hc)).nf;have:=(t c (Acj hc)).nc;grind[Br]
  grind
 refine(Ok.eq ?_);refine SE (λk (s:List A9)=>s=(v.lists.take k).flatMap AY) v.lists.length rf (by omega) (λk s nx m o r=>?_) (λs nx o=>?_)
 ·have hc:=w _ (AN m);have e:(v.lists.take (k+1)).flatMap AY=s++AY v.lists[k]:=by rw[o,IN m,Acm,Aef]
  have:=x (k+1);rw[e,Aaa]at this;have p:fq fu v.lists[k]=Ac (AY v.lists[k]):=Ho (by omega) u;refine P7 (Aah m (BY p (Abw (r _ e.symm))))
 rw[Al]at o;refine Qh (by omega) ?_;refine SE (λk (s:List A9)=>s=v.lists.flatMap AY++(v.structs.take k).flatMap Br) v.structs.length (by simp[o]) (by omega) (λk s nx m j r=>?_) (λs nx j=>?_)
 ·have hc:=t _ (AN m);have z:=hc.nf;have A:=hc.nc;have e:v.lists.flatMap AY++(v.structs.take (k+1)).flatMap Br=s++Br v.structs[k]:=by rw[j,IN m,Acm,Aef,Aal]
  have a:=x v.lists.length;rw[Al]at a;have b:=lb (k+1);have:=congrArg EW e;rw[Aaa,Aaa]at this;have q:F85 fu v.structs[k]=Ac (Br v.structs[k]):=ZA (by omega) u;refine P7 (Aah m (BY q (Abw (r _ e.symm))))
 ·refine P8 (MP ?_);rw[j,Al];rfl
def FK:Nat->Nat
 |0=>0
 |d+1=>1+78*FK d
def Hl(es:List Cm)(q:Int)(b:Int):Int:=es.foldl (λq e=>if e.1<=b/\b<=e.2.1 then e.2.2 else q) q
theorem RQ{b:Int} :∀ {es:List Cm} {q:Int},(∀e∈es,¬(e.1<=b/\b<=e.2.1))->Hl es q b=q
 | [],q,_=>rfl
 |e::es,q,h=>by unfold Hl;rw[Afl,if_neg (h e (Aau ..))];exact RQ (es:=es) λf a=>h f (Aag _ a)
theorem Z'(m:es.Pairwise λa b=>a.2.1<b.1) :Hl es (-1) b=AP es b:=by
 induction es with
 |nil=>rfl
 |cons e es n=>
  obtain⟨i,j⟩:=Abj.1 m;by_cases h:e.1<=(b:Int)/\(b:Int)<=e.2.1
  ·have c:AP (e::es) b=e.2.2:=by
    grind[AP,BN]
   have d:Hl (e::es) (-1) b=Hl es e.2.2 b:=by simp_all[Hl]
   grind[RQ]
  grind[AP,BN,Hl]
def Ze(s:Aq)(n:Int)(b:Nat):Int:=if 0<=n/\n<s.length/\(s.getD n.toNat 0).toNat=b then n+1 else-1
def dVl:Vl:= .mk Aj (Aj,Aj,Aj,([],[]),[]) [] []
def dK:Tb×A9:=([],dVl,dVl)
def dF:Aq×Int×A9:=([],0,dVl,dVl)
def XO(c:Bz)(v:List Int)(b:Nat)(i:Nat):Int:=Bl (c.2.getD i dK).1 (v.getD i 0) b
def Ur(c:Bz)(v:List Int)(b:Nat)(j:Nat):Int:=Ze (c.1.getD j dF).1 (v.getD (c.2.length+j) 0) b
structure fp(c:Bz)(v u:List Int)(b:Nat):Prop where
 len:u.length=c.2.length+c.1.length
 cl:∀i,i<c.2.length->u.getD i 0=XO c v b i
 fd:∀j,j<c.1.length->u.getD (c.2.length+j) 0=Ur c v b j
theorem M8(c:u.length=v.length)(h:∀i,i<u.length->u.getD i 0=v.getD i 0):u=v:=by grind[List.ext_getElem,AM]
theorem fp.uniq{d:List Int}(h:fp c v u b)(k:fp c v d b):u=d:=by
 refine M8 (by rw[h.len,k.len]) λi e=>?_;have:=h.len;rcases Aam i c.2.length with hc|hc;· rw[h.cl i hc,k.cl i hc]
 ·obtain⟨j,rfl⟩:∃j,i=c.2.length+j:=⟨i-c.2.length,by omega⟩;rw[h.fd j (by omega),k.fd j (by omega)]
theorem dM(H:dP c)(hw:∀k∈c.2,Bf k.1)(S:BX c v)(hF:1000000000000<fu):Ok (F62 fu (c,v,(b:Int))) λu=>fp c v u b:=by
 have h1:=H.nf;have h2:=H.nc;have Z:=S.len;refine PK (by grind) ?_;refine SE (λk (s:List Int)=>s.length=v.length/\∀i,i<k->s.getD i 0= -1) v.length ⟨by simp,λi h=>by omega⟩ (by omega) (λk s nx l g E=>?_) (λs nx g=>?_)
 ·refine T3 (by grind) (BY (BG (by grind)) (E _ ⟨by grind,λi f=>?_⟩));grind[Hy]
 refine Qh (by simp) ?_;obtain⟨Q,R⟩:=g;refine SE (λk (s:List Int)=>s.length=v.length/\(∀i,i<k->s.getD i 0=XO c v b i)/\∀i,k<=i->i<v.length->s.getD i 0= -1) c.2.length ⟨Q,λi f=>by omega,λi _ f=>R i f⟩ (by omega) (λk s nx l g E=>?_) (λs nx g=>?_)
 ·have hc:=S.cl k l;have C:=AN l;obtain⟨w,F,x⟩:=g;have M:=H.ed _ C;have z:c.2.getD k dK=c.2[k]:=AM l;have step:∀t:List Int,t.length=v.length->t.getD k 0=XO c v b k->(∀i,i≠k->t.getD i 0=s.getD i 0)->Ok (nx (t,k+1)) λu=>fp c v u b:=λt I p y=>E _ ⟨I,λi f=>by
   rcases Aam i k with h|h;· rw[y i (by omega)];exact F i h
   ·obtain rfl:i=k:=by omega
    exact p,λi f N=>by rw[y i (by omega)];exact x i (by omega) N⟩;refine P7 (Aah l (BY (BG (by omega)) (Ob (λh=>step _ w (by
   rw[x k (Aac _) (by omega)];unfold XO;rw[Jh b h]) λ_ _=>rfl) λh=>(by
   have h:¬v.getD k 0<0:=h;refine BY (BG (by omega)) (Adg (Agm.1 h) hc.2 ?_);have D:(c.2[k]).1[(v.getD k 0).toNat]'(by omega)∈(c.2[k]).1:=AN _;have W:=(hw _ C) _ D;have K:=M _ D;have V:XO c v b k=AP ((c.2[k]).1[(v.getD k 0).toNat]'(by omega)).2 b:=by unfold XO Bl Be;rw[z,if_neg h,AM (by omega)]
   dsimp only;generalize(c.2[k]).1[(v.getD k 0).toNat]'(by omega)=st at W K V;refine SE (λm (t:List Int)=>t.length=v.length/\t.getD k 0=Hl (st.2.take m) (-1) b/\∀i,i≠k->t.getD i 0=s.getD i 0) st.2.length ⟨w,x k (Aac _) (by omega),λ_ _=>rfl⟩ (by omega) (λm t T C L r=>?_) (λt T L=>?_)
   ·obtain⟨G,t2,t3⟩:=L;have J:∀q,Hl (st.2.take (m+1)) q b=if(st.2[m]).1<=(b:Int)/\(b:Int)<=(st.2[m]).2.1 then(st.2[m]).2.2 else Hl (st.2.take m) q b:=λq=>by
     unfold Hl;rw[IN C,Ade];rfl
    refine P7 (Aah C (Ob (λa=>Ob (λp=>BY (BG (by dsimp only;omega)) (r _ ⟨by rw[Abp];exact G,?_,λi f=>?_⟩)) λp=>r _ ⟨G,?_,t3⟩) λa=>r _ ⟨G,?_,t3⟩));· rw[J,if_pos ⟨a,p⟩];dsimp only;rw[Hy (by omega),if_pos rf]
    ·dsimp only;rw[Hy (by omega),if_neg (Ne.symm f)];exact t3 i f
    ·rw[J,if_neg λh=>p h.2];exact t2
    ·rw[J,if_neg λh=>a h.1];exact t2
   ·obtain⟨G,t2,t3⟩:=L;rw[Aar]at t2;exact P8 (step _ G (by rw[V,t2];exact Z' W.so) t3)))))
 obtain⟨i1,i2,i3⟩:=g;refine Qh (by dsimp only;omega) ?_;refine SE (λk (s:List Int)=>s.length=v.length/\(∀i,i<c.2.length->s.getD i 0=XO c v b i)/\(∀j,j<k->s.getD (c.2.length+j) 0=Ur c v b j)/\∀j,k<=j->j<c.1.length->s.getD (c.2.length+j) 0= -1) c.1.length ⟨i1,i2,λj O=>by omega,λj _ O=>i3 _ (by omega) (by omega)⟩ (by omega) (λk s nx l g E=>?_) (λs nx g=>?_)
 ·have hc:=S.fd k l;obtain⟨w,F,x,Y⟩:=g;have z:c.1.getD k dF=c.1[k]:=AM l;have step:∀t:List Int,t.length=v.length->t.getD (c.2.length+k) 0=Ur c v b k->(∀i,i≠c.2.length+k->t.getD i 0=s.getD i 0)->Ok (nx (t,k+1)) λu=>fp c v u b:=λt I p y=>E _ ⟨I,λi f=>by rw[y i (by omega)];exact F i f,λj O=>by
   rcases Aam j k with h|h;· rw[y _ (by omega)];exact x j h
   ·obtain rfl:j=k:=by omega
    exact p,λj O P=>by rw[y _ (by omega)];exact Y j (by omega) P⟩;have no:Ur c v b k= -1->Ok (nx (s,k+1)) λu=>fp c v u b:=λh=>step _ w (by rw[Y k (Aac _) l,h]) λ_ _=>rfl;refine P7 (Aah l (Aao (BY (JI (by omega)) (Ob (λA=>Ob (λB=>?_) λB=>no ?_) λA=>no ?_))))
  ·have B:v.getD (c.2.length+k) 0<(c.1[k]).1.length:=B;have A:0<=v.getD (c.2.length+k) 0:=A;have f:Ez (c.1[k]).1 (v.getD (c.2.length+k) 0)=Ac (((c.1[k]).1[(v.getD (c.2.length+k) 0).toNat]'(by omega)).toNat:Int):=by
    obtain⟨q,hq⟩:∃q:Nat,v.getD (c.2.length+k) 0=q:=⟨(v.getD (c.2.length+k) 0).toNat,by omega⟩;simp only[hq];rw[MX (by omega)];rfl
   have hlb:=H.lb _ (AN l);have U:((c.1[k]).1.getD (v.getD (c.2.length+k) 0).toNat 0)=(c.1[k]).1[(v.getD (c.2.length+k) 0).toNat]'(by omega):=AM (by omega);refine BY f (Ob (λX=>Aao (BY (JI (by dsimp only;omega)) (step _ (by dsimp only;rw[Abp];exact w) ?_ λi f=>?_))) λX=>no ?_);· dsimp only;rw[show((c.2.length:Int)+(k:Int)).toNat=c.2.length+k by omega,Hy (by omega),if_pos rfl];unfold Ur Ze;rw[z,if_pos ⟨A,B,by rw[U];omega⟩]
   ·dsimp only;rw[show((c.2.length:Int)+(k:Int)).toNat=c.2.length+k by omega,Hy (by omega),if_neg (Ne.symm f)]
   ·unfold Ur Ze;rw[z,if_neg];rintro⟨_,_,e⟩;rw[U]at e;exact X (by omega)
  ·unfold Ur Ze;rw[z,if_neg];rintro⟨_,e,_⟩;exact B e
  ·unfold Ur Ze;rw[if_neg];rintro⟨e,_⟩;exact A e
 ·obtain⟨w,F,x,_⟩:=g;exact P8 (MP ⟨by rw[w,Z],F,x⟩)
def Lv(c:Bz)(v:List Int)(k:Nat):Nat:=((a_ k).filter λi=>fin (c.2.getD i dK).1 (v.getD i 0)).length
def Qg(c:Bz)(v:List Int)(k:Nat):Nat:=((a_ k).filter λj=>Di (v.getD (c.2.length+j) 0=((c.1.getD j dF).1.length:Int))).length
def MY(c:Bz)(v:List Int):Nat:=Lv c v c.2.length+Qg c v c.1.length
theorem HC{p:Nat->Bool}{k:Nat} :((a_ (k+1)).filter p).length=((a_ k).filter p).length+(if p k=Bp then 1 else 0):=by rw[Aej,Afu,Aaa];grind
theorem filter_le{p:Nat->Bool} :((a_ k).filter p).length<=k:=by grind
theorem iA(n:dP c)(o:BX c v)(t:1000000000000<fu):F60 fu (c,v)=Ac (MY c v:Int):=by
 have q:=n.nf;have r:=n.nc;have w:=o.len;refine(Ok.eq ?_);refine SE (λk (s:Int)=>s=(Lv c v k:Int)) c.2.length rfl (by omega) (λk s nx f d g=>?_) (λs nx d=>?_)
 ·have hc:=o.cl k f;have l:Lv c v k<=k:=filter_le;have e:(Lv c v (k+1):Int)=(Lv c v k:Int)+(if fin (c.2.getD k dK).1 (v.getD k 0)=Bp then 1 else 0:Nat):=by
   grind[Lv,HC]
  have m:∀h:0<=v.getD k 0,fin (c.2.getD k dK).1 (v.getD k 0)=((c.2[k]).1[(v.getD k 0).toNat]'(by omega)).1:=λh=>by grind[fin,Be]
  subst d;refine P7 (Aah f (BY (BG (by omega)) (Ob (λh=>BY (BG (by omega)) (Adg h hc.2 (P3 (λj=>Aao (g _ ?_)) λj=>g _ ?_))) λh=>g _ ?_)))
  all_goals grind[fin]
 ·refine Qh (by omega) ?_;have u:Lv c v c.2.length<=c.2.length:=filter_le;refine SE (λk (s:Int)=>s=(Lv c v c.2.length:Int)+(Qg c v k:Int)) c.1.length (by rw[d];show _=_+((0:Nat):Int);simp) (by omega) (λk s nx f d g=>?_) (λs nx d=>?_)
  ·have i:c.1.getD k dF=c.1[k]:=AM f;have l:Qg c v k<=k:=filter_le;have e:(Qg c v (k+1):Int)=(Qg c v k:Int)+(if Di (v.getD (c.2.length+k) 0=((c.1.getD k dF).1.length:Int))=Bp then 1 else 0:Nat):=by
    unfold Qg;rw[HC];omega
   subst d;refine P7 (Aah f (Aao (BY (JI (by omega)) (Ob (λh=>Aao (g _ ?_)) λh=>g _ ?_))));· rw[e,if_pos (decide_eq_true (by rw[i];exact h))];omega
   ·rw[e,if_neg (by rw[decide_eq_true_eq,i];exact h)];simp
  ·refine P8 (MP ?_);unfold MY;omega
theorem F4{x:Nat}(h:s.getD x Aj=Bp):(s.set i Bp).getD x Aj=Bp:=by grind
theorem Jj(h:i<s.length):(s.set i Bp).getD i Aj=Bp:=by grind
def iR(c:Bz)(v:List Int)(i:Nat):List Cm:=if v.getD i 0<0 then []else(Be (c.2.getD i dK).1 (v.getD i 0)).2
def nM(c:Bz)(v:List Int)(j:Nat):Option Nat:=if 0<=v.getD (c.2.length+j) 0/\v.getD (c.2.length+j) 0<(c.1.getD j dF).1.length then Ac ((c.1.getD j dF).1.getD (v.getD (c.2.length+j) 0).toNat 0).toNat else C7
structure Va(c:Bz)(v:List Int)(s:List Bool)(k m:Nat):Prop where
 len:s.length=257
 z:s.getD 0 Aj=Bp
 ed:∀i,i<k->∀e∈iR c v i,s.getD e.1.toNat Aj=Bp/\s.getD (e.2.1+1).toNat Aj=Bp
 ch:∀j,j<m->∀x,nM c v j=Ac x->s.getD x Aj=Bp/\s.getD (x+1) Aj=Bp
theorem Va.up{t:List Bool}(h:Va c v s k m)(l:t.length=257)(a:∀x,s.getD x Aj=Bp->t.getD x Aj=Bp):Va c v t k m:=
 ⟨l,a _ h.z,λi d e b=>⟨a _ (h.ed i d e b).1,a _ (h.ed i d e b).2⟩,λj f x g=>⟨a _ (h.ch j f x g).1,a _ (h.ch j f x g).2⟩⟩
def ZR(c:Bz)(v:List Int)(a b:Nat):Prop:=(∀i,i<c.2.length->XO c v a i=XO c v b i)/\∀j,j<c.1.length->Ur c v a j=Ur c v b j
def StV(c:Bz)(v:List Int)(l:List Int):Prop:=(∀s∈l,∃a:Nat,s=a/\a<256)/\∀b,b<256->∃a:Nat,(a:Int)∈l/\ZR c v a b
theorem Ro(h:∀e∈es,BN a e=BN b e):AP es a=AP es b:=by
 unfold AP;rw[show es.find? (BN a)=es.find? (BN b) by
  induction es with
  |nil=>rfl
  |cons e es d=>
   grind]
theorem OJ{s:List Bool}(h0:s.getD 0 Aj=Bp):∀b:Nat,∃a,a<=b/\s.getD a Aj=Bp/\∀x,a<x->x<=b->s.getD x Aj=Aj
 |0=>⟨0,Aac _,h0,λx d c=>by omega⟩
 |b+1=>by
  cases h:s.getD (b+1) Aj with
  |true=>grind
  |false=>
   obtain⟨a,d,c,f⟩:=OJ h0 b;grind
theorem Va.st(q:Va c v s c.2.length c.1.length)(A:∀i,i<c.2.length->∀e∈iR c v i,0<=e.1/\0<=e.2.1):StV c v (((a_ 256).filter λx=>s.getD x Aj).map λ(x:Nat)=>(x:Int)):=by
 refine⟨λx B=>?_,λb F=>?_⟩;· grind
 obtain⟨a,E,t,p⟩:=OJ q.z b;refine⟨a,By.2 ⟨a,Aaz.2 ⟨Abg.2 (by omega),t⟩,rfl⟩,λi r=>?_,λj z=>?_⟩
 ·unfold XO Bl;by_cases f:v.getD i 0<0;· omega
  ·rw[if_neg f,if_neg f];refine Ro λe w=>?_;have o:e∈iR c v i:=by grind[iR]
   obtain⟨m,n⟩:=q.ed i r e o;have C:¬(a<e.1.toNat/\e.1.toNat<=b):=λ⟨k,l⟩=>by rw[p _ k l]at m;cases m
   have D:¬(a<(e.2.1+1).toNat/\(e.2.1+1).toNat<=b):=λ⟨k,l⟩=>by rw[p _ k l]at n;cases n
   unfold BN;rw[show Di (e.1<=(a:Int))=Di (e.1<=(b:Int)) by rw[decide_eq_decide];omega,show Di ((a:Int)<=e.2.1)=Di ((b:Int)<=e.2.1) by rw[decide_eq_decide];omega]
 ·unfold Ur Ze;by_cases f:0<=v.getD (c.2.length+j) 0/\v.getD (c.2.length+j) 0<(c.1.getD j dF).1.length
  ·obtain⟨m,n⟩:=q.ch j z _ (by unfold nM;rw[if_pos f]);generalize((c.1.getD j dF).1.getD (v.getD (c.2.length+j) 0).toNat 0).toNat=y at m n;have C:¬(a<y/\y<=b):=λ⟨k,l⟩=>by rw[p _ k l]at m;cases m
   have D:¬(a<y+1/\y+1<=b):=λ⟨k,l⟩=>by rw[p _ k l]at n;cases n
   have:(y=a)↔(y=b):=by omega
   simp only[this]
  ·rw[if_neg λh=>f ⟨h.1,h.2.1⟩,if_neg λh=>f ⟨h.1,h.2.1⟩]
theorem Va.ck(h:Va c v s k m)(b:∀e∈iR c v k,s.getD e.1.toNat Aj=Bp/\s.getD (e.2.1+1).toNat Aj=Bp):Va c v s (k+1) m:=
 ⟨h.len,h.z,λi d=>by
  rcases Aam i k with a|a;· exact h.ed i a
  grind,h.ch⟩
theorem Va.cj(h:Va c v s k m)(b:∀x,nM c v m=Ac x->s.getD x Aj=Bp/\s.getD (x+1) Aj=Bp):Va c v s k (m+1):=
 ⟨h.len,h.z,h.ed,λi d=>by
  rcases Aam i m with a|a;· exact h.ch i a
  grind⟩
theorem Xu(H:dP c)(hw:∀k∈c.2,Bf k.1)(K:BX c v)(hF:1000000000000<fu):Ok (F61 fu (c,v)) λl=>l.length<=256/\StV c v l:=by
 have h1:=H.nf;have h2:=H.nc;have hl:=K.len;have m0:Va c v (lD (Uh 257 Aj) 0 Bp) 0 0:=⟨by grind,Jj (by grind),λi u=>by omega,λj hj=>by omega⟩;refine SE (λk (s:List Bool)=>Va c v s k 0) c.2.length m0 (by omega) (λk s nx w d n=>?_) (λs nx d=>?_);· have hc:=K.cl k w;have A:=AN w;have O:=H.ed _ A;refine P7 (Aah w (BY (BG (by omega)) (Ob (λh=>n _ (d.ck λe f=>by
   grind[iR])) λh=>(by
   have h:¬v.getD k 0<0:=h;refine BY (BG (by omega)) (Adg (Agm.1 h) hc.2 ?_);have I:(c.2[k]).1[(v.getD k 0).toNat]'(by omega)∈(c.2[k]).1:=AN _;have V:=H.bt _ A _ I;have M:=O _ I;have ev:iR c v k=((c.2[k]).1[(v.getD k 0).toNat]'(by omega)).2:=by unfold iR Be;grind
   dsimp only;generalize(c.2[k]).1[(v.getD k 0).toNat]'(by omega)=st at V M ev;refine SE (λm (t:List Bool)=>Va c v t k 0/\∀e∈st.2.take m,t.getD e.1.toNat Aj=Bp/\t.getD (e.2.1+1).toNat Aj=Bp) st.2.length ⟨d,by simp⟩ (by omega) (λm t T A N P=>?_) (λt T N=>?_)
   ·have f:=V _ (AN A);obtain⟨L,t2⟩:=N;have tl:=L.len;have mono:∀x,t.getD x Aj=Bp->((t.set (0+aC (st.2[m]).1*1) Bp).set (0+aC ((st.2[m]).2.1+1)*1) Bp).getD x Aj=Bp:=λx g=>F4 (F4 g);refine P7 (Aah A (Aao (PK ⟨by grind,by grind⟩ (Abw (PK ⟨by dsimp only;omega,by dsimp only;omega⟩ (Abw (P _ ⟨L.up (by rw[Abp,Abp];exact tl) mono,λe r=>?_⟩)))))));rcases(Af A).1 r with r|rfl;· exact⟨mono _ (t2 e r).1,mono _ (t2 e r).2⟩
    ·refine⟨F4 ?_,?_⟩;· have:=Jj (s:=t) (i:=0+aC (st.2[m]).1*1) (by omega);rwa [show 0+aC (st.2[m]).1*1=(st.2[m]).1.toNat by omega]at this⊢
     ·have:=Jj (s:=t.set (0+aC (st.2[m]).1*1) Bp) (i:=0+aC ((st.2[m]).2.1+1)*1) (by rw[Abp];omega);rwa [show 0+aC ((st.2[m]).2.1+1)*1=((st.2[m]).2.1+1).toNat by omega]at this⊢
   ·obtain⟨L,t2⟩:=N;rw[Aar,<-ev]at t2;exact P8 (n _ (L.ck t2))))))
 refine Qh (by omega) ?_;refine SE (λk (s:List Bool)=>Va c v s c.2.length k) c.1.length d (by omega) (λk s nx w d n=>?_) (λs nx d=>?_)
 ·have hc:=K.fd k w;have C:c.1.getD k dF=c.1[k]:=AM w;have no:nM c v k=C7->Ok (nx (s,k+1)) λl=>l.length<=256/\StV c v l:=λh=>n _ (d.cj λx g=>by rw[h]at g;cases g);refine P7 (Aah w (Aao (BY (JI (by omega)) (Ob (λF=>Ob (λG=>?_) λG=>no ?_) λF=>no ?_))))
  ·have G:v.getD (c.2.length+k) 0<(c.1[k]).1.length:=G;have F:0<=v.getD (c.2.length+k) 0:=F;have u:Ez (c.1[k]).1 (v.getD (c.2.length+k) 0)=Ac (((c.1[k]).1[(v.getD (c.2.length+k) 0).toNat]'(by omega)).toNat:Int):=by
    obtain⟨q,R⟩:∃q:Nat,v.getD (c.2.length+k) 0=q:=⟨(v.getD (c.2.length+k) 0).toNat,by omega⟩;simp only[R];rw[MX (by omega)];rfl
   have Z:((c.1[k]).1.getD (v.getD (c.2.length+k) 0).toNat 0)=(c.1[k]).1[(v.getD (c.2.length+k) 0).toNat]'(by omega):=AM (by omega);have B:nM c v k=Ac ((c.1[k]).1[(v.getD (c.2.length+k) 0).toNat]'(by omega)).toNat:=by unfold nM;rw[C,if_pos ⟨F,G⟩,Z]
   have D:=((c.1[k]).1[(v.getD (c.2.length+k) 0).toNat]'(by omega)).toNat_lt;dsimp only at u B D⊢;generalize((c.1[k]).1[(v.getD (c.2.length+k) 0).toNat]'(by omega)).toNat=y at u B D;have sl:=d.len;refine BY u (BY u (Aao (PK ⟨by omega,by omega⟩ (Abw (PK ⟨by omega,by omega⟩ (Abw (n _ ((d.up (by rw[Abp,Abp];exact sl) λx g=>F4 (F4 g)).cj λx g=>?_))))))));rw[B]at g;cases g;refine⟨F4 ?_,?_⟩;· have:=Jj (s:=s) (i:=0+aC (y:Int)*1) (by omega);rwa [show 0+aC (y:Int)*1=y by omega]at this⊢
   ·have:=Jj (s:=s.set (0+aC (y:Int)*1) Bp) (i:=0+aC ((y:Int)+1)*1) (by rw[Abp];omega);rwa [show 0+aC ((y:Int)+1)*1=y+1 by omega]at this⊢
  ·unfold nM;rw[C,if_neg];rintro⟨_,e⟩;exact G e
  ·unfold nM;rw[if_neg];rintro⟨e,_⟩;exact F e
 refine Qh (by dsimp only;omega) ?_;have sl:=d.len;have S:=d.st λi u e f=>by
  unfold iR at f;split at f;· cases f
  ·rename_i n;have hc:=K.cl i u;have A:=AN u;have C:c.2.getD i dK=c.2[i]:=AM u;unfold Be at f;rw[C,show(c.2[i]).1.getD (v.getD i 0).toNat (Aj,[])=(c.2[i]).1[(v.getD i 0).toNat]'(by omega)from AM _]at f;have:=H.bt _ A _ (AN (by omega:(v.getD i 0).toNat<(c.2[i]).1.length)) e f;exact⟨this.1.1,by omega⟩
 refine XD (X:=List Int×Int) (λx=>(0<=x.2/\x.2<=256)/\x.1=((a_ x.2.toNat).filter λx=>s.getD x Aj).map λ(x:Nat)=>(x:Int)) (λx=>256-x.2.toNat) ⟨by decide,rfl⟩ (by dsimp only;omega) λx nx g _ n=>?_;obtain⟨o,z⟩:=x;obtain⟨W,J⟩:=g;dsimp only at W J n;have Q:o.length<=z.toNat:=by rw[J,Aaq];exact filter_le
 refine Ob (λh=>?_) λh=>MP ⟨by dsimp only;omega,?_⟩
 ·have h:z<256:=h;obtain⟨q,rfl⟩:∃q:Nat,z=q:=⟨z.toNat,by omega⟩;rw[Acd]at J Q;refine PK ⟨W.1,by dsimp only;omega⟩ ?_;rw[show((0+aC (q:Int)*1:Nat):Int)=((q:Nat):Int) by omega];have eq:s.getD q Aj=s[q]'(by omega):=AM (by omega);have U:((a_ (q+1)).filter λx=>s.getD x Aj).map (λ(x:Nat)=>(x:Int))=o++(if s.getD q Aj=Bp then [(q:Int)]else []):=by
   rw[J,Aej,Afu,Aap];congr 1;cases R:s.getD q Aj<;>simp only[Afg,R,List.filter_nil,if_true,Aas,Aee]<;>rfl
  refine Aah (by dsimp only;omega) (P3 (λD=>PK (p:=GK.F8 q) (by unfold GK.F8;omega) (PK (by unfold Ai;dsimp only;omega) (Aao (n _ ⟨by dsimp only;omega,?_⟩ (by dsimp only;omega))))) λD=>Aao (n _ ⟨by dsimp only;omega,?_⟩ (by dsimp only;omega)));· dsimp only;rw[show((q:Int)+1).toNat=q+1 by omega,U,if_pos (by rw[eq];exact D)]
  ·dsimp only;rw[show((q:Int)+1).toNat=q+1 by omega,U,if_neg (by rw[eq,D];decide),Adh]
 grind
theorem Wf:Lib.itoa (-1)=[45,49]:=by decide+kernel
theorem Sq{n:Int}(h: -1<=n):(44:UInt8)∉Lib.itoa n:=by
 rcases Aeg n 0 with a|a
 ·grind[Wf]
 grind[JG]
theorem Wg{m:Int}(h:0<=m):Lib.itoa (-1)≠Lib.itoa m:=λe=>by obtain⟨u,rfl⟩:∃u:Nat,m=u:=⟨m.toNat,by omega⟩;rw[Wf,JH]at e;have:=IB u 45 (by grind);grind
theorem X3{n m:Int}(h: -1<=n)(k: -1<=m)(e:Lib.itoa n=Lib.itoa m):n=m:=by
 rcases Aeg n 0 with b|b
 ·grind[absurd,Int.lt_or_le,Wg]
 ·rcases Aeg m 0 with a|a
  ·grind[absurd,Wg]
  grind[MV]
def Sm(v:List Int):Aq:=v.flatMap λn=>44::Lib.itoa n
theorem bp(v:List Int):Dw v=Sm v:=by unfold Dw XY Sm;rw[List.map_flatMap];simp_all[Lib.itoa,Aas,Aaj,Afi,Abr]
theorem ON(v:List Int):Sm v=[]\/(Sm v).head?=Ac 44:=by
 cases v with
 |nil=>trivial
 |cons n v=>exact .inr rfl
theorem Sk:∀ {u v:List Int},(∀n∈u, -1<=n)->(∀n∈v, -1<=n)->Sm u=Sm v->u=v
 | [],[],_,_,_=>rfl
 | [],n::v,_,_,e=>by cases e
 |n::u,[],_,_,e=>by cases e
 |n::u,m::v,h,k,e=>by have d:(44:UInt8)::(Lib.itoa n++Sm u)=44::(Lib.itoa m++Sm v):=e;obtain⟨a,b⟩:=Fx (Sq (h n (Aau ..))) (Sq (k m (Aau ..))) (ON u) (ON v) (List.cons.inj d).2;rw[X3 (h n (Aau ..)) (k m (Aau ..)) a,Sk (λx c=>h x (Aag _ c)) (λx c=>k x (Aag _ c)) b]
theorem Sj{c:Bz}{u v:List Int}(b:dP c)(d:BX c u)(f:BX c v)(e:Dw u=Dw v):u=v:=by rw[bp,bp]at e;exact Sk (λn a=>(d.mem b n a).1) (λn a=>(f.mem b n a).1) e
def En(c:Bz)(v:List Int)(b:Nat):List Int:=(a_ c.2.length).map (XO c v b)++(a_ c.1.length).map (Ur c v b)
theorem Hn(c:Bz)(v:List Int)(b:Nat):fp c v (En c v b) b:=by
 refine⟨by simp[En],λi a=>?_,λj d=>?_⟩;· grind[En]
 simp_all[En]
theorem fp.eq(h:fp c v u b):u=En c v b:=h.uniq (Hn c v b)
theorem ZR.eq(h:ZR c v a b):En c v a=En c v b:=by
 unfold En;congr 1;· exact Abr λi d=>h.1 i (Abg.1 d)
 ·exact Abr λj e=>h.2 j (Abg.1 e)
def CJ(c:Bz):List Int:=Uh (c.2.length+c.1.length) 0
def Gz(c:Bz)(w:Aq):List Int:=w.foldl (λv x=>En c v x.toNat) (CJ c)
theorem Ga(c:Bz)(w:Aq)(x:UInt8):Gz c (w++[x])=En c (Gz c w) x.toNat:=by simp[Gz]
def Lq(c:Bz):Prop:= ∀w:Aq,MY c (Gz c w)=1
theorem bc{s:Aq}{n:Int}(h:n<=s.length): -1<=Ze s n b/\Ze s n b<=s.length:=by grind[Ze]
theorem BX.nx(n:∀k∈c.2,Bf k.1)(l:BX c v)(b:Nat):BX c (En c v b):=by
 have h:=Hn c v b;refine⟨h.len,λi d=>?_,λj g=>?_⟩
 ·rw[h.cl i d];have hc:=l.cl i d;have f:c.2.getD i dK=c.2[i]:=AM d;have m:=AN d;unfold XO Bl;rw[f];split;· omega
  ·unfold Be;rw[show(c.2[i]).1.getD (v.getD i 0).toNat (Aj,[])=(c.2[i]).1[(v.getD i 0).toNat]'(by omega)from AM _];have:=((n _ m) _ (AN (by omega:(v.getD i 0).toNat<(c.2[i]).1.length))).step b;omega
 ·rw[h.fd j g];have hc:=l.fd j g;have f:c.1.getD j dF=c.1[j]:=AM g;unfold Ur;rw[f];exact bc hc.2
theorem Rq(h:∀k∈c.2,k.1≠ []):BX c (CJ c):=by
 have b:∀i,(CJ c).getD i 0=0:=λi=>by grind[CJ]
 refine⟨by simp[CJ],λi d=>?_,λj e=>?_⟩;all_goals grind[List.length_pos_iff,Alq]
theorem Ms{c:Bz}(h:∀k∈c.2,k.1≠ [])(a:∀k∈c.2,Bf k.1)(w:Aq):BX c (Gz c w):=by
 have:∀(w:Aq) {v:List Int},BX c v->BX c (w.foldl (λv x=>En c v x.toNat) v):=λw=>by
  induction w with
  |nil=>simp
  |cons x w b=>exact λh=>b (h.nx a _)
 exact this w (Rq h)
structure uY(c:Bz)(m:List (Aq×Bool))(todo:List (List Int)):Prop where
 z:Dw (CJ c)∈m.map (·.1)
 rc:∀v∈todo,∃w,v=Gz c w
 dn:∀x∈m.map (·.1),∃v,BX c v/\x=Dw v/\(v∈todo\/MY c v=1/\∀b,b<256->Dw (En c v b)∈m.map (·.1))
theorem uY.once{m:List (Aq×Bool)}(d:dP c)(h:∀k∈c.2,k.1≠ [])(e:∀k∈c.2,Bf k.1)(hc:uY c m []):Lq c:=by
 have all:∀w:Aq,Dw (Gz c w)∈m.map (·.1):=λw=>by
  have:∀(l:Aq),Dw (Gz c l.reverse)∈m.map (·.1):=λl=>by
   induction l with
   |nil=>exact hc.z
   |cons x l f=>
    rw[Aev,Ga];obtain⟨v,v1,b,a⟩:=hc.dn _ f;rw[Sj d (Ms h e _) v1 b];rcases a with a|a;· grind
    ·exact a.2 _ x.toNat_lt
  have:=this w.reverse;grind
 intro w;obtain⟨v,v1,b,a⟩:=hc.dn _ (all w);grind[Sj,Ms]
def DA(c:Bz):Prop:=(∀k∈c.2,k.1≠ []/\Bf k.1/\BW k.1=k.1)/\Lq c
structure CloI(c:Bz)(v:List Int)(bs:List Int)(m:List (Aq×Bool))(todo:List (List Int))(k:Nat):Prop where
 z:Dw (CJ c)∈m.map (·.1)
 rc:∀v∈todo,∃w,v=Gz c w
 dn:∀x∈m.map (·.1),∃u,BX c u/\x=Dw u/\(u∈todo\/u=v\/MY c u=1/\∀b,b<256->Dw (En c u b)∈m.map (·.1))
 pg:∀i,i<k->∀a:Nat,bs[i]?=Ac (a:Int)->Dw (En c v a)∈m.map (·.1)
theorem OU{m:List (Aq×Bool)}{x:Aq}(h:AB m x=C7):(Bw m x Bp).map (·.1)=m.map (·.1)++[x]:=by grind[Bw]
theorem UW(B:dP c)(hN:G3 (GI c)<=400000000000)(R:1000000000000<fu):Ok (F63 fu c) λr=>r=Bp↔DA c:=by
 have c308:=rM;have h1:=B.nf;have h2:=B.nc;have K:¬DA c->Ok (Ac Aj) λr=>r=Bp↔DA c:=λh=>MP ⟨λe=>(by grind),λe=>absurd e h⟩;refine V_ (λn=> ∀k∈c.2.take n,k.1≠ []/\Bf k.1/\BW k.1=k.1) c.2.length (by simp) (by omega) (λn nx hn P F=>?_) (λnx P=>?_)
 ·have M:=AN hn;have hst:=B.st _ M;refine P7 (Aah hn (Ob (λe=>K λA=>(A.1 _ M).1 (OF.1 (by omega))) λh0=>OH (L_ (n:=20000) (B.bt _ M) ⟨hst,λs W=>by have:=B.ed _ M s W;omega⟩ (by omega) (by omega) (by omega)) λb Q=>P3 (λD=>K λA=>?_) λD=>F λk E=>?_));· have:=Q.2 (A.1 _ M).2;grind
  ·rcases(Af hn).1 E with h|rfl;all_goals grind
 rw[Al]at P;have V:∀k∈c.2,k.1≠ []:=λk E=>(P k E).1;have p:∀k∈c.2,Bf k.1:=λk E=>(P k E).2.1;have G:BX c (CJ c):=Rq V;refine P8 (Aao (Abw (PK (by omega) ?_)));obtain⟨hk0,hkl⟩:=G.key B R;refine BY (a:=CJ c) rfl (BY hk0 (PK ⟨by omega,by omega⟩ ?_));have hs0:FQ c []:=⟨by simp,by simp,by simp⟩;obtain⟨hs1,hl1⟩:=hs0.put G rfl;have T:(Bw ([]:List (Aq×Bool)) (Dw (CJ c)) Bp).map (·.1)=[Dw (CJ c)]:=OU rfl;refine XD (X:=List (Aq×Bool)×List (List Int)) (λx=>FQ c x.1/\(∀v∈x.2,BX c v)/\x.2.length<=x.1.length/\uY c x.1 x.2) (λx=>2*(G3 (GI c)-x.1.length)+x.2.length)
  ⟨hs1,λv hv=>by rw[Aaf.1 hv];exact G,by rw[hl1];simp,⟨by exact Aaf.2 rfl,λv hv=>⟨[],Aaf.1 hv⟩,λx o=>⟨CJ c,G,by exact Aaf.1 o, .inl (Aaf.2 rfl)⟩⟩⟩ (by rw[Acl];omega) λx nx o _ F=>?_;obtain⟨seen,d⟩:=x;obtain⟨W,ht,hle,hc⟩:=o;dsimp only at W ht hle F hc;have hsl:=W.le;refine Ob (λh=>?_) λh=>MP ⟨λ_=>⟨P,?_⟩,λ_=>rfl⟩;rotate_left;· have h:¬0<(d.length:Int):=h;have:d=[]:=OF.1 (by omega);rw[this]at hc;exact hc.once B V p
 have h:0<(d.length:Int):=h
 have H:=AN (by omega:d.length-1<d.length);have g:=ht _ H;have hix:idx d ((d.length:Int)-1)=Ac (d[d.length-1]'(by omega)):=by rw[show((d.length:Int)-1)=((d.length-1:Nat):Int) by omega,Bk (by omega)]
 have q:∀u∈d,u∈d.take (d.length-1)\/u=d[d.length-1]'(by omega):=λu C=>by
  have:=(Af (l:=d) (k:=d.length-1) (by omega)).1 (by rw[show d.length-1+1=d.length by omega,Aar];exact C);rcases this with h|h;· exact .inl h
  ·exact .inr h
 obtain⟨w0,N⟩:=hc.rc _ H;refine Aao (BY hix (Aao (PK ⟨by omega,by omega⟩ (BY (iA B g R) (Ob (λhh=>K λA=>hh (by rw[N,A.2 w0];rfl)) λhh=>OH (Xu B p g R) λbs S=>?_)))));rw[show aC ((d.length:Int)-1)=d.length-1 by omega];obtain⟨S,I,J⟩:=S;dsimp only;generalize d[d.length-1]'(by omega)=v at g q N hh I J;have hh1:MY c v=1:=by omega
 refine XZ (λk (s:List (Aq×Bool)) (t:List (List Int))=>(FQ c s/\(∀v∈t,BX c v)/\t.length<=s.length/\2*(G3 (GI c)-s.length)+t.length<2*(G3 (GI c)-seen.length)+d.length)/\CloI c v bs s t k) bs.length
  ⟨⟨W,λu C=>ht u (Acj C),by rw[Abh];omega,by rw[Abh];omega⟩,⟨hc.z,λu C=>hc.rc u (Acj C),λx o=>?_,λi hi=>by omega⟩⟩ (by omega) (λk s t nx2 E L U=>?_) (λs t nx2 L=>?_)
 ·obtain⟨u,Y,Z,j⟩:=hc.dn x o;refine⟨u,Y,Z,?_⟩;rcases j with j|j
  ·rcases q u j with u4|u4;· exact .inl u4
   ·exact .inr (.inl u4)
  ·exact .inr (.inr j)
 ·obtain⟨⟨O,a2,a3,a4⟩,z⟩:=L;obtain⟨a,ea,ha⟩:=I _ (AN E);refine P7 (Aah E ?_);dsimp only;rw[ea];refine OH (dM (b:=a) B p g R) λu hu'=>?_;have eu:=hu'.eq;have C:BX c u:=by rw[eu];exact g.nx p a
  obtain⟨e,el⟩:=C.key B R;have hsl2:=O.le;refine BY e (PK (by omega) ?_);have pg:∀(m:List Aq),(∀x∈s.map (·.1),x∈m)->Dw u∈m->∀i,i<k+1->∀y:Nat,bs[i]?=Ac (y:Int)->Dw (En c v y)∈m:=λm M hu2 i hi y hy=>by
   rcases Aam i k with h|h;· exact M _ (z.pg i h y hy)
   ·obtain rfl:i=k:=by omega
    rw[IS E,ea]at hy;have:a=y:=by have:=Abs hy;omega
    rw[<-this,<-eu];exact hu2
  rcases O.get (x:=Dw u)with A|A
  ·rw[A];obtain⟨b1,b2⟩:=O.put C A;have b3:=b1.le;have ek:=OU A;have up:∀x∈s.map (·.1),x∈(Bw s (Dw u) Bp).map (·.1):=λx o=>by rw[ek];exact AS.2 (.inl o)
   refine VP rf (PK ⟨by omega,by omega⟩ (Abw (U _ _ ⟨⟨b1,λw p=>?_,by rw[b2,Aaa,Acl];omega,by rw[b2,Aaa,Acl];omega⟩,⟨up _ z.z,λw p=>?_,λx o=>?_,pg _ up (by rw[ek];exact AS.2 (.inr (Aaf.2 rf)))⟩⟩)))
   ·rcases AS.1 p with p|p;· exact a2 w p
    ·rw[Aaf.1 p];exact C
   ·rcases AS.1 p with p|p;· exact z.rc w p
    ·refine⟨w0++[UInt8.ofNat a],?_⟩;rw[Aaf.1 p,eu,Ga,<-N,show(UInt8.ofNat a).toNat=a by rw[Afq];exact Agd ha]
   ·rw[ek]at o;rcases AS.1 o with o|o
    ·obtain⟨u',Y,Z,j⟩:=z.dn x o;refine⟨u',Y,Z,?_⟩;rcases j with j|j|j;· exact .inl (AS.2 (.inl j))
     ·exact .inr (.inl j)
     ·exact .inr (.inr ⟨j.1,λb Q=>up _ (j.2 b Q)⟩)
    ·exact⟨u,C,Aaf.1 o, .inl (AS.2 (.inr (Aaf.2 rf)))⟩
  ·rw[A];exact Qb rfl (U _ _ ⟨⟨O,a2,a3,a4⟩,⟨z.z,z.rc,z.dn,pg _ (λx o=>o) (By.2 ⟨_,OV A,rfl⟩)⟩⟩)
 ·obtain⟨⟨O,a2,a3,a4⟩,z⟩:=L;refine P8 (F _ ⟨O,a2,a3,⟨z.z,z.rc,λx o=>?_⟩⟩ a4);obtain⟨u,Y,Z,j⟩:=z.dn x o;refine⟨u,Y,Z,?_⟩;rcases j with j|j|j;· exact .inl j
  ·subst j;refine .inr ⟨hh1,λb Q=>?_⟩;obtain⟨a,ha,hab⟩:=J b Q;obtain⟨i,hi,ei⟩:=Aat ha;rw[<-hab.eq];exact z.pg i hi a (by rw[IS hi,ei])
  ·exact .inr j
def CM(ls:List Tb)(v:List Int)(b:Nat):List Int:=(a_ ls.length).map λi=>Bl (ls.getD i []) (v.getD i 0) b
def MZ(ls:List Tb)(v:List Int)(k:Nat):Nat:=((a_ k).filter λi=>fin (ls.getD i []) (v.getD i 0)).length
def Gx(ls:List Tb):List Int:=Uh ls.length 0
def RC(ls:List Tb)(w:Aq):List Int:=w.foldl (λv x=>CM ls v x.toNat) (Gx ls)
def W8(ls:List Tb):Prop:= ∀w:Aq,MZ ls (RC ls w) ls.length=1
theorem Kk(ls:List Tb)(w:Aq)(x:UInt8):RC ls (w++[x])=CM ls (RC ls w) x.toNat:=by simp[RC]
structure QW(ls:List Tb)(v:List Int):Prop where
 len:v.length=ls.length
 rg:∀i (h:i<ls.length), -1<=v.getD i 0/\v.getD i 0<(ls[i]).length
structure vA(ls:List Tb)(n:Nat):Prop where
 ln:ls.length<=100
 ne:∀l∈ls,l≠ []
 wf:∀l∈ls,Bf l
 sh:∀l∈ls,DT l n
def Qx(ls:List Tb):List Nat:=ls.map λl=>l.length+1
theorem QW.NN(c:QW ls v):v∈NN (Qx ls):=by
 refine ML (by rw[c.len];simp[Qx]) λi b=>?_;have a:i<ls.length:=by grind[Qx]
 have:=c.rg i a;grind[Qx]
theorem ZN{l:List (List Int)}(a:l.Nodup)(h:∀v∈l,QW ls v):l.length<=G3 (Qx ls):=by rw[<-L9];exact Ch a λx b=>(h x b).NN
theorem Kq(h:i<ls.length):(CM ls v b).getD i 0=Bl (ls.getD i []) (v.getD i 0) b:=by grind[CM]
theorem QW.nx(e:vA ls n)(g:QW ls v)(b:Nat):QW ls (CM ls v b):=by
 refine⟨by simp[CM],λi a=>?_⟩;have hc:=g.rg i a;have f:=AN a;rw[Kq a,show ls.getD i []=ls[i]from AM a];unfold Bl;split;· omega
 ·unfold Be;rw[show(ls[i]).getD (v.getD i 0).toNat (Aj,[])=(ls[i])[(v.getD i 0).toNat]'(by omega)from AM _];have:=((e.wf _ f) _ (AN (by omega:(v.getD i 0).toNat<(ls[i]).length))).step b;omega
theorem Xv(b:vA ls n):QW ls (Gx ls):=by
 have d:∀i,(Gx ls).getD i 0=0:=λi=>by grind[Gx]
 refine⟨by simp[Gx],λi c=>?_⟩;have:=Aeb.2 (b.ne _ (AN c));grind
theorem iV{c:Nat}(j:vA ls n)(B:n<fu)(w:100<fu)(hc:c<256)(q:QW ls v):
  Ok (ob fu (ls,v,(c:Int))) λe=>((c:Int)<e/\e<=256)/\∀i,i<ls.length->Fi (CT (ls.getD i []) (v.getD i 0)) c e:=by
 have D:=j.ln;have C:=q.len;refine SE (λk (y:Int)=>((c:Int)<y/\y<=256)/\∀i,i<k->Fi (CT (ls.getD i []) (v.getD i 0)) c y) ls.length ⟨⟨by omega,by simp⟩,λi x=>by omega⟩ (by omega) (λk y nx d g l=>?_) (λy nx g=>?_)
 ·obtain⟨m,A⟩:=g;have p:=AN d;have r:ls.getD k []=ls[k]:=AM d;have t:=q.rg k d;have step:∀z,((c:Int)<z/\z<=y)->Fi (CT (ls.getD k []) (v.getD k 0)) c z->Ok (nx (z,k+1)) λe=>((c:Int)<e/\e<=256)/\∀i,i<ls.length->Fi (CT (ls.getD i []) (v.getD i 0)) c e:=λz b f=>l _ ⟨⟨b.1,by omega⟩,λi x=>by
   rcases Aam i k with h|h;· exact(A i h).mono b.2
   grind⟩;refine P7 (BY (BG (by omega)) (Ob (λh=>step _ ⟨m.1,Abn _⟩ (by unfold CT;rw[if_pos h];intro e u;cases u)) λh=>(by
   have h:¬v.getD k 0<0:=h;have s:CT (ls.getD k []) (v.getD k 0)=((ls[k])[(v.getD k 0).toNat]'(by omega)).2:=by unfold CT Be;rw[if_neg h,r,show(ls[k]).getD (v.getD k 0).toNat (Aj,[])=(ls[k])[(v.getD k 0).toNat]'(by omega)from AM _]
   have a:(ls[k])[(v.getD k 0).toNat]'(by omega)∈ls[k]:=AN _;refine Aah d (BY (BG (by omega)) (Adg (by omega) (by dsimp only;omega) ?_));exact KG hc ⟨m.1,m.2⟩ ⟨_,(j.wf _ p) _ a⟩ (by have:=(j.sh _ p).2 _ a;omega) λz b f=>step z b (by rw[s];exact f))))
 ·exact P8 (MP g)
theorem Fi.Bl{l:Tb}{i:Int}{c:Nat}{e:Int}(h:Fi (CT l i) c e)(h1:c<=b)(h2:(b:Int)<e):GL.Bl l i c=GL.Bl l i b:=by
 unfold GL.Bl;unfold CT at h;split;· rfl
 ·rename_i a;rw[if_neg a]at h;refine Ro λx d=>?_;obtain⟨f,g⟩:=h x d;grind[BN,decide]
theorem gN{l:List (List Int)}{x:List Int}(h:∀y∈l,y.length=x.length)(s:l.length<fu)(o:x.length<fu):tc fu (l,x)=Ac (Di (x∈l)):=by
 refine(Ok.eq ?_);refine V_ (λk=>x∉l.take k) l.length (by simp) s (λk nx d c t=>?_) (λnx c=>?_)
 ·have n:=AN d;have p:=h _ n;have e:td fu (l[k],x)=Ac (Di (l[k]=x)):=by
   refine(Ok.eq ?_);generalize l[k]=y at p;refine V_ (λj=> ∀i,i<j->y.getD i 0=x.getD i 0) y.length (λi q=>by omega) (by omega) (λj m r a f=>?_) (λm a=>?_)
   ·refine P7 (BY (BG r) (BY (BG (by omega)) (Ob (λg=>MP (decide_eq_false λe=>g (by rw[e])).symm) λheq=>f λi q=>?_)));grind
   ·exact P8 (MP (decide_eq_true (M8 p a)).symm)
  refine P7 (Aah d (BY e (Ob (λh=>MP (decide_eq_true (h▸n)).symm) λh=>t λo=>?_)));grind[Af]
 simp_all[Al,P8,MP,decide_eq_false]
structure NC(ls:List Tb)(s:List (List Int))(k:Nat):Prop where
 nd:s.Nodup
 vl:∀v∈s,QW ls v
 z:Gx ls∈s
 rc:∀v∈s,∃w,v=RC ls w
 dn:∀j v,j<k->s[j]?=Ac v->MZ ls v ls.length=1/\∀b,b<256->CM ls v b∈s
theorem NC.once{s:List (List Int)}(h:NC ls s s.length):W8 ls:=by
 have at_:∀v∈s,MZ ls v ls.length=1/\∀b,b<256->CM ls v b∈s:=λv c=>by obtain⟨j,a,rfl⟩:=Aat c;exact h.dn j _ a (IS a)
 have all:∀l:Aq,RC ls l.reverse∈s:=λl=>by
  induction l with
  |nil=>exact h.z
  |cons x l d=>rw[Aev,Kk];exact(at_ _ d).2 _ x.toNat_lt
 intro w;have:=all w.reverse;grind
theorem NC.more{s:List (List Int)}(g:vA ls n)(h:NC ls s k)(r:k<=s.length)(e:v∈s)(l:b<256)(o:CM ls v b∉s):NC ls (s++[CM ls v b]) k:=by
 refine⟨?_,λu d=>?_,AS.2 (.inl h.z),λu d=>?_,λj u m d=>?_⟩;· refine Acq.2 ⟨h.nd,by simp,λa i c hc=>?_⟩;grind
 ·rcases AS.1 d with d|d;· exact h.vl u d
  ·rw[Aaf.1 d];exact(h.vl v e).nx g b
 ·rcases AS.1 d with d|d;· exact h.rc u d
  ·obtain⟨w,p⟩:=h.rc v e;refine⟨w++[UInt8.ofNat b],?_⟩;grind[UInt8.ofNat,List.mem_singleton,Kk,UInt8.toNat_ofNat',Nat.mod_eq_of_lt]
 ·have f:j<s.length:=by omega
  rw[Pe f]at d;obtain⟨a,b⟩:=h.dn j u m d;simp_all
theorem gw(L:vA ls n)(hf:n<fu)(hN:G3 (Qx ls)<=400000000000)(hF:1000000000000<fu):Ok (ta fu ls) λr=>r=Bp↔W8 ls:=by
 have hln:=L.ln;refine SE (λk (z:List Int)=>z=Uh k 0) ls.length rfl (by omega) (λk z nx C B P=>?_) (λz nx B=>?_);· have hp:=Aeb.2 (L.ne _ (AN C));refine P7 (Aah C (P8 (PK (by grind) (P _ ?_))));grind[List.replicate_succ']
 subst B;have hs0:=Xv L;refine Qh (by omega) ?_;show Ok (Ad fu _ ([Gx ls],0)) _;refine XD (X:=List (List Int)×Nat) (λx=>NC ls x.1 x.2/\x.2<=x.1.length) (λx=>G3 (Qx ls)-x.2) ⟨⟨by simp,λv hv=>by simp_all,Aaf.2 rfl,λv hv=>⟨[],Aaf.1 hv⟩,λj v W=>by omega⟩,Abe _⟩ (by omega) λx nx K _ Q=>?_;obtain⟨s,k⟩:=x;obtain⟨I,C⟩:=K;dsimp only at I C Q;refine Ob (λh=>?_) λh=>MP ⟨λ_=>?_,λ_=>rfl⟩;rotate_left
 ·have h:¬(k:Int)<(s.length:Int):=h;have:k=s.length:=by omega
  subst this;exact I.once
 have h:(k:Int)<(s.length:Int):=h;have C:k<s.length:=by omega
 have J:=AN C;have m:=I.vl _ J;obtain⟨w0,R⟩:=I.rc _ J;have O:s[k]?=Ac s[k]:=IS C;have l:idx s (k:Int)=Ac s[k]:=Bk C;generalize s[k]=v at J m R O l;have hl:=m.len;refine SE (λi (c:Int)=>c=(MZ ls v i:Int)) ls.length rfl (by omega) (λi c nx2 g B P=>?_) (λc nx2 B=>?_)
 ·have ei:ls.getD i []=ls[i]:=AM g;have hc:=m.rg i g;have hle:MZ ls v i<=i:=filter_le;have U:(MZ ls v (i+1):Int)=(MZ ls v i:Int)+(if fin (ls.getD i []) (v.getD i 0)=Bp then 1 else 0:Nat):=by
   unfold MZ;rw[HC];omega
  have ef:∀h:0<=v.getD i 0,fin (ls.getD i []) (v.getD i 0)=((ls[i])[(v.getD i 0).toNat]'(by omega)).1:=λh=>by rw[ei];exact Ef h (by omega)
  subst B;refine P7 (BY l (BY (BG (by omega)) (Ob (λh=>Aah g (BY l (BY (BG (by omega)) (Adg h hc.2 (P3 (λd=>Aao (P _ ?_)) λd=>P _ ?_))))) λh=>P _ ?_)))
  ·rw[U,if_pos]; · rfl
   rw[ef h];exact d
  ·rw[U,if_neg]; · simp
   rw[ef h];intro K;rw[K]at d;cases d
  ·rw[U,if_neg]; · simp
   have h:¬0<=v.getD i 0:=h;unfold fin;rw[decide_eq_false h];simp
 refine P8 (Ob (λZ=>MP ⟨λe=>(by cases e),λho=>absurd (by rw[B,R,ho w0];rfl) Z⟩) λheq=>?_);have h1:MZ ls v ls.length=1:=by omega
 refine XD (X:=List (List Int)×Int) (λy=>(NC ls y.1 k/\s.length<=y.1.length/\y.1[k]?=Ac v)/\(0<=y.2/\y.2<=256)/\∀b:Nat,(b:Int)<y.2->CM ls v b∈y.1) (λy=>256-y.2.toNat) ⟨⟨I,Aac _,O⟩,⟨by omega,by omega⟩,λb d=>by omega⟩ (by omega) λy nx3 hy _ G=>?_;obtain⟨t,z⟩:=y;obtain⟨⟨o,t2,t3⟩,hz,d⟩:=hy;dsimp only at o t2 t3 hz d G;have htl:=ZN o.nd o.vl;have hvt:v∈t:=Aai t3;have F:k<t.length:=by omega
 have M:idx t (k:Int)=Ac v:=by rw[Bk F,<-IS F,t3]
 refine Ob (λh=>?_) λh=>?_
 ·obtain⟨b,rfl⟩:∃b:Nat,z=b:=⟨z.toNat,by omega⟩;have f:b<256:=by omega
  have H:(CM ls v b).length=ls.length:=by unfold CM;simp
  refine SE (λi (u:List Int)=>u=(CM ls v b).take i) ls.length (by simp) (by omega) (λi u nx4 g q Y=>?_) (λu nx4 q=>?_);· have hm:=AN g;have hc:=m.rg i g;refine P7 (Aah g (BY M (BY (BG (by omega)) (PK (p:=GK.F8 b) (by unfold GK.F8;omega) (OH (LJ (L.sh _ hm) hf hc.2) λr hr=>PK (by unfold Ai;dsimp only;rw[q,Abh];omega) (Y _ ?_))))));dsimp only;rw[q,hr,IN (by omega)];congr 2;have:=Kq (ls:=ls) (v:=v) (b:=b) g;rw[AM (by omega)]at this;rw[this,show ls.getD i []=ls[i]from AM g]
  ·have V:u=CM ls v b:=by rw[q,<-H,Aar]
   refine P8 (BY (gN (λy hy=>by rw[(o.vl y hy).len];dsimp only;rw[V,H]) (by dsimp only;omega) (by dsimp only;rw[V,H];omega)) ?_);dsimp only;rw[V];have cut:=iV (c:=b) L hf (by omega) f m;have D:∀e:Int,(∀i,i<ls.length->Fi (CT (ls.getD i []) (v.getD i 0)) b e)->∀x:Nat,b<=x->(x:Int)<e->CM ls v x=CM ls v b:=λe E x hx1 hx2=>by unfold CM;exact Abr λi g=>((E i (Abg.1 g)).Bl hx1 hx2).symm
   by_cases w:CM ls v b∈t
   ·rw[decide_eq_true w];refine Qb rfl (BY M (OH cut λe E=>G _ ⟨⟨o,t2,t3⟩,⟨by dsimp only;omega,E.1.2⟩,λx K=>?_⟩ (by dsimp only;omega)));rcases Aam x b with A|A;· exact d x (by omega)
    ·rw[D e E.2 x A K];exact w
   ·rw[decide_eq_false w];have t1':=o.more L (by omega) hvt f w;have S:(t++[CM ls v b])[k]?=Ac v:=by rw[Pe F,t3]
    have N:idx (t++[CM ls v b]) (k:Int)=Ac v:=by rw[Bk (by simp;omega),<-IS (by simp;omega),S]
    refine VP rfl (PK (by unfold Ai;omega) (BY N (OH cut λe E=>G _ ⟨⟨t1',by dsimp only;rw[Aaa];omega,S⟩,⟨by dsimp only;omega,E.1.2⟩,λx K=>?_⟩ (by dsimp only;omega))));rcases Aam x b with A|A;· exact AS.2 (.inl (d x (by omega)))
    ·rw[D e E.2 x A K];exact AS.2 (.inr (Aaf.2 rfl))
 ·have h:¬z<256:=h;refine Q _ ⟨⟨o.nd,o.vl,o.z,o.rc,λj u W T=>?_⟩,by dsimp only;omega⟩ (by dsimp only;omega);rcases Aam j k with A|A;· exact o.dn j u A T
  ·obtain rfl:j=k:=by dsimp only at W;omega
   dsimp only at T;rw[t3]at T;cases T;exact⟨h1,λb hb2=>d b (by omega)⟩
theorem DY(s:Aq):(Bv s).length=s.length+1:=by simp[Bv]
theorem Xi{s:Aq}(h:i<s.length):(Bv s)[i]'(by grind[DY])=K2 i s[i]:=by grind[Bv]
theorem N_(s:Aq):(Bv s)[s.length]'(by grind[DY])=(Bp,[]):=by simp[Bv]
theorem Q9{s:Aq}{n:Int}(h: -1<=n/\n<=s.length):Bl (Bv s) n b=Ze s n b:=by
 unfold Bl Ze;by_cases e:n<0;· omega
 rw[if_neg e,Bt (by omega) (by grind[DY])];obtain⟨k,rfl⟩:∃k:Nat,n=k:=⟨n.toNat,by omega⟩;rcases Aam k s.length with d|d
 ·grind[Bv,K2,AP,BN,decide]
 ·obtain rfl:k=s.length:=by omega
  have c:(Bv s)[((s.length:Int)).toNat]'(by grind[DY])=(Bp,[]):=by grind[N_]
  rw[c,if_neg (by omega)];rfl
theorem N9{s:Aq}{n:Int}(h: -1<=n/\n<=s.length):fin (Bv s) n=Di (n=(s.length:Int)):=by
 by_cases b:n<0;· grind[fin_neg,decide_eq_false]
 rw[Ef (by omega) (by grind[DY])];obtain⟨k,rfl⟩:∃k:Nat,n=k:=⟨n.toNat,by omega⟩;simp only[Acd];rcases Aam k s.length with a|a;· rw[Xi a,decide_eq_false (by omega)];rfl
 ·obtain rfl:k=s.length:=by omega
  rw[N_,decide_eq_true rfl]
theorem Q_(s:Aq):DT (Bv s) (s.length+1):=by
 refine⟨by simp_all[DY,Aac],λx a=>?_⟩;rcases AS.1 a with a|a;· obtain⟨i,b,rfl⟩:=List.mem_mapIdx.1 a;simp[K2]
 grind
def P2(c:Bz):List Tb:=c.2.map (·.1)++c.1.map λf=>Bv f.1
theorem H7(c:Bz):(P2 c).length=c.2.length+c.1.length:=by simp[P2]
theorem aN{c:Bz}{i:Nat}(h:i<c.2.length):(P2 c).getD i []=(c.2.getD i dK).1:=by grind[P2]
theorem aM(h:j<c.1.length):(P2 c).getD (c.2.length+j) []=Bv (c.1.getD j dF).1:=by grind[P2]
theorem gH{c:Bz}{v:List Int}{b:Nat}(l:BX c v):CM (P2 c) v b=En c v b:=by
 have h:=Hn c v b;refine M8 (by rw[h.len];grind[CM,H7]) λi k=>?_;have g:i<c.2.length+c.1.length:=by grind[CM,H7]
 rw[Kq (by grind[H7])];rcases Aam i c.2.length with f|f;· rw[aN f,h.cl i f];rfl
 ·obtain⟨j,rfl⟩:∃j,i=c.2.length+j:=⟨i-c.2.length,by omega⟩;have e:j<c.1.length:=by omega
  have hc:=l.fd j e;rw[aM e,h.fd j e,show c.1.getD j dF=c.1[j]from AM e];unfold Ur;rw[show c.1.getD j dF=c.1[j]from AM e];exact Q9 hc
theorem bL{c:Bz}{v:List Int}(f:BX c v):MZ (P2 c) v (P2 c).length=MY c v:=by
 unfold MZ MY Lv Qg;rw[H7,List.range_add,Afu,Aaa];congr 1;· grind[List.filter_congr,aN]
 ·rw[Aky,Aaq];congr 1;refine Afy λj d=>?_;have d:=Abg.1 d;have hc:=f.fd j d;show fin ((P2 c).getD (c.2.length+j) []) (v.getD (c.2.length+j) 0)=_;rw[aM d,show c.1.getD j dF=c.1[j]from AM d];exact N9 hc
theorem ZU{c:Bz}(h:∀k∈c.2,k.1≠ [])(a:∀k∈c.2,Bf k.1)(w:Aq):RC (P2 c) w=Gz c w:=by
 have:∀l:Aq,RC (P2 c) l.reverse=Gz c l.reverse:=λl=>by
  induction l with
  |nil=>show Gx (P2 c)=CJ c;grind[Gx,CJ,H7]
  |cons x l b=>grind[List.reverse_cons,Kk,Ga,gH,Ms]
 have:=this w.reverse;grind
theorem oX(h:∀k∈c.2,k.1≠ [])(a:∀k∈c.2,Bf k.1):W8 (P2 c)↔Lq c:=by
 unfold W8 Lq;constructor<;>intro k w;· have:=k w;grind[ZU,bL,Ms]
 grind[ZU,bL,Ms]
theorem rB(c:Bz):Qx (P2 c)=GI c:=by unfold Qx P2 GI;rw[Aap,Aaj,Aaj];congr 1;simp[Bv]
theorem wK(b:dP c)(h:∀k∈c.2,k.1≠ [])(g:∀k∈c.2,Bf k.1):vA (P2 c) 20000:=by
 have i:=b.nf;have j:=b.nc;refine⟨by grind[H7],λl a=>?_,λl a=>?_,λl a=>?_⟩<;>unfold P2 at a<;>rcases AS.1 a with a|a<;>obtain⟨x,d,rfl⟩:=By.1 a;· grind
 ·grind[DY]
 ·exact g x d
 ·exact(TZ x.1).1
 ·exact⟨b.st x d,λs f=>by have:=b.ed x d s f;omega⟩
 ·have:=b.lb x d;exact⟨by have:=(Q_ x.1).1;omega,λs f=>by have:=(Q_ x.1).2 s f;omega⟩
theorem Ta(m:dP c)(G:G3 (GI c)<=400000000000)(F:1000000000000<fu):Ok (eH fu c) λr=>r=Bp↔DA c:=by
 have K:=m.nf;have L:=m.nc;have u:¬DA c->Ok (Ac Aj) λr=>r=Bp↔DA c:=λh=>MP ⟨λe=>(by grind),λe=>absurd e h⟩;refine SE (λn (s:List Tb)=>s=(c.2.take n).map (·.1)/\∀k∈c.2.take n,k.1≠ []/\Bf k.1/\BW k.1=k.1) c.2.length ⟨rfl,by simp⟩ (by omega) (λn s nx j i p=>?_) (λs nx i=>?_)
 ·obtain⟨q,J⟩:=i;have o:=AN j;have z:=m.st _ o;refine P7 (Aah j (OH (Kb (n:=20000) (m.bt _ o) ⟨z,λs I=>by have:=m.ed _ o s I;omega⟩ (by omega) (by omega) (by omega)) λb B=>P3 (λd=>u λx=>?_) λd=>Ob (λe=>u λx=>(x.1 _ o).1 (OF.1 (by grind))) λE=>PK (by grind) (p _ ⟨?_,λk v=>?_⟩)));· have:=B.2 (x.1 _ o).2;rw[this]at d;cases d
  ·rw[q,IN j,Aap];rfl
  ·rcases(Af j).1 v with h|rfl;· exact J k h
   ·exact⟨λe=>E (by rw[e];rfl),B.1 (by simpa using d)⟩
 obtain⟨q,i⟩:=i;rw[Al]at i q;have w:∀k∈c.2,k.1≠ []:=λk v=>(i k v).1;have C:∀k∈c.2,Bf k.1:=λk v=>(i k v).2.1;refine Qh (by omega) ?_;refine SE (λn (t:List Tb)=>t=s++(c.1.take n).map λf=>Bv f.1) c.1.length (by simp) (by omega) (λn t A j a p=>?_) (λt A a=>?_);· have o:=AN j;have H:=m.lb _ o;refine P7 (Aah j (OH (fv (by dsimp only;omega) (by dsimp only;omega)) λr y=>PK (by unfold Ai;rw[a,q,Aaa,Aaq,Aaq,Abh];omega) (p _ ?_)));rw[a,y,IN j,Aap,Aal];rfl
 ·rw[Al]at a;have D:t=P2 c:=by rw[a,q];rfl
  refine Qh (by omega) ?_;rw[D];refine OH (gw (wK m w C) (by omega) (by rw[rB];exact G) F) λr y=>MP ?_;rw[y,oX w C];exact⟨λh=>⟨i,h⟩,λh=>h.2⟩
def vz(s:Sc):Prop:=Eh s.2.2.2.1 (A8 s.2.2.2.1) (A6 s.2.2.2.1)/\Bf s.2.2.2.2/\BW s.2.2.2.2=s.2.2.2.2
theorem N'{s:Sc}(h:dQ k m s)(j:m<1000000000)(i:1000000000000<fu):Ok (N2 fu s) λb=>b=Bp↔vz s:=by
 obtain⟨r,e,_,d,_⟩:=P1 (fu:=fu) (gu:=fu) h.sm (by omega) (by omega);have l:=h.sm.n1;have n:=h.sm.n2;have g:tf fu s.2.2.2.1=Ac (Di (s.2.2.2.1=r)):=by refine(Ok.eq ?_);exact BY e (BY (v7 (by omega) (by omega)) (MP rf))
 have a:s.2.2.2.1=r↔Eh s.2.2.2.1 (A8 s.2.2.2.1) (A6 s.2.2.2.1):=⟨λc=>c▸d,λc=>c.unique d⟩;refine BY g (P3 (λc=>OH (Kb h.bt h.sh (by omega) (by omega) (by omega)) λb f=>MP ?_) λc=>MP ?_);· rw[f];exact⟨λk=>⟨a.1 (of_decide_eq_true c),k⟩,And.right⟩
 ·exact⟨λh=>(by grind),λk=>absurd (a.2 k.1) (of_decide_eq_false c)⟩
def QZ(l:List (Aq×Int×A9)):Prop:=(∀f∈l,f.2.1=1\/f.2.1=2)/\eZ l
def jJ(l:List (Aq×Int×A9))(k:Nat):Prop:=(∀f∈l.take k,f.2.1=1\/f.2.1=2)/\∀i (h:i+1<l.length),i+1<k->gq l[i].1 l[i+1].1=Bp
theorem Ql(g:k<l.length){nx:Nat->Option Bool}(s:l.length<=4)(c:jJ l k)(p:l[k].2.1=1\/l[k].2.1=2)(m:jJ l (k+1)->Ok (nx (k+1)) λr=>r=Bp↔QZ l):
  Ok (bif Di ((0:Int)<(k:Int))then Aa .i64 ((k:Int)-1) (Ab (idx l ((k:Int)-1)) λq=>bif !Go.Op.bytesLess q.1 l[k].1 then Ac Aj else nx (k+1))else nx (k+1)) λr=>r=Bp↔QZ l:=by
 have mem:∀f∈l.take (k+1),f.2.1=1\/f.2.1=2:=λf o=>by
  rcases(Af g).1 o with h|rfl;· exact c.1 f h
  omega
 refine Ob (λn=>Aao (Adg (by omega) (by omega) (P3 (λa=>MP ⟨λh=>(by grind),λh=>?_⟩) λa=>m ⟨mem,λi d b=>?_⟩))) λn=>m ⟨mem,λi d b=>by omega⟩
 ·obtain⟨j,rfl⟩:∃j,k=j+1:=⟨k-1,by omega⟩;have e:((j+1:Nat):Int)-1=(j:Int):=by omega
  simp only[e,Acd]at a;rw[h.2 j g]at a;grind
 ·rcases Aam (i+1) k with h|h;· exact c.2 i d h
  ·obtain rfl:k=i+1:=by omega
   simp_all
theorem Ye(e:l.length<=4)(m:1000000000000<fu):Ok (F36 fu l) λr=>r=Bp↔QZ l:=by
 refine V_ (jJ l) l.length ⟨by simp,λi h k=>by omega⟩ (by omega) (λk nx b a g=>?_) (λnx a=>?_)
 ·refine P7 (Aah b (Ob (λc=>Ob (λd=>MP ⟨λh=>(by grind),λh=>?_⟩) λd=>Ql b e a (.inr (GB d)) g) λc=>Ql b e a (.inl (GB c)) g));rcases h.1 _ (AN b)with h|h;all_goals omega
 ·exact P8 (MP ⟨λ_=>⟨λf j=>a.1 f (by grind),λi h=>a.2 i h h⟩,λ_=>rfl⟩)
theorem UQ(g:l.length<=4)(p:1000000000000<fu):Ok (eI fu l) λr=>r=Bp↔QZ l:=by
 refine V_ (jJ l) l.length ⟨by simp,λi h k=>by omega⟩ (by omega) (λk nx a b j=>?_) (λnx b=>?_)
 ·have go:(l[k].2.1=1\/l[k].2.1=2)->Ok (bif Di ((0:Int)<(k:Int))then Aa .i64 ((k:Int)-1) (Ab (idx l ((k:Int)-1)) λn=>Ab (idx l (k:Int)) λo=>bif !Go.Op.bytesLess n.1 o.1 then Ac Aj else nx (k+1))else nx (k+1)) λr=>r=Bp↔QZ l:=λm=>by
   have:=Ql a g b m j;rw[Bk a];trivial
  refine P7 (Aah a (Ob (λc=>Aah a (Ob (λd=>MP ⟨λh=>(by grind),λh=>?_⟩) λd=>go (.inr (GB d)))) λc=>go (.inl (GB c))));rcases h.1 _ (AN a)with h|h;all_goals omega
 ·exact P8 (MP ⟨λ_=>⟨λf e=>b.1 f (by simp_all),λi h=>b.2 i h h⟩,λ_=>rfl⟩)
structure GdX(v:Vl):Prop where
 an:v.any=Bp->v.sc=EL/\v.lists=[]/\v.structs=[]
 sc:vz v.sc
 rs:∀c∈v.lists,c.2.length<=1
 st:∀c∈v.structs,QZ c.1/\DA c
def D_:Nat->Vl->Prop
 |0,_=>False
 |d+1,v=>GdX v/\∀x∈kids v,D_ d x.1/\D_ d x.2
theorem Q8:vz EL:=by have h:Ij 5 12 EL:=L5;exact⟨h.nu,h.ln.wf,h.ln.can⟩
theorem Wm{v:Vl}(h:Bd (d+1) v)(w:1000000000000<fu):Ok (F81 fu v) λr=>r=Bp↔GdX v:=by
 obtain⟨t,⟨C,D⟩,⟨H,z⟩,_⟩:=h;have no:¬GdX v->Ok (Ac Aj) λr=>r=Bp↔GdX v:=λh=>MP ⟨λe=>(by grind),λe=>absurd e h⟩;have E:=t.n1;have F:=t.n2;have G:=t.sh.1;refine P3 (λs=>OH (V0 (by omega) (by omega) (by omega)) λb l=>P3 (λf=>Aao (MP ?_)) λf=>no λh=>?_) λs=>?_
 ·have e:=l.1 f;rw[decide_eq_true_iff];constructor;· intro h;have o:v.lists=[]:=OF.1 (by omega);have p:v.structs=[]:=OF.1 (by omega);exact⟨λ_=>⟨e,o,p⟩,e▸Q8,by grind,by rw[p];simp⟩
  ·intro h;obtain⟨_,o,p⟩:=h.an s;rw[o,p];rfl
 ·rw[l.2 (h.an s).1]at f;cases f
 refine V_ (λk=> ∀c∈v.lists.take k,c.2.length<=1) v.lists.length (by simp) (by omega) (λk nx j q x=>?_) (λnx q=>?_)
 ·refine P7 (Aah j (Ob (λB=>no λh=>by have:=h.rs _ (AN j);omega) λh=>x λc hc=>?_));rcases(Af j).1 hc with hc|rfl;· exact q c hc
  ·omega
 rw[Al]at q;refine Qh (by omega) ?_;refine V_ (λk=> ∀c∈v.structs.take k,QZ c.1/\DA c) v.structs.length (by simp) (by omega) (λk nx j a x=>?_) (λnx a=>?_)
 ·have l:=z _ (AN j);refine P7 (Aah j (OH (Ye l.nf w) λb m=>P3 (λg=>no λh=>?_) λg=>OH (UW l.lim l.GI w) λA n=>P3 (λi=>no λh=>?_) λi=>x λc hc=>?_));· rw[m.2 (h.st _ (AN j)).1]at g;cases g
  ·rw[n.2 (h.st _ (AN j)).2]at i;cases i
  ·rcases(Af j).1 hc with hc|rfl;· exact a c hc
   ·exact⟨m.1 (by simpa using g),n.1 (by simpa using i)⟩
 rw[Al]at a;refine P8 (OH (HZ t (by omega) w) λb l=>MP ?_);rw[l];exact⟨λh=>⟨λy=>absurd y (by rw[s];decide),h,q,a⟩,λh=>h.sc⟩
theorem Jd:∀ {d fu:Nat} {v:Vl} {lv n a:Int} {b:Bool},Bd d v->1000000000000+d<fu->(1<=lv/\lv+d<=17)->(0<=n/\n+FK d<=1000000000000)->(0<=a/\a<=1000)->
  Ok (sZ fu (v,lv,n,a,b)) λr=>(0<=r.1/\r.1<=n+FK d)/\(0<=r.2.1/\r.2.1<=1000)/\(r.2.2=Aj↔b=Aj/\D_ d v)
 |0,_,_,_,_,_,_,h,_,_,_,_=>h.elim
 |d+1,0,_,_,_,_,_,_,h,_,_,_=>by omega
 |d+1,fu+1,v,lv,n,a,b,h,W,P,X,O=>by
  have hc:FK (d+1)=1+78*FK d:=rfl;rw[show sZ (fu+1) (v,lv,n,a,b)=_ from d88 fu v lv n a b];have u:F87 fu (lv,n,a,b)=Ac (n+1,(if a<lv then lv else a),b):=by refine(Ok.eq ?_);exact Aao (Abx (by omega) (MP rf))
  have c:0<=(if a<lv then lv else a)/\(if a<lv then lv else a)<=1000:=by omega
  refine BY u ?_;generalize(if a<lv then lv else a)=t at c;have q:¬D_ (d+1) v->Ok (Ac (n+1,t,Bp)) λr=>(0<=r.1/\r.1<=n+FK (d+1))/\(0<=r.2.1/\r.2.1<=1000)/\(r.2.2=Aj↔b=Aj/\D_ (d+1) v):=
   λE=>MP ⟨⟨by omega,by omega⟩,c,λh=>(by grind),λh=>absurd h.2 E⟩;refine Ob (λj=>absurd j (by omega)) λ_=>OH (Wm h (by omega)) λg I=>P3 (λe=>q λG=>by rw[I.2 G.1]at e;cases e) λe=>BY (Wc h (by omega)) ?_;have B:=I.1 (by simpa using e);have J:=h.kids;have C:=h.2.2.2;refine av (λk (x:Int) (y:Int) (z:Bool)=>(0<=x/\x<=n+1+((2*k*FK d:Nat):Int))/\(0<=y/\y<=1000)/\(z=Aj↔b=Aj/\∀w∈(kids v).take k,D_ d w.1/\D_ d w.2)) (kids v).length ⟨⟨by omega,by simp⟩,c,⟨λh=>⟨h,by simp⟩,λh=>h.1⟩⟩ (by omega) (λk x y z nx l A F=>?_) (λx y z nx A=>?_)
  ·obtain⟨M,H,o⟩:=A;have i:=C _ (AN l);have D:2*k*FK d<=76*FK d:=Abi _ (by omega);have m:2*(k+1)*FK d=2*k*FK d+2*FK d:=by rw[Nat.mul_add,Adm]
   refine P7 (Aah l (Aao (OH (Jd i.1 (by omega) (by omega) (by omega) H) λr L=>?_)));obtain⟨Y,Q,R⟩:=L;refine Aao (OH (Jd i.2 (by omega) (by omega) (by omega) Q) λs G=>?_);obtain⟨S,T,U⟩:=G;refine F _ _ _ ⟨⟨S.1,by omega⟩,T,?_⟩;rw[U,R,o];constructor
   ·rintro⟨⟨⟨v1,p⟩,V⟩,t2⟩;refine⟨v1,λw i=>?_⟩;rcases(Af l).1 i with i|rfl;· exact p w i
    ·exact⟨V,t2⟩
   ·rintro⟨v1,p⟩;have K:=p _ ((Af l).2 (.inr rfl));exact⟨⟨⟨v1,λw i=>p w ((Af l).2 (.inl i))⟩,K.1⟩,K.2⟩
  ·obtain⟨M,H,o⟩:=A;have D:2*(kids v).length*FK d<=78*FK d:=Abi _ (by omega);refine P8 (MP ⟨⟨M.1,by omega⟩,H,?_⟩);rw[Al]at o;exact o.trans ⟨λh=>⟨h.1,B,h.2⟩,λh=>⟨h.1,h.2.2⟩⟩
theorem Ji{v:Vl}(h:Bd d v)(T:d<=3)(S:1000000001000<fu):Ok (sY fu v) λr=>r=Bp↔D_ d v:=by
 have J:d≠0:=by rintro rfl;trivial
 obtain⟨d,rfl⟩:∃e,d=e+1:=⟨d-1,by omega⟩;have hc:FK d<=6163:=by rcases(by omega:d=0\/d=1\/d=2)with rfl|rfl|rfl<;>decide
 have key:Ok (F89 fu (v,1,(0,0),Aj)) λr=>r.2.2=Aj↔D_ (d+1) v:=by
  rw[F89];have p:F34 fu (1,((0,0),Aj))=Ac (1,1,Aj):=by rfl
  refine BY p ?_;have o:¬D_ (d+1) v->Ok (Ac ((1:Int),(1:Int),Bp)) λr=>r.2.2=Aj↔D_ (d+1) v:=λB=>MP ⟨λh=>(by grind),λh=>absurd h B⟩;refine Ob (λf=>absurd f (by simp)) λ_=>OH (Wm h (by omega)) λg E=>P3 (λa=>o λD=>by rw[E.2 D.1]at a;grind) λa=>BY (Wc h (by omega)) ?_;have u:=E.1 (by grind);have F:=h.kids;have A:=h.2.2.2;refine av (λk (x:Int) (y:Int) (z:Bool)=>(0<=x/\x<=1+((2*k*FK d:Nat):Int))/\(0<=y/\y<=1000)/\(z=Aj↔∀w∈(kids v).take k,D_ d w.1/\D_ d w.2)) (kids v).length ⟨⟨by simp,by simp⟩,⟨by decide,by decide⟩,⟨λ_=>by simp,λ_=>rfl⟩⟩ (by omega) (λk x y z nx i t C=>?_) (λx y z nx t=>?_)
  ·obtain⟨L,H,l⟩:=t;have b:=A _ (AN i);have K:2*k*FK d<=76*FK d:=Abi _ (by omega);have j:2*(k+1)*FK d=2*k*FK d+2*FK d:=by rw[Nat.mul_add,Adm]
   refine P7 (Aah i (Aao (OH (Jd b.1 (by omega) (by omega) (by omega) H) λr c=>?_)));obtain⟨U,M,N⟩:=c;refine Aao (OH (Jd b.2 (by omega) (by omega) (by omega) M) λs D=>?_);obtain⟨O,P,Q⟩:=D;refine C _ _ _ ⟨⟨O.1,by omega⟩,P,?_⟩;rw[Q,N,l];constructor
   ·rintro⟨⟨n,R⟩,t2⟩ w b;rcases(Af i).1 b with b|rfl;· exact n w b
    ·exact⟨R,t2⟩
   ·intro n;have G:=n _ ((Af i).2 (.inr rfl));exact⟨⟨λw b=>n w ((Af i).2 (.inl b)),G.1⟩,G.2⟩
  ·obtain⟨L,H,l⟩:=t;refine P8 (MP ?_);rw[Al]at l;exact l.trans ⟨λh=>⟨u,h⟩,λh=>h.2⟩
 rw[sY];have q:Ok (F90 fu v) λr=>r.2.2=Aj↔D_ (d+1) v:=by exact OH key λr c=>MP c
 grind[OH,MP]
theorem Xx(h:Bd d x.1/\Bd d x.2)(g:d<=3)(e:1000000001000<fu):Ok (F92 fu x) λr=>r=Bp↔D_ d x.1/\D_ d x.2:=by refine OH (Ji h.1 g e) λa f=>P3 (λc=>OH (Ji h.2 g e) λb i=>MP ?_) λc=>MP ⟨λh=>(by grind),λh=>?_⟩;all_goals grind
theorem XU{c:GZ}(h:c.1.length<=1000/\c.2.length<=1000):eG fu c=Ac (AY c):=by refine(Ok.eq ?_);rw[eG];refine Abw (PK (by grind) (MP ?_));rfl
theorem Xp(h:c.1.length<=1000/\c.2.length<=1000)(j:1000000000000<fu):j9 fu c=Ac (Br c):=by
 refine(Ok.eq ?_);refine SE (λk (s:List A9)=>s=(c.1.take k).map (·.2.2)) c.1.length rf (by omega) (λk s nx e d g=>?_) (λs nx d=>?_);· refine P7 (Aah e (PK (by grind) (g _ ?_)));grind[cu]
 rw[Al]at d;refine Qh (by omega) ?_;refine SE (λk (s:List A9)=>s=c.1.map (·.2.2)++(c.2.take k).map (·.2)) c.2.length (by grind) (by omega) (λk s nx e b g=>?_) (λs nx b=>?_);· refine P7 (Aah e (PK (by grind) (g _ ?_)));grind[cu,List.append_assoc]
 ·refine P8 (MP ?_);rw[b,Al];rfl
theorem bo{v:Vl}(h:Bd (d+1) v)(y:1000000000000<fu):eF fu v=Ac (kids v):=by
 obtain⟨_,⟨B,u⟩,⟨E,t⟩,_⟩:=h;have w:∀k,((v.lists.take k).flatMap AY).length<=15:=λk=>by
  have:=Dx (f:=AY) (n:=5) (l:=v.lists.take k) λc hc=>by grind[AY]
  grind
 have lb:∀k,((v.structs.take k).flatMap Br).length<=24:=λk=>by
  have:=Dx (f:=Br) (n:=8) (l:=v.structs.take k) λc hc=>by have:=(t c (Acj hc)).nf;have:=(t c (Acj hc)).nc;grind[Br]
  grind
 refine(Ok.eq ?_);refine SE (λk (s:List A9)=>s=(v.lists.take k).flatMap AY) v.lists.length rf (by omega) (λk s nx m o r=>?_) (λs nx o=>?_)
 ·have hc:=u _ (AN m);have e:(v.lists.take (k+1)).flatMap AY=s++AY v.lists[k]:=by grind[cu,List.flatMap_singleton]
  have:=w (k+1);rw[e,Aaa]at this;have p:eG fu v.lists[k]=Ac (AY v.lists[k]):=XU (by omega);refine P7 (Aah m (BY p (Abw (r _ e.symm))))
 rw[Al]at o;refine Qh (by omega) ?_;refine SE (λk (s:List A9)=>s=v.lists.flatMap AY++(v.structs.take k).flatMap Br) v.structs.length (by simp[o]) (by omega) (λk s nx m j r=>?_) (λs nx j=>?_)
 ·have hc:=t _ (AN m);have z:=hc.nf;have A:=hc.nc;have e:v.lists.flatMap AY++(v.structs.take (k+1)).flatMap Br=s++Br v.structs[k]:=by rw[j,IN m,Acm,Aef,Aal]
  have a:=w v.lists.length;rw[Al]at a;have b:=lb (k+1);have:=congrArg EW e;rw[Aaa,Aaa]at this;have q:j9 fu v.structs[k]=Ac (Br v.structs[k]):=Xp (by omega) y;refine P7 (Aah m (BY q (Abw (r _ e.symm))))
 ·refine P8 (MP ?_);rw[j,Al];rfl
theorem dr{v:Vl} :Ok (kq fu v) λr=>r=Bp↔v.sc=EL/\v.lists=[]/\v.structs=[]:=by
 obtain⟨a,⟨m,o,p,⟨i,j⟩,l⟩,n,q⟩:=v;have no:∀ {P:Prop},¬P->Ok (Ac Aj) λr=>r=Bp↔P:=λh=>MP ⟨λk=>(by grind),λk=>absurd k h⟩;have g:∀ {α:Type} {l:List α},((l.length:Nat):Int)=0->l=[]:=λh=>OF.1 (by omega);cases m with
 |true=>exact no λh=>by have:=h.1;cases this
 |false=>cases o with
  |true=>exact no λh=>by have:=h.1;cases this
  |false=>cases p with
   |true=>exact no λh=>by have:=h.1;cases this
   |false=>
    rw[kq];unfold iF iB;refine VP rfl (VP rfl (VP rfl (Ob (λb=>Ob (λc=>Ob (λd=>Ob (λf=>MP ?_) λf=>no ?_) λd=>no ?_) λc=>no ?_) λb=>no ?_)));· have b:=g b;have c:=g c;have d:=g d;have f:=g f;subst b;subst c;subst d;subst f;rw[decide_eq_true_iff];exact⟨λh=>⟨rfl,rfl,g h⟩,λh=>by grind⟩
    ·simp_all
    ·rintro⟨h,_⟩;have h:(Aj,Aj,Aj,(i,j),l)=EL:=h;unfold EL at h;obtain⟨_,_,_,_,rfl⟩:=h;exact d rfl
    ·rintro⟨h,_⟩;have h:(Aj,Aj,Aj,(i,j),l)=EL:=h;unfold EL at h;obtain⟨_,_,_,⟨_,rfl⟩,_⟩:=h;exact c rfl
    ·rintro⟨h,_⟩;have h:(Aj,Aj,Aj,(i,j),l)=EL:=h;unfold EL at h;obtain⟨_,_,_,⟨rfl,_⟩,_⟩:=h;exact b rfl
theorem HY:∀ {d fu:Nat} {v:Vl} {lv:Int},Bd d v->1000000000000+d<fu->(1<=lv/\lv+d<=17)->Ok (N1 fu (v,lv)) λr=>r=Bp↔D_ d v
 |0,_,_,_,h,_,_=>h.elim
 |d+1,0,_,_,_,h,_=>by omega
 |d+1,fu+1,v,lv,h,hF,Y=>by
  rw[show N1 (fu+1) (v,lv)=_ from d289 fu v lv];have no:¬D_ (d+1) v->Ok (Ac Aj) λr=>r=Bp↔D_ (d+1) v:=λh=>MP ⟨λk=>(by grind),λk=>absurd k h⟩;have e:=bo (fu:=fu) h (by omega);have T:=h.kids;obtain⟨V,⟨l1,l2⟩,⟨s1,Z⟩,I⟩:=h;have tail:(v.any=Bp->v.sc=EL/\v.lists=[]/\v.structs=[])->vz v.sc->Ok (Ad fu (λ(q:Nat) C=>
     bif Di ((↑q:Int)<(↑(EW (Vl.lists v)):Int))then
      Ab (idx (Vl.lists v) (↑q:Int)) λK=>
      bif Di ((1:Int)<(↑(EW K.2):Int))then
       Ac (Aj)
      else
       C (q+1)
     else
      Ad fu (
           λ(n:Nat) D=>
       bif Di ((↑n:Int)<(↑(EW (Vl.structs v)):Int))then
        Ab (idx (Vl.structs v) (↑n:Int)) λL=>
        Ab (eI fu L.1) λM=>
        bif !M then
         Ac (Aj)
        else
         Ab (idx (Vl.structs v) (↑n:Int)) λN=>
         Ab (eH fu N) λO=>
         bif !O then
          Ac (Aj)
         else
          D (n+1)
       else
        Ab (eF fu v) λp=>
        Ad fu (λ(o:Nat) E=>
         bif Di ((↑o:Int)<(↑(EW p):Int))then
          Ab (idx p (↑o:Int)) λP=>
          Aa (Lr.i64) (lv+(1:Int))<|
          Ab (N1 fu (P.1,(lv+(1:Int)))) λQ=>
          bif !Q then
           Ac (Aj)
          else
           Ab (idx p (↑o:Int)) λR=>
           Aa (Lr.i64) (lv+(1:Int))<|
           Ab (N1 fu (R.2,(lv+(1:Int)))) λS=>
           bif !S then
            Ac (Aj)
           else
            E (o+1)
         else
          Ac (Bp)) (0)) (0)) (0)) λr=>r=Bp↔D_ (d+1) v:=λH J=>by
   refine V_ (λk=> ∀c∈v.lists.take k,c.2.length<=1) v.lists.length (by simp) (by omega) (λk nx e F z=>?_) (λnx F=>?_)
   ·refine P7 (Aah e (Ob (λg=>no λh=>by have:=h.1.rs _ (AN e);omega) λh=>z λc hc=>?_));rcases(Af e).1 hc with hc|rfl;all_goals grind
   rw[Al]at F;refine Qh (by omega) ?_;refine V_ (λk=> ∀c∈v.structs.take k,QZ c.1/\DA c) v.structs.length (by simp) (by omega) (λk nx e i z=>?_) (λnx i=>?_)
   ·have s:=Z _ (AN e);refine P7 (Aah e (OH (UQ s.nf (by omega)) λb u=>P3 (λa=>no λh=>?_) λa=>Aah e (OH (Ta s.lim s.GI (by omega)) λb' x=>P3 (λl=>no λh=>?_) λl=>z λc hc=>?_)));· rw[u.2 (h.1.st _ (AN e)).1]at a;grind
    ·rw[x.2 (h.1.st _ (AN e)).2]at l;grind
    ·rcases(Af e).1 hc with hc|rfl;all_goals grind
   rw[Al]at i;refine P8 (BY e ?_);refine V_ (λk=> ∀w∈(kids v).take k,D_ d w.1/\D_ d w.2) (kids v).length (by simp) (by omega) (λk nx e j z=>?_) (λnx j=>?_)
   ·have t:=I _ (AN e);refine P7 (Aah e (Aao (OH (HY t.1 (by omega) (by omega)) λr U=>P3 (λg=>no λh=>?_) λg=>Aah e (Aao (OH (HY t.2 (by omega) (by omega)) λr2 A=>P3 (λf=>no λh=>?_) λf=>z λw t=>?_)))));· rw[U.2 (h.2 _ (AN e)).1]at g;cases g
    ·rw[A.2 (h.2 _ (AN e)).2]at f;cases f
    ·rcases(Af e).1 t with t|rfl;· exact j w t
     ·exact⟨U.1 (by simpa using g),A.1 (by simpa using f)⟩
   ·rw[Al]at j;exact P8 (MP ⟨λ_=>⟨⟨H,J,F,i⟩,j⟩,λ_=>rfl⟩)
  refine Ob (λy=>absurd y (by omega)) λ_=>P3 (λG=>OH dr λb s=>P3 (λg=>no λB=>?_) λg=>OH (N' V (by decide) (by omega)) λX a=>P3 (λf=>no λB=>?_) λf=>tail (λ_=>s.1 (by simpa using g)) (a.1 (by simpa using f))) λG=>OH (N' V (by decide) (by omega)) λX a=>P3 (λf=>no λB=>?_) λf=>tail (λh=>absurd h (by rw[G];decide)) (a.1 (by simpa using f));· rw[s.2 (B.1.an G)]at g;cases g
  ·rw[a.2 B.1.sc]at f;cases f
  ·rw[a.2 B.1.sc]at f;cases f
theorem IJ(h:Bd d x.1/\Bd d x.2)(k:d<=3)(j:1000000001000<fu):Ok (Vh fu x) λr=>r=Bp↔D_ d x.1/\D_ d x.2:=by
 have one:∀ {v:Vl},Bd d v->Ok (TN fu v) λr=>r=Bp↔D_ d v:=λi=>by exact OH (HY i (by omega) (by omega)) λr g=>MP g
 rw[Vh];refine OH (one h.1) λa e=>P3 (λc=>OH (one h.2) λb f=>MP ?_) λc=>MP ⟨λh=>(by grind),λh=>?_⟩;all_goals grind
def Rj(x y:Sc):Prop:=(x.1=Bp->y.1=Bp)/\(x.2.1=Bp->y.2.1=Bp)/\(x.2.2.1=Bp->y.2.2.1=Bp)/\(∀n,A8 x.2.2.2.1 n->A8 y.2.2.2.1 n)/\(∀n,A6 x.2.2.2.1 n->A6 y.2.2.2.1 n)/\∀w,Av x.2.2.2.2 0 w=Bp->Av y.2.2.2.2 0 w=Bp
theorem Kp{x y:List Sp×List Sp}(a:Eh r (λn=>A8 x n/\¬A8 y n) (λn=>A6 x n/\¬A6 y n)):r=([],[])↔(∀n,A8 x n->A8 y n)/\∀n,A6 x n->A6 y n:=by
 constructor
 ·rintro rfl;refine⟨λn h=>GB λk=>?_,λn h=>GB λk=>?_⟩;· have:=(a.A8 n).2 ⟨⟨h,k⟩,h.2⟩;exact Bb this.1
  ·have:=(a.A6 n).2 ⟨⟨h,k⟩,h.2⟩;exact Bb this.1
 ·rintro⟨b,c⟩;exact a.unique (PY.congr (λn=>⟨λh=>absurd h.1 Bb,λh=>absurd (b n h.1) h.2⟩) λn=>⟨λh=>absurd h.1 Bb,λh=>absurd (c n h.1) h.2⟩)
theorem VF{x:Sc}{t:Tb}(j:Eh r (λn=>A8 x.2.2.2.1 n/\¬A8 y.2.2.2.1 n) (λn=>A6 x.2.2.2.1 n/\¬A6 y.2.2.2.1 n))(ht:CD t (λw=>Av x.2.2.2.2 0 w&& !Av y.2.2.2.2 0 w) m):
  ((x.1&& !y.1,x.2.1&& !y.2.1,x.2.2.1&& !y.2.2.1,r,t):Sc)=EL↔Rj x y:=by
 have h:=Kp j;have i:=ht.GC;unfold EL Rj;simp only[Aep];rw[show(r=(([],[]):List Sp×List Sp))↔_ from h,i];have g:∀a b:Bool,((a&& !b)=Aj)↔(a=Bp->b=Bp):=by simp
 rw[g,g,g];constructor;· rintro⟨a,b,c,⟨d,e⟩,f⟩;exact⟨a,b,c,d,e,λw k=>(g _ _).1 (congrFun f w) k⟩
 grind
theorem Uu{fu k i m p:Nat}{x y:Sc}(b:Ij k m x)(c:Ij i p y)(v:k+i<=11)(w:(m+2)*(p+2)<=100000000)(d:1000000000000<fu):
  Ok (kT fu (x,y)) λo=>Ij 12 ((m+2)*(p+2)) o/\(o=EL↔Rj x y):=by
 have z:m<=(m+2)*(p+2):=Aan (by omega:m<=(m+2)*1) (Abv (Aac _) (by omega));have A:p<=(m+2)*(p+2):=Aan (by omega:p<=1*(p+2)) (Abv (by omega) (Aac _));have D:=b.n1;have E:=b.n2;have F:=c.n1;have G:=c.n2;obtain⟨r,l,g,B,C⟩:=XR (fu:=fu) (b.nu.sm (by omega) (by omega)) (c.nu.sm (by omega) (by omega)) (by omega) (by omega);obtain⟨t,q,f⟩:=Ox (GD (fu:=fu) b.ln c.ln (by omega) d);rw[b.ln.gL,c.ln.gL]at f;have e:Ok (uq fu (x,y)) λo=>o=(x.1&& !y.1,x.2.1&& !y.2.1,x.2.2.1&& !y.2.2.1,r,t):=by exact BY (b.E6 (by omega) (by omega) d) (BY (c.E6 (by omega) (by omega) d) (BY (Uv fu _ _) (BY (Uv fu _ _) (BY (Uv fu _ _) (BY l (BY q (MP rf)))))))
 rw[kT];refine OH e λo s=>MP ?_;subst s;refine⟨⟨g.self (λn h=>h.1.2) (λn h=>h.1.2),?_,?_,?_⟩,VF g f⟩;· grind
 ·grind
 ·have u:G1 x.2.2.2.2 y.2.2.2.2<=(m+2)*(p+2):=Abv (by have:=b.ln.len;omega) (by have:=c.ln.len;omega);exact(f.mono u).self
theorem Xr{e:Nat}{x:Sc}(h:Ij k m x)(i:Ij e p y)(g:k+e<=11)(c:(m+2)*(p+2)<=100000000)(a:1000000000000<fu):
  Ok (kS fu (x,y)) λr=>r=Bp↔Rj x y:=by
 grind[kS,OH,Uu,I0,MP]
theorem Ij.bR{s:Sc}(h:Ij k m s)(d:k<=12)(e:m<=100000000)(a:1000000000000<fu):YP fu s=Ac s:=by refine(Ok.eq ?_);rw[YP];refine OH (N' (h.sc d) (by omega) a) λb c=>?_;rw[c.2 ⟨h.nu,h.ln.wf,h.ln.can⟩];exact Qb rf (MP rf)
theorem KF{s:Sc}(h:Ij k m s)(p:k<=12)(t:m<=100000000)(o:1000000000000<fu):Ok (YO fu s) λb=>b=Bp↔s=EL:=by
 have j:=h.bR (fu:=fu) p t o;obtain⟨a,b,c,f,L⟩:=s;have g:=h.nu;have v:=h.n1;have w:=h.n2;dsimp only at g v w;obtain⟨r,l,_,u,_⟩:=P1 (fu:=fu) (gu:=fu) (g.sm (by omega) (by omega)) (by omega) (by omega);obtain rfl:f=r:=g.unique u;have n:Ok (j8 fu f) λb=>b=Bp↔f=([],[]):=by rw[j8];refine BY l (Ob (λd=>MP ?_) λd=>MP ⟨λh=>(by cases h),λh=>absurd (by rw[h];rfl) d⟩);have d:f.1=[]:=OF.1 (by omega);rw[decide_eq_true_iff];exact⟨λe=>Acp d (OF.1 (by omega)),λe=>by rw[e];rfl⟩
 have no:∀ {P:Prop},¬P->Ok (Ac Aj) λr=>r=Bp↔P:=λh=>MP ⟨λk=>(by cases k),λk=>absurd k h⟩;rw[YO];refine BY j ?_;unfold EL;cases a with
 |true=>exact no λh=>by cases h
 |false=>cases b with
  |true=>exact no λh=>by cases h
  |false=>cases c with
   |true=>exact no λh=>by cases h
   |false=>
    refine VP rf (VP rf (VP rf (OH n λq i=>P3 (λd=>MP ?_) λd=>no λh=>?_)))
    ·rw[decide_eq_true_iff,i.1 d];constructor;· intro e;have:L=[]:=OF.1 (by dsimp only at e;omega);rw[this]
     ·intro e;simp only[Aep]at e;rw[e.2.2.2.2];rfl
    ·simp only[Aep]at h;rw[i.2 h.2.2.2.1]at d;cases d
theorem Mi{q:Nat}{x:Sc}(f:Ij k m x)(g:Ij q p y)(D:k+q<=11)(z:(m+2)*(p+2)<=100000000)(i:1000000000000<fu):
  Ok (eE fu (x,y)) λr=>r=Bp↔Rj x y:=by
 have E:m<=(m+2)*(p+2):=Aan (by omega:m<=(m+2)*1) (Abv (Aac _) (by omega));have F:p<=(m+2)*(p+2):=Aan (by omega:p<=1*(p+2)) (Abv (by omega) (Aac _));have I:=f.n1;have J:=f.n2;have K:=g.n1;have L:=g.n2;obtain⟨r,u,_,l,G,H⟩:=Ge (fu:=fu) (gu:=fu) (f.nu.sm (by omega) (by omega)) (g.nu.sm (by omega) (by omega)) (by omega) (by omega) (by omega);obtain⟨t,v,j⟩:=MJ (GD (fu:=fu) f.ln g.ln (by omega) i);rw[f.ln.gL,g.ln.gL]at j;have B:G1 x.2.2.2.2 y.2.2.2.2<=(m+2)*(p+2):=Abv (by have:=f.ln.len;omega) (by have:=g.ln.len;omega);have C:Ij 12 ((m+2)*(p+2)) (x.1&& !y.1,x.2.1&& !y.2.1,x.2.2.1&& !y.2.2.1,r,t):=⟨l.self (λn h=>h.1.2) (λn h=>h.1.2),by show r.1.length<=12;omega,by show r.2.length<=12;omega,(j.mono B).self⟩;have e:Ok (jZ fu (x,y)) λo=>o=(x.1&& !y.1,x.2.1&& !y.2.1,x.2.2.1&& !y.2.2.1,r,t):=by rw[jZ];refine BY (f.bR (by omega) (by omega) i) (BY (g.bR (by omega) (by omega) i) ?_);refine P3 (λa=>P3 (λb=>P3 (λc=>?_) λc=>?_) λb=>P3 (λc=>?_) λc=>?_) λa=>P3 (λb=>P3 (λc=>?_) λc=>?_) λb=>P3 (λc=>?_) λc=>?_;all_goals exact BY u (BY v (MP (by rw[a,b,c];simp)))
 rw[eE];refine OH e λo A=>?_;subst A;exact OH (KF C (by omega) z i) λb w=>MP (w.trans (VF l j))
theorem KE{a b:List α}{f:α->α->Option Bool}(o:a.length<fu)(h:∀i (h1:i<a.length) (h2:i<b.length),Ok (f a[i] b[i]) λr=>r=Bp↔a[i]=b[i]):
  Ok (bif Di ((a.length:Int)≠(b.length:Int))then Ac Aj else Ad fu (λ(c:Nat) g=>bif Di ((c:Int)<(a.length:Int))then Ab (idx a (c:Int)) λt=>Ab (idx b (c:Int)) λu=>Ab (f t u) λv=>bif !v then Ac Aj else g (c+1)else Ac Bp) 0) λr=>r=Bp↔a=b:=by
 have no:a≠b->Ok (Ac Aj) λr=>r=Bp↔a=b:=λh=>MP ⟨λk=>(by grind),λk=>absurd k h⟩;refine Ob (λh=>no (by grind)) λm=>?_;have m:a.length=b.length:=by omega
 refine V_ (λk=> ∀i (h1:i<a.length),i<k->a[i]=b[i]'(by omega)) a.length (λi _ h=>by omega) o (λk nx l d s=>?_) (λnx d=>?_)
 ·refine P7 (Aah l (Aah (by omega) (OH (h k l (by omega)) λr n=>P3 (λh2=>no ?_) λh2=>s λi p q=>?_)));all_goals grind
 ·exact P8 (MP ⟨λ_=>Adj m λi h1 h2=>d i h1 h1,λ_=>rfl⟩)
theorem Ahu{v w:Vl}(h1:v.any=w.any)(h2:v.sc=w.sc)(h3:v.lists=w.lists)(a:v.structs=w.structs):v=w:=by cases v;cases w;grind[Vl.any,Vl.sc,Vl.lists,Vl.structs]
theorem XB{x:Sc}{w f:Nat}(e:dQ k m x)(v:dQ w f y)(G:m<=100000000/\f<=100000000)(F:1000000000000<fu):Ok (kZ fu (x,y)) λr=>r=Bp↔x=y:=by
 obtain⟨a,b,c,⟨H,I⟩,l⟩:=x;obtain⟨C,D,E,⟨A,B⟩,z⟩:=y;have no:∀ {P:Prop},¬P->Ok (Ac Aj) λr=>r=Bp↔P:=λh=>MP ⟨λk=>(by grind),λk=>absurd k h⟩;have i:=e.sm.n1;have j:=e.sm.n2;rw[kZ];simp only[Aep];dsimp only at i j⊢;refine P3 (λo=>P3 (λp=>P3 (λhc=>BY (eqP (by omega)) (Ob (λq=>BY (eqP (by omega)) (Ob (λd=>OH (Q:=λr=>r=Bp↔l=z) ?_ λr t=>MP ?_) λh=>no λk=>h k.2.2.2.1.2)) λh=>no λk=>h k.2.2.2.1.1)) λh=>no λk=>?_) λh=>no λk=>?_) λh=>no λk=>?_;· have g:=e.sh;grind[max,KQ,Nat.le_trans]
 all_goals grind
def Iq(d:Nat)(x:A9):Prop:=Bd d x.1/\Bd d x.2
theorem Bd.lv{v:Vl}(h:Bd (d+1) v){c:GZ}(hc:c∈v.lists):∀x∈AY c,Iq d x:=λx a=>
 h.2.2.2 x (AS.2 (.inl (Aad.2 ⟨c,hc,a⟩)))
theorem Bd.sv{v:Vl}(h:Bd (d+1) v)(hc:c∈v.structs):∀x∈Br c,Iq d x:=λx a=>
 h.2.2.2 x (AS.2 (.inr (Aad.2 ⟨c,hc,a⟩)))
theorem AQ{P:Prop}(h:¬P):Ok (Ac Aj) λr=>r=Bp↔P:=MP ⟨λk=>(by grind),λk=>absurd k h⟩
theorem LL:∀ {d fu:Nat} {v w:Vl},Bd d v->Bd d w->1000000000000+10*d<fu->Ok (eU fu (v,w)) λr=>r=Bp↔v=w
 |0,_,_,_,h,_,_=>h.elim
 |d+1,fu,v,w,F,G,hF=>by
  obtain⟨f,rfl⟩:∃f,fu=f+5:=⟨fu-5,by omega⟩;have sv:∀ {g:Nat} {x y:A9},Iq d x->Iq d y->1000000000000+10*d+1<g->Ok (NH g (x,y)) λr=>r=Bp↔x=y:=λ{g x y} M N hg=>by obtain⟨e,rfl⟩:∃e,g=e+1:=⟨g-1,by omega⟩;rw[show NH (e+1) (x,y)=_ from d136 e x y];refine OH (LL M.1 N.1 (by omega)) λr a=>P3 (λh=>OH (LL M.2 N.2 (by omega)) λs p=>MP ?_) λh=>AQ λe=>?_;all_goals grind
  obtain⟨O,⟨a2,P⟩,⟨a4,R⟩,_⟩:=id F;obtain⟨S,⟨b2,T⟩,⟨b4,U⟩,_⟩:=id G;rw[show eU (f+5) (v,w)=_ from d135 (f+4) v w];refine P3 (λh=>AQ λe=>?_) λc=>OH (XB O S (by omega) (by omega)) λr a=>P3 (λh=>AQ λe=>?_) λq=>Ob (λh=>AQ λe=>h (by rw[e])) λB=>Ob (λh=>AQ λe=>h (by rw[e])) λC=>?_;· grind
  ·grind
  have c:v.any=w.any:=by grind
  have q:v.sc=w.sc:=a.1 (by grind);have B:v.lists.length=w.lists.length:=by omega
  have C:v.structs.length=w.structs.length:=by omega
  refine V_ (λk=> ∀i (h:i<v.lists.length),i<k->v.lists[i]=w.lists[i]'(by omega)) v.lists.length (λi _ h=>by omega) (by omega) (λk nx A m J=>?_) (λnx m=>?_)
  ·have t:=AN A;have u:=AN (show k<w.lists.length by omega);have E:=P _ t;have q2:=T _ u;have V:fq (f+4) v.lists[k]=Ac (AY v.lists[k]):=Ho (by omega) (by omega);have W:fq (f+4) (w.lists[k]'(by omega))=Ac (AY (w.lists[k]'(by omega))):=Ho (by omega) (by omega);have ne:v.lists[k]≠w.lists[k]'(by omega)->¬v=w:=λh e=>h (by simp only[e]);refine P7 (Aah A (Aah (by omega) (Ob (λh=>AQ (ne λe=>h (by rw[e]))) λo=>BY V (BY W (OH (Q:=λr=>r=Bp↔AY v.lists[k]=AY (w.lists[k]'(by omega))) ?_ λr a=>P3 (λh=>AQ (ne λe=>?_)) λh=>J λi H I=>?_)))));· rw[show uO (f+4) (AY v.lists[k],AY (w.lists[k]'(by omega)))=_ from d129 (f+3) _ _];refine KE (f:=λx y=>NH (f+3) (x,y)) (by unfold AY;rw[Aaa];omega) λi b l=>sv (F.lv t _ (AN b)) (G.lv u _ (AN l)) (by omega)
   ·rw[a.2 (by rw[e])]at h;cases h
   ·rcases Aam i k with z|z;· exact m i H z
    ·obtain rfl:i=k:=by omega
     have a:=a.1 (by simpa using h);have o:(v.lists[i]).1.length=(w.lists[i]'(by omega)).1.length:=by omega
     exact Acp (Ala a o).1 (Ala a o).2
  have X:v.lists=w.lists:=Adj B λi b l=>m i b b;refine Qh (by omega) ?_;refine V_ (λk=> ∀i (h:i<v.structs.length),i<k->v.structs[i]=w.structs[i]'(by omega)) v.structs.length (λi _ h=>by omega) (by omega) (λk nx A m J=>?_) (λnx m=>?_)
  ·have t:=AN A;have u:=AN (show k<w.structs.length by omega);have E:=R _ t;have n1:=E.nf;have n2:=E.nc;have ne:v.structs[k]≠w.structs[k]'(by omega)->¬v=w:=λh e=>h (by simp only[e]);refine P7 (Aah A (Aah (by omega) (OH (Q:=λr=>r=Bp↔v.structs[k]=w.structs[k]'(by omega)) ?_ λr a=>P3 (λh=>AQ (ne λe=>?_)) λh=>J λi H I=>?_)))
   ·rw[show uL (f+4) (v.structs[k],w.structs[k]'(by omega))=_ from d134 (f+3) _ _];refine OH (Q:=λr=>r=Bp↔(v.structs[k]).1=(w.structs[k]'(by omega)).1) ?_ λr a=>P3 (λh=>OH (Q:=λr=>r=Bp↔(v.structs[k]).2=(w.structs[k]'(by omega)).2) ?_ λs p=>MP ?_) λh=>AQ λe=>?_;· rw[show uN (f+3) ((v.structs[k]).1,(w.structs[k]'(by omega)).1)=_ from d131 (f+2) _ _];refine KE (f:=λx y=>kY (f+2) (x,y)) (by omega) λi b l=>?_;rw[show kY (f+2) ((v.structs[k]).1[i],(w.structs[k]'(by omega)).1[i])=_ from d130 (f+1) _ _];have K:=F.sv t _ (AS.2 (.inl (By.2 ⟨_,AN b,rfl⟩)));have L:=G.sv u _ (AS.2 (.inl (By.2 ⟨_,AN l,rfl⟩)));refine Ob (λZ=>Ob (λk2=>OH (sv K L (by omega)) λr a=>MP ?_) λh=>AQ λe=>h (by rw[e])) λh=>AQ λe=>h (by rw[e]);rw[a];exact⟨λD=>Acp Z (Acp k2 D),λe=>by rw[e]⟩
    ·rw[show uM (f+3) ((v.structs[k]).2,(w.structs[k]'(by omega)).2)=_ from d133 (f+2) _ _];unfold zb;refine KE (f:=λx y=>kX (f+2) (x,y)) (by omega) λi b l=>?_;rw[show kX (f+2) ((v.structs[k]).2[i],(w.structs[k]'(by omega)).2[i])=_ from d132 (f+1) _ _];unfold zc;have K:=F.sv t _ (AS.2 (.inr (By.2 ⟨_,AN b,rfl⟩)));have L:=G.sv u _ (AS.2 (.inr (By.2 ⟨_,AN l,rfl⟩)));have y1:=E.each _ (AN b);have y2:=E.ed _ (AN b);refine OH (KQ (n:=14641) ⟨y1,λs p=>by have:=y2 s p;omega⟩ (by omega)) λr a=>P3 (λh=>OH (sv K L (by omega)) λs p=>MP ?_) λh=>AQ λe=>?_;· rw[p];exact⟨λD=>Acp (a.1 h) D,λe=>by rw[e]⟩
     ·rw[a.2 (by rw[e])]at h;cases h
    ·rw[p];exact⟨λD=>Acp (a.1 h) D,λe=>by rw[e]⟩
    ·rw[a.2 (by rw[e])]at h;cases h
   ·rw[a.2 e]at h;cases h
   ·rcases Aam i k with z|z;· exact m i H z
    ·obtain rfl:i=k:=by omega
     exact a.1 (by simpa using h)
  ·have Y:v.structs=w.structs:=Adj C λi b l=>m i b b;exact P8 (MP ⟨λ_=>Ahu c q X Y,λ_=>rfl⟩)
theorem ZP{y:A9}(b:Iq d x)(c:Iq d y)(g:1000000000000+10*d+1<fu):Ok (NH fu (x,y)) λr=>r=Bp↔x=y:=by obtain⟨e,rfl⟩:∃e,fu=e+1:=⟨fu-1,by omega⟩;rw[show NH (e+1) (x,y)=_ from d136 e x y];refine OH (LL b.1 c.1 (by omega)) λr a=>P3 (λh=>OH (LL b.2 c.2 (by omega)) λs f=>MP ?_) λh=>AQ λe=>?_;all_goals grind
theorem Mr{y:A9}(c:Iq d x)(e:Iq d y)(a:1000000000000+10*d+1<fu):Ok (eT fu (x,y)) λr=>r=Bp↔x=y:=by exact OH (ZP c e a) λr b=>MP b
def v0:Vl:= .mk Aj EL [] []
def NB(v:Vl):Prop:=v.any=Bp\/v.lists≠ []\/v.structs≠ []\/v.sc≠EL
def SB(d:Nat)(v:Vl):Prop:=Bd d v/\Snd d v
def SX(d:Nat)(x:A9):Prop:=SB d x.1/\SB d x.2
theorem Ma(d:Nat):SB (d+1) v0:=by have z:=(L5 (k:=5) (m:=0)).sc (by simp);refine⟨⟨⟨z.sm,z.n1,z.n2,z.bt,by trivial⟩,⟨Abe _,?_⟩,⟨Abe _,?_⟩,?_⟩,⟨L5,?_,?_,?_⟩⟩<;>intro c h<;>cases h
theorem Er{v:Vl}(h:SB d v)(g:1000000000000<fu):Ok (Vq fu v) λr=>r=Bp↔¬NB v:=by
 cases d with
 |zero=>exact h.1.elim
 |succ d=>
  obtain⟨⟨b,⟨l,_⟩,⟨p,_⟩,_⟩,j,_⟩:=h;have m:=b.n1;have n:=b.n2;have o:=b.sh.1;have no:NB v->Ok (Ac Aj) λr=>r=Bp↔¬NB v:=λk=>MP ⟨λh=>(by grind),λh=>absurd k h⟩;refine P3 (λa=>Aao (Ob (λf=>OH (V0 (by omega) (by omega) (by omega)) λr i=>?_) λf=>no ?_)) λa=>no (.inl (by grind))
  ·have a:v.any=Aj:=by simpa using a
   have c:v.lists=[]:=OF.1 (by omega);have e:v.structs=[]:=OF.1 (by omega);have iff:v.sc=EL↔¬NB v:=by unfold NB;rw[a,c,e];simp
   refine P3 (λh=>MP ?_) λ_=>OH (I0 j (by omega) (by omega) g) λs b=>MP (b.trans iff);simp_all
  ·by_cases c:v.lists=[];· refine .inr (.inr (.inl λe=>f ?_));rw[c,e];rfl
   ·exact .inr (.inl c)
noncomputable def vw(c:Bz)(s:Aq):A9×Int:=match c.1.find? (λf=>Di (f.1=s))with
 |some f=>(f.2.2,f.2.1)
 |none=>match c.2.find? (λk=>I6 k.1 s)with
  |some k=>(k.2,3)
  |none=>((v0,v0),3)
theorem Vx{s:Aq}(h:NY c)(C:s.length<=1000)(B:1000000000000<fu):YS fu (c,s)=Ac (vw c s):=by
 have D:=h.nf;have E:=h.nc;refine(Ok.eq ?_);refine V_ (λk=> ∀i (d:i<c.1.length),i<k->Di (c.1[i].1=s)=Aj) c.1.length (λi _ h=>by omega) (by omega) (λk nx o q x=>?_) (λnx q=>?_)
 ·refine P7 (Aah o (Ob (λl=>MP ?_) λl=>x λi d v=>?_));· have e:c.1.find? (λf=>Di (f.1=s))=Ac c.1[k]:=Acn.2 ⟨decide_eq_true l,k,o,rf,λj w=>by grind⟩;grind[vw]
  grind
 ·have e:c.1.find? (λf=>Di (f.1=s))=C7:=Acu.2 λf u=>by
   obtain⟨i,d,rfl⟩:=Aat u;grind
  refine Qh (by omega) ?_;refine V_ (λk=> ∀i (d:i<c.2.length),i<k->I6 c.2[i].1 s=Aj) c.2.length (λi _ h=>by omega) (by omega) (λk nx o g x=>?_) (λnx g=>?_)
  ·have m:=AN o;have A:=h.each _ m;have y:kR fu (c.2[k].1,s)=Ac (I6 c.2[k].1 s):=(U9 (n:=14641) (h.bt _ m) ⟨A,λt z=>by have:=h.ed _ m t z;omega⟩ (by omega) (by omega) (by omega) (by omega)).eq;refine P7 (Aah o (BY y (P3 (λl=>MP ?_) λl=>x λi d v=>?_)));· have r:c.2.find? (λk=>I6 k.1 s)=Ac c.2[k]:=Acn.2 ⟨l,k,o,rfl,λj w=>by simp only[g j (by omega) w];rfl⟩;unfold vw;rw[e,r]
   grind
  ·have r:c.2.find? (λk=>I6 k.1 s)=C7:=Acu.2 λf u=>by
    obtain⟨i,d,rfl⟩:=Aat u;rw[g i d d];decide
   refine P8 (MP ?_);unfold vw;rw[e,r];rfl
theorem Vw{s:Aq}(h0:P (v0,v0))(h:∀x∈Br c,P x):P (vw c s).1:=by
 unfold vw;split;· rename_i f a;exact h _ (AS.2 (.inl (By.2 ⟨f,Aca a,rfl⟩)))
 ·split;· rename_i k b;exact h _ (AS.2 (.inr (By.2 ⟨k,Aca b,rfl⟩)))
  omega
theorem vN{s:Aq}(h:∃f∈c.1,f.1=s):∃f∈c.1,f.1=s/\vw c s=(f.2.2,f.2.1):=by grind[vw]
def X4(c:GZ)(i:Nat):A9:=match c.1[i]? with
 |some x=>x
 |none=>match c.2 with
  |x::_=>x
  | []=>(v0,v0)
theorem ia{c:GZ} :Ok (YW fu (c,(i:Int))) λr=>r.1=X4 c i:=by
 rw[YW];unfold X4;refine P7 (Ob (λh=>Aah (by omega) (MP ?_)) λh=>T3 (by omega) ?_);· grind
 ·rw[Acz (by omega)];cases hc:c.2 with
  |nil=>exact Qh (by simp) (MP rfl)
  |cons x l=>exact T3 (by simp) (BY (a:=x) rfl (MP rfl))
theorem bD{c:GZ}(h0:P (v0,v0))(h:∀x∈AY c,P x):P (X4 c i):=by
 unfold X4;split;· rename_i x a;exact h _ (AS.2 (.inl (Aai a)))
 ·split;· rename_i x l a;exact h _ (AS.2 (.inr (by rw[a];exact Aau ..)))
  omega
def KW(R:Vl->Vl->Prop)(x y:A9):Prop:=R x.1 y.1/\R x.2 y.2
structure W9(R:Vl->Vl->Prop)(c c':GZ):Prop where
 ln:c'.1.length<=c.1.length
 cl:c'.2=[]->c.1.length<=c'.1.length/\c.2=[]
 it:∀i (h:i<c.1.length),KW R c.1[i] (X4 c' i)
 rs:∀h:0<c.2.length,KW R c.2[0] (c'.2.getD 0 (v0,v0))
structure Vb(R:Vl->Vl->Prop)(c c':Bz):Prop where
 fa:∀f∈c.1,(vw c f.1).2<=(vw c' f.1).2/\KW R (vw c f.1).1 (vw c' f.1).1
 fb:∀f∈c'.1,(vw c f.1).2<=(vw c' f.1).2/\KW R (vw c f.1).1 (vw c' f.1).1
 cl:∀k∈c.2,∀k'∈c'.2,KW R k.2 k'.2\/∀w,¬(Av k.1 0 w=Bp/\Av k'.1 0 w=Bp)
def Df:Nat->Vl->Vl->Prop
 |0,_,_=>False
 |d+1,a,b=>b.any=Bp\/a.any=Aj/\Rj a.sc b.sc/\(∀c∈a.lists,∃e∈b.lists,W9 (Df d) c e)/\∀c∈a.structs,∃e∈b.structs,Vb (Df d) c e
theorem VM(hi:i<c.2.length)(w:Aq):(Gz c w).getD i 0=runT (c.2.getD i dK).1 0 w:=by
 have:∀l:Aq,(Gz c l.reverse).getD i 0=runT (c.2.getD i dK).1 0 l.reverse:=λl=>by
  induction l with
  |nil=>
   show(CJ c).getD i 0=0;grind[CJ]
  |cons x l d=>
   rw[Aev,Ga,(Hn c _ _).cl i hi];grind[XO,runT]
 have:=this w.reverse;grind
theorem oq{l:List Nat}{i j:Nat}(hi:i∈l)(a:j∈l)(h:i≠j):2<=l.length:=by
 match l with
 | []=>grind
 | [x]=>
  grind
 |x::y::l=>simp
theorem DA.Iz(h:DA c)(hi:i<c.2.length)(k:j<c.2.length)(g:i≠j)(w:Aq):¬(Av c.2[i].1 0 w=Bp/\Av c.2[j].1 0 w=Bp):=λ⟨a,b⟩=>by
 have one:=h.2 w;have e:∀ {i:Nat} (hi:i<c.2.length),Av c.2[i].1 0 w=Bp->i∈(a_ c.2.length).filter λi=>fin (c.2.getD i dK).1 ((Gz c w).getD i 0):=λhi h=>by refine Aaz.2 ⟨Abg.2 hi,?_⟩;rw[VM hi w,show c.2.getD _ dK=c.2[_]from AM hi];exact h
 grind[MY,Lv,oq]
theorem bC{c:GZ}(h:i<c.1.length):X4 c i=c.1[i]:=by grind[X4]
theorem Oh(x:Sc):Rj x x:=⟨id,id,id,λ_=>id,λ_=>id,λ_=>id⟩
theorem Df.refl:∀ {d:Nat} {a:Vl},D_ d a->Df d a a
 |0,_,h=>h.elim
 |d+1,a,⟨n,l⟩=>by
  by_cases q:a.any=Bp;· exact .inl q
  have r:∀x∈kids a,KW (Df d) x x:=λx b=>⟨Df.refl (l x b).1,Df.refl (l x b).2⟩;refine .inr ⟨by grind,Oh _,λc hc=>⟨c,hc,?_⟩,λc hc=>⟨c,hc,?_⟩⟩
  ·have t:∀x∈AY c,KW (Df d) x x:=λx b=>r x (AS.2 (.inl (Aad.2 ⟨c,hc,b⟩)));refine⟨Aac _,λh=>⟨Aac _,h⟩,λi m=>?_,λh=>?_⟩;· rw[bC m];exact t _ (AS.2 (.inl (AN m)))
   ·rw[show c.2.getD 0 (GL.v0,GL.v0)=c.2[0]from AM h];exact t _ (AS.2 (.inr (AN h)))
  ·have u:∀x∈Br c,KW (Df d) x x:=λx b=>r x (AS.2 (.inr (Aad.2 ⟨c,hc,b⟩)));have v:∀f∈c.1,(vw c f.1).2<=(vw c f.1).2/\KW (Df d) (vw c f.1).1 (vw c f.1).1:=λf y=>⟨Abn _,by
    obtain⟨g,n,_,e⟩:=vN (c:=c) (s:=f.1) ⟨f,y,rfl⟩;rw[e];exact u _ (AS.2 (.inl (By.2 ⟨g,n,rfl⟩)))⟩;refine⟨v,v,λk l A o=>?_⟩;obtain⟨i,m,rfl⟩:=Aat l;obtain⟨j,z,rfl⟩:=Aat o;by_cases e:i=j;· subst e;exact .inl (u _ (AS.2 (.inr (By.2 ⟨_,l,rfl⟩))))
   ·exact .inr ((n.st c hc).2.Iz m z e)
end
end Go.GL
