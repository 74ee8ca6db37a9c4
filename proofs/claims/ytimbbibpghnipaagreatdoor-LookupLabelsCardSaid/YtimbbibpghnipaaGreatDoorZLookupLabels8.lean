/- Part 8 of the texts of this claim: what its theorem leans on. -/
import Derived.Test.YtimbbibpghnipaaGreatDoorZLookupLabels7
set_option linter.all false
open Option renaming some→Ac,none→C7
open Bool renaming false→Aj,true→Bp
open Go renaming Value→BZ,Operand→DQ,TypeId→Gq,Program→GN,World→IU,execOp→Kt,Oper→K7,IntKind→Lo
open Decidable renaming decide→Dl
open List renaming length→FD,replicate→T8,range→aT,take_succ_eq_append_getElem→cu,set→lj,take_append_drop→sn,getElem_mem→Als
open Int renaming toNat→ao
open Go.Op renaming bytesLess→gh
open Option renaming getD→pT
open Nat renaming strongRecOn→rJ
namespace Go.GL
open Go Go.GV Go.GK Go.Proofs
section
variable{l:Tb}{n fu:Nat}{cs a b:List Int}{c:Nat->Int}{i:Nat}{es:List Cm}{s:Nat}{x:Int}{f g:Nat->Bool}{m:Nat}{kn:List Lg}{q:Int}{L:Lg}{w:List UInt8}{d:List Int}{α:Type}{t:Nat}
def AD:Nat->(Nat->Bool)->Nat
 |0,_=>0
 |n+1,f=>AD n f+(if f n then 0 else 1)
theorem Na{f g:Nat->Bool} :∀ {n:Nat},(∀j,j<n->f j=Bp->g j=Bp)->AD n g<=AD n f
 |0,_=>Aae _
 |n+1,h=>by have:=Na (n:=n) λj d=>h j (by omega);grind[AD]
theorem Qz{f g:Nat->Bool} :∀ {n:Nat},(∀j,j<n->f j=Bp->g j=Bp)->(∃j,j<n/\f j=Aj/\g j=Bp)->AD n g<AD n f
 |0,_,⟨j,a,_⟩=>by omega
 |n+1,h,⟨j,a,c,d⟩=>by
  have l:=Na (n:=n) (f:=f) (g:=g) λj a=>h j (by omega);simp only[AD];by_cases b:j=n;· grind
  ·have:=Qz (n:=n) (f:=f) (g:=g) (λj a=>h j (by omega)) ⟨j,by omega,c,d⟩;grind
theorem Qy:∀(n:Nat) (f:Nat->Bool),AD n f<=n
 |0,_=>Aae _
 |n+1,f=>by have:=Qy n f;grind[AD]
theorem Jv(h:L w=Bp):live L=Bp:=Ho.2 ⟨w,h⟩
theorem RY{b:Nat}(h:live (Iz L b)=Bp):live L=Bp:=by obtain⟨w,a⟩:=Ho.1 h;exact Jv (w:=UInt8.ofNat b::w) a
def sE(l:Tb)(c:Nat->Int)(f:Nat->Bool):Prop:= ∀s,s<Cl l->f (c s).toNat=live (Av l (s:Nat))
theorem ClsB.nat(h:ClsB l c)(a:s<Cl l):(c s).toNat<Cl l/\(((c s).toNat:Nat):Int)=c s:=by have:=h.rg s a;grind[Cl]
theorem gK(P:Bf l)(hc:Br cs)(hf:DN cs l)(hk:W1 l c)(hl:l.length<=n)(hn:n<4294967296)(hfu:n+2<fu)(hfu':256<fu):
  Ok (F46 fu (FK l cs (Bh (Cl l) c))) (λr=> ∃f,r=Bh (Cl l) f/\sE l c f):=by
 have hN:Cl l=l.length+1:=rfl;rw[F46];unfold FK;rw[Az];refine PH (by grind) ?_;rw[DA];let Sd:(Nat->Bool)->Prop:=λf=> ∀j,j<Cl l->f j=Bp->∀s,s<Cl l->(c s).toNat=j->live (Av l (s:Nat))=Bp;refine Xp (X:=List Bool×Bool) (λx=> ∃f,x.1=Bh (Cl l) f/\Sd f/\(x.2=Aj->sE l c f)) (λx=>(if x.2 then 1 else 0)+AD (Cl l) (λj=>x.1.getD j Aj)) ⟨_,rfl,λj _ h=>(by grind),λh=>(by grind)⟩ ?_ λx nx hI _ W=>?_;· grind[Cl,Bh,Qy]
 obtain⟨o,again⟩:=x;obtain⟨f,ho,hS,hL⟩:=hI;subst ho
 have R:∀g:Nat->Bool,∀j,j<Cl l->(Bh (Cl l) g).getD j Aj=g j:=λg j e=>by rw[Aaa,Je e];rfl
 have Q:∀g:Nat->Bool,AD (Cl l) (λj=>(Bh (Cl l) g).getD j Aj)=AD (Cl l) g:=λg=>
  Alc (Na λj e h=>by grind) (Na λj e h=>by grind);refine P0 (λh=>?_) λh=>MN ⟨f,rfl,hL h⟩;subst h;have d:=λs m=>hk.toClsB.nat (s:=s) m;refine XN (λk o H=> ∃g,o=Bh (Cl l) g/\Sd g/\(∀j,j<Cl l->f j=Bp->g j=Bp)/\
   (H=Aj->(∀j,j<Cl l->g j=f j)/\∀s,s<k->(U2 l s=Bp\/∃i,i<cs.length/\f (c (GZ l cs s i).toNat).toNat=Bp)->f (c s).toNat=Bp)/\
   (H=Bp->∃j,j<Cl l/\f j=Aj/\g j=Bp)) (Cl l) ⟨f,rfl,hS,λ_ _ h=>h,λ_=>⟨λ_ _=>rfl,λs m=>by omega⟩,λh=>(by grind)⟩ (by omega) (λk o H Z B hJ G=>?_) (λo H Z hJ=>?_)
 ·obtain⟨
      g,rfl,v,p,z,M⟩:=hJ;try dsimp only
  refine TT (by omega) (BY (AW B) (BY (AW B) ?_));refine Sw (λi b=>b=Bp↔U2 l k=Bp\/∃j,j<i/\g (c (GZ l cs k j).toNat).toNat=Bp) cs.length (by simp) (by have:=hc.le;omega) (λi b nx2 N t U=>?_) (λb nx2 t=>?_)
  ·have Y:=Gb P cs k i;have hq:(GZ l cs k i).toNat<Cl l:=by omega
   have hcq:=d _ hq
   refine TT (by unfold ah;rw[Az];omega) (BY (by exact AW N) (P0 (λh=>U _ ?_) λh=>?_))
   ·subst h;simp only[true_iff]at t⊢;rcases t with t|⟨j,e,t⟩;· grind
    ·exact .inr ⟨j,by omega,t⟩
   ·refine BY (a:=c (GZ l cs k i).toNat) (by rw[show GZ l cs k i=(((GZ l cs k i).toNat:Nat):Int) by omega];exact AW (by omega)) (BY (a:=g (c (GZ l cs k i).toNat).toNat) (by rw[<-hcq.2];exact AW (by omega)) (U _ ?_));subst h;simp only[Adx,false_iff]at t;constructor;· exact λh=> .inr ⟨i,by omega,h⟩
    ·rintro(h|⟨j,e,h⟩);· grind
     ·rcases Aan j i with I|I;· exact absurd (.inr ⟨j,I,h⟩) t
      ·obtain rfl:j=i:=by omega
       exact h
  ·have y:=d k B;have e1:idx (Bh (Cl l) c) (k:Int)=Ac (c k):=AW B;have e2:idx (Bh (Cl l) g) (c k)=Ac (g (c k).toNat):=by rw[<-y.2];exact AW y.1
   have A:∀(V:¬(b=Bp/\g (c k).toNat=Aj)),Ok (Z (Bh (Cl l) g,H,k+1)) λr=> ∃f,r=Bh (Cl l) f/\sE l c f:=λV=>by
    refine G _ _ ⟨g,rfl,v,p,λh=>⟨(z h).1,λs m q=>?_⟩,M⟩;rcases Aan s k with I|I;· exact(z h).2 s I q
    ·obtain rfl:s=k:=by omega
     have S:=(z h).1;rw[<-S _ y.1];have hbt:b=Bp:=t.2 (by
      rcases q with q|⟨i,N,q⟩;· exact .inl q
      ·refine .inr ⟨i,N,?_⟩;have Y:=Gb P cs s i;rw[S _ (d _ (by omega)).1];exact q);cases E:g (c s).toNat;· exact absurd ⟨hbt,E⟩ V
     ·rfl
   refine Qd (by unfold ah;rw[Az];omega) (P0 (λh=>BY e1 (BY e2 (P0 (λJ=>BY e1 (BY e2 ?_)) λJ=>A ?_))) λh=>A ?_)
   ·have E:g (c k).toNat=Aj:=by cases hh:g (c k).toNat<;>simp[hh]at J⊢
    have O:live (Av l (k:Nat))=Bp:=by
     rcases t.1 h with K|⟨j,e,K⟩;· exact Jv (w:=[]) (by exact K)
     ·have Y:=Gb P cs k j;have:=v _ (d _ (by omega)).1 K _ (by omega:(GZ l cs k j).toNat<Cl l) rfl;rw[Abe Y.1,Ox P hc k e]at this;exact RY this
    rw[A'];refine G _ _ ⟨_,rfl,λj e T s m D=>?_,λj e hfj=>?_,λh=>(by cases h),λ_=>⟨(c k).toNat,y.1,?_,by simp⟩⟩
    ·by_cases F:j=(c k).toNat
     ·have hcc:c s=c k:=by have:=(d s m).2;omega
      rw[(hk.iff s k m B).1 hcc];exact O
     ·simp only[F,if_false]at T;exact v j e T s m D
    ·by_cases F:j=(c k).toNat;· simp[F]
     ·simp only[F,if_false];exact p j e hfj
    ·cases hfk:f (c k).toNat;· rfl
     ·have:=p _ y.1 hfk;rw[this]at E;cases E
   ·rintro⟨_,K⟩;rw[K]at J;cases J
   ·rintro⟨K,_⟩;rw[K]at h;cases h
 ·obtain⟨g,rfl,v,p,z,M⟩:=hJ;try dsimp only
  refine Qd (by(try rw[Az])<;>omega) (W (_,H) ⟨g,rf,v,λh=>?_⟩ ?_)
  ·obtain⟨I,J⟩:=z h;have hcl:∀(w:List UInt8) (s:Nat),s<Cl l->Av l (s:Nat) w=Bp->f (c s).toNat=Bp:=by
    intro w;induction w with
    |nil=>intro s m C;exact J s m (.inl (by exact C))
    |cons b w ih=>
     intro s m C;obtain⟨i,N,g1,g2⟩:=hc.find b.toNat b.toNat_lt;have Y:=Gb P cs s i;refine J s m (.inr ⟨i,N,ih _ (by omega) ?_⟩);rw[Abe Y.1,Ox P hc s N,<-Jy P hc hf s N b.toNat_lt g1 g2];simpa [Iz]using C
   intro s m;have D:=d s m;rw[I _ D.1];cases L:f (c s).toNat
   ·cases O:live (Av l (s:Nat));· rfl
    ·obtain⟨w,C⟩:=Ho.1 O;rw[hcl w s m C]at L;cases L
   ·exact(hS _ D.1 L s m rf).symm
  ·rw[Q,Q];cases H with
   |true=>
    have:=Qz (n:=Cl l) (f:=f) (g:=g) (λj e=>p j e) (M rfl);simp only[if_true];omega
   |false=>
    have:=Na (n:=Cl l) (f:=f) (g:=g) (λj e=>p j e);simp only[if_true,Adx,if_false];omega
theorem b9(hc:Br cs)(hi:i<cs.length):Ok (Yu fu ((FK l cs b),(i:Int))) (λr=>r=G0 cs i):=by
 rw[Yu];unfold FK;dsimp only;have c:=hc.le;refine PH (by omega) (N_ (λh=>PH (by omega) ?_) λh=>MN (by grind[Ht]));have a:i+1<cs.length:=by omega
 have d:=hc.hi hi;have e:=hc.rg _ (AN hi);rw[E0 a]at d;rw[show((i:Int)+1)=((i+1:Nat):Int) by omega];refine Aah a (PH (by omega) (PH (by omega) (MN (by rw[E0 a]))))
def pos(cs:List Int)(i:Nat):Nat:=if h:i<cs.length then cs[i].toNat else 256
theorem RE(h:Br cs):pos cs 0=0:=by unfold pos;rw[dif_pos h.pos,h.wK];rfl
theorem pos_at{cs:List Int}(h:Br cs){i:Nat}(hi:i<cs.length):((pos cs i:Nat):Int)=cs[i]:=by unfold pos;rw[dif_pos hi];have:=h.rg _ (AN hi);omega
theorem VJ:pos cs cs.length=256:=by simp[pos]
theorem RF(h:Br cs)(hi:i<cs.length):((pos cs (i+1):Nat):Int)=G0 cs i+1:=by
 by_cases a:i+1<cs.length;· grind[pos_at,E0]
 simp_all[pos,Ht,dif_neg]
theorem PM(h:Br cs)(i:Nat):pos cs i<=256:=by
 unfold pos;split;· rename_i a;have:=h.rg _ (AN a);omega
 omega
theorem RA{lo hi n:Int}(h:0<es.length):push es lo hi n=if(es[es.length-1]'(by omega)).2.2=n/\(es[es.length-1]'(by omega)).2.1+1=lo then es.set (es.length-1) ((es[es.length-1]'(by omega)).1,hi,n)else es++[(lo,hi,n)]:=by
 rcases Fj es with rfl|⟨a,y,rfl⟩;· grind
 simp_all[F_]
theorem RB(es:List Cm)(lo hi n:Int):(push es lo hi n).length<=es.length+1:=by rcases Fj es with rfl|⟨b,y,rfl⟩;all_goals grind[Jo,F_]
noncomputable def gW(fu:Nat)(T:List Int×List (List Int)×List Bool×List Int)(es:List Cm)(i:Nat)(nx:(List (Int×Int)×List Int×List Cm×Nat)->Option (Tb×List Int×List (List Int)×List Bool×List Int))(x:Int)(b:List Int)(m:List (Int×Int)):Option (Tb×List Int×List (List Int)×List Bool×List Int):=
 Ab (idx T.1 (i:Int)) λa=>
 Aa (Lo.u8) (a)<|
 Ab (Yu fu (T,(i:Int))) λc=>
 Aa (Lo.i64) (x)<|
 Ag (FD es+1<=Ah)<|
 nx (m,b,es++[(a,c,pT (AB m x) (0:Int))],i+1)
noncomputable def j11(fu:Nat)(T:List Int×List (List Int)×List Bool×List Int)(es:List Cm)(i:Nat)(nx:(List (Int×Int)×List Int×List Cm×Nat)->Option (Tb×List Int×List (List Int)×List Bool×List Int))(x:Int)(a:List Int)(m:List (Int×Int)):Option (Tb×List Int×List (List Int)×List Bool×List Int):=
 bif Dl ((0:Int)<(↑(FD es):Int))then
  Aa (Lo.i64) ((↑(FD es):Int)-(1:Int))<|
  Ab (idx es ((↑(FD es):Int)-(1:Int))) λd=>
  Aa (Lo.i64) (x)<|
  bif Dl (d.2.2=pT (AB m x) (0:Int))then
   Aa (Lo.i64) ((↑(FD es):Int)-(1:Int))<|
   Ab (idx es ((↑(FD es):Int)-(1:Int))) λb=>
   Aa (Lo.i64) (b.2.1+(1:Int))<|
   Ab (idx T.1 (i:Int)) λe=>
   bif Dl (b.2.1+(1:Int)=e)then
    Aa (Lo.i64) ((↑(FD es):Int)-(1:Int))<|
    Ab (Yu fu (T,(i:Int))) λf=>
    Ab (idx es ((↑(FD es):Int)-(1:Int))) λc=>
    nx (m,a,es.set (ao ((↑(FD es):Int)-(1:Int))) (c.1,f,c.2.2),i+1)
   else gW fu T es i nx x a m
  else gW fu T es i nx x a m
 else gW fu T es i nx x a m
theorem bg{k:List Int}{q:Nat}{e:List Int}{m:List (Int×Int)}{nx:(List (Int×Int)×List Int×List Cm×Nat)->Option (Tb×List Int×List (List Int)×List Bool×List Int)}{P:Tb×List Int×List (List Int)×List Bool×List Int->Prop}
  (hc:Br cs) (hi:i<cs.length) (y:BR es (pos cs i) q) (B:es.length<=256) (u:GK.DW x) {n:Int} (C:AB m x=Ac n)
  (h:Ok (nx (m,e,push es cs[i] (G0 cs i) n,i+1)) P):
  Ok (j11 fu (FK l cs k) es i nx x e m) P:=by
 have z:=hc.rg _ (AN hi);have t:(AB m x).getD 0=n:=by grind
 have b:push es cs[i] (G0 cs i) n=es++[(cs[i],G0 cs i,n)]->Ok (gW fu (FK l cs k) es i nx x e m) P:=λA=>by refine Aah (l:=cs) hi (PH (p:=GK.F8 cs[i]) (by omega) (OC (b9 hc hi) λa r=>?_));refine PH (p:=GK.DW x) u (PH (by grind) ?_);grind
 unfold j11;simp only[show(FK l cs k).1=cs from rfl];refine N_ (λw=>?_) λw=>b ?_
 ·have f:0<es.length:=by omega
  have v:((es.length:Int)-1)=((es.length-1:Nat):Int):=by omega
  have c:es.length-1<es.length:=by omega
  have F:=y.rg _ (AN c);have D:=PM hc i;have d:=RA (lo:=cs[i]) (hi:=G0 cs i) (n:=n) f;rw[t,v];refine Aap (Aah c (PH (p:=GK.DW x) u (N_ (λg=>Aap (Aah c (Aap (Aah hi (N_ (λo=>?_) λo=>?_))))) λg=>?_)));· refine Aap (OC (b9 hc hi) λa r=>?_);simp_all[Aah,if_pos]
  all_goals grind
 ·obtain rfl:es=[]:=OF.1 (by omega);rfl
theorem XJ(l:Tb):live (Av l (l.length:Nat))=Aj:=by have:=aG l (-1) (by omega);rw[show sk l.length (-1)=((l.length:Nat):Int)from rfl]at this;grind[Hn]
structure KO(l:Tb)(c:Nat->Int)(kn:List Lg)(ord:List Int)(m:List (Int×Int)):Prop extends KnOk (qe l) kn where
 len:ord.length=kn.length
 ord:∀(i:Nat) (q:Int),ord[i]?=Ac q->(0<=q/\q<l.length)/\kn[i]?=Ac (Av l q)
 wi:m.length=kn.length
 map:∀s,s<Cl l->(Av l (s:Nat)∈kn->AB m (c s)=Ac ((Ip kn (Av l (s:Nat)):Nat):Int))/\(Av l (s:Nat)∉kn->AB m (c s)=C7)
theorem KO.nil(l:Tb)(c:Nat->Int):KO l c [] [] []:=⟨⟨.nil,by simp,by simp⟩,rfl,by simp,rfl,λs a=>⟨by simp,λ_=>rfl⟩⟩
theorem KO.put{m:List (Int×Int)}(B:Bf l)(w:W1 l c)(h:KO l c kn a m)(A:s<l.length)(r:Av l (s:Nat)∉kn)(y:live (Av l (s:Nat))=Bp):
  KO l c (IY kn (Av l (s:Nat))) (a++[(s:Int)]) (Bw m (c s) (a.length:Int)):=by
 have z:Cl l=l.length+1:=rfl;have f:s<Cl l:=by omega
 have x:=h.toKnOk.IY (D:=Av l (s:Nat)) (Jx (by omega) (by omega)) y;have e:IY kn (Av l (s:Nat))=kn++[Av l (s:Nat)]:=by simp_all[IY,if_pos,GD]
 refine⟨x,?_,?_,?_,?_⟩;· rw[e];simp[h.len]
 ·intro i q g;rw[e];by_cases v:i<a.length;· rw[Pe v]at g;have:=h.ord i q g;grind
  ·have p:i=a.length:=by
    grind
   subst p;simp at g;subst g;exact⟨⟨by omega,by omega⟩,by rw[h.len];simp⟩
 ·rw[Kz,(h.map s f).2 r,e,h.wi];simp
 ·intro t k;rw[e,Ia];by_cases b:c t=c s;· have n:=(w.iff t s k f).1 b;rw[if_pos b,n,h.len];grind[absurd,Av,JD,GD]
  ·have n:Av l (t:Nat)≠Av l (s:Nat):=λo=>b ((w.iff t s k f).2 o);rw[if_neg b];refine⟨λd=>?_,λd=>(h.map t k).2 λo=>d (by simp[o])⟩;have j:Av l (t:Nat)∈kn:=by
    rcases AS.1 d with d|d;· exact d
    ·simp at d;exact absurd d n
   rw[MS j];exact(h.map t k).1 j
theorem QE(L:Bf l)(h0:0<l.length)(hc:Br cs)(hf:DN cs l)(Q:W1 l c)(hl:l.length<=n)(hn:n<4294967296)(hfu:n+2<fu)(Z:256<fu):
  Ok (F48 fu (FK l cs (Bh (Cl l) c))) (λr=>r.1=BW l):=by
 have hN:Cl l=l.length+1:=rfl;have hcl:=hc.le;rw[F48];refine OC (gK L hc hf Q hl hn hfu Z) λlv H=>?_;obtain⟨f,rfl,Y⟩:=H;have I:=λs hs=>Q.toClsB.nat (s:=s) hs;have e0:idx (FK l cs (Bh (Cl l) c)).2.2.2 0=Ac (c 0):=by grind[FK,AW]
 refine BY e0 (BY (a:=f (c 0).toNat) (by grind[AW]) ?_);rw[Y 0 (by omega)];have O:Av l ((0:Nat):Int)=Av l 0:=rfl;refine P0 (λh=>MN ?_) λh=>?_
 ·grind[live,Av,BW,Et]
 have H:live (Av l 0)=Bp:=by grind
 have hcr:=Q.rg 0 (by omega);refine BY e0 (Aap (PH (by simp) ?_));have S:=(KO.nil l c).put L Q (s:=0) h0 (by simp) H;refine Xp (X:=List (Int×Int)×List Int×Tb×Nat) (λx=> ∃u F,KO l c u x.2.1 x.1/\x.2.2.2=x.2.2.1.length/\x.2.2.1.length<=u.length/\l.length<F+x.2.2.1.length/\DJ F u x.2.2.1=BW l) (λx=>l.length+1-x.2.2.2)
  ⟨[Av l 0],l.length+1,S,rfl,by simp,by simp,by unfold BW Et;rw[if_pos H]⟩ (by omega) λx nx hI _ hnx=>?_;obtain⟨m,P,out,k⟩:=x;obtain⟨u,F,v,hkl,hol,hF,M⟩:=hI;dsimp only at v hkl hol hF M;subst hkl;have hkn:u.length<=l.length:=by have:=v.toKnOk.le;rw[Fk]at this;exact this
 have hlen:=v.len;try dsimp only
 refine N_ (λhlt=>?_) λhlt=>MN ?_
 ·have hko:out.length<P.length:=by omega
  obtain⟨⟨hq0,hq1⟩,hK⟩:=v.ord out.length _ (GB hko);generalize hqe:P[out.length]=q at hq0 hq1 hK;obtain⟨t,rfl⟩:∃t:Nat,q=t:=⟨q.toNat,by omega⟩;have hqN:t<Cl l:=by omega
  have e1:idx P (out.length:Int)=Ac (t:Int):=by rw[Bk hko,hqe]
  obtain⟨F,rfl⟩:∃F',F=F'+1:=⟨F-1,by omega⟩;have T:=Aai hK;refine BY e1 (BY (by exact AW hqN) (BY e1 (BY (by exact AW hqN) ?_)));have hrow:=λi G=>ES (H7 L) (v.sub _ T) v.toKnOk (pos cs i) G;refine aa (λi m' o es=>o.length=(AM (Av l (t:Nat)) u (pos cs i)).1.length/\es=(AM (Av l (t:Nat)) u (pos cs i)).2/\es.length<=i/\KO l c (AM (Av l (t:Nat)) u (pos cs i)).1 o m') cs.length
   (by rw[RE hc];exact⟨hlen,rfl,by simp,v⟩) (by omega) (λi m' o es nx' G hJ C=>?_) (λm' o es nx' hJ=>?_)
  ·obtain⟨A,rfl,W,d⟩:=hJ;have hpl:=PM hc i;obtain⟨g1,g2,g3⟩:=hrow i hpl;have hr:=Gb L cs t i;obtain⟨g,htn⟩:∃g:Nat,GZ l cs t i=g:=⟨(GZ l cs t i).toNat,by omega⟩;have y:g<Cl l:=by omega
   have V:=I g y;have hpa:=pos_at hc G;have hps:=RF hc G;have hhi:=hc.hi G;have hD:∀b,pos cs i<=b->b<=(G0 cs i).toNat->Iz (Av l (t:Nat)) b=Av l (g:Nat):=λb b1 b2=>by rw[Jy L hc hf t G (by omega) (by omega) (by omega),<-Ox L hc t G,htn]
   have E:AM (Av l (t:Nat)) u (pos cs (i+1))=Db (AM (Av l (t:Nat)) u (pos cs i)) (Av l (g:Nat)) (pos cs i) (G0 cs i).toNat:=by rw[show pos cs (i+1)=(G0 cs i).toNat+1 by omega];exact HZ _ _ _ _ _ (by omega) hD
   try dsimp only
   refine TT (by unfold ah;rw[Az];omega) (BY (a:=(g:Int)) (by rw[<-htn];exact AW G) (BY (a:=c g) (by exact AW y) (BY (a:=f (c g).toNat) (by rw[<-V.2];exact AW V.1) ?_)));rw[Y g y];refine P0 (λz=>C _ _ _ ?_) λj=>?_
   ·have z:live (Av l (g:Nat))=Aj:=by cases N:live (Av l (g:Nat))<;>simp[N]at z⊢
    have e:AM (Av l (t:Nat)) u (pos cs (i+1))=AM (Av l (t:Nat)) u (pos cs i):=by rw[E];unfold Db;rw[z];rfl
    rw[e];exact⟨A,rfl,by omega,d⟩
   ·have j:live (Av l (g:Nat))=Bp:=by cases N:live (Av l (g:Nat))<;>simp[N]at j⊢
    have htl:g<l.length:=by
     rcases Aan g l.length with h1|h1;· exact h1
     ·obtain rfl:g=l.length:=by omega
      rw[XJ]at j;cases j
    have hst:AM (Av l (t:Nat)) u (pos cs (i+1))=(IY (AM (Av l (t:Nat)) u (pos cs i)).1 (Av l (g:Nat)),push (AM (Av l (t:Nat)) u (pos cs i)).2 cs[i] (G0 cs i) (Ip (AM (Av l (t:Nat)) u (pos cs i)).1 (Av l (g:Nat)):Nat)):=by rw[E];unfold Db;rw[if_pos j,hpa,Abe (by omega)]
    have B:GK.DW (c g):=by unfold GK.DW;omega
    have hkl':=g2.le;rw[Fk]at hkl';have hpush:=RB (AM (Av l (t:Nat)) u (pos cs i)).2 cs[i] (G0 cs i) (Ip (AM (Av l (t:Nat)) u (pos cs i)).1 (Av l (g:Nat)):Nat);refine PH (p:=GK.DW (c g)) B (P0 (λJ=>?_) λK=>?_)
    ·have hnm:Av l (g:Nat)∉(AM (Av l (t:Nat)) u (pos cs i)).1:=λR=>by
      rw[(d.map g y).1 R]at J;simp at J
     have D:=d.put L Q htl hnm j;have hix:=GD hnm;have hmem:=LM (AM (Av l (t:Nat)) u (pos cs i)).1 (Av l (g:Nat));refine PH (p:=GK.DW (c g)) B (PH (by rw[d.wi];omega) (PH (by unfold Ah;omega) ?_));refine bg hc G g3.1 (by omega) B (((D.map g y).1 hmem).trans (by rw[JD])) (C _ _ _ ?_);rw[hst];exact⟨by rw[D.len],rfl,by omega,D⟩
    ·have R:Av l (g:Nat)∈(AM (Av l (t:Nat)) u (pos cs i)).1:=IS λR=>by
      rw[(d.map g y).2 R]at K;simp at K
     refine bg hc G g3.1 (by omega) B ((d.map g y).1 R) (C _ _ _ ?_);rw[hst,GC R];exact⟨A,rf,by omega,d⟩
  ·obtain⟨A,rfl,W,d⟩:=hJ;rw[VJ]at A d⊢;obtain⟨g1,g2,g3⟩:=ES (H7 L) (v.sub _ T) v.toKnOk 256 (Aae _);have:=g1.len;try dsimp only
   refine Qd (by unfold ah;rw[Az];omega) (PH (by(try simp)<;>(unfold Ah;omega)) (hnx _ ⟨(AM (Av l (t:Nat)) u 256).1,F,d,by simp,by simp;omega,by simp;omega,?_⟩ ?_))
   ·rw[<-M];dsimp only;conv=>rhs;unfold DJ
    rw[hK];dsimp only;rw[P1]
   ·dsimp only;omega
 ·have hno:u[out.length]?=C7:=Aco (by omega);rw[<-M];cases F with
  |zero=>rfl
  |succ F=>unfold DJ;rw[hno]
theorem MI(k:N3 l)(i:DT l n)(g:n<4294967296)(f:n+2<fu)(a:256<fu):
  Ok (nY fu l) (λr=>(Bf l->r=(BW l,0))/\(¬Bf l->r=([],11))):=by
 rw[nY];refine OC (Ea k i (by omega) g) λx e=>P0 (λh=>MN ?_) λh=>?_
 ·grind
 ·have d:Bf l:=e.1 (by grind);refine N_ (λh=>MN ⟨λ_=>?_,λb=>absurd d b⟩) λh=>?_;· obtain rfl:l=[]:=OF.1 (by omega);grind[live,Av,BW,Et,CY,Ed]
  ·refine OC (SQ d i g (by omega) a) λx e=>?_;obtain⟨o,hc,j,rfl⟩:=e;refine OC (Xs d (by omega) hc j i.1 g f a) λx e=>?_;obtain⟨c,m,rfl⟩:=e;refine OC (QE d (by omega) hc j m i.1 g f a) λx e=>MN ⟨λ_=>?_,λb=>absurd d b⟩;rw[e]
theorem L8(f:N3 l)(d:DT l n)(g:n<4294967296)(c:n+2<fu)(a:256<fu):
  Ok (vk fu l) (λr=>r=Bp↔Bf l/\BW l=l):=by
 rw[vk];refine OC (MI f d g c a) λx e=>?_;by_cases b:Bf l;· rw[e.1 b];refine TT rfl (OC (KN d (by omega)) λr i=>MN ?_);grind
 simp_all[absurd,Qd,MN]
theorem Bf.by(h:Bf l):N3 l:=λs b e a=>by have:=(h s b).rg e a;omega
theorem BR.len(h:BR es m n):es.length<=m:=by
 have f:(es.map λe=>e.1.toNat).Nodup:=by refine Adr.2 ?_;refine Age (λ{a b} g j i=>?_) h.so;have:=h.rg a g;omega
 have:=Ch (b:=aT m) f (λx k=>by obtain⟨c,hc,rfl⟩:=By.1 k;have:=h.rg c hc;grind);grind
theorem Bf.sh(h:Bf l)(a:l.length<=n)(b:256<=n):DT l n:=⟨a,λs c=>by have:=(h s c).len;omega⟩
theorem Gy(K:Lg)(kn:List Lg)(lo:Nat):∀n,(∀b,lo<=b->b<lo+n->live (Iz K b)=Aj)->AM K kn (lo+n)=AM K kn lo
 |0,_=>rfl
 |n+1,h=>by rw[<-Ado,Mu,Gy K kn lo n λb a c=>h b a (by omega)];grind[Db]
theorem Mt(K:Lg)(kn:List Lg):AM K kn 0=(kn,[]):=rfl
theorem Xo(K D:Lg)(kn:List Lg)(lo hi:Nat)(h1:lo<=hi)(h2:hi<256)(d:∀b,b<256->b<lo\/hi<b->live (Iz K b)=Aj)(f:∀b,lo<=b->b<=hi->Iz K b=D)(g:live D=Bp):
  AM K kn 256=(IY kn D,[((lo:Int),(hi:Int),((Ip kn D:Nat):Int))]):=by
 have a:AM K kn (0+lo)=AM K kn 0:=Gy K kn 0 lo λb _ h=>d b (by omega) (.inl (by omega));have e:AM K kn (hi+1)=Db (AM K kn lo) D lo hi:=HZ K kn D lo hi h1 f;have c:AM K kn (hi+1+(255-hi))=AM K kn (hi+1):=Gy K kn (hi+1) (255-hi) λb i j=>d b (by omega) (.inr (by omega));rw[show hi+1+(255-hi)=256 by omega]at c;rw[Abl,Mt]at a;rw[c,e,a];unfold Db;rw[if_pos g];rfl
theorem T4(K:Lg)(kn:List Lg)(a:∀b,b<256->live (Iz K b)=Aj):AM K kn 256=(kn,[]):=by have:=Gy K kn 0 256 λb _ h=>a b (by omega);trivial
def single(w:List UInt8):Lg:=λv=>Dl (v=w)
theorem K4(w:List UInt8):live (single w)=Bp:=Jv (w:=w) (by simp[single])
theorem TZ{v:List UInt8}(h:single v=single w):v=w:=by have:=congrFun h v;grind[single]
theorem ofNat_eq{b:Nat}(a:b<256)(c:UInt8):UInt8.ofNat b=c↔b=c.toNat:=by
 constructor;· rintro rfl;simp;omega
 simp_all
theorem IK{b:Nat}(a:b<256)(c:UInt8)(w:List UInt8):Iz (single (c::w)) b=if b=c.toNat then single w else λ_=>Aj:=by grind[Iz,single,List.cons.injEq,ofNat_eq]
theorem Mn(b:Nat):Iz (single []) b=λ_=>Aj:=by rfl
theorem H6:live (λ_=>Aj)=Aj:=CY.2 λ_=>rfl
def Ur(s:List UInt8)(k:Nat):List Lg:=Bh k λj=>single (s.drop j)
theorem Vm(s:List UInt8):∀(d k fu:Nat),k+d=s.length->d+1<=fu->DJ fu (Ur s (k+1)) (CI s k)=Bv s
 |0,k,fu+1,t,_=>by
  obtain rfl:k=s.length:=by omega
  have j:(CI s s.length).length=s.length:=by simp[CI]
  have g:(Ur s (s.length+1))[(CI s s.length).length]?=Ac (single []):=by grind[Ur,Je]
  unfold DJ;rw[g];dsimp only;rw[T4 _ _ λb q=>by grind[Mn,H6]];have e:CI s s.length++[(single [] [],[])]=Bv s:=by simp[CI,Bv,single]
  rw[e];cases fu with
  |zero=>rfl
  |succ fu=>
   grind[DJ,Ur,Bv,List.getElem?_eq_none,Az]
 |d+1,k,fu+1,t,x=>by
  have l:k<s.length:=by omega
  have j:(CI s k).length=k:=by simp[CI];omega
  have g:(Ur s (k+1))[(CI s k).length]?=Ac (single (s.drop k)):=by rw[j];unfold Ur;rw[Je (by omega)]
  have c:s.drop k=s[k]::s.drop (k+1):=Aaq l;have m:single (s.drop (k+1))∉Ur s (k+1):=λu=>by obtain⟨i,y,r⟩:=EG.1 u;have:=congrArg FD (TZ r);simp at this;omega
  have n:=Xo (single (s.drop k)) (single (s.drop (k+1))) (Ur s (k+1)) s[k].toNat s[k].toNat (Aae _) s[k].toNat_lt
   (λb q h=>by rw[c,IK q,if_neg (by omega)];exact H6)
   (λb v w=>by have:=s[k].toNat_lt;rw[c,IK (by omega),if_pos (by omega)]) (K4 _);have o:Ip (Ur s (k+1)) (single (s.drop (k+1)))=k+1:=by rw[GD m];unfold Ur;rw[Az]
  have p:IY (Ur s (k+1)) (single (s.drop (k+1)))=Ur s (k+2):=by unfold IY;rw[if_pos (GD m)];unfold Ur;rw[Df (k+1)]
  unfold DJ;rw[g];dsimp only;rw[n,p,o];have e:CI s k++[(single (s.drop k) [],[((s[k].toNat:Int),(s[k].toNat:Int),((k+1:Nat):Int))])]=CI s (k+1):=by rw[KY l,c];simp[single,KZ,l]
  rw[e];exact Vm s d (k+1) fu (by omega) (by omega)
theorem Zg(s:List UInt8){fu:Nat}(a:s.length+1<=fu):Et fu (single s)=Bv s:=by unfold Et;rw[if_pos (K4 s)];have:=Vm s s.length 0 fu (by omega) a;trivial
theorem Zf(s:List UInt8):uM (Ur s (s.length+1)):=by
 intro K d b e a;obtain⟨i,f,rfl⟩:=EG.1 d;rcases Aan i s.length with h|h
 ·rw[Aaq h,IK e]at a⊢;split at a;· rename_i c;rw[if_pos c];exact EG.2 ⟨i+1,by omega,rfl⟩
  grind[H6]
 grind[List.drop_of_length_le,Mn,H6]
theorem TN(s:List UInt8):Bf (Bv s)/\Av (Bv s) 0=single s:=by have:=WH (Zf s) (L:=single s) (λ_=>EG.2 ⟨0,by omega,rfl⟩) (fu:=s.length+2) (by grind[Ur,Az]);grind[Zg]
def KQ:Tb:=[(Bp,[(0,255,0)])]
theorem su:Bf KQ:=by intro s a;simp[KQ]at a;subst a;exact⟨by trivial,by simp⟩
theorem du:Av KQ 0=λ_=>Bp:=by
 funext w;induction w with
 |nil=>rfl
 |cons c w b=>
  have:Bl KQ 0 c.toNat=0:=by have:=c.toNat_lt;grind[Bl,Be,KQ,AQ,BN]
  show Av KQ (Bl KQ 0 c.toNat) w=Bp;grind
theorem dv:BW KQ=KQ:=by
 unfold BW;rw[du];have c:live (λ_=>Bp)=Bp:=Jv (w:=[]) rfl;have a:AM (λ_=>Bp) [λ_=>Bp] 256=Db (AM (λ_=>Bp) [λ_=>Bp] 0) (λ_=>Bp) 0 255:=HZ _ _ _ 0 255 (by simp) λb _ _=>rfl;have f:Ip [λ_=>Bp] (λ_=>Bp)=0:=by have:=gX (kn:=[λ_=>Bp]) (by simp) (i:=0) (by simp);simpa using this
 have d:IY [λ_=>Bp] (λ_=>Bp)=[λ_=>Bp]:=GC (by simp);have e:AM (λ_=>Bp) [λ_=>Bp] 256=([λ_=>Bp],[(0,255,0)]):=by rw[a,Mt];unfold Db;rw[if_pos c];rw[d,f];rfl
 show Et 2 _=_;unfold Et;rw[if_pos c];unfold DJ;simp only[Adu,Aln];rw[e];rfl
theorem LF{b:Nat}{i:Int}(w:DT l n)(x:n<fu)(h1:i<l.length):Ok (uv fu (l,i,(b:Int))) (λr=>r=Bl l i b):=by
 refine N_ (λh=>MN (by grind[Jg])) λh=>Adq (by omega) h1 ?_;have v:=Bs (by omega) h1;have p:Bl l i b=AQ (l[i.toNat]'(by omega)).2 b:=by grind[Bl]
 rw[p];have o:=w.2 _ (AN (by omega:i.toNat<l.length));generalize l[i.toNat]'(by omega)=s at o;refine VD (λk=> ∀j (_:j<k) (q:j<s.2.length),BN b s.2[j]=Aj) s.2.length (by omega) (by omega) (λk nx t e u=>?_) (λnx e=>?_)
 ·have d:BN b s.2[k]=Aj->∀j (_:j<k+1) (q:j<s.2.length),BN b s.2[j]=Aj:=λh j q m=>by
   grind
  refine P4 (Aah t (N_ (λc=>N_ (λg=>MN ?_) λg=>u (d ?_)) λc=>u (d ?_)));· exact(G_ t (by simp[BN,c,g]) λi f=>e i f (by omega)).symm
  all_goals grind[BN]
 simp_all[P5,MN,Gt]
theorem n8(fu:Nat)(l:Tb):F9 fu l=xL fu l:=rfl
theorem Tq{s:Aq}(A:N3 l)(o:DT l n)(m:n<fu)(E:n<4294967296)(C:s.length<fu)(D:s.length<4294967296):Ok (eb fu (l,s)) (λr=>r=I5 l s):=by
 rw[eb];rw[n8];refine OC (Ea A o m E) λx t=>P0 (λh=>MN ?_) λh=>N_ (λh=>MN ?_) λG=>?_;· refine(Tr (λf=>?_) s).symm;have:=t.2 f;subst this;cases h
 ·obtain rfl:l=[]:=OF.1 (by omega);rw[L0 (by simp[Bf]),Ed]
 have f:Bf l:=t.1 (by cases x;cases h;rfl);rw[L0 f];refine Xp (X:=Int×Int) (λp=>p.1<l.length/\(0<=p.2/\p.2<=s.length)/\runT l 0 s=runT l p.1 (s.drop p.2.toNat)) (λp=>s.length-p.2.toNat) ⟨by(try simp only);omega,⟨by decide,by(try simp only);omega⟩,rfl⟩ (by simpa using C) λp nx w _ j=>?_;obtain⟨q,i⟩:=p;obtain⟨e,⟨u,v⟩,c⟩:=w;simp only at e u v c;try dsimp only
 refine N_ (λB=>?_) λB=>?_
 ·have b:i.toNat<s.length:=by omega
  have g:i=((i.toNat:Nat):Int):=by omega
  have y:∀ {k:Int->Option Bool} {P},Ok (k (((s[i.toNat]'b).toNat:Nat):Int)) P->Ok (Ab (Ey s i) k) P:=λh=>by rw[g];exact Zu b h
  refine y (OC (LF o m e) λa z=>PH (by unfold GK.DW;omega) ?_);subst z;have F:=f.st q (s[i.toNat]'b).toNat;refine j (_,i+1) ⟨by(try simp only);omega,⟨by(try simp only);omega,by(try simp only);omega⟩,?_⟩ (by(try simp only);omega);try simp only
  rw[c,show(i+1).toNat=i.toNat+1 by omega,<-HY,Aaq b]
 ·have b:i.toNat=s.length:=by omega
  rw[b,Aay (Aae _)]at c;refine N_ (λd=>Adq d e (MN ?_)) λd=>MN ?_;· unfold Av;rw[c];exact(Ef d e).symm
  ·unfold Av;rw[c];unfold fin runT;simp[d]
theorem TV(fu:Nat)(l:Tb):F13 fu l=F38 fu l:=by rfl
def z_(fu k:Nat)(nx:(List Bool×Nat)->Option (List Bool))(x:TL)(o:List Bool)(j:Nat)(a:(List Bool×Nat)->Option (List Bool)):Option (List Bool):=bif Dl ((↑j:Int)<(↑(FD x.2):Int))then Ab (idx x.2 (↑j:Int)) λb=>Ab (idx o (↑k:Int)) λc=>bif c then Ab (idx o (↑k:Int)) λe=>a (o.set k Bp,j+1)else Ab (idx o b.2.2) λd=>Ab (idx o (↑k:Int)) λf=>a (o.set k d,j+1)else nx (o,k+1)
def Ar(l:Tb)(f:Nat->Bool)(s:Nat):Prop:= ∃st,l[s]?=Ac st/\(st.1=Bp\/∃e∈st.2,f e.2.2.toNat=Bp)
def GM(l:Tb)(f:Nat->Bool):Prop:= ∀s,s<l.length->Ar l f s->f s=Bp
def Nw(l:Tb)(f:Nat->Bool):Prop:= ∀s,s<l.length->f s=Bp->live (Av l (s:Nat))=Bp
theorem Ar.mono(k:Bf l)(a:∀j,j<l.length->f j=Bp->g j=Bp)(h:Ar l f s):Ar l g s:=by obtain⟨st,b,d⟩:=h;refine⟨st,b,d.imp id λ⟨e,c,i⟩=>⟨e,c,a _ ?_ i⟩⟩;have:=(k st (Aai b)).rg e c;omega
theorem Oe{es:List Cm}{m n:Nat}(h:BR es m n){e:Cm}(a:e∈es):AQ es e.1.toNat=e.2.2:=by obtain⟨i,b,rfl⟩:=Aat a;have g:=h.rg _ a;refine G_ b (by grind[BN]) λj c=>?_;have d:=Aaw.1 h.so j i (by omega) b c;grind[BN]
theorem Ar.live(o:Bf l)(k:Nw l f)(h:Ar l f s):live (Av l (s:Nat))=Bp:=by
 obtain⟨st,c,d⟩:=h;have a:Be l (s:Nat)=st:=by grind[Be]
 have i:=o st (Aai c);rcases d with d|⟨e,j,m⟩;· exact Jv (w:=[]) (by grind[Av,runT,fin])
 ·have n:=i.rg e j;have g:=k _ (by omega) m;refine RY (b:=e.1.toNat) ?_;rw[Fs _ _ _ (by omega)];have:Bl l (s:Nat) e.1.toNat=e.2.2:=by unfold Bl;grind[Oe]
  grind
theorem GM.all{l:Tb}{f:Nat->Bool}(m:Bf l)(h:GM l f):∀(w:List UInt8) (s:Nat),s<l.length->Av l (s:Nat) w=Bp->f s=Bp
 | [],s,c,a=>by refine h s c ⟨l[s],GB c, .inl ?_⟩;grind[Av,runT,fin,Be]
 |b::w,s,c,a=>by
  have g:Be l (s:Nat)=l[s]:=Bs (by omega) (by omega);have e:Av l (s:Nat) (b::w)=Av l (Bl l (s:Nat) b.toNat) w:=rfl;rw[e]at a;have k:Bl l (s:Nat) b.toNat=AQ l[s].2 b.toNat:=by grind[Bl]
  rw[k]at a;unfold AQ at a;cases j:l[s].2.find? (BN b.toNat)with
  |none=>grind[Ee]
  |some e=>
   have d:=Acj j;have n:=(m _ (AN c)).rg e d;refine h s c ⟨l[s],GB c, .inr ⟨e,d,?_⟩⟩;refine GM.all m h w e.2.2.toNat (by omega) ?_;grind
theorem J5{k:Nat}(I:Bf l)(H:DT l n)(J:n<fu)(v:k<l.length){P:List Bool->Prop}{nx:(List Bool×Nat)->Option (List Bool)}
  (b:(Nat->((List Bool)×Nat->Option (List Bool))->List Bool->Nat->((List Bool)×Nat->Option (List Bool))->Option (List Bool)))
  (C:∀y o j f,b k y o j f=z_ fu k y l[k] o j f)
  (F:∀m,(∀j,j<l.length->m j=if j=k then(g k||l[k].2.any λe=>g e.2.2.toNat)else g j)->Ok (nx (Bh l.length m,k+1)) P):
  Ok (Ad fu (λp f=>b k nx p.1 p.2 f) (Bh l.length g,0)) P:=by
 have D:=I _ (AN v);refine Sw (λj o=> ∃m,o=Bh l.length m/\∀i,i<l.length->m i=if i=k then(g k||(l[k].2.take j).any λe=>g e.2.2.toNat)else g i) l[k].2.length ⟨g,rfl,λi _=>by grind⟩ (by have:=H.2 _ (AN v);omega) (λj o f B A w=>?_) (λo f A=>?_)
 ·obtain⟨m,rfl,c⟩:=A;have G:=D.rg _ (AN B)
  rw[C];have q:((l[k].2.take (j+1)).any λe=>g e.2.2.toNat)=(((l[k].2.take j).any λe=>g e.2.2.toNat)||g l[k].2[j].2.2.toNat):=by rw[<-Acm B,Aeu];simp
  refine P4 (Aah B (BY (AW v) (P0 (λh=>BY (AW v) (w _ ⟨_,A' _ _ _ _,λi u=>?_⟩)) λh=>?_)))
  ·grind
  ·have x:l[k].2[j].2.2.toNat<l.length:=by omega
   refine BY (a:=m l[k].2[j].2.2.toNat) (Hr G.2.2.2.1 x) (BY (AW v) (w _ ⟨_,A' _ _ _ _,λi u=>?_⟩));by_cases d:i=k
   ·subst d;have t:=c i u;rw[h]at t;simp only[if_true]at t⊢;rw[q,<-Bool.or_assoc,<-t,All,c _ x]
    all_goals grind
   grind
 ·obtain⟨m,rfl,c⟩:=A;simp_all[z_]
theorem Pg(z:Bf l)(X:DT l n)(hn:n<4294967296)(hf:n<fu):Ok (yb fu l) (λr=>r=Bh l.length λs=>live (Av l (s:Nat))):=by
 have hln:=X.1;rw[yb];refine PH (by grind) ?_;rw[DA];refine Sw (λk o=> ∃f,o=Bh l.length f/\Nw l f/\(GM l f\/AD l.length f+k<=l.length)) l.length ⟨_,rfl,λs _ h=>(by grind), .inr (by grind[Qy])⟩ (by omega) (λk o nx hk C W=>?_) (λo nx C=>?_)
 ·obtain⟨
      f,rfl,Q,P⟩:=C
  refine TT (by omega) ?_;refine Sw (λq o=> ∃g,o=Bh l.length g/\Nw l g/\(∀j,j<l.length->f j=Bp->g j=Bp)/\(∀s,s<q->Ar l f s->g s=Bp)/\(GM l f->∀j,j<l.length->g j=f j)) l.length ⟨f,rf,Q,λ_ _ h=>h,λs h=>by omega,λ_ _ _=>rfl⟩ (by omega) (λq o K u C U=>?_) (λo K C=>?_)
  ·obtain⟨
       g,rfl,t,y,O,x⟩:=C
   have B:∀i:Nat->Bool,(∀j,j<l.length->i j=if j=q then(g q||l[q].1)else g j)->∀v,(∀j,j<l.length->v j=if j=q then(i q||l[q].2.any λe=>i e.2.2.toNat)else i j)->Ok (K (Bh l.length v,q+1)) (λr=>r=Bh l.length λs=>live (Av l (s:Nat))):=λi G v L=>by
    have E:∀j,j<l.length->g j=Bp->i j=Bp:=λj b h=>by grind
    have D:Nw l i:=λs a h=>by
     rw[G s a]at h;by_cases e:s=q
     ·subst e;rw[if_pos rfl]at h;cases I:g s;· rw[I,All]at h;exact Ar.live z t ⟨l[s],GB a, .inl h⟩
      ·exact t s a I
     ·rw[if_neg e]at h;exact t s a h
    have p:∀j,j<l.length->i j=Bp->v j=Bp:=λj b h=>by grind
    have R:Nw l v:=λs a h=>by
     rw[L s a]at h;by_cases e:s=q
     ·subst e;rw[if_pos rfl]at h;cases I:i s;· rw[I,All,Aca]at h;obtain⟨e,A,M⟩:=h;exact Ar.live z D ⟨l[s],GB a, .inr ⟨e,A,M⟩⟩
      ·exact D s a I
     ·rw[if_neg e]at h;exact D s a h
    refine U _ ⟨v,rf,R,λj b h=>p j b (E j b (y j b h)),λs hsq m=>?_,λc j b=>?_⟩
    ·by_cases e:s=q
     ·subst e;obtain⟨st,Z,H⟩:=m;rw[GB u]at Z;cases Z;rw[L s u,if_pos rfl];rcases H with H|⟨e,A,H⟩;· grind
      ·have:(l[s].2.any λe=>i e.2.2.toNat)=Bp:=Aca.2 ⟨e,A,E _ (by have:=(z _ (AN u)).rg e A;omega) (y _ (by have:=(z _ (AN u)).rg e A;omega) H)⟩;rw[this];simp
     grind
    ·have J:=x c;have N:∀j,j<l.length->i j=f j:=λj b=>by
      rw[G j b];split
      ·rename_i e;subst e;rw[J j b];cases S:l[j].1;· simp
       ·rw[c j b ⟨l[j],GB b, .inl S⟩];rfl
      ·exact J j b
     rw[L j b];split
     ·rename_i e;subst e;rw[N j b];cases S:l[j].2.any λe=>i e.2.2.toNat;· simp
      ·obtain⟨e,A,M⟩:=Aca.1 S;rw[N _ (by have:=(z _ (AN b)).rg e A;omega)]at M;rw[c j b ⟨l[j],GB b, .inr ⟨e,A,M⟩⟩];rfl
     ·exact N j b
   refine P4 (Aah u (BY (AW u) (P0 (λh=>BY (AW u) ?_) λh=>BY (AW u) ?_)));· rw[A'];refine J5 z X hf u (λk nx o j F=>z_ fu k nx l[q] o j F) (λ_ _ _ _=>rfl) λv p=>B _ (λj b=>?_) v p;by_cases e:j=q<;>simp[e,h]
   ·rw[A'];refine J5 z X hf u (λk nx o j F=>z_ fu k nx l[q] o j F) (λ_ _ _ _=>rfl) λv p=>B _ (λj b=>?_) v p;by_cases e:j=q<;>simp[e,h]
  ·obtain⟨g,rfl,t,y,O,x⟩:=C
   refine P5 (W _ ⟨g,rfl,t,?_⟩);by_cases c:GM l f;· left;intro s a m;rw[x c s a];exact c s a (m.mono z λj b h=>by rw[x c j b]at h;exact h)
   ·have G:=P.resolve_left c;have:∃s,s<l.length/\f s=Aj/\g s=Bp:=IS λV=>c λs a m=>by
     cases d:f s;· exact absurd ⟨s,a,d,O s a m⟩ V
     ·rfl
    have:=Qz (n:=l.length) (f:=f) (g:=g) y this;omega
 ·obtain⟨f,rfl,Q,P⟩:=C
  have c:GM l f:=by
   rcases P with h|h;· exact h
   ·intro s a _;cases d:f s;· have:=Qz (n:=l.length) (f:=f) (g:=λ_=>Bp) (λ_ _ _=>rfl) ⟨s,a,d,rfl⟩;omega
    ·rfl
  refine P5 (MN (AP λs a=>?_));cases d:f s
  ·cases T:live (Av l (s:Nat));· rfl
   ·obtain⟨w,Y⟩:=Ho.1 T;rw[c.all z w s a Y]at d;cases d
  ·exact(Q s a d).symm
noncomputable def Ir(l:Tb)(e:Cm):Bool:=live (Av l e.2.2)
noncomputable def DS(l:Tb):Tb:=l.map λs=>(s.1,s.2.filter (Ir l))
theorem Ma(l:Tb):(DS l).length=l.length:=by simp[DS]
theorem BR.filter(h:BR es m n)(p:Cm->Bool):BR (es.filter p) m n:=⟨λe a=>h.rg e (Abb.1 a).1,h.so.filter _⟩
theorem fr(h:Bf l):Bf (DS l):=λs a=>by obtain⟨t,b,rfl⟩:=By.1 a;rw[Ma];exact(h t b).filter _
theorem SD{p q:Cm->Bool}(l:∀e∈es,∀b∈es,q e=Bp->q b=Bp->e=b):(es.filter p).find? q=match es.find? q with
  |some e=>if p e then Ac e else C7
  |none=>C7:=by
 cases h:es.find? q with
 |none=>
  grind
 |some e=>
  try dsimp only
  by_cases c:p e=Bp;· cases d:(es.filter p).find? q with
   |none=>grind
   |some b=>
    grind
  grind
theorem BR.uniq(h:BR es m n)(b:Nat):∀e∈es,∀c∈es,BN b e=Bp->BN b c=Bp->e=c:=λe o c d k l=>by
 obtain⟨i,f,rfl⟩:=Aat o;obtain⟨j,g,rfl⟩:=Aat d;simp[BN]at k l;rcases Acx i j with a|a|a;· have:=Aaw.1 h.so i j f g a;omega
 ·grind
 ·have:=Aaw.1 h.so j i g f a;omega
theorem Oa{l:Tb}(h:Bf l)(q:Int)(b:Nat):Bl (DS l) q b=if live (Av l (Bl l q b))then Bl l q b else-1:=by
 unfold Bl;split;· omega
 ·have a:Be (DS l) q=((Be l q).1,(Be l q).2.filter (Ir l)):=by
   grind[Be,DS]
  rw[a]
  unfold AQ;have j:∀e∈(Be l q).2,∀f∈(Be l q).2,BN b e=Bp->BN b f=Bp->e=f:=by
   unfold Be;rw[Aaa];cases k:l[q.toNat]? with
   |none=>simp
   |some s=>exact(h s (Aai k)).uniq b
  rw[SD j];grind[Be,BN,Ir,live,Av]
theorem Ps{l:Tb}(h:Bf l):∀(w:List UInt8) (q:Int),Av (DS l) q w=Av l q w
 | [],q=>by grind[Av,runT,fin,Be,DS]
 |c::w,q=>by
  show Av (DS l) (Bl (DS l) q c.toNat) w=Av l (Bl l q c.toNat) w;rw[Oa h];split;· exact Ps h w _
  grind[live,Av,Bl,CY,Ee]
theorem fv(h:DT l n):DT (DS l) n:=⟨by rw[Ma];exact h.1,λs a=>by obtain⟨t,b,rfl⟩:=By.1 a;have:=h.2 t b;grind⟩
theorem Q9(y:Bf l)(t:DT l n)(B:n<4294967296)(z:n<fu):Ok (F12 fu l) (λr=>r=DS l):=by
 have A:=t.1;rw[F12];refine OC (Pg y t B z) λx f=>?_;subst f;refine Sw (λk o=>o=(l.take k).map λs=>(s.1,s.2.filter (Ir l))) l.length (by simp) (by omega) (λk o nx p i q=>?_) (λo nx i=>?_)
 ·subst i
  have v:=AN p;have C:=t.2 _ v;refine P4 (Aah p ?_);refine Sw (λj x=>x=(l[k].2.take j).filter (Ir l)) l[k].2.length (by simp) (by omega) (λj x u m f c=>?_) (λx u f=>?_)
  ·try dsimp only
   have w:=(y _ v).rg _ (AN m);have d:(l[k].2.take (j+1)).filter (Ir l)=(l[k].2.take j).filter (Ir l)++(if Ir l l[k].2[j]then [l[k].2[j]]else []):=by rw[<-Acm m,Afx];simp[Afl]
   have e:Ir l l[k].2[j]=live (Av l ((l[k].2[j].2.2.toNat:Nat):Int)):=by unfold Ir;rw[Abe w.2.2.2.1]
   refine P4 (Aah m (BY (Hr w.2.2.2.1 (by omega)) (P0 (λh=>PH ?_ (c _ ?_)) λh=>c _ ?_)));all_goals grind
  ·subst f
   refine P5 (PH ?_ (q _ ?_));· simp only[Aal,Aba,Abn,Adu];unfold Ah;omega
   ·rw[Al,<-Acm p,Aak];rfl
 ·subst i
  exact P5 (MN (by rw[Al];rfl))
structure Ren(l:Tb)(ord:List Int):Prop where
 nd:ord.Nodup
 rg:∀q∈ord,0<=q/\q<l.length
def Mz(a:List Int)(e:Cm):Cm:=(e.1,e.2.1,((a.idxOf e.2.2:Nat):Int))
def Pk(l:Tb)(a:List Int)(q:Int)(s:TL):Prop:=s.1=(Be l q).1/\s.2=(Be l q).2.map (Mz a)/\∀e∈(Be l q).2,e.2.2∈a
theorem oH{d:Tb}(G:Bf l)(r:Ren l a)(I:d.length=a.length)(v:∀(k:Nat) (q:Int) (s:TL),a[k]?=Ac q->d[k]?=Ac s->Pk l a q s):
  Bf d/\∀(w:List UInt8) (k:Nat) (q:Int),a[k]?=Ac q->Av d (k:Nat) w=Av l q w:=by
 have g:∀(k:Nat) (q:Int),a[k]?=Ac q->Pk l a q (Be d (k:Nat)):=λk q f=>by grind[Be,FD]
 have A:∀q∈a,BR (Be l q).2 256 l.length:=λq n=>by have:=r.rg q n;rw[Bs this.1 this.2];exact G _ (AN _)
 refine⟨λs F=>?_,λw=>?_⟩;· obtain⟨k,f,rfl⟩:=Aat F;have n:a[k]?=Ac a[k]:=GB (by omega);obtain⟨z,o,p⟩:=v k _ _ n (GB f);have i:=A _ (Aai n);rw[o];refine⟨λe B=>?_,Adr.2 i.so⟩;obtain⟨t,j,rfl⟩:=By.1 B;have E:=i.rg t j;grind[Mz]
 ·induction w with
  |nil=>
   intro k q f;have u:=r.rg q (Aai f);have:=(g k q f).1;grind[Av,runT,fin]
  |cons c w H=>
   intro k q f;have u:=r.rg q (Aai f);obtain⟨z,o,p⟩:=g k q f;show Av d (Bl d (k:Nat) c.toNat) w=Av l (Bl l q c.toNat) w;have x:Bl d (k:Nat) c.toNat=AQ ((Be l q).2.map (Mz a)) c.toNat:=by grind[Bl]
   have y:Bl l q c.toNat=AQ (Be l q).2 c.toNat:=by unfold Bl;rw[if_neg (by omega)]
   rw[x,y];unfold AQ;have m:((Be l q).2.map (Mz a)).find? (BN c.toNat)=((Be l q).2.find? (BN c.toNat)).map (Mz a):=by rw[List.find?_map];rfl
   rw[m];cases C:(Be l q).2.find? (BN c.toNat)with
   |none=>dsimp only[Option.map];rw[Ee (by decide),Ee (by decide)]
   |some e=>
    have D:=p e (Acj C);have h:=Adv D;exact H _ _ (by rw[GB h,Aew h])
theorem Sj(h1:∀j (_:j<i) (f:j<a.length),a[j]≠x)(h2:i<=a.length)(h3:∀h:i<a.length,a[i]=x):a.idxOf x=i:=by
 rcases Aan i a.length with h|h
 ·have d:x∈a:=h3 h▸AN h;have c:=Adv d;have g:=Aew c;rcases Acx (a.idxOf x) i with b|b|b;all_goals simp_all[absurd,List.idxOf]
 grind
def MC(a:List Int)(x:Int):List Int:=if x∈a then a else a++[x]
theorem ZX(a:List Int)(x:Int):x∈MC a x:=by grind[MC]
theorem fY(a:List Int)(x:Int):(MC a x).idxOf x=a.idxOf x:=by grind[MC]
def FP(a b:List Int):Prop:= ∃m,b=a++m
theorem FP.refl(a:List Int):FP a a:=⟨[],by simp⟩
theorem FP.trans{c:List Int}(h:FP a b)(k:FP b c):FP a c:=by obtain⟨x,rfl⟩:=h;obtain⟨y,rfl⟩:=k;exact⟨x++y,by simp⟩
theorem FP.put(a:List Int)(x:Int):FP a (MC a x):=by unfold MC;split;exact .refl a;exact⟨[x],rfl⟩
theorem FP.mem(h:FP a b)(c:x∈a):x∈b:=by obtain⟨m,rfl⟩:=h;grind
theorem FP.ix(h:FP a b)(c:x∈a):b.idxOf x=a.idxOf x:=by obtain⟨m,rfl⟩:=h;grind
theorem FP.get(h:FP a b)(c:a[i]?=Ac x):b[i]?=Ac x:=by obtain⟨m,rfl⟩:=h;grind
theorem FP.len(h:FP a b):a.length<=b.length:=by obtain⟨m,rfl⟩:=h;simp
theorem Pk.ext{s:TL}(h:Pk l a q s)(f:FP a b):Pk l b q s:=by obtain⟨g,i,d⟩:=h;refine⟨g,?_,λe c=>f.mem (d e c)⟩;rw[i];refine Abs λe c=>?_;simp only[Mz,f.ix (d e c)]
theorem Ren.put(h:Ren l d)(h0:0<=x)(h1:x<l.length):Ren l (MC d x):=by
 unfold MC;split;· omega
 ·refine⟨Acv.2 ⟨h.nd,by simp,λa f b e=>?_⟩,λq c=>?_⟩;· grind
  ·rcases AS.1 c with c|c;· exact h.rg q c
   grind
theorem Ren.le{c:List Int}(h:Ren l c):c.length<=l.length:=by
 have e:(c.map ao).Nodup:=by refine Adr.2 (Age (λ{a b} f i g=>?_) h.nd);have:=h.rg a f;have:=h.rg b i;omega
 have:=Ch (b:=aT l.length) e (λx k=>by obtain⟨q,j,rfl⟩:=By.1 k;have:=h.rg q j;grind);grind
theorem Rw(hw:Bf l)(h0:0<l.length)(hs:DT l n)(hn:n<4294967296)(hf:n+1<fu):
  Ok (F11 fu l) (λr=>Bf r/\Av r 0=Av l 0/\DT r n/\0<r.length):=by
 have hln:=hs.1;rw[F11];refine Xp (X:=List Int×Tb×Nat) (λx=>Ren l x.1/\x.1[0]?=Ac 0/\x.2.2=x.2.1.length/\x.2.1.length<=x.1.length/\∀(k:Nat) (q:Int) (s:TL),x.1[k]?=Ac q->x.2.1[k]?=Ac s->Pk l x.1 q s)
  (λx=>l.length+1-x.2.2) ⟨⟨by simp,by grind⟩,rfl,rfl,by simp,by simp⟩ (by omega) λx nx S _ hnx=>?_;obtain⟨c,out,k⟩:=x;obtain⟨I,P,F,W,d⟩:=S;dsimp only at I P F W d;subst F;have hol:=I.le;try dsimp only
 refine N_ (λY=>?_) λY=>MN ?_
 ·have A:out.length<c.length:=by omega
  have t:=I.rg _ (AN A);have p:=Bs t.1 t.2;have L:Be l c[out.length]∈l:=p▸AN _;have hE:=hw _ L;have hsl:=hs.2 _ L;refine Aah A (Adq t.1 t.2 (Aah A (Adq t.1 t.2 ?_)));rw[<-p];generalize H:Be l c[out.length]=st at L hE hsl;refine XN (λj o Q=>Ren l o/\FP c o/\Q=(st.2.take j).map (Mz o)/\∀e∈st.2.take j,e.2.2∈o) st.2.length ⟨I, .refl _,by simp,by simp⟩ (by omega) (λj o Q N O T Z=>?_) (λo Q N T=>?_)
  ·obtain⟨y,b,rfl,g⟩:=T
   have hr:=hE.rg _ (AN O);have hrl:=y.le;refine P4 (Aah O ?_);have f:Ok (N (MC o st.2[j].2.2,(st.2.take j).map (Mz o)++([(st.2[j].1,st.2[j].2.1,((o.idxOf st.2[j].2.2:Nat):Int))]:List (Int×Int×Int)),j+1)) (λr=>Bf r/\Av r 0=Av l 0/\DT r n/\0<r.length):=by
    refine Z _ _ ⟨y.put hr.2.2.2.1 hr.2.2.2.2,b.trans (.put _ _),?_,λe U=>?_⟩
    ·rw[<-Acm O,Aak];congr 1;· refine Abs λe U=>?_;simp only[Mz,(FP.put o st.2[j].2.2).ix (g e U)]
     grind[Mz,fY]
    ·rcases(Af O).1 U with h|rfl;· exact(FP.put _ _).mem (g e h)
     grind[ZX]
   refine Xp (X:=Int) (λi=>(0<=i/\i<=o.length)/\∀q (_:q<i.toNat) (t:q<o.length),o[q]≠st.2[j].2.2) (λi=>o.length-i.toNat) ⟨⟨by simp,by omega⟩,λq h=>by simp at h⟩ (by omega) λi nx2 S _ hn2=>?_;obtain⟨⟨C,NG⟩,G⟩:=S;try dsimp only
   have B:((st.2.take j).map (Mz o)).length+([(st.2[j].1,st.2[j].2.1,i)]:List (Int×Int×Int)).length<=Ah:=by simp only[Aal,Aba,Abn,Adu];unfold Ah;omega
   refine N_ (λhi=>?_) λhi=>?_
   ·have D:i.toNat<o.length:=by omega
    refine Adq C hi (N_ (λhne=>PH (by omega) (hn2 (i+1) ⟨by omega,λq h1 R=>?_⟩ (by omega))) λheq=>?_)
    ·rcases Aan q i.toNat with h3|h3;· exact G q h3 R
     ·obtain rfl:q=i.toNat:=by omega
      exact hne
    ·have heq:o[i.toNat]=st.2[j].2.2:=IS heq;have E:o.idxOf st.2[j].2.2=i.toNat:=Sj G (by omega) λ_=>heq;have z:st.2[j].2.2∈o:=heq▸AN D;refine Qd (by omega) ?_;refine PH B ?_;rw[E,Abe C]at f;unfold MC at f;rw[if_pos z]at f;exact f
   ·have D:i.toNat=o.length:=by omega
    have z:st.2[j].2.2∉o:=λL=>by obtain⟨q,t,e⟩:=Aat L;exact G q (by omega) t e
    have E:o.idxOf st.2[j].2.2=i.toNat:=by rw[List.idxOf_eq_length z,D]
    refine P4 (PH (by(try simp)<;>(unfold Ah;omega)) ?_);refine PH B ?_;rw[E,Abe C]at f;unfold MC at f;rw[if_neg z]at f;exact f
  ·obtain⟨y,b,rfl,g⟩:=T
   rw[Al]at g;have:=b.len;refine P5 (PH (by(try simp)<;>(unfold Ah;omega)) (hnx _ ⟨y,b.get P,by simp,by simp;omega,λk q s F m=>?_⟩ (by dsimp only;omega)));by_cases V:k<out.length
   ·rw[Pe V]at m;have J:c[k]?=Ac c[k]:=GB (by omega);have u:=b.get J;rw[F]at u;obtain rfl:q=c[k]:=by simpa using u
    exact(d k _ s J m).ext b
   ·rw[Aab (by omega)]at m;have K:k=out.length:=by
     have:=(IT.1 m).1;simp at this;omega
    subst K;simp at m;subst m;have u:=b.get (GB A);rw[F]at u;obtain rfl:q=c[out.length]:=by simpa using u
    refine⟨by rw[H],by rw[H,Al],by rw[H];exact g⟩
 ·have hl:out.length=c.length:=by omega
  obtain⟨h1,R⟩:=oH hw I hl d;have hpos:=(IT.1 P).1;refine⟨h1,funext λw=>R w 0 0 P,⟨by omega,λs m=>?_⟩,by omega⟩;obtain⟨k,F,rfl⟩:=Aat m;have t:c[k]?=Ac c[k]:=GB (by omega);have p:=(d k _ _ t (GB F)).2.1;have M:=I.rg _ (Aai t);rw[p,Aal,Bs M.1 M.2];exact hs.2 _ (AN _)
theorem Rs(i:a.length<fu):Ok (F15 fu (a,b)) (λr=>r=Bp↔a=b):=by
 refine N_ (λh=>MN ⟨λh=>(by grind),λc=>by grind⟩) λh=>?_;have m:a.length=b.length:=by omega
 refine VD (λk=> ∀j (_:j<k) (h:j<a.length) (c:j<b.length),a[j]=b[j]) a.length (by omega) i (λk nx l d n=>?_) (λnx d=>?_)
 ·refine P4 (Aah l (Aah (by omega) (N_ (λh=>MN ⟨λh=>(by grind),λc=>by grind⟩) λh=>n λj o f g=>?_)));grind
 ·exact P5 (MN ⟨λ_=>HC m λj h c=>d j h h c,λ_=>rfl⟩)
theorem Sk[BEq α] [LawfulBEq α]{a:List α}{x:α}(h1:∀j (_:j<i) (f:j<a.length),a[j]≠x)(hi:i<a.length)(h3:a[i]=x):a.idxOf x=i:=by have e:x∈a:=h3▸AN hi;have c:=Adv e;have d:=Aew c;rcases Acx (a.idxOf x) i with b|b|b;all_goals simp_all[absurd,List.idxOf]
theorem bO{l:List (List Int)}{x:List Int}(n:l.length<fu)(o:∀y∈l,y.length<=m)(p:m<fu):Ok (F16 fu (l,x)) (λr=>if x∈l then r=(l.idxOf x:Nat)else r= -1):=by
 refine VD (λk=> ∀j (_:j<k) (h:j<l.length),l[j]≠x) l.length (by omega) n (λk nx c a q=>?_) (λnx a=>?_)
 ·refine P4 (Aah c (OC (Rs (by grind)) λr g=>P0 (λh=>MN ?_) λh=>q λj d i=>?_));· have b:=g.1 h;rw[if_pos (b▸AN c),Sk a c b]
  grind
 ·refine P5 (MN ?_);grind
def Trim(l:Tb):Prop:= ∀(q:Int) (b:Nat),0<=Bl l q b->live (Av l (Bl l q b))=Bp
def c5(c:Nat->Int)(t:Int):Int:=if t<0 then t else c t.toNat
def Fa(l:Tb)(cs:List Int)(c:Nat->Int)(s:Nat):List Int:=c s::cs.map λb=>c5 c (Bl l (s:Nat) b.toNat)
structure Cl5B(l:Tb)(c:Nat->Int):Prop where
 rg:∀s,s<l.length->0<=c s
structure W3(l:Tb)(c:Nat->Int):Prop where
 iff:∀s t,s<l.length->t<l.length->(c s=c t↔Av l (s:Nat)=Av l (t:Nat))
theorem Gd:Fa l cs c s=Fa l cs c t↔c s=c t/\∀b∈cs,c5 c (Bl l (s:Nat) b.toNat)=c5 c (Bl l (t:Nat) b.toNat):=by simp[Fa]
theorem R2{l:Tb}(f:Bf l){cs:List Int}(hc:Br cs)(n:DN cs l)(c:Nat->Int)(j:Cl5B l c)
  (h1:∀s t,s<l.length->t<l.length->c s=c t->(Be l (s:Nat)).1=(Be l (t:Nat)).1)
  (h2:∀s t,s<l.length->t<l.length->c s=c t->∀b∈cs,c5 c (Bl l (s:Nat) b.toNat)=c5 c (Bl l (t:Nat) b.toNat)):
  ∀(w:List UInt8) (s t:Nat),s<l.length->t<l.length->c s=c t->Av l (s:Nat) w=Av l (t:Nat) w
 | [],s,t,k,m,h=>by grind[Av,runT,fin]
 |b::w,s,t,k,m,h=>by
  obtain⟨i,o,p,r⟩:=hc.find b.toNat b.toNat_lt;have e:∀q:Nat,Av l (q:Nat) (b::w)=Av l (Bl l (q:Nat) cs[i].toNat) w:=λq=>by show Av l (Bl l (q:Nat) b.toNat) w=_;rw[n.const hc f o p r]
  have a:=h2 s t k m h _ (AN o);have u:=f.st (s:Nat) cs[i].toNat;have v:=f.st (t:Nat) cs[i].toNat;rw[e,e];unfold c5 at a;by_cases g:Bl l (s:Nat) cs[i].toNat<0
  ·by_cases d:Bl l (t:Nat) cs[i].toNat<0;· simp_all
   ·have:=j.rg (Bl l (t:Nat) cs[i].toNat).toNat (by omega);omega
  ·by_cases d:Bl l (t:Nat) cs[i].toNat<0;· have:=j.rg (Bl l (s:Nat) cs[i].toNat).toNat (by omega);omega
   ·rw[if_neg g,if_neg d]at a;have:=R2 f hc n c j h1 h2 w _ _ (by omega) (by omega) a;rwa [Abe (by omega),Abe (by omega)]at this
theorem bc(i:Bf l)(ht:Trim l)(hc:Br cs)(a:∀s t,s<l.length->t<l.length->Av l (s:Nat)=Av l (t:Nat)->c s=c t)(k:s<l.length)(f:t<l.length)(h:Av l (s:Nat)=Av l (t:Nat)):
  Fa l cs c s=Fa l cs c t:=by
 refine Gd.2 ⟨a s t k f h,λb j=>?_⟩;have m:=hc.rg b j;have n:=i.st (s:Nat) b.toNat;have o:=i.st (t:Nat) b.toNat;have e:Av l (Bl l (s:Nat) b.toNat)=Av l (Bl l (t:Nat) b.toNat):=by rw[<-Fs _ _ _ (by omega),<-Fs _ _ _ (by omega),h]
 unfold c5;by_cases g:Bl l (s:Nat) b.toNat<0
 ·by_cases d:Bl l (t:Nat) b.toNat<0;· omega
  ·have:=ht (t:Nat) b.toNat (by omega);grind[Hn]
 ·by_cases d:Bl l (t:Nat) b.toNat<0;· have:=ht (s:Nat) b.toNat (by omega);rw[e,Hn d]at this;cases this
  ·rw[if_neg g,if_neg d];refine a _ _ (by omega) (by omega) ?_;rw[Abe (by omega),Abe (by omega),e]
theorem Gm.inj{f:Nat->α}{u:List α}(h:Gm n f u)(g:n<=u.length):∀s t,s<n->t<n->f s=f t->s=t:=λs t b c a=>by have d:Gm n (λi=>i) (aT n):=⟨List.nodup_range,λx=>by simp⟩;have:=(h.bN d (λs t _ _ e=>by rw[e])).2 (by have:=h.le;grind) s t b c a;omega
structure Ref5(l:Tb)(k r:Nat)(c:Nat->Int):Prop extends Cl5B l c where
 fwd:∀s t,s<l.length->t<l.length->Av l (s:Nat)=Av l (t:Nat)->c s=c t
 acc:∀s t,s<l.length->t<l.length->c s=c t->(Be l (s:Nat)).1=(Be l (t:Nat)).1
 AD:k=0\/∃(key:Nat->List Int) (u:List (List Int)),Gm l.length key u/\u.length=k/\∀s t,s<l.length->t<l.length->c s=c t->key s=key t
 rnd:r<=k
theorem S6(hw:Bf l)(htr:Trim l)(h0:0<l.length)(hc:Br cs)(hf:DN cs l)(d:DT l n)(hn:n<4294967296)(hfu:n+2<fu)(hfu':257<fu):
  Ok (F17 fu (l,cs)) (λr=> ∃c,W3 l c/\r=Bh l.length c):=by
 have hln:=d.1;have hcl:=hc.le;have G:∀k (K:k<l.length),Be l (k:Nat)=l[k]:=λk K=>Bs (by omega) (by omega);refine PH (by grind) ?_;rw[DA];refine Sw (λk x=>x=Bh l.length (λs=>if s<k then(if(Be l (s:Nat)).1 then 1 else 0)else 0)) l.length (by simp) (by omega) (λk x nx K p E=>?_) (λx nx p=>?_)
 ·subst p
  refine P4 (Aah K (P0 (λh=>BY (AW K) (E _ ?_)) λh=>E _ (AP λs d=>?_)))
  ·rw[A'];grind
  grind
 ·subst p
  refine Qd (by omega) ?_;refine XN (S:=List Int) (T:=Nat) (λr X k=>k<=l.length/\∃c,X=Bh l.length c/\Ref5 l k r c) l.length ⟨by omega,_,rf,⟨λs d=>?_⟩,λs t d e h=>?_,λs t d e h=>?_, .inl rf,Aae _⟩ (by omega) (λr X k nx' hr f E=>?_) (λX k nx' f=>?_);· omega
  ·have:=congrFun h [];grind[Av,runT,fin]
  ·grind
  ·obtain⟨
       hkl,c,rfl,f⟩:=f
   refine P4 (PH (by grind) ?_);refine XN (λj y u=>Gm j (Fa l cs c) u/\(∀x∈u,x.length=cs.length+1)/\y=Bh l.length (λs=>if s<j then((u.idxOf (Fa l cs c s):Nat):Int)else 0)) l.length ⟨.zero _,by simp,by simp⟩ (by omega) (λj y u nx2 hj Y P=>?_) (λy u nx2 Y=>?_)
   ·obtain⟨
        D,F,rfl⟩:=Y;have H:=D.le
    refine P4 (BY (AW hj) ?_);refine Sw (λi x=>x=c j::(cs.take i).map λb=>c5 c (Bl l (j:Nat) b.toNat)) cs.length (by simp) (by omega) (λi x V hi p hn3=>?_) (λx V p=>?_)
    ·subst p;try dsimp only
     have Z:=hc.rg _ (AN hi);have hst:=hw.st (j:Nat) cs[i].toNat;have z:Ok (Ag ((c j::(cs.take i).map λb=>c5 c (Bl l (j:Nat) b.toNat)).length+1<=Ah) (V ((c j::(cs.take i).map λb=>c5 c (Bl l (j:Nat) b.toNat))++[c5 c (Bl l (j:Nat) cs[i].toNat)],i+1))) (λr=> ∃c,W3 l c/\r=Bh l.length c):=by refine PH (by(try simp)<;>(unfold Ah;omega)) (hn3 _ ?_);rw[<-Acm hi,Aak];rfl
     refine P4 (Aah hi (PH (by omega) (OC (Q:=λr=>r=Bl l (j:Nat) cs[i].toNat) ?_ λa I=>?_)));· have J:=LF (b:=cs[i].toNat) (i:=(j:Int)) d (by omega:n<fu) (by omega);rwa [Abe Z.1]at J
     ·subst I;refine N_ (λh=>BY (Hr h (by omega)) ?_) λh=>?_;· unfold c5 at z;rw[if_neg (by omega)]at z;exact z
      ·unfold c5 at z;rw[if_pos (by omega)]at z;exact z
    ·subst p;try dsimp only
     rw[Al];refine P5 (OC (bO (m:=cs.length+1) (by omega) (λy hy=>by rw[F y hy];exact Aae _) (by omega)) λa I=>?_);have O:(c j::cs.map λb=>c5 c (Bl l (j:Nat) b.toNat))=Fa l cs c j:=rfl;rw[O]at I⊢;refine N_ (λh=>?_) λh=>?_
     ·have C:Fa l cs c j∉u:=λhm=>by rw[if_pos hm]at I;omega
      refine PH (by(try simp)<;>(unfold Ah;omega)) ?_;refine BY (AW hj) (P _ _ ⟨D.new C,λx p=>?_,?_⟩)
      ·rcases AS.1 p with p|p;· exact F x p
       ·simp at p;subst p;simp[Fa]
      ·rw[A'];refine AP λs d=>?_;by_cases A:s=j;· subst A;rw[if_pos rfl,if_pos (by omega),Afd,if_neg C];simp
       ·rw[if_neg A];by_cases g:s<j;· rw[if_pos g,if_pos (by omega),Afd,if_pos ((D.mem _).2 ⟨s,g,rfl⟩)]
        ·rw[if_neg g,if_neg (by omega)]
     ·have C:Fa l cs c j∈u:=IS λhm=>by rw[if_neg hm]at I;omega
      rw[if_pos C]at I;refine BY (AW hj) (P _ _ ⟨D.old C,F,?_⟩);rw[A',I];refine AP λs d=>?_;by_cases A:s=j;· subst A;rw[if_pos rfl,if_pos (by omega)]
      ·rw[if_neg A];by_cases g:s<j;· rw[if_pos g,if_pos (by omega)]
       ·rw[if_neg g,if_neg (by omega)]
   ·obtain⟨D,F,rfl⟩:=Y;have H:=D.le;have B:∀s,s<l.length->Fa l cs c s∈u:=λs d=>(D.mem _).2 ⟨s,d,rfl⟩;have hpos:0<u.length:=Agp (B 0 h0);try dsimp only
    have L:Bh l.length (λs=>if s<l.length then((u.idxOf (Fa l cs c s):Nat):Int)else 0)=Bh l.length (λs=>((u.idxOf (Fa l cs c s):Nat):Int)):=
     AP λs d=>by rw[if_pos d]
    rw[L];have o:∀s t,s<l.length->t<l.length->(((u.idxOf (Fa l cs c s):Nat):Int)=((u.idxOf (Fa l cs c t):Nat):Int)↔Fa l cs c s=Fa l cs c t):=λs t d e=>
     ⟨λh=>OO (B s d) (B t e) (Int.ofNat_inj.1 h),λh=>by rw[h]⟩;have N:∀s t,s<l.length->t<l.length->Av l (s:Nat)=Av l (t:Nat)->Fa l cs c s=Fa l cs c t:=λs t d e h=>bc hw htr hc f.fwd d e h;refine P5 (N_ (λh=>MN ⟨λs=>((u.idxOf (Fa l cs c s):Nat):Int),⟨λs t d e=>?_⟩,rfl⟩) λh=>?_)
    ·rw[o s t d e];refine⟨λhe=>?_,N s t d e⟩;have hk':u.length=k:=by omega
     obtain⟨key,v,R,U,q⟩:=f.AD.resolve_left (by omega);have M:=(R.bN D (λs t d e h=>q s t d e (Gd.1 h).1)).2 (by omega);funext w;exact R2 hw hc hf c f.toCl5B (λs t d e h=>f.acc s t d e h) (λs t d e h=>(Gd.1 (M s t d e (q s t d e h))).2) w s t d e (Gd.1 he).1
    ·have hlt:k<u.length:=by
      rcases f.AD with h0|⟨key,v,R,U,q⟩;· omega
      ·have:=(R.bN D (λs t d e h=>q s t d e (Gd.1 h).1)).1;omega
     have:=f.rnd;exact E _ _ ⟨H,_,rfl,⟨⟨λs d=>by omega⟩,λs t d e h=>(o s t d e).2 (N s t d e h),λs t d e h=>f.acc s t d e (Gd.1 ((o s t d e).1 h)).1, .inr ⟨Fa l cs c,u,D,rfl,λs t d e h=>(o s t d e).1 h⟩,by omega⟩⟩
  ·obtain⟨hkl,c,rfl,f⟩:=f;try dsimp only
   refine P5 (MN ⟨c,⟨λs t d e=>⟨λh=>?_,f.fwd s t d e⟩⟩,rfl⟩);have:=f.rnd;obtain⟨key,v,R,U,q⟩:=f.AD.resolve_left (by omega);rw[R.inj (by omega) s t d e (q s t d e h)]
theorem OL{D:Lg}(h1:∀j (_:j<i) (e:j<kn.length),kn[j]≠D)(h2:i<=kn.length)(h3:∀h:i<kn.length,kn[i]=D):Ip kn D=i:=by grind[Ip,absurd]
structure vg(l:Tb)(kn:List Lg)(ord:List Int):Prop extends KnOk (qe l) kn where
 len:ord.length=kn.length
 ord:∀(i:Nat) (q:Int),ord[i]?=Ac q->(0<=q/\q<l.length)/\kn[i]?=Ac (Av l q)
theorem vg.put(h:vg l kn a)(h0:0<=q)(h1:q<l.length)(f:live (Av l q)=Bp)(g:Av l q∉kn):vg l (IY kn (Av l q)) (a++[q]):=by
 have e:IY kn (Av l q)=kn++[Av l q]:=by simp_all[IY,if_pos,GD]
 refine⟨h.toKnOk.IY (Jx h0 h1) f,by rw[e];simp[h.len],λi x b=>?_⟩;rw[e];by_cases d:i<a.length;· rw[Pe d]at b;have:=h.ord i x b;grind
 ·have c:i=a.length:=by
   grind
  subst c;simp at b;subst b;exact⟨⟨h0,h1⟩,by rw[h.len];simp⟩
theorem PT(v:W3 l c)(h:vg l kn a)(h0:0<=q)(h1:q<l.length)(t:a.length<fu):
  Ok (xZ fu (a,(Bh l.length c),q)) (λr=>r=(Ip kn (Av l q):Nat)):=by
 have p:=h.len;refine VD (λk=> ∀j (_:j<k) (u:j<kn.length),kn[j]≠Av l q) a.length (by omega) t (λk nx f i w=>?_) (λnx i=>?_)
 ·obtain⟨⟨g,x⟩,o⟩:=h.ord k _ (GB f)
  have b:c a[k].toNat=c q.toNat↔Av l a[k]=Av l q:=by have:=v.iff a[k].toNat q.toNat (by omega) (by omega);grind
  refine P4 (Aah f (BY (Hr g (by omega)) (BY (Hr h0 (by omega)) (N_ (λm=>MN ?_) λm=>w λj u s=>?_))));· rw[OL i (by omega) λ_=>by simp_all]
  grind
 ·refine P5 (MN ?_);rw[OL i (by omega) λh=>by omega]
def gV(fu:Nat)(es:List Cm)(i:Nat)(nx:(List Int×List Cm×Nat)->Option (Tb×Int))(lo hi n:Int)(a:List Int):Option (Tb×Int):=Aa (Lo.u8) lo<|Aa (Lo.u8) hi<|Ag (FD es+1<=Ah)<|nx (a,es++[(lo,hi,n)],i+1)
def j20(fu:Nat)(es:List Cm)(i:Nat)(nx:(List Int×List Cm×Nat)->Option (Tb×Int))(lo hi n:Int)(a:List Int):Option (Tb×Int):=Aa (Lo.i64) ((↑(FD es):Int)-(1:Int))<|bif Dl ((0:Int)<=(↑(FD es):Int)-(1:Int))then Ab (idx es ((↑(FD es):Int)-(1:Int))) λd=>bif Dl (d.2.2=n)then Ab (idx es ((↑(FD es):Int)-(1:Int))) λb=>Aa (Lo.i64) (b.2.1+(1:Int))<|bif Dl (b.2.1+(1:Int)=lo)then Aa (Lo.u8) hi<|Ab (idx es ((↑(FD es):Int)-(1:Int))) λc=>nx (a,es.set (ao ((↑(FD es):Int)-(1:Int))) (c.1,hi,c.2.2),i+1)else gV fu es i nx lo hi n a else gV fu es i nx lo hi n a else gV fu es i nx lo hi n a
noncomputable def zP(fu:Nat)(d a:List Int)(es:List Cm)(i:Nat)(nx:(List Int×List Cm×Nat)->Option (Tb×Int))(lo c hi:Int):Option (Tb×Int):=
 Ab (xZ fu (a,d,c)) λb=>
 bif Dl (b=(↑(FD a):Int))then
  Ag (FD a+1<=Ah)<|
  j20 fu es i nx lo hi b (a++[c])
 else
  j20 fu es i nx lo hi b a
theorem bf{q:Nat}{n:Int}{nx:(List Int×List Cm×Nat)->Option (Tb×Int)}{P:Tb×Int->Prop}
  (hc:Br cs) (hi:i<cs.length) (m:BR es (pos cs i) q) (s:es.length<=256) (h:Ok (nx (d,push es cs[i] (G0 cs i) n,i+1)) P):
  Ok (j20 fu es i nx cs[i] (G0 cs i) n d) P:=by
 have o:=hc.rg _ (AN hi);have g:=hc.hi hi;have a:push es cs[i] (G0 cs i) n=es++[(cs[i],G0 cs i,n)]->Ok (gV fu es i nx cs[i] (G0 cs i) n d) P:=λr=>
  PH (p:=GK.F8 cs[i]) (by omega) (PH (p:=GK.F8 (G0 cs i)) (by omega) (PH (by grind) (by grind)));refine PH (by omega) (N_ (λl=>?_) λl=>a ?_)
 ·have e:0<es.length:=by omega
  have k:((es.length:Int)-1)=((es.length-1:Nat):Int):=by omega
  have b:es.length-1<es.length:=by omega
  have u:=m.rg _ (AN b);have t:=PM hc i;have c:=RA (lo:=cs[i]) (hi:=G0 cs i) (n:=n) e;rw[k];refine Aah b (N_ (λf=>Aah b (PH (by omega) (N_ (λj=>?_) λj=>?_))) λf=>?_);· refine PH (by omega) (Aah b ?_);rw[if_pos ⟨f,j⟩]at c;rw[c]at h;rw[f];exact h
  all_goals grind
 ·obtain rfl:es=[]:=OF.1 (by omega);rfl
noncomputable def wj(fu:Nat)(l:Tb)(cs k:List Int):Option (Tb×Int):=
 Ad fu (
      λ(c:List Int×Tb×Nat) g=>
  bif Dl ((↑c.2.2:Int)<(↑(FD c.1):Int))then
   Ab (idx c.1 (↑c.2.2:Int)) λh=>
   Ab (idx l h) λi=>
   Ad fu (λ(a:List Int×List Cm×Nat) b=>
    bif Dl ((↑a.2.2:Int)<(↑(FD cs):Int))then
     Ab (idx cs (↑a.2.2:Int)) λd=>
     Ab (idx a.1 (↑c.2.2:Int)) λj=>
     Aa (Lo.u8) (d)<|
     Ab (uv fu (l,j,d)) λe=>
     bif Dl (e<(0:Int))then
      b (a.1,a.2.1,a.2.2+1)
     else
      bif Dl ((↑(a.2.2+1):Int)<(↑(FD cs):Int))then
       Ab (idx cs (↑(a.2.2+1):Int)) λf=>
       Aa (Lo.i64) (f-(1:Int))<|
       zP fu k a.1 a.2.1 a.2.2 b d e (f-1)
      else
       zP fu k a.1 a.2.1 a.2.2 b d e 255
    else
     Ag (FD c.2.1+1<=Ah)<|
     g (a.1,c.2.1++[(i.1,a.2.1)],c.2.2+1)) (c.1,[],0)
  else
   Ac (c.2.1,(0:Int))) ([(0:Int)],[],0)
theorem aA(S:Bf l)(htr:Trim l)(h0:0<l.length)(M:live (Av l 0)=Bp)(hc:Br cs)(hf:DN cs l)(hk:W3 l c)(hs:DT l n)(hn:n<4294967296)(hfu:n+2<fu)(hfu':257<fu):
  Ok (wj fu l cs (Bh l.length c)) (λr=>r=(BW l,0)):=by
 have hcl:=hc.le;have hln:=hs.1;refine Xp (X:=List Int×Tb×Nat) (λx=> ∃f F,vg l f x.1/\x.2.2=x.2.1.length/\x.2.1.length<=f.length/\l.length<F+x.2.1.length/\DJ F f x.2.1=BW l) (λx=>l.length+1-x.2.2)
  ⟨[Av l 0],l.length+1,⟨⟨by simp,by grind[Jx],by grind⟩,rfl,λi q hq=>?_⟩,rfl,by simp,by simp,by grind[BW,Et]⟩ (by omega) λx nx hI _ hnx=>?_;· grind
 obtain⟨v,out,k⟩:=x;obtain⟨f,F,g,J,hol,hF,G⟩:=hI;dsimp only at g J hol hF G;subst J;have hkn:f.length<=l.length:=by have:=g.toKnOk.le;grind[Fk]
 have hlen:=g.len;try dsimp only
 refine N_ (λhlt=>?_) λhlt=>MN ?_
 ·have L:out.length<v.length:=by omega
  have p:v[out.length]?=Ac v[out.length]:=GB L;obtain⟨⟨y,z⟩,V⟩:=g.ord out.length _ p;generalize hqe:v[out.length]=q at y z V p;have P:=Bs y z;obtain⟨F,rfl⟩:∃F',F=F'+1:=⟨F-1,by omega⟩;have H:=Aai V;refine BY (by rw[Bk L,hqe]) (Adq y z ?_);rw[<-P];have hro:=λi w=>ES (H7 S) (g.sub _ H) g.toKnOk (pos cs i) w;refine XN (λi o R=>FP v o/\R=(AM (Av l q) f (pos cs i)).2/\R.length<=i/\vg l (AM (Av l q) f (pos cs i)).1 o) cs.length
   (by rw[RE hc];exact⟨.refl _,rfl,by simp,g⟩) (by omega) (λi o R Q w U t=>?_) (λo R Q U=>?_)
  ·obtain⟨j,rfl,I,d⟩:=U;have hpl:=PM hc i;obtain⟨g1,g2,T⟩:=hro i hpl;have Y:=hc.rg _ (AN w);have hpa:=pos_at hc w;have hps:=RF hc w;have hhi:=hc.hi w;have hst:=S.st q cs[i].toNat;have O:=j.get p;have hD:∀b,pos cs i<=b->b<=(G0 cs i).toNat->Iz (Av l q) b=Av l (Bl l q cs[i].toNat):=λb b1 b2=>by
    rw[Jy S hc hf q w (by omega) (by omega) (by omega),Fs _ _ _ (by omega)]
   have u:AM (Av l q) f (pos cs (i+1))=Db (AM (Av l q) f (pos cs i)) (Av l (Bl l q cs[i].toNat)) (pos cs i) (G0 cs i).toNat:=by rw[show pos cs (i+1)=(G0 cs i).toNat+1 by omega];exact HZ _ _ _ _ _ (by omega) hD
   have D:=LF (b:=cs[i].toNat) (i:=q) hs (by omega:n<fu) z;rw[Abe Y.1]at D;have B:=(IT.1 O).1;try dsimp only
   refine P4 (Aah w (BY (by rw[Bk B];exact O▸(GB B).symm) (PH (by omega) (OC D λa W=>?_))));subst W;refine N_ (λA=>t _ _ ?_) λA=>?_
   ·have e:AM (Av l q) f (pos cs (i+1))=AM (Av l q) f (pos cs i):=by rw[u];unfold Db;rw[Hn A];rfl
    rw[e];exact⟨j,rfl,by omega,d⟩
   ·have s:=htr q cs[i].toNat (by omega);have C:AM (Av l q) f (pos cs (i+1))=(IY (AM (Av l q) f (pos cs i)).1 (Av l (Bl l q cs[i].toNat)),push (AM (Av l q) f (pos cs i)).2 cs[i] (G0 cs i) (Ip (AM (Av l q) f (pos cs i)).1 (Av l (Bl l q cs[i].toNat)):Nat)):=by
     rw[u];unfold Db;rw[if_pos s,hpa,Abe (by omega)]
    have K:=g2.le;rw[Fk]at K;have hlen':=d.len;have hpush:=RB (AM (Av l q) f (pos cs i)).2 cs[i] (G0 cs i) (Ip (AM (Av l q) f (pos cs i)).1 (Av l (Bl l q cs[i].toNat)):Nat);have h:Ok (zP fu (Bh l.length c) o (AM (Av l q) f (pos cs i)).2 i Q cs[i] (Bl l q cs[i].toNat) (G0 cs i)) (λr=>r=(BW l,0)):=by
     unfold zP;refine OC (PT hk d (by omega) (by omega) (by omega)) λa W=>?_;subst W;have Z:=bh (AM (Av l q) f (pos cs i)).1 (Av l (Bl l q cs[i].toNat));refine N_ (λhe=>?_) λhe=>?_
     ·have hnm:Av l (Bl l q cs[i].toNat)∉(AM (Av l q) f (pos cs i)).1:=λN=>by have:=JC N;omega
      refine PH (by unfold Ah;omega) (bf hc w T.1 (by omega) (t _ _ ?_));rw[C];exact⟨j.trans ⟨_,rf⟩,rf,by omega,d.put (by omega) (by omega) s hnm⟩
     ·have N:Av l (Bl l q cs[i].toNat)∈(AM (Av l q) f (pos cs i)).1:=IS λN=>by have:=GD N;omega
      refine bf hc w T.1 (by omega) (t _ _ ?_);rw[C,GC N];exact⟨j,rf,by omega,d⟩
    refine N_ (λh1=>?_) λh1=>?_
    ·have E:i+1<cs.length:=by omega
     have hr2:=hc.rg _ (AN E);refine Aah E (PH (by unfold GK.DW;omega) ?_);rw[E0 E]at h;exact h
    ·rw[Ht (by omega)]at h;exact h
  ·obtain⟨j,rfl,I,d⟩:=U;rw[VJ]at d⊢;obtain⟨g1,g2,T⟩:=ES (H7 S) (g.sub _ H) g.toKnOk 256 (Aae _);have:=g1.len;try dsimp only
   refine P5 (PH (by(try simp)<;>(unfold Ah;omega)) (hnx _ ⟨(AM (Av l q) f 256).1,F,d,by simp,by simp;omega,by simp;omega,?_⟩ ?_))
   ·rw[<-G];dsimp only;conv=>rhs;unfold DJ
    rw[V];dsimp only;have:Av l q []=(Be l q).1:=by simp[Av,runT,fin,y]
    rw[this]
   ·dsimp only;omega
 ·have hno:f[out.length]?=C7:=Aco (by omega);rw[<-G];cases F with
  |zero=>rfl
  |succ F=>unfold DJ;rw[hno]
theorem N'(h:Bf l):Trim (DS l):=λq b c=>by have:Av (DS l) (Bl (DS l) q b)=Av l (Bl (DS l) q b):=funext λw=>Ps h w _;grind[Oa]
theorem K_(C:N3 l)(v:DT l n)(f:n<4294967296)(k:n+2<fu)(e:257<fu):
  Ok (vp fu l) (λr=>(Bf l->r=(BW l,0))/\(¬Bf l->r=([],11))):=by
 rw[vp];refine OC (Ea C v (by omega) f) λx g=>P0 (λh=>MN ?_) λh=>?_
 ·grind
 ·have d:Bf l:=g.1 (by grind);refine N_ (λh=>MN ⟨λ_=>?_,λa=>absurd d a⟩) λh=>?_;· obtain rfl:l=[]:=OF.1 (by omega);grind[live,Av,BW,Et,CY,Ed]
  ·refine Ok.mono (P:=λr=>r=(BW l,0)) ?_ λr E=>⟨λ_=>E,λa=>absurd d a⟩;refine OC (Pg d v f (by omega)) λx g=>?_;subst g;have o:0<l.length:=by omega
   refine BY (AW (i:=0) o) (P0 (λj=>MN ?_) λj=>?_)
   ·simp_all[live,Av,BW,Et]
   ·have u:live (Av l 0)=Bp:=by cases t:live (Av l 0)<;>simp[t]at j⊢
    refine OC (Rw d o v f (by omega)) λm D=>?_;obtain⟨p,F,z,G⟩:=D;refine OC (Q9 p z f (by omega)) λx g=>?_;subst g;have s:=fr p;have y:=fv z;have B:Av (DS m) 0=Av l 0:=by rw[<-F];exact funext λw=>Ps p w 0
    have A:0<(DS m).length:=by rw[Ma];exact G
    rw[TV];refine OC (cp s y (by omega) (by omega)) λH b=>OC (S6 s (N' p) A b.1 b.2 y f k e) λc hc=>?_;obtain⟨c,hc,rfl⟩:=hc;rw[<-I1 s d B];exact aA s (N' p) A (by rw[B];exact u) b.1 b.2 hc y f k e
theorem Kb(f:N3 l)(d:DT l n)(g:n<4294967296)(c:n+2<fu)(a:257<fu):
  Ok (xY fu l) (λr=>r=Bp↔Bf l/\BW l=l):=by
 refine OC (K_ f d g c a) λx e=>?_;by_cases b:Bf l;· rw[e.1 b];refine TT rf (OC (ZI d (by omega)) λr i=>MN ?_);grind
 simp_all[absurd,Qd,MN]
end
section
variable {σ : Type} {acc : σ -> Bool} {Pz : σ -> Nat -> σ}
section
variable{a:List σ}{T:Tb}
def sC(acc:σ->Bool)(Pz:σ->Nat->σ)(s:σ):Lg:=λw=>acc (w.foldl (λs c=>Pz s c.toNat) s)
structure U3(acc:σ->Bool)(Pz:σ->Nat->σ)(ord:List σ)(s:σ)(r:TL):Prop where
 acc:r.1=acc s
 ed:BR r.2 256 ord.length
 to:∀c,c<256->∃i:Nat,AQ r.2 c=i/\ord[i]?=Ac (Pz s c)
theorem U3.ext{more:List σ}{s:σ}{r:TL}(h:U3 acc Pz a s r):U3 acc Pz (a++more) s r:=by refine⟨h.acc,h.ed.mono (Aae _) (by simp),λc hc=>?_⟩;obtain⟨i,d,b⟩:=h.to c hc;grind
structure Yt(acc:σ->Bool)(Pz:σ->Nat->σ)(ord:List σ)(T:Tb):Prop where
 len:T.length=ord.length
 row:∀(k:Nat) (s:σ) (r:TL),ord[k]?=Ac s->T[k]?=Ac r->U3 acc Pz ord s r
theorem Yt.wf(h:Yt acc Pz a T):Bf T:=λr b=>by obtain⟨k,d,rfl⟩:=Aat b;have:=(h.row k (a[k]'(by have:=h.len;omega)) T[k] (GB _) (GB _)).ed;rwa [h.len]
theorem Yt.lg{d:List σ}{T:Tb}(h:Yt acc Pz d T):∀(w:List UInt8) (k:Nat) (s:σ),d[k]?=Ac s->Av T (k:Int) w=sC acc Pz s w
 | [],k,s,b=>by
  have e:=(IT.1 b).1;have a:k<T.length:=by have:=h.len;omega
  have r:=h.row k s T[k] b (GB a);show fin T (k:Int)=acc s;rw[Ef (by omega) (by omega)];exact r.acc
 |c::w,k,s,b=>by
  have e:=(IT.1 b).1;have a:k<T.length:=by have:=h.len;omega
  have r:=h.row k s T[k] b (GB a);have hc:c.toNat<256:=c.toNat_lt;obtain⟨i,f,g⟩:=r.to c.toNat hc;show fin T (runT T (k:Int) (c::w))=sC acc Pz (Pz s c.toNat) w;rw[HY];have:Bl T (k:Int) c.toNat=(i:Int):=by simp_all[Bl,if_neg,Bs]
  rw[this];exact Yt.lg h w i _ g
end
end
section
variable{es:List Cm}
theorem Mj{b:Nat}(h0:0<b)(h1:∀e∈es,e.1≠(b:Int))(h2:∀e∈es,e.2.1+1≠(b:Int)):AQ es b=AQ es (b-1):=by
 have:es.find? (BN b)=es.find? (BN (b-1)):=by
  induction es with
  |nil=>rfl
  |cons e es c=>
   grind[BN]
 grind[AQ]
theorem G9{es:List Cm}{lo:Nat} :∀(n:Nat),(∀b,lo<b->b<=lo+n->∀e∈es,e.1≠(b:Int)/\e.2.1+1≠(b:Int))->AQ es (lo+n)=AQ es lo
 |0,_=>rfl
 |n+1,h=>by rw[Mj (by omega) (λe a=>(h _ (by omega) (Aae _) e a).1) (λe a=>(h _ (by omega) (Aae _) e a).2)];exact G9 n λb c d=>h b c (by omega)
end
section
variable {σ : Type} [BEq σ] [LawfulBEq σ]
section
variable{f:Nat->σ}{a:List σ}{es:List Cm}{c:Nat}
structure FB(f:Nat->σ)(ord:List σ)(es:List Cm)(c:Nat):Prop where
 ed:BR es c ord.length
 to:∀b,b<c->f b∈ord/\AQ es b=((ord.idxOf (f b):Nat):Int)
 last:0<c->∃es' lo q,es=es'++[(lo,(c:Int)-1,q)]
theorem FB.zero:FB f a [] 0:=⟨.nil,λb h=>by omega,λh=>by omega⟩
theorem Jf{es:List Cm}{c n:Nat}(h:BR es c n){x:Cm}{b:Nat}(d:b<c)(a:BN b x=Aj):AQ (es++[x]) b=AQ es b:=by grind[AQ,BN]
theorem ED{es:List Cm}{c n:Nat}(h:BR es c n){x:Cm}{b:Nat}(f:c<=b)(d:BN b x=Bp):AQ (es++[x]) b=x.2.2:=by
 unfold AQ;have:es.find? (BN b)=C7:=Adl.2 λe a=>by have:=h.rg e a;grind[BN]
 grind
theorem FB.new{more:List σ}{e:Nat}(h:FB f a es c)(j:f c∈a++more)(o:c<e)(p:∀b,c<=b->b<e->f b=f c):
  FB f (a++more) (es++[((c:Int),(e:Int)-1,(((a++more).idxOf (f c):Nat):Int))]) e:=by
 refine⟨⟨λx d=>?_,Abc.2 ⟨h.ed.so,by simp,λx d y k=>?_⟩⟩,λb n=>?_,λ_=>⟨es,_,_,rf⟩⟩
 ·rcases AS.1 d with d|d;· have:=h.ed.rg x d;grind
  grind
 ·have:=h.ed.rg x d;grind
 ·rcases Aan b c with g|g;· obtain⟨l,q⟩:=h.to b g;refine⟨by grind,?_⟩;rw[Jf h.ed g (by unfold BN;simp;omega),q,Afd,if_pos l]
  ·have m:=p b g n;rw[m];refine⟨j,?_⟩;rw[ED h.ed g (by unfold BN;simp;omega)]
theorem FB.more{i:List σ}{lo q:Int}(h:FB f i (es++[(lo,(c:Int)-1,q)]) c)(h0:0<c)(m:f c=f (c-1)):FB f i (es++[(lo,(c:Int),q)]) (c+1):=by
 have n:=h.ed.rg (lo,(c:Int)-1,q) (by simp);have d:BR es c i.length:=⟨λx a=>h.ed.rg x (by grind),(Abc.1 h.ed.so).1⟩;have j:∀x∈es,x.2.1<lo:=λx a=>(Abc.1 h.ed.so).2.2 x a (lo,(c:Int)-1,q) (by simp);have e:BR es lo.toNat i.length:=⟨λx a=>by have:=h.ed.rg x (by grind);grind,d.so⟩;have g:=h.to (c-1) (by omega);rw[ED e (by omega) (by grind[BN])]at g;refine⟨⟨λx a=>?_,Abc.2 ⟨d.so,by simp,λx a y l=>?_⟩⟩,λb s=>?_,λ_=>⟨es,lo,q,by simp⟩⟩
 ·rcases AS.1 a with a|a;· have:=d.rg x a;omega
  grind
 ·grind
 ·rcases Aan b c with k|k
  ·obtain⟨o,p⟩:=h.to b k;grind[BN,ED,Jf]
  ·obtain rfl:b=c:=by omega
   rw[m,ED e (by omega) (by unfold BN;simp;omega)];exact⟨g.1,g.2⟩
theorem FB.row{acc:σ->Bool}{Pz:σ->Nat->σ}{s:σ}(h:FB (Pz s) a es 256):U3 acc Pz a s (acc s,es):=
 ⟨rfl,h.ed,λc hc=>by obtain⟨d,e⟩:=h.to c hc;grind⟩
end
end
section
variable{fu n:Nat}{l a b:Tb}{m:Nat}{L:Lg}{r:Tb}{i:Int}{x:Int×Int}{f:Bool->Bool->Bool}{k c:Nat}{out:Tb}{is:Bool->Bool->Option Bool}{z:Int}{d:List (Int×Int)}{es:List Cm}{w:Aq}
def jy(f:Bool->Bool->Bool)(a b:Tb)(p:Int×Int):Bool:=f (fin a p.1) (fin b p.2)
def CV(a b:Tb)(p:Int×Int)(c:Nat):Int×Int:=(Bl a p.1 c,Bl b p.2 c)
theorem Ph(f:Bool->Bool->Bool)(a b:Tb):∀(w:List UInt8) (p:Int×Int),sC (jy f a b) (CV a b) p w=f (Av a p.1 w) (Av b p.2 w)
 | [],p=>rfl
 |c::w,p=>Ph f a b w (CV a b p c.toNat)
open Classical in
noncomputable def Da(l:Tb):Tb:=if Bf l/\BW l=l then l else []
theorem Hu(l:Tb):Bf (Da l):=by grind[Da,Bf]
theorem Kw(l:Tb):(Da l).length<=l.length:=by grind[Da]
theorem Hv(h:DT l n):DT (Da l) n:=by
 unfold Da;split;· omega
 ·exact⟨by simp,by simp⟩
theorem So(h:Bf l)(k:BW l=l):Da l=l:=by grind[Da]
theorem Nh:BW ([]:Tb)=[]:=by grind[live,Av,BW,Et,CY,Ed]
theorem XT(l:Tb):BW (Da l)=Da l:=by grind[Da,Nh]
theorem Ge(d:N3 l)(f:DT l n)(e:n<4294967296)(a:n+2<fu)(b:257<fu):Q0 fu l=Ac (Da l):=by refine(Ok.eq ?_);refine OC (L8 d f e a (by omega)) λx c=>P0 (λh=>MN ?_) λh=>MN ?_;all_goals grind[Da]
theorem M0(d:N3 l)(f:DT l n)(e:n<4294967296)(b:n+2<fu)(a:257<fu):xX fu l=Ac (Da l):=by refine(Ok.eq ?_);refine OC (Kb d f e b a) λx c=>P0 (λh=>MN ?_) λh=>MN ?_;all_goals grind[Da]
theorem Hc{l:Tb}{i:Int}(h:(l.length:Int)<=i):Be l i=(Aj,[]):=by grind[Be]
theorem Vv{l:Tb}{i:Int}(b:Nat)(h:(l.length:Int)<=i):Bl l i b= -1:=by unfold Bl;rw[if_neg (by omega),Hc h];rfl
theorem Qm{l:Tb}{i:Int}(h:(l.length:Int)<=i):fin l i=Aj:=by grind[fin,Hc]
theorem fin_neg{l:Tb}{i:Int}(h:i<0):fin l i=Aj:=by grind[fin]
theorem WU:N2 fu (l,i)=Ac (fin l i):=by refine(Ok.eq ?_);refine N_ (λh=>N_ (λk=>Adq h k (MN (Ef h k).symm)) λk=>MN (Qm (by omega)).symm) λh=>MN (fin_neg (by omega)).symm
theorem Rg{b:Nat}(v:DT l n)(w:n<fu):N0 fu (l,i,(b:Int))=Ac (Bl l i b):=by
 refine(Ok.eq ?_);refine N_ (λh=>MN (Jg _ h).symm) λh=>N_ (λk=>MN (Vv _ k).symm) λk=>Adq (by omega) (by omega) ?_;have u:=Bs (l:=l) (i:=i) (by omega) (by omega);have p:Bl l i b=AQ (l[i.toNat]'(by omega)).2 b:=by grind[Bl]
 rw[p];have o:=v.2 _ (AN (by omega:i.toNat<l.length));generalize l[i.toNat]'(by omega)=s at o;refine VD (λk=> ∀j (_:j<k) (q:j<s.2.length),BN b s.2[j]=Aj) s.2.length (by omega) (by omega) (λk nx r e t=>?_) (λnx e=>?_)
 ·have d:BN b s.2[k]=Aj->∀j (_:j<k+1) (q:j<s.2.length),BN b s.2[j]=Aj:=λh j q m=>by
   grind
  refine P4 (Aah r (N_ (λc=>N_ (λg=>MN ?_) λg=>t (d ?_)) λc=>t (d ?_)));· grind[BN,G_]
  all_goals grind[BN]
 simp_all[P5,MN,Gt]
def J7(es:List Cm)(b:Nat):Prop:= ∃e∈es,e.1=(b:Int)\/e.2.1+1=(b:Int)
def CU(l:Tb)(i:Int):List Cm:=if i<0 then []else(Be l i).2
theorem HV(l:Tb)(i:Int)(b:Nat):Bl l i b=AQ (CU l i) b:=by unfold Bl CU;split<;>rfl
theorem fP(h:Bf l)(i:Int):BR (CU l i) 256 l.length:=by
 unfold CU;split;· exact .nil
 ·rcases Ael i l.length with a|a;· rw[Bs (by omega) a];exact h _ (AN _)
  ·rw[Hc a];exact .nil
theorem Wq{p:Nat->Bool}(D:Bf l)(C:DT l n)(E:n<fu):
  Ok (N1 fu (l,i,Bh 256 p)) λr=> ∃q,r=Bh 256 q/\∀b,b<256->(q b=Bp↔p b=Bp\/J7 (CU l i) b):=by
 have C7:CU l i=[]->∃q,Bh 256 p=Bh 256 q/\∀b,b<256->(q b=Bp↔p b=Bp\/J7 (CU l i) b):=λh=>⟨p,rfl,λb _=>by grind[J7]⟩;refine N_ (λh=>MN (C7 (by grind[CU]))) λh=>N_ (λk=>MN (C7 (by simp_all[CU,if_neg,Hc]))) λk=>Adq (by omega) (by omega) ?_;have B:CU l i=(l[i.toNat]'(by omega)).2:=by unfold CU;rw[if_neg h,Bs (by omega) (by omega)]
 have o:=fP D i;have w:=C.2 _ (AN (by omega:i.toNat<l.length));rw[B]at o⊢;generalize l[i.toNat]'(by omega)=s at o w;refine Sw (λj x=> ∃q,x=Bh 256 q/\∀b,b<256->(q b=Bp↔p b=Bp\/J7 (s.2.take j) b)) s.2.length ⟨p,rfl,λb _=>by simp[J7]⟩ (by omega) (λj x nx v t z=>?_) (λx nx t=>?_)
 ·obtain⟨
      q,rfl,d⟩:=t;have F:=o.rg _ (AN v);have y:∀b,J7 (s.2.take (j+1)) b↔J7 (s.2.take j) b\/s.2[j].1=(b:Int)\/s.2[j].2.1+1=(b:Int):=λb=>by
   unfold J7;simp only[Af v];simp
  refine P4 (Aah v ?_);dsimp only;rw[Abl,Acz,Abl,Acz];refine Abw (Abw (N_ (λA=>PH (p:=GK.F8 (s.2[j].2.1+1)) (by omega) (Abw (PH (by omega) ?_))) λA=>?_))
  ·rw[A',A'];refine z _ ⟨_,rfl,λb u=>?_⟩;rw[y];by_cases m:b=(s.2[j].2.1+1).toNat;· simp only[m,if_true,true_iff];exact .inr (.inr (.inr (by omega)))
   ·by_cases c:b=s.2[j].1.toNat;· simp only[m,if_false];simp only[c,if_true,true_iff];exact .inr (.inr (.inl (by omega)))
    ·simp only[m,c,if_false,d b u];constructor
     ·rintro(h|h);· exact .inl h
      ·exact .inr (.inl h)
     ·rintro(h|h|h|h);· exact .inl h
      ·exact .inr h
      ·omega
      ·omega
  ·rw[A'];refine z _ ⟨_,rfl,λb u=>?_⟩;rw[y];by_cases c:b=s.2[j].1.toNat;· simp only[c,if_true,true_iff];exact .inr (.inr (.inl (by omega)))
   ·simp only[c,if_false,d b u];constructor
    ·rintro(h|h);· exact .inl h
     ·exact .inr (.inl h)
    ·rintro(h|h|h|h);· exact .inl h
     ·exact .inr h
     ·omega
     ·omega
 ·obtain⟨q,rfl,d⟩:=t;rw[Al]at d;exact P5 (MN ⟨q,rfl,d⟩)
theorem RG{a:List (Int×Int)}{b:Nat->(Nat->Option Int)->Option Int}(p:a.length<fu)(n:∀k nx,k<a.length->b k nx=(bif Dl (x=a.getD k (0,0))then Ac (k:Int)else nx (k+1)))(o:∀nx,b a.length nx=Ac (-1)):
  Ad fu b 0=Ac (if x∈a then((a.idxOf x:Nat):Int)else-1):=by
 refine Ok.eq (VD (λk=> ∀j (_:j<k) (h:j<a.length),a[j]≠x) a.length (by omega) p (λk nx d c q=>?_) (λnx c=>?_))
 ·rw[n k nx d];have e:a.getD k (0,0)=a[k]:=by grind
  rw[e];refine N_ (λh=>MN ?_) λh=>q λj f l=>?_;· have g:x∈a:=h▸AN d;rw[if_pos g,Sk c d h.symm]
  grind
 grind[MN]
theorem Xv{a:List (Int×Int)}(d:a.length<fu):uI fu (a,x)=Ac (if x∈a then((a.idxOf x:Nat):Int)else-1):=by
 refine RG d (λk nx b=>?_) (λnx=>?_)
 all_goals grind[decide,Ab,idx]
theorem Xu{a:List (Int×Int)}(d:a.length<fu):F28 fu (a,x)=Ac (if x∈a then((a.idxOf x:Nat):Int)else-1):=by
 refine RG d (λk nx b=>?_) (λnx=>?_)
 all_goals grind[decide,Ab,idx]
def EU(a:List (Int×Int))(x:Int×Int):List (Int×Int):=if x∈a then a else a++[x]
theorem MB(a:List (Int×Int))(x:Int×Int):∃more,EU a x=a++more:=by unfold EU;split;all_goals simp
theorem Ry(a:List (Int×Int))(x:Int×Int):x∈EU a x:=by grind[EU]
theorem fX{c:List (Int×Int)}(h:c.Nodup):(EU c x).Nodup:=by grind[EU]
theorem PJ(a:List (Int×Int))(x:Int×Int):(EU a x).idxOf x=if x∈a then a.idxOf x else a.length:=by grind[EU]
theorem rD:4294967296<=Ah:=by decide
theorem gw{a:List (Int×Int)}(d:a.length<fu)(e:a.length<4294967295):YT fu (x,a)=Ac ((((EU a x).idxOf x:Nat):Int),EU a x):=by
 refine(Ok.eq ?_);have c:=rD;refine BY (Xv d) ?_;by_cases h:x∈a;· simp_all[EU,if_pos,P5,MN,PJ]
 ·rw[if_neg h];refine P4 (Abw (MN ?_));grind[EU]
structure CD(r:Tb)(L:Lg)(m:Nat):Prop where
 wf:Bf r
 can:BW r=r
 lg:Av r 0=L
 len:r.length<=m
theorem CD.of{T:Tb}(a:Bf T)(b:Av T 0=L)(c:T.length<=m):CD (BW T) L m:=⟨WE a,Yi a,(WG a).trans b,Aao (i_ a) c⟩
theorem CD.unique{s:Tb}(h:CD r L m)(k:CD s L n):r=s:=by rw[<-h.can,<-k.can];exact I1 h.wf k.wf (h.lg.trans k.lg.symm)
theorem CD.mono(h:CD r L m)(k:m<=n):CD r L n:=⟨h.wf,h.can,h.lg,Aao h.len k⟩
theorem CD.JI(h:CD r L m):Da r=r:=So h.wf h.can
theorem CD.congr{M:Lg}(h:CD r L m)(k:L=M):CD r M m:=k▸h
theorem MZ(l:Tb):CD (Da l) (Av (Da l) 0) l.length:=⟨Hu l,XT l,rfl,Kw l⟩
theorem CD.nil:CD [] (λ_=>Aj) m:=⟨by simp[Bf],Nh,funext λw=>Ed 0 w,by simp⟩
def Y4(a b:Tb)(p:Int×Int):Prop:=(-1<=p.1/\p.1<=a.length)/\ -1<=p.2/\p.2<=b.length
def GW(a b:Tb):Nat:=(a.length+2)*(b.length+2)
theorem Hk{c:List (Int×Int)}(f:c.Nodup)(h:∀p∈c,Y4 a b p):c.length<=GW a b:=by
 have key:∀(n m:Nat),((aT n).flatMap λ(i:Nat)=>(aT m).map λ(j:Nat)=>(((i:Int)-1,(j:Int)-1):Int×Int)).length=n*m:=λn m=>by
  induction n with
  |zero=>simp
  |succ n k=>simp_all[Aem,Acp,Aac,Aea]
 rw[GW,<-key];refine Ch f λp g=>?_;obtain⟨⟨l,o⟩,q,r⟩:=h p g;refine Aad.2 ⟨(p.1+1).toNat,Abg.2 (by omega),By.2 ⟨(p.2+1).toNat,Abg.2 (by omega),?_⟩⟩;grind
theorem Y4.step(d:Bf a)(e:Bf b)(p:Int×Int)(c:Nat):Y4 a b (CV a b p c):=by have:=d.st p.1 c;have:=e.st p.2 c;grind[Y4,CV]
structure GS(f:Bool->Bool->Bool)(a b:Tb)(p0:Int×Int)(ord:List (Int×Int))(out:Tb):Prop where
 zero:ord[0]?=Ac p0
 nd:ord.Nodup
 ni:∀p∈ord,Y4 a b p
 le:out.length<=ord.length
 row:∀(k:Nat) (s:Int×Int) (r:TL),ord[k]?=Ac s->out[k]?=Ac r->U3 (jy f a b) (CV a b) ord s r
theorem GS.put{l:Int×Int}(h:GS f a b l d out)(m:Y4 a b x):GS f a b l (EU d x) out:=by
 obtain⟨j,e⟩:=MB d x;refine⟨?_,fX h.nd,λp c=>?_,?_,λk s r g i=>?_⟩;· have:=(IT.1 h.zero).1;rw[e,Pe this];exact h.zero
 ·unfold EU at c;split at c;· exact h.ni p c
  ·rcases AS.1 c with c|c;· exact h.ni p c
   grind
 ·have:=h.le;grind
 ·have n:=(IT.1 i).1;have:=h.le;rw[e,Pe (by omega)]at g;rw[e];exact(h.row k s r g i).ext
theorem GS.add{l s:Int×Int}{r:TL}(h:GS f a b l d out)(j:d[out.length]?=Ac s)(m:U3 (jy f a b) (CV a b) d s r):GS f a b l d (out++[r]):=by
 refine⟨h.zero,h.nd,h.ni,by grind,λk o n e c=>?_⟩;by_cases i:k<out.length;· rw[Pe i]at c;exact h.row k o n e c
 grind
theorem GS.done{e:Int×Int}{c:List (Int×Int)}(h:GS f a b e c out)(i:¬out.length<c.length):Bf out/\Av out 0=(λw=>f (Av a e.1 w) (Av b e.2 w))/\out.length<=GW a b:=by
 have d:out.length=c.length:=by have:=h.le;omega
 have g:Yt (jy f a b) (CV a b) c out:=⟨d,h.row⟩;refine⟨g.wf,funext λw=>?_,by rw[d];exact Hk h.nd h.ni⟩;have:=g.lg w 0 e h.zero;grind[Ph]
noncomputable def l9(fu:Nat)(is:Bool->Bool->Option Bool)(i o:Tb):Option Tb:=
 Ad fu (
      λ(c:List (Int×Int)×List (Bool×List (Int×Int×Int))×Nat) h=>
  bif Dl ((↑c.2.2:Int)<(↑(FD c.1):Int))then
   Ab (idx c.1 (↑c.2.2:Int)) λe=>
   Ab (N2 fu (i,e.1)) λp=>
   Ab (N2 fu (o,e.2)) λq=>
   Ab (is p q) λr=>
   Ab (N1 fu (i,e.1,(lj (T8 256 Aj) 0 Bp))) λs=>
   Ab (N1 fu (o,e.2,s)) λj=>
   Ad fu (λ(a:List (Int×Int)×List (Int×Int×Int)×Int) d=>
    bif Dl (a.2.2<(256:Int))then
     Ag ((0:Int)<=a.2.2/\a.2.2<(↑256:Int))<|
     Ab (idx j (↑(0+ao a.2.2*1):Int)) λk=>
     bif k then
      Aa (Lo.u8) (a.2.2)<|
      Aa (Lo.u8) (a.2.2)<|
      Ab (N0 fu (i,e.1,a.2.2)) λl=>
      Aa (Lo.u8) (a.2.2)<|
      Ab (N0 fu (o,e.2,a.2.2)) λm=>
      Ab (YT fu ((l,m),a.1)) λb=>
      Ag (FD a.2.1+1<=Ah)<|
      Aa (Lo.i64) ((↑(FD (a.2.1++[(a.2.2,(0:Int),b.1)])):Int)-(1:Int))<|
      Aa (Lo.u8) (a.2.2)<|
      Ab (idx (a.2.1++[(a.2.2,(0:Int),b.1)]) ((↑(FD (a.2.1++[(a.2.2,(0:Int),b.1)])):Int)-(1:Int))) λf=>
      Aa (Lo.i64) (a.2.2+(1:Int))<|
      d ((b.2,((a.2.1++[(a.2.2,(0:Int),b.1)]).set (ao ((↑(FD (a.2.1++[(a.2.2,(0:Int),b.1)])):Int)-(1:Int))) (f.1,a.2.2,f.2.2)),(a.2.2+(1:Int))))
     else
      Aa (Lo.i64) ((↑(FD a.2.1):Int)-(1:Int))<|
      Aa (Lo.u8) (a.2.2)<|
      Ab (idx a.2.1 ((↑(FD a.2.1):Int)-(1:Int))) λg=>
      Aa (Lo.i64) (a.2.2+(1:Int))<|
      d ((a.1,(a.2.1.set (ao ((↑(FD a.2.1):Int)-(1:Int))) (g.1,a.2.2,g.2.2)),(a.2.2+(1:Int))))
    else
     Ag (FD c.2.1+1<=Ah)<|
     h ((a.1,(c.2.1++[(r,a.2.1)]),c.2.2+1))) ((c.1,[],(0:Int)))
  else
   Ab (nY fu c.2.1) λn=>
   Ac (n.1)) (([((0:Int),(0:Int))],[],0))
theorem ZZ(Z:∀x y,is x y=Ac (f x y))(ha:Bf a)(hb:Bf b)(sa:DT a n)(sb:DT b n)(hM:GW a b<=4000000000)(hn:n<4294967296)(hf:n+2<fu)(bz:300<fu)(zT:GW a b+2<fu):
  Ok (l9 fu is a b) λr=>CD r (λw=>f (Av a 0 w) (Av b 0 w)) (GW a b):=by
 refine Xp (X:=List (Int×Int)×Tb×Nat) (λx=>GS f a b (0,0) x.1 x.2.1/\x.2.2=x.2.1.length) (λx=>GW a b+1-x.2.2)
  ⟨⟨rfl,by simp,λp hp=>by grind[Y4],by simp,λk s r _ hr=>by grind⟩,rfl⟩ (by omega) λx nx H _ hnx=>?_;obtain⟨g,out,k⟩:=x;obtain⟨H,hk⟩:=H;dsimp only at H hk;subst hk;have hol:=Hk H.nd H.ni;refine N_ (λd=>?_) λd=>?_
 ·have d:(out.length:Int)<g.length:=d;have d:out.length<g.length:=by omega
  have D:g[out.length]?=Ac g[out.length]:=GB d;refine Aah d ?_;generalize hs:g[out.length]=s at D;refine BY WU (BY WU (BY (Z _ _) ?_));rw[DA,A'];refine OC (Wq ha sa (by omega)) λr9 h9=>?_;obtain⟨q9,rfl,hq9⟩:=h9;refine OC (Wq hb sb (by omega)) λr10 Q=>?_;obtain⟨q,rfl,hq⟩:=Q;refine Xp (X:=List (Int×Int)×List Cm×Int) (λx=>GS f a b (0,0) x.1 out/\(∃more,x.1=g++more)/\(0<=x.2.2/\x.2.2<=256)/\FB (CV a b s) x.1 x.2.1 x.2.2.toNat) (λx=>256-x.2.2.toNat)
   ⟨H,⟨[],by simp⟩,⟨by simp,by simp⟩,FB.zero⟩ (by omega) λx nx2 hJ _ j=>?_;obtain⟨o,J,ci⟩:=x;obtain⟨t,⟨more,A⟩,⟨S,T⟩,G⟩:=hJ;dsimp only at t A S T G j;obtain⟨c,rfl⟩:∃c:Nat,ci=c:=⟨ci.toNat,by omega⟩;rw[Ace]at G j;have hoM:=Hk t.nd t.ni;have V:J.length<=256:=by have:=G.ed.len;omega
  refine N_ (λhc=>?_) λhc=>?_
  ·have hc:(c:Int)<256:=hc;have hc:c<256:=by omega
   dsimp only;rw[Ace,Abl,Acz];have v:GK.F8 (c:Int):=by omega
   have I:Y4 a b (CV a b s c):=Y4.step ha hb s c;refine Abw (BY (AW hc) (P0 (λh=>?_) λh=>?_))
   ·have R:=t.put I;refine PH (p:=GK.F8 (c:Int)) v (PH (p:=GK.F8 (c:Int)) v (BY (Rg sa (by omega)) (PH (p:=GK.F8 (c:Int)) v (BY (Rg sb (by omega)) (BY (gw (x:=CV a b s c) (by omega) (by omega)) ?_)))));have M:((J++[((c:Int),(0:Int),(((EU o (CV a b s c)).idxOf (CV a b s c):Nat):Int))]).length:Int)-1=(J.length:Nat):=by simp
    have N:idx (J++[((c:Int),(0:Int),(((EU o (CV a b s c)).idxOf (CV a b s c):Nat):Int))]) ((J.length:Nat):Int)=Ac ((c:Int),(0:Int),(((EU o (CV a b s c)).idxOf (CV a b s c):Nat):Int)):=by rw[Bk (by simp)];simp
    rw[M];refine PH (by unfold Ah;omega) (Aap (PH (p:=GK.F8 (c:Int)) v (BY N (Abx (by omega) ?_))));rw[Ace,Acy _ _ (by omega),Air,Ahy];obtain⟨m2,O⟩:=MB o (CV a b s c);have E:=G.new (more:=m2) (e:=c+1) (O▸Ry o (CV a b s c)) (by omega) (λb' C h2=>by rw[show b'=c by omega]);rw[<-O,show(((c+1:Nat):Int)-1)=(c:Int) by omega]at E;exact j (_,_,(c:Int)+1) ⟨R,⟨more++m2,by rw[O,A];simp⟩,⟨by dsimp only;omega,by dsimp only;omega⟩,by exact E⟩ (by dsimp only;omega)
   ·have B:¬(q c=Bp):=by rw[h];decide
    rw[hq c hc,hq9 c hc]at B;have P:0<c:=by
     rcases Afu c with e|e;· subst e;exact absurd (.inl (.inl rfl)) B
     ·exact e
    obtain⟨z,lo,qq,rfl⟩:=G.last P;have F:∀ {l:Tb} {i:Int},¬J7 (CU l i) c->Bl l i c=Bl l i (c-1):=λ{l i} K=>by rw[HV,HV];exact Mj P (λe U C=>K ⟨e,U, .inl C⟩) (λe U C=>K ⟨e,U, .inr C⟩)
    have W:CV a b s c=CV a b s (c-1):=Acu (F λC=>B (.inl (.inr C))) (F λC=>B (.inr C));have M:((z++[(lo,(c:Int)-1,qq)]).length:Int)-1=(z.length:Nat):=by simp
    have N:idx (z++[(lo,(c:Int)-1,qq)]) ((z.length:Nat):Int)=Ac (lo,(c:Int)-1,qq):=by rw[Bk (by simp)];simp
    rw[M];refine Aap (PH (p:=GK.F8 (c:Int)) v (BY N (Abx (by omega) ?_)));rw[Ace,Acy _ _ (by omega),Air,Ahy];exact j (_,_,(c:Int)+1) ⟨t,⟨more,A⟩,⟨by dsimp only;omega,by dsimp only;omega⟩,by rw[show((c:Int)+1).toNat=c+1 by omega];exact G.more P W⟩ (by dsimp only;omega)
  ·have hc:¬(c:Int)<256:=hc;obtain rfl:c=256:=by omega
   have Y:o[out.length]?=Ac s:=by rw[A,Pe d];exact D
   refine PH (by dsimp only;unfold Ah;omega) (hnx (_,_,out.length+1) ⟨t.add Y G.row,by simp⟩ (by dsimp only;omega))
 ·have d:¬(out.length:Int)<g.length:=d;obtain⟨L,t2,t3⟩:=H.done (by omega);have hsh:DT out (max (GW a b) 256):=L.sh (by omega) (by omega);refine OC (MI L.by hsh (by omega) (by omega) (by omega)) λr hr=>MN ?_;rw[hr.1 L];exact CD.of L t2 t3
def DZ(l:Tb):Int:=if l.length=0 then-1 else 0
theorem Oh:xW fu l=Ac (DZ l):=by grind[xW,DZ]
theorem Og(l:Tb):Av l (DZ l)=Av l 0:=by
 unfold DZ;split;· rename_i h;grind[Ee,Ed]
 rfl
theorem Ki(l:Tb): -1<=DZ l/\DZ l<l.length:=by grind[DZ]
theorem WT(h:i<l.length):vo fu (l,i)=Ac (fin l i):=by refine(Ok.eq ?_);exact N_ (λa=>Adq a h (MN (Ef a h).symm)) λa=>MN (fin_neg (by omega)).symm
theorem RQ{b:Nat}(w:DT l n)(x:n<fu)(h1:i<l.length):vm fu (l,i,(b:Int))=Ac (Bl l i b):=by
 refine(Ok.eq ?_);refine N_ (λh=>MN (Jg _ h).symm) λh=>?_;have v:=Bs (l:=l) (i:=i) (by omega) (by omega);have q:Bl l i b=AQ (l[i.toNat]'(by omega)).2 b:=by grind[Bl]
 have c:idx l i=Ac (l[i.toNat]'(by omega)):=Fo (by omega) h1;rw[q];have p:=w.2 _ (AN (by omega:i.toNat<l.length));generalize l[i.toNat]'(by omega)=s at p c;refine VD (λk=> ∀j (_:j<k) (r:j<s.2.length),BN b s.2[j]=Aj) s.2.length (by omega) (by omega) (λk nx t f u=>?_) (λnx f=>?_)
 ·have e:BN b s.2[k]=Aj->∀j (_:j<k+1) (r:j<s.2.length),BN b s.2[j]=Aj:=λh j r o=>by
   grind
  refine BY c (P4 (BY c (Aah t (N_ (λd=>N_ (λm=>MN ?_) λm=>u (e ?_)) λd=>u (e ?_)))));· grind[BN,G_]
  all_goals grind[BN]
 simp_all[BY,P5,MN,Gt]
def Ff(es:List Cm)(c:Nat)(z:Int):Prop:= ∀e∈es,((c:Int)<e.1->z<=e.1)/\((c:Int)<=e.2.1->z<=e.2.1+1)
theorem Ff.no(h:Ff es c z){b:Nat}(h1:c<b)(h2:(b:Int)<z):∀e∈es,e.1≠(b:Int)/\e.2.1+1≠(b:Int):=λe a=>by have:=h e a;omega
theorem Ff.mono{y:Int}(h:Ff es c z)(k:y<=z):Ff es c y:=λe a=>by have:=h e a;omega
theorem KF{s:TL}{P:Int->Prop}{nx:Int->Option Int}(hc:c<256)(F:(c:Int)<z/\z<=256)(q:∃n,BR s.2 256 n)(D:s.2.length<fu)
  (E:∀y,(c:Int)<y/\y<=z->Ff s.2 c y->Ok (nx y) P):
  Ok (Ad fu (λ(a:Int×Nat) i=>
    bif Dl ((↑a.2:Int)<(↑(FD s.2):Int))then
     Ab (idx s.2 (↑a.2:Int)) λG=>
     bif Dl ((c:Int)<G.1)then
      Ab (idx s.2 (↑a.2:Int)) λb=>
      Aa (Lo.i64) (if b.1<a.1 then b.1 else a.1)<|
      Ab (idx s.2 (↑a.2:Int)) λv=>
      bif Dl ((c:Int)<=v.2.1)then
       Ab (idx s.2 (↑a.2:Int)) λd=>
       Aa (Lo.i64) (d.2.1+(1:Int))<|
       Aa (Lo.i64) (if d.2.1+(1:Int)<if b.1<a.1 then b.1 else a.1 then d.2.1+(1:Int)else if b.1<a.1 then b.1 else a.1)<|
       i (((if(d.2.1+(1:Int))<(if b.1<a.1 then b.1 else a.1)then d.2.1+(1:Int)else if b.1<a.1 then b.1 else a.1),a.2+1))
      else
       i (((if b.1<a.1 then b.1 else a.1),a.2+1))
     else
      Ab (idx s.2 (↑a.2:Int)) λw=>
      bif Dl ((c:Int)<=w.2.1)then
       Ab (idx s.2 (↑a.2:Int)) λf=>
       Aa (Lo.i64) (f.2.1+(1:Int))<|
       Aa (Lo.i64) (if f.2.1+(1:Int)<a.1 then f.2.1+(1:Int)else a.1)<|
       i (((if(f.2.1+(1:Int))<a.1 then f.2.1+(1:Int)else a.1),a.2+1))
      else
       i ((a.1,a.2+1))
    else
     nx a.1) ((z,0))) P:=by
 obtain⟨n,q⟩:=q;refine Sw (λj y=>((c:Int)<y/\y<=z)/\Ff (s.2.take j) c y) s.2.length ⟨⟨F.1,Abo _⟩,λe t=>by grind⟩ D (λj y o l r u=>?_) (λy o r=>?_)
 ·obtain⟨x,p⟩:=r;have J:=q.rg _ (AN l);have step:∀m,(c:Int)<m/\m<=y->((c:Int)<s.2[j].1->m<=s.2[j].1)->((c:Int)<=s.2[j].2.1->m<=s.2[j].2.1+1)->Ok (o (m,j+1)) P:=λm H B C=>u _ ⟨by omega,λe t=>by
   rcases(Af l).1 t with h|rfl;· have:=p e h;omega
   omega⟩;dsimp only;refine P4 (Aah l (N_ (λh=>Aah l (Abx (by omega) (Aah l (N_ (λk=>Aah l (Aap (Abx (by split<;>split<;>omega) (step _ ?_ ?_ ?_)))) λk=>step _ ?_ ?_ ?_)))) λh=>Aah l (N_ (λk=>Aah l (Aap (Abx (by split<;>omega) (step _ ?_ ?_ ?_)))) λk=>step _ ?_ ?_ ?_)));all_goals(first|(split<;>split<;>omega)|(split<;>omega)|omega|(split<;>split<;>omega)|(split<;>omega)|(omega))
 grind
theorem iM{p q:Int}(G:Bf a)(H:Bf b)(N:DT a n)(sb:DT b n)(O:n<fu)(I:2<fu)(hc:c<256)(C:p<a.length)(D:q<b.length):
  Ok (nZ fu ([a,b],[p,q],(c:Int))) λe=>((c:Int)<e/\e<=256)/\Ff (CU a p) c e/\Ff (CU b q) c e:=by
 rw[nZ];obtain⟨f,rfl⟩:∃f,fu=f+3:=⟨fu-3,by omega⟩;have neg:∀ {l:Tb} {i:Int},i<0->CU l i=[]:=λh=>by grind[CU]
 have row:∀ {l:Tb} {i:Int} (B:0<=i) (s:i<l.length),CU l i=(l[i.toNat]'(by omega)).2:=λB s=>by simp_all[CU,if_neg,Bs]
 rw[Ad];refine TT (by simp) (BY (a:=p) rfl ?_);have j:∀y,(c:Int)<y/\y<=256->Ff (CU a p) c y->Ok (Ad (f+2) (λ(r:Int×Nat) w=>
  bif Dl (
        (↑r.2:Int)<(↑(FD [a,b]):Int))then
   Ab (idx [p,q] (↑r.2:Int)) λJ=>
   bif Dl (J<(0:Int))then
    w ((r.1,r.2+1))
   else
    Ab (idx [a,b] (↑r.2:Int)) λK=>
    Ab (idx [p,q] (↑r.2:Int)) λL=>
    Ab (idx K L) λt=>
    Ad (f+3) (λ(d:Int×Nat) o=>
     bif Dl ((↑d.2:Int)<(↑(FD t.2):Int))then
      Ab (idx t.2 (↑d.2:Int)) λM=>
      bif Dl ((c:Int)<M.1)then
       Ab (idx t.2 (↑d.2:Int)) λg=>
       Aa (Lo.i64) (if g.1<d.1 then g.1 else d.1)<|
       Ab (idx t.2 (↑d.2:Int)) λz=>
       bif Dl ((c:Int)<=z.2.1)then
        Ab (idx t.2 (↑d.2:Int)) λk=>
        Aa (Lo.i64) (k.2.1+(1:Int))<|
        Aa (Lo.i64) (if k.2.1+(1:Int)<if g.1<d.1 then g.1 else d.1 then k.2.1+(1:Int)else if g.1<d.1 then g.1 else d.1)<|
        o (((if(k.2.1+(1:Int))<(if g.1<d.1 then g.1 else d.1)then k.2.1+(1:Int)else if g.1<d.1 then g.1 else d.1),d.2+1))
       else
        o (((if g.1<d.1 then g.1 else d.1),d.2+1))
      else
       Ab (idx t.2 (↑d.2:Int)) λA=>
       bif Dl ((c:Int)<=A.2.1)then
        Ab (idx t.2 (↑d.2:Int)) λm=>
        Aa (Lo.i64) (m.2.1+(1:Int))<|
        Aa (Lo.i64) (if m.2.1+(1:Int)<d.1 then m.2.1+(1:Int)else d.1)<|
        o (((if(m.2.1+(1:Int))<d.1 then m.2.1+(1:Int)else d.1),d.2+1))
       else
        o ((d.1,d.2+1))
     else
      w ((d.1,r.2+1))) ((r.1,0))
  else
   Ac (r.1)) (y,1)) λe=>((c:Int)<e/\e<=256)/\Ff (CU a p) c e/\Ff (CU b q) c e:=λy E F=>by
  rw[Ad];refine TT (by simp) (BY (a:=q) rfl ?_);have last:∀u,(c:Int)<u/\u<=y->Ff (CU b q) c u->Ok (Ac u) λe=>((c:Int)<e/\e<=256)/\Ff (CU a p) c e/\Ff (CU b q) c e:=λu s v=>MN ⟨by omega,F.mono s.2,v⟩;refine N_ (λh=>?_) λh=>BY (a:=b) rfl (BY (a:=q) rfl (Adq (by omega) D ?_));· rw[Ad];exact Qd (by simp) (last y ⟨E.1,Abo _⟩ (by intro e x;grind))
  ·refine KF hc E ⟨_,H _ (AN _)⟩ (by have:=sb.2 _ (AN (by omega:q.toNat<b.length));omega) λu s v=>?_;grind
 refine N_ (λh=>j 256 (by omega) (by rw[neg h];intro e x;cases x)) λh=>BY (a:=a) rfl (BY (a:=p) rfl (Adq (by omega) C ?_));exact KF hc (by omega) ⟨_,G _ (AN _)⟩ (by have:=N.2 _ (AN (by omega:p.toNat<a.length));omega) λy s v=>j y (by omega) (by rw[row (by omega) C];omega)
noncomputable def w9(fu:Nat)(is:Bool->Bool->Option Bool)(j m:Tb)(n o:Int):Option Tb:=
 Ad fu (
      λ(c:List (Int×Int)×List (Bool×List (Int×Int×Int))×Nat) i=>
  bif Dl ((↑c.2.2:Int)<(↑(FD c.1):Int))then
   Ab (idx c.1 (↑c.2.2:Int)) λe=>
   Ag ((0:Int)<=(0:Int)/\(0:Int)<(↑2:Int))<|
   Ab (vo fu (j,e.1)) λp=>
   Ag ((0:Int)<=(1:Int)/\(1:Int)<(↑2:Int))<|
   Ab (vo fu (m,e.2)) λq=>
   Ab (is p q) λk=>
   Ad fu (λ(a:List (Int×Int)×List (Int×Int×Int)×Int) d=>
    bif Dl (a.2.2<(256:Int))then
     Ag ((0:Int)<=(0:Int)/\(0:Int)<(↑2:Int))<|
     Ag ((0:Int)<=(1:Int)/\(1:Int)<(↑2:Int))<|
     Ab (nZ fu ([j,m],[e.1,e.2],a.2.2)) λb=>
     Ag ((0:Int)<=(0:Int)/\(0:Int)<(↑2:Int))<|
     Ab (vm fu (j,e.1,a.2.2)) λf=>
     Ag ((0:Int)<=(1:Int)/\(1:Int)<(↑2:Int))<|
     Ab (vm fu (m,e.2,a.2.2)) λg=>
     Ab (F28 fu (a.1,f,g)) λh=>
     bif Dl (h<(0:Int))then
      Ag (FD a.1+1<=Ah)<|
      Aa (Lo.u8) (a.2.2)<|
      Aa (Lo.i64) (b-(1:Int))<|
      Aa (Lo.u8) (b-(1:Int))<|
      Ag (FD a.2.1+1<=Ah)<|
      d (((a.1++[(f,g)]),(a.2.1++[(a.2.2,(b-(1:Int)),(↑(FD a.1):Int))]),b))
     else
      Aa (Lo.u8) (a.2.2)<|
      Aa (Lo.i64) (b-(1:Int))<|
      Aa (Lo.u8) (b-(1:Int))<|
      Ag (FD a.2.1+1<=Ah)<|
      d ((a.1,(a.2.1++[(a.2.2,(b-(1:Int)),h)]),b))
    else
     Ag (FD c.2.1+1<=Ah)<|
     i ((a.1,(c.2.1++[(k,a.2.1)]),c.2.2+1))) ((c.1,[],(0:Int)))
  else
   Ab (vp fu c.2.1) λl=>
   Ac (l.1)) (([(n,o)],[],0))
theorem rE:4294967296<=Ah:=by decide
def xy(a b:Tb)(p:Int×Int):Prop:=p.1<a.length/\p.2<b.length
theorem cD(Y:∀x y,is x y=Ac (f x y))(T:Bf a)(U:Bf b)(sa:DT a n)(sb:DT b n)(hM:GW a b<=4000000000)(hn:n<4294967296)(hf:n+2<fu)(bz:300<fu)(zT:GW a b+2<fu):
  Ok (w9 fu is a b (DZ a) (DZ b)) λr=>CD r (λw=>f (Av a 0 w) (Av b 0 w)) (GW a b):=by
 have c187:=rE;refine Xp (X:=List (Int×Int)×Tb×Nat) (λx=>GS f a b (DZ a,DZ b) x.1 x.2.1/\(∀p∈x.1,xy a b p)/\x.2.2=x.2.1.length) (λx=>GW a b+1-x.2.2)
  ⟨⟨rfl,by simp,λp j=>by grind[Y4,Ki],by simp,λk s r _ hr=>by grind⟩,λp j=>by simp at j;subst j;exact⟨(Ki a).2,(Ki b).2⟩,rfl⟩ (by omega) λx nx B _ Z=>?_;obtain⟨l,out,k⟩:=x;obtain⟨B,R,hk⟩:=B;dsimp only at B R hk;subst hk;have hol:=Hk B.nd B.ni;refine N_ (λh=>?_) λh=>?_
 ·have h:(out.length:Int)<l.length:=h;have h:out.length<l.length:=by omega
  have z:l[out.length]?=Ac l[out.length]:=GB h;have i:=R _ (AN h);refine Aah h ?_;generalize hs:l[out.length]=s at z i;refine PH (by simp) (BY (WT i.1) (PH (by simp) (BY (WT i.2) (BY (Y _ _) ?_))));refine Xp (X:=List (Int×Int)×List Cm×Int) (λx=>GS f a b (DZ a,DZ b) x.1 out/\(∀p∈x.1,xy a b p)/\(∃more,x.1=l++more)/\(0<=x.2.2/\x.2.2<=256)/\FB (CV a b s) x.1 x.2.1 x.2.2.toNat) (λx=>256-x.2.2.toNat)
   ⟨B,R,⟨[],by simp⟩,⟨by simp,by dsimp only;omega⟩,FB.zero⟩ (by omega) λx nx2 hJ _ q=>?_;obtain⟨o,es,ci⟩:=x;obtain⟨m,u,⟨more,C⟩,⟨V,W⟩,G⟩:=hJ;dsimp only at m u C V W G q;obtain⟨c,rfl⟩:∃c:Nat,ci=c:=⟨ci.toNat,by omega⟩;have hoM:=Hk m.nd m.ni;have hel:es.length<=256:=by have:=G.ed.len;omega
  refine N_ (λhc=>?_) λhc=>?_
  ·have hc:(c:Int)<256:=hc;have hc:c<256:=by omega
   have J:GK.F8 (c:Int):=by omega
   have D:Y4 a b (CV a b s c):=Y4.step T U s c;have I:xy a b (CV a b s c):=by have:=T.st s.1 c;have:=U.st s.2 c;unfold xy CV;omega
   dsimp only;refine PH (by decide) (PH (by decide) (OC (iM T U sa sb (by omega) (by omega) hc i.1 i.2) λe he=>?_));obtain⟨⟨he0,he1⟩,P,Q⟩:=he;obtain⟨t,rfl⟩:∃t:Nat,e=t:=⟨e.toNat,by omega⟩;have v:∀E,c<=E->E<t->CV a b s E=CV a b s c:=λE h1 h2=>by obtain⟨d,rfl⟩:∃d,E=c+d:=⟨E-c,by omega⟩;have k1:=G9 (es:=CU a s.1) (lo:=c) d λb2 O h4=>P.no O (by omega);have k2:=G9 (es:=CU b s.2) (lo:=c) d λb2 O h4=>Q.no O (by omega);unfold CV;rw[HV,HV,k1,k2,<-HV,<-HV]
   have H:=m.put D;obtain⟨m2,N⟩:=MB o (CV a b s c);have A:=G.new (more:=m2) (e:=t) (N▸Ry o (CV a b s c)) (by omega) v;rw[<-N]at A;have S:∀p∈EU o (CV a b s c),xy a b p:=λp j=>by
    unfold EU at j;split at j;· exact u p j
    ·rcases AS.1 j with j|j;· exact u p j
     ·simp at j;subst j;exact I
   have g:=q (EU o (CV a b s c),es++[((c:Int),(t:Int)-1,(((EU o (CV a b s c)).idxOf (CV a b s c):Nat):Int))],(t:Int)) ⟨H,S,⟨more++m2,by rw[N,C];simp⟩,⟨by dsimp only;omega,by dsimp only;omega⟩,by rw[Ace];exact A⟩ (by dsimp only;omega);refine PH (by decide) (BY (RQ sa (by omega) i.1) (PH (by decide) (BY (RQ sb (by omega) i.2) (BY (Xu (x:=CV a b s c) (by omega)) ?_))));have K:GK.F8 ((t:Int)-1):=by unfold GK.F8;omega
   by_cases F:CV a b s c∈o;· rw[if_pos F];rw[PJ,if_pos F]at g;unfold EU at g;rw[if_pos F]at g;exact P5 (PH (p:=GK.F8 (c:Int)) J (Aap (PH (p:=GK.F8 ((t:Int)-1)) K (PH (by unfold Ah;omega) g))))
   ·rw[if_neg F];rw[PJ,if_neg F]at g;unfold EU at g;rw[if_neg F]at g;exact P4 (Abw (PH (p:=GK.F8 (c:Int)) J (Aap (PH (p:=GK.F8 ((t:Int)-1)) K (PH (by unfold Ah;omega) g)))))
  ·have hc:¬(c:Int)<256:=hc;obtain rfl:c=256:=by omega
   have g:o[out.length]?=Ac s:=by rw[C,Pe h];exact z
   refine PH (by dsimp only;unfold Ah;omega) (Z (_,_,out.length+1) ⟨m.add g G.row,u,by simp⟩ (by dsimp only;omega))
 ·have h:¬(out.length:Int)<l.length:=h;obtain⟨M,t2,t3⟩:=B.done (by omega);have hsh:DT out (max (GW a b) 256):=M.sh (by omega) (by omega);refine OC (K_ M.by hsh (by omega) (by omega) (by omega)) λr hr=>MN ?_;rw[hr.1 M];refine(CD.of M t2 t3).congr (funext λw=>?_);rw[Og,Og]
structure nK(n fu:Nat)(a b:Tb):Prop where
 ha:N3 a
 hb:N3 b
 sa:DT a n
 sb:DT b n
 hM:GW a b<=4000000000
 hn:n<4294967296
 hf:n+2<fu
 bz:300<fu
 zT:GW a b+2<fu
theorem RD(a b:Tb):GW (Da a) (Da b)<=GW a b:=Abv (by grind[Kw]) (by grind[Kw])
theorem l_(a b:Tb):a.length<=GW a b:=Aao (by omega:a.length<=(a.length+2)*1) (Abv (Aae _) (by omega))
theorem vQ(a b:Tb):b.length<=GW a b:=Aao (by omega:b.length<=1*(b.length+2)) (Abv (by omega) (Aae _))
noncomputable def gL(a:Tb):Lg:=Av (Da a) 0
theorem Hx:gL []=λ_=>Aj:=by unfold gL;rw[So (by simp[Bf]) Nh];exact funext λw=>Ed 0 w
theorem PL(c:nK n fu a b)(d:∀x y,is x y=Ac (f x y)):
  Ok (Ab (Q0 fu a) λg=>Ab (Q0 fu b) λi=>l9 fu is g i) λr=>CD r (λw=>f (gL a w) (gL b w)) (GW a b):=by
 have h:=RD a b;refine BY (Ge c.ha c.sa c.hn c.hf (by have:=c.bz;omega)) (BY (Ge c.hb c.sb c.hn c.hf (by have:=c.bz;omega)) ?_);exact(ZZ d (Hu a) (Hu b) (Hv c.sa) (Hv c.sb) (by have:=c.hM;omega) c.hn c.hf c.bz (by have:=c.zT;omega)).mono λr e=>e.mono h
theorem iW{l:List Cm}(h:l.length<4294967296):F99 fu l=Ac l:=by
 cases l with
 |nil=>grind[d99n]
 |cons x l=>exact(d99c fu x l).trans (by unfold Ag Ah;grind)
theorem Ya(e:DT l n)(g:n<4294967296)(i:n<fu):YU fu l=Ac l:=by
 refine(Ok.eq ?_);refine Sw (λk (o:Tb)=>o=l.take k) l.length (by simp) (by have:=e.1;omega) (λk o nx c b d=>?_) (λo nx b=>?_);· have f:(l[k]).2.length<4294967296:=Aft (e.2 _ (AN c)) g;have h:=e.1;refine P4 (Aah c (BY (iW f) (PH (by grind) (d _ ?_))));grind[List.take_add_one,List.getElem?_eq_getElem]
 simp_all[P5,MN]
theorem Qw(d:N3 a)(c:DT a n)(b:n<4294967296)(e:n+2<fu)(f:300<fu){P:Tb->Prop}(h:P (Da a)):
  Ok (Ab (Q0 fu a) λr=>Ab (YU fu r) λr=>Ac r) P:=
 BY (Ge d c b e (by omega)) (BY (Ya (Hv c) b (by omega)) (MN h))
theorem Ua(c:nK n fu a b):Ok (Vk fu (a,b)) λr=>CD r (λw=>gL a w||gL b w) (GW a b):=by
 refine N_ (λh=>?_) λ_=>N_ (λh=>?_) λ_=>?_;· obtain rfl:a=[]:=OF.1 (by omega);refine Qw c.hb c.sb c.hn c.hf c.bz (((MZ b).congr (funext λw=>?_)).mono (vQ _ _));rw[Hx];rfl
 ·obtain rfl:b=[]:=OF.1 (by omega);refine Qw c.ha c.sa c.hn c.hf c.bz (((MZ a).congr (funext λw=>?_)).mono (l_ _ _));rw[Hx];simp[gL]
 ·refine OC (PL (f:=λx y=>x||y) c λx y=>?_) λr h=>MN h;grind[uJ]
theorem Ou(c:nK n fu a b):Ok (YO fu (a,b)) λr=>CD r (λw=>gL a w&& !gL b w) (GW a b):=by
 refine N_ (λh=>?_) λ_=>N_ (λh=>?_) λ_=>?_;· obtain rfl:a=[]:=OF.1 (by omega);refine MN (CD.nil.congr (funext λw=>?_));grind[Hx]
 ·obtain rfl:b=[]:=OF.1 (by omega);refine Qw c.ha c.sa c.hn c.hf c.bz (((MZ a).congr (funext λw=>?_)).mono (l_ _ _));rw[Hx];simp[gL]
 ·refine OC (PL (f:=λx y=>x&& !y) c λx y=>?_) λr h=>MN h;grind[uu]
theorem ju(c:nK n fu a b):Ok (tX fu (a,b)) λr=>CD r (λw=>gL a w&&gL b w) (GW a b):=by
 refine N_ (λh=>?_) λ_=>N_ (λh=>?_) λ_=>?_;· obtain rfl:a=[]:=OF.1 (by omega);refine MN (CD.nil.congr (funext λw=>?_));grind[Hx]
 ·obtain rfl:b=[]:=OF.1 (by omega);refine MN (CD.nil.congr (funext λw=>?_));grind[Hx]
 ·refine OC (PL (f:=λx y=>x&&y) c λx y=>?_) λr h=>MN h;grind[tY]
def gk(o:Int)(x y:Bool):Bool:=if o=38 then x&&y else if o=124 then x||y else x&& !y
theorem fj(fu:Nat)(o:Int)(x y:Bool):F25 fu (o,x,y)=Ac (gk o x y):=by
 rw[F25];unfold gk;dsimp only[iF,iB];by_cases h:o=38;· rw[decide_eq_true h,if_pos h];cases x<;>rfl
 ·by_cases a:o=124;· rw[decide_eq_false h,if_neg h,decide_eq_true a,if_pos a];cases x<;>rfl
  ·rw[decide_eq_false h,if_neg h,decide_eq_false a,if_neg a];cases x<;>rfl
theorem Wr{o:Int}(c:nK n fu a b):Ok (F29 fu (a,b,o)) λr=>CD r (λw=>gk o (gL a w) (gL b w)) (GW a b):=by have h:=RD a b;refine BY (M0 c.ha c.sa c.hn c.hf (by have:=c.bz;omega)) (BY (M0 c.hb c.sb c.hn c.hf (by have:=c.bz;omega)) (BY Oh (BY Oh ?_)));exact(cD (fj fu o) (Hu a) (Hu b) (Hv c.sa) (Hv c.sb) (by have:=c.hM;omega) c.hn c.hf c.bz (by have:=c.zT;omega)).mono λr d=>d.mono h
theorem MH(c:nK n fu a b):Ok (W0 fu (a,b)) λr=>CD r (λw=>gL a w&& !gL b w) (GW a b):=by exact OC (Wr c) λr h=>MN h
theorem dt(c:nK n fu a b):Ok (jP fu (a,b)) λr=>CD r (λw=>gL a w&&gL b w) (GW a b):=by rw[jP];exact OC (Wr c) λr h=>MN h
theorem jv(fu:Nat):F8 fu () =Ac KQ:=(rfl)
theorem CD.Gz(h:CD r L m):r=[]↔L=λ_=>Aj:=by
 constructor;· rintro rfl;rw[<-h.lg];exact funext λw=>Ed 0 w
 ·intro e;exact h.unique ((CD.nil (m:=0)).congr e.symm)
def Im(l:Tb)(i:Nat):List Cm:=(Be l (i:Int)).2
def lw(l:Tb):Nat->Nat->Option Aq
 |0,i=>if fin l (i:Int)then Ac []else C7
 |k+1,i=>(Im l i).findSome? λe=>(lw l k e.2.2.toNat).map λw=>UInt8.ofNat e.1.toNat::w
def Em(l:Tb)(k i:Nat):Bool:=(lw l k i).isSome
theorem Hf(l:Tb)(i:Nat):Em l 0 i=fin l (i:Int):=by grind[Em,lw,fin]
theorem Hg(l:Tb)(k i:Nat):Em l (k+1) i=(Im l i).any λe=>Em l k e.2.2.toNat:=by
 rw[Em,show lw l (k+1) i=(Im l i).findSome? λe=>(lw l k e.2.2.toNat).map λw=>UInt8.ofNat e.1.toNat::w from rfl];induction Im l i with
 |nil=>rfl
 |cons e c b=>
  rw[List.findSome?_cons,List.any_cons,<-b,Em];cases lw l k e.2.2.toNat with
  |none=>rfl
  |some w=>rfl
theorem Uk{l:Tb} :∀ {k i:Nat} {w:Aq},lw l k i=Ac w->w.length=k
 |0,i,w,h=>by grind[lw]
 |k+1,i,w,h=>by obtain⟨e,_,a⟩:=Afe h;obtain⟨v,b,rfl⟩:=Pd.1 a;rw[Abn,Uk b]
theorem Hd{i:Nat}(h:i<l.length):Im l i=l[i].2:=by grind[Im,Bs]
theorem Rv{l:Tb}{i:Nat}(h:l.length<=i):Im l i=[]:=by grind[Im,Hc]
theorem PD{l:Tb}(h:Bf l)(i:Nat):BR (Im l i) 256 l.length:=by
 rcases Aan i l.length with k|k;· rw[Hd k];exact h _ (AN k)
 ·rw[Rv k];exact .nil
theorem oI(h:Bf l){i:Nat}(a:Em l k i=Bp):i<l.length:=by
 cases k with
 |zero=>grind[Hf,Qm]
 |succ k=>grind[Hg,Rv]
theorem MA{l:Tb}(h:Bf l){k:Nat} :∀ {d i:Nat},Em l (k+d) i=Bp->∃j,j<l.length/\Em l k j=Bp
 |0,i,a=>⟨i,oI h a,a⟩
 |d+1,i,a=>by rw[<-Ado,Hg]at a;obtain⟨e,_,b⟩:=Aca.1 a;exact MA h b
theorem ZW{l:Tb}(h:Bf l):∀ {w:Aq} {i:Nat},Av l (i:Int) w=Bp->Em l w.length i=Bp
 | [],i,g=>by rw[Adu,Hf];exact g
 |c::w,i,g=>by
  have a:Av l (Bl l i c.toNat) w=Bp:=g;have f:Bl l i c.toNat=AQ (Im l i) c.toNat:=by rfl
  rw[f]at a;unfold AQ at a;cases d:(Im l i).find? (BN c.toNat)with
  |none=>grind[Ee]
  |some e=>
   have j:=Acj d;have k:=(PD h i).rg e j;rw[Abn,Hg];refine Aca.2 ⟨e,j,ZW h (w:=w) ?_⟩;grind
theorem Rt(l:Tb)(i:Int)(v w:Aq):runT l i (v++w)=runT l (runT l i v) w:=by simp[runT]
theorem T1(C:Bf l) :∀(n:Nat) (w:Aq),w.length=n->Av l i w=Bp->∃v,v.length<l.length/\Av l i v=Bp:=by
 intro n;induction n using rJ with
 |_ n A=>
  intro w B p;rcases Aan w.length l.length with h|h;· grind
  ·have f:∀j,0<=runT l i (w.take j)/\runT l i (w.take j)<l.length:=λj=>by
    have e:runT l i w=runT l (runT l i (w.take j)) (w.drop j):=by grind[Rt,sn]
    have d:fin l (runT l (runT l i (w.take j)) (w.drop j))=Bp:=by rw[<-e];exact p
    constructor;· grind[Int.not_lt,fin_neg,Ha]
    ·refine Int.not_le.1 λm=>?_;cases y:w.drop j with
     |nil=>rw[y]at d;rw[show runT l (runT l i (w.take j)) []=runT l i (w.take j)from rfl,Qm m]at d;grind
     |cons c v=>
      grind[HY,Vv,fin_neg,Ha]
   have g:¬(Bh (w.length+1) λj=>(runT l i (w.take j)).toNat).Nodup:=λg=>by
    have:=Ch (b:=aT l.length) g λx z=>by obtain⟨j,_,rfl⟩:=EG.1 z;have:=f j;exact Abg.2 (by omega)
    rw[Az,Ais]at this;omega
   have s:∃a b,a<b/\b<=w.length/\runT l i (w.take a)=runT l i (w.take b):=by refine IS λt=>g ?_;refine Aaw.2 λa b p u k=>?_;rw[Bm,Bm];intro heq;rw[Az]at u;have:=f a;have:=f b;exact t ⟨a,b,k,by omega,by omega⟩
   obtain⟨a,b,k,u,heq⟩:=s;refine A (w.take a++w.drop b).length ?_ _ rfl ?_;· rw[Aac,Aba,Ajn];omega
   grind[Av,Rt,sn]
theorem Jz(h:CD r L m)(e:r≠ []):∃k,k<r.length/\Em r k 0=Bp:=by
 have a:∃w,Av r 0 w=Bp:=IS λb=>e (h.Gz.2 (by rw[<-h.lg];grind));obtain⟨w,d⟩:=a;obtain⟨v,f,c⟩:=T1 h.wf _ w rfl d;exact⟨v.length,f,ZW h.wf (i:=0) c⟩
theorem H8(h:∃k,k<n/\Em l k 0=Bp):∃k,k<n/\Em l k 0=Bp/\∀j,j<k->Em l j 0=Aj:=by
 obtain⟨k,f,g⟩:=h;induction k using rJ with
 |_ k i=>
  grind
def Cn(l:Tb)(k:Nat):List Bool:=Bh l.length (Em l k)
theorem cY(B:Bf l)(x:DT l n)(F:n<4294967296)(E:n<fu):uE fu (l,Cn l k)=Ac (Cn l (k+1)):=by
 refine(Ok.eq ?_);have z:=x.1;refine PH (by grind) ?_;refine Sw (λi (s:List Bool)=>s=Bh l.length λj=>Dl (j<i)&&Em l (k+1) j) l.length (by grind[DA,AP]) (by omega) (λi s nx p r u=>?_) (λs nx r=>?_)
 ·have A:(l[i]).2.length<=n:=x.2 _ (AN p);have y:=B _ (AN p);have g:Im l i=(l[i]).2:=Hd p;refine P4 (Aah p ?_);refine Sw (λm (t:List Bool)=>t=Bh l.length λj=>if j=i then((l[i]).2.take m).any (λe=>Em l k e.2.2.toNat)else Dl (j<i)&&Em l (k+1) j) (l[i]).2.length ?_ (by omega) (λm t v q d f=>?_) (λt v d=>?_)
  ·grind
  ·have w:t.length=l.length:=by rw[d,Az]
   have c:t[i]'(by omega)=((l[i]).2.take m).any (λe=>Em l k e.2.2.toNat):=by simp only[d];rw[Bm,if_pos rfl]
   have D:=y.rg _ (AN q);have C:idx (Cn l k) ((l[i]).2[m]).2.2=Ac (Em l k ((l[i]).2[m]).2.2.toNat):=by grind[Cn,Fo,Az,Bm]
   refine P4 (Aah q (Aah (by dsimp only;omega) (P0 (λh=>Aah (by dsimp only;omega) (f _ ?_)) λh=>BY C (Aah (by dsimp only;omega) (f _ ?_)))))
   ·rw[d,A'];refine AP λj _=>?_;by_cases a:j=i;· rw[if_pos a,if_pos a,IN q,Aeu,<-c,h];rfl
    ·rw[if_neg a,if_neg a,if_neg a]
   ·rw[d,A'];refine AP λj _=>?_;by_cases a:j=i;· rw[if_pos a,if_pos a,IN q,Aeu,<-c,h];simp
    ·rw[if_neg a,if_neg a,if_neg a]
  ·refine P5 (u _ ?_);rw[d,Al];refine AP λj _=>?_;by_cases a:j=i;· rw[if_pos a,Hg,a,g];simp
   ·rw[if_neg a,show Dl (j<i+1)=Dl (j<i) by simp;omega]
 ·refine P5 (MN ?_);rw[r];exact AP λj a=>by simp[a]
theorem LR{l:List Bool}(d:l.length<fu):eN fu (l,Bp)=Ac (l.any λb=>b):=by
 refine(Ok.eq ?_);rw[eN];have key:Ok (uD fu (l,Bp)) λi=>Dl ((0:Int)<=i)=l.any λb=>b:=by
  refine VD (λk=>(l.take k).any (λb=>b)=Aj) l.length (by simp) d (λk nx c a f=>?_) (λnx a=>?_)
  ·refine P4 (Aah c (P0 (λh=>MN ?_) λh=>f ?_))
   ·grind[decide_eq_true,List.any_eq_true,Als]
   grind[cu]
  simp_all[P5,MN,Al]
 grind[OC,MN]
theorem VA{i:Nat}(hi:i<l.length)(h:Em l k i=Bp):((Cn l k).any λb=>b)=Bp:=
 Aca.2 ⟨_,EG.2 ⟨i,hi,rfl⟩,h⟩
def vh(w:Aq)(r:List (List UInt8)×Option Bool):Prop:=r.1.head?=Ac w
theorem Wk{kb:Bool->Option (List (List UInt8)×Option Bool)}{r:List (List UInt8)×Option Bool}(h:vh w r):Ok (wY kb r.1 r.2) (vh w):=by
 obtain⟨l,b⟩:=r;cases l with
 |nil=>cases h
 |cons y l=>
  cases h;unfold wY;split;· exact MN rfl
  ·exact MN rf
theorem Wl{kb:Bool->Option (List (List UInt8)×Bool)}{r:List (List UInt8)×Option Bool}(h:vh w r):Ok (ri kb r.1 r.2) λo=>o.1.head?=Ac w:=by
 obtain⟨l,b⟩:=r;cases l with
 |nil=>cases h
 |cons y l=>
  cases h;unfold ri;split;· exact MN rfl
  ·exact MN rf
theorem Rx{i:Nat}(h:Em l k i=Aj):lw l k i=C7:=by simp_all[lw,Em]
def vB(l:List Int):Aq:=l.map λn=>UInt8.ofNat n.toNat
theorem Vx{l:Tb}{n K:Nat}(G:Bf l)(E:DT l n)(N:n<4294967296){b:List (List Bool)}(D:b=Bh (K+1) (Cn l)):∀ {k fu:Nat} {i:Nat} {pre:List Int} {w:Aq},
  k<=K->K<4294967296->n+300+k<fu->pre.length+k<4294967296->lw l k i=Ac w->i<l.length->Ok (YS fu ((i:Int),(k:Int),pre,l,b)) (vh (vB pre++w))
 |0,fu+1,i,pre,w,M,C,J,O,h,o=>by
  rw[show YS (fu+1) ((i:Int),((0:Nat):Int),pre,l,b)=_ from d120 fu _ _ _ _ _];unfold uK;have:w=[]:=by have:=Uk h;grind
  subst this;exact TT (by rfl) (MN (by simp[vh,vB]))
 |k+1,fu+1,i,pre,w,M,C,J,O,h,o=>by
  rw[show YS (fu+1) ((i:Int),((k+1:Nat):Int),pre,l,b)=_ from d120 fu _ _ _ _ _];unfold uK;have P:(l[i]).2.length<=n:=E.2 _ (AN o);have L:=G _ (AN o);have s:Im l i=(l[i]).2:=Hd o;have h:((l[i]).2.findSome? λe=>(lw l k e.2.2.toNat).map λw=>UInt8.ofNat e.1.toNat::w)=Ac w:=s▸h;refine P5 (Aah o ?_);refine VD (λm=> ∀j (_:j<m) (d:j<(l[i]).2.length),Em l k ((l[i]).2[j]).2.2.toNat=Aj) (l[i]).2.length (by omega) (by omega) (λm nx x t y=>?_) (λnx t=>?_)
  ·have g:=L.rg _ (AN x);refine P4 (Aah x ?_);obtain⟨f,rfl⟩:∃f,fu=f+1:=⟨fu-1,by omega⟩;refine P4 (Abx (by omega) ?_);have Q:idx b (((k+1:Nat):Int)-1)=Ac (Cn l k):=by
    grind[Bk,Az,Bm]
   have R:idx (Cn l k) ((l[i]).2[m]).2.2=Ac (Em l k ((l[i]).2[m]).2.2.toNat):=by simp_all[Cn,Fo,Az,Bm]
   refine BY Q (BY R (P0 (λq=>?_) λq=>y ?_))
   ·obtain⟨v,F⟩:=Abk.1 q;have z:w=UInt8.ofNat ((l[i]).2[m]).1.toNat::v:=by
     have:((l[i]).2.findSome? λe=>(lw l k e.2.2.toNat).map λw=>UInt8.ofNat e.1.toNat::w)=Ac (UInt8.ofNat ((l[i]).2[m]).1.toNat::v):=by
      conv=>lhs;rw[<-Acf m (l[i]).2]
      rw[Agu,Aaq x,List.findSome?_cons,F];have:((l[i]).2.take m).findSome? (λe=>(lw l k e.2.2.toNat).map λw=>UInt8.ofNat e.1.toNat::w)=C7:=by refine Alh.2 λe g=>?_;obtain⟨j,d,rfl⟩:=Aes.1 g;rw[Rx (t j (by omega) (by omega))];rfl
      rw[this];rfl
     rw[this]at h;cases h;rfl
    have A:=Vx G E N D (k:=k) (fu:=f+1) (i:=((l[i]).2[m]).2.2.toNat) (pre:=pre++[((l[i]).2[m]).1]) (w:=v) (by omega) C (by omega) (by rw[Aac,Acn];omega) F (by omega);rw[Abe g.2.2.2.1,show(k:Int)=(((k+1:Nat):Int)-1) by omega]at A;have I:vB (pre++[((l[i]).2[m]).1])++v=vB pre++w:=by rw[z];simp[vB]
    rw[I]at A;refine Aap (PH ⟨rfl,rfl⟩ (PH (p:=GK.F8 _) (by omega) (PH ⟨by unfold Ah;omega,by decide⟩ (OC A λr q=>Wk q))))
   grind
  ·have:((l[i]).2.findSome? λe=>(lw l k e.2.2.toNat).map λw=>UInt8.ofNat e.1.toNat::w)=C7:=by
    refine Alh.2 λe g=>?_;obtain⟨j,d,rfl⟩:=Aat g;rw[Rx (t j d d)];rfl
   rw[this]at h;cases h
theorem WD:4294967296<=Ah:=by decide
theorem Rn(p:Bf l)(m:DT l n)(g:n<4294967296)(h0:0<l.length)(f:k<4294967296)(e:n+300+k<fu):
  Ok (YR fu (l,k,1,(k:Int),Bh (k+1) (Cn l))) λr=>(Em l k 0=Aj->r=([],Ac Bp))/\∀w,lw l k 0=Ac w->vh w r:=by
 have q:idx (Bh (k+1) (Cn l)) ((k:Int)+0)=Ac (Cn l k):=by simp_all[Int.add_zero,Bk,Az,Bm]
 have s:idx (Cn l k) (0:Int)=Ac (Em l k 0):=by grind[Cn,Fo,Az,Bm]
 refine PH (by simp) (BY q (BY s ?_));cases b:Em l k 0 with
 |false=>exact VY rfl (MN ⟨λ_=>rfl,λw h=>by grind[Em]⟩)
 |true=>
  obtain⟨w,a⟩:=Abk.1 b;have:=Vx p m g (K:=k) rfl (k:=k) (fu:=fu) (i:=0) (pre:=[]) (Aae _) f e (by grind) a h0;refine P8 rfl (OC this λr c=>(Wk c).mono λo j=>⟨λh=>(by grind),λv d=>?_⟩);rw[a]at d;cases d;exact j
theorem Zd(J:Bf l)(I:DT l n)(hn:n<4294967295)(h0:0<l.length)(C:m<l.length)(N:Em l m 0=Bp)(v:∀j,j<m->Em l j 0=Aj)(hf:2*n+400<fu):
  Ok (TJ fu l) λr=> ∃w,r.1.head?=Ac w:=by
 have Q:=WD;obtain⟨P,K⟩:=Abk.1 N;have Y:=I.1;refine Sw (λk (s:List Bool)=>s=(Bh k λi=>fin l (i:Int))) l.length rfl (by omega) (λk s nx C B H=>?_) (λs nx B=>?_);· refine P4 (Aah C (PH (by grind[Az]) (H _ ?_)));grind[Df,Ef]
 refine P5 (PH (by omega) ?_);have t:s=Cn l 0:=by rw[B];exact AP λi _=>(Hf l i).symm
 refine Xp (X:=List (List Bool)×Int) (λx=> ∃k:Nat,x.2=k/\k<=m/\x.1=Bh (max k 1) (Cn l)) (λx=>m+1-x.2.toNat) ⟨0,rfl,by omega,by rw[t];rfl⟩ (by omega) λx nx2 S _ g=>?_;obtain⟨e,z⟩:=x;obtain⟨k,O,V,c⟩:=S;dsimp only at O c g;subst O;have q:((Cn l k).any λb=>b)=Bp:=by obtain⟨j,U,E⟩:=MA J (k:=k) (d:=m-k) (i:=0) (by rw[show k+(m-k)=m by omega];exact N);exact VA U E
 have u:(Cn l k).length<fu:=by unfold Cn;rw[Az];omega
 have p:∀ {R:List (List Bool)} {kb:Bool->Option (List (List UInt8)×Bool)},R=Bh (k+1) (Cn l)->
   (k<m->Ok (kb Bp) λr=> ∃w,r.1.head?=Ac w)->
   Ok (Ab (YR fu (l,ao (k:Int),ao ((k:Int)+1-(k:Int)),(k:Int),R)) λA=>ri kb A.1 A.2) λr=> ∃w,r.1.head?=Ac w:=λ{R kb} T F=>by
  rw[T,show ao (k:Int)=k by omega,show ao ((k:Int)+1-(k:Int))=1 by omega];refine OC (Rn J I (by omega) h0 (by omega) (by omega)) λr y=>?_;rcases Aan k m with h|h;· rw[y.1 (v k h)];have:=F h;exact this
  ·obtain rfl:k=m:=by omega
   exact(Wl (y.2 P K)).mono λo W=>⟨P,W⟩
 dsimp only;refine P4 (N_ (λC=>?_) λC=>?_)
 ·have Z:idx e ((k:Int)-1)=Ac (Cn l (k-1)):=by
   rw[show((k:Int)-1)=((k-1:Nat):Int) by omega,c,Bk (by rw[Az];omega),Bm]
  have hc:=cY (l:=l) (k:=k-1) (fu:=fu) J I (by omega) (by omega);rw[show k-1+1=k by omega]at hc;have a:e++[Cn l k]=Bh (k+1) (Cn l):=by rw[c,show max k 1=k by omega,Df]
  have M:e.length=k:=by rw[c,Az];omega
  have L:idx (e++[Cn l k]) (k:Int)=Ac (Cn l k):=by rw[a,Bk (by rw[Az];omega),Bm]
  refine Aap (BY Z (BY hc (Abw (BY L (BY (LR u) ?_)))));rw[q];refine P8 rf (Aap (Aap (PH ⟨⟨by omega,by omega⟩,rf,by rw[a,Az];omega⟩ ?_)));refine p a λG=>P8 rf (Aap (g _ ⟨k+1,by dsimp only;omega,by omega,by dsimp only;rw[a,show max (k+1) 1=k+1 by omega]⟩ (by dsimp only;omega)))
 ·obtain rfl:k=0:=by omega
  have a:e=Bh (0+1) (Cn l):=c;have L:idx e ((0:Nat):Int)=Ac (Cn l 0):=by rw[a,Bk (by rw[Az];omega),Bm]
  refine BY L (BY (LR u) ?_);rw[q];refine P8 rf (Aap (Aap (PH ⟨⟨by omega,by omega⟩,rf,by rw[a,Az];omega⟩ ?_)));refine p a λG=>P8 rf (Aap (g _ ⟨1,by dsimp only;omega,by omega,by dsimp only;rw[a];rfl⟩ (by dsimp only;omega)))
theorem aM(h:CD r L m)(i:DT r n)(t:n<4294967295)(p:2*n+400<fu):Ok (Vh fu r) λo=>o.2=Dl (r≠ []):=by
 have key:Ok (YQ fu (r,1)) λo=>(r=[]->o=[])/\(r≠ []->∃w,o=[w]):=by
  rw[YQ];refine Qd (by simp) (BY (Ge h.wf.by i (by omega) (by omega) (by omega)) ?_);rw[h.JI];refine BY (rfl) ?_;by_cases c:r=[]
  ·subst c;have:TJ fu []=Ac ([],Bp):=by
    refine(Ok.eq ?_);have j:=WD;rw[TJ];obtain⟨f,rfl⟩:∃f,fu=f+1:=⟨fu-1,by omega⟩;rw[Ad];exact Qd (by simp) (MN rfl)
   refine BY this ?_;exact MN ⟨λ_=>rfl,λh=>absurd rf h⟩
  ·have s:0<r.length:=Aed.2 c;obtain⟨k,q,e,g⟩:=H8 (Jz h c);refine OC (Zd h.wf i t s q e g p) λo d=>?_;obtain⟨l,b⟩:=o;cases l with
   |nil=>grind
   |cons y l=>
    refine PH (by trivial) (Abx (by decide) (TT (by simp) (MN ⟨λh=>absurd h c,λ_=>⟨y,rf⟩⟩)))
 rw[Vh];refine OC key λo d=>?_;by_cases c:r=[];· rw[d.1 c];exact TT rfl (MN (by simp[c]))
 ·obtain⟨w,rfl⟩:=d.2 c;exact Qd (by simp) (BY (a:=w) rfl (MN (by simp[c])))
abbrev Sc:=Bool×Bool×Bool×(List Sp×List Sp)×Tb
end
section
variable{m k:Nat}{s:Sc}{fu:Nat}{L:Lg}{r:Tb}
def E_:Sc:=(Aj,Aj,Aj,([],[]),[])
structure dE(k m:Nat)(s:Sc):Prop where
 sm:Ly s.2.2.2.1
 n1:s.2.2.2.1.1.length<=k
 n2:s.2.2.2.1.2.length<=k
 bt:N3 s.2.2.2.2
 sh:DT s.2.2.2.2 m
structure Ii(k m:Nat)(s:Sc):Prop where
 nu:Eh s.2.2.2.1 (A8 s.2.2.2.1) (A6 s.2.2.2.1)
 n1:s.2.2.2.1.1.length<=k
 n2:s.2.2.2.1.2.length<=k
 ln:CD s.2.2.2.2 (Av s.2.2.2.2 0) m
theorem CD.self(h:CD r L m):CD r (Av r 0) m:=⟨h.wf,h.can,rfl,h.len⟩
theorem CD.gL(h:CD r L m):gL r=L:=by unfold Go.GL.gL;rw[h.JI,h.lg]
theorem Eh.self{r:List Sp×List Sp}{I F:Int->Prop}(h:Eh r I F)(hi:∀n,I n-> -100000000000<=n/\n<=100000000000)(a:∀y,F y-> -1000000000000000<=ur y/\ur y<=1000000000000000):Eh r (GL.A8 r) (GL.A6 r):=
 h.congr (λn=>((h.A8 n).trans ⟨Aiu,λk=>⟨k,hi n k⟩⟩).symm) λy=>((h.A6 y).trans ⟨Aiu,λk=>⟨k,a y k⟩⟩).symm
theorem Ii.sc(h:Ii k m s)(a:k<=12):dE k (max m 256) s:=
 ⟨h.nu.sm (Aao h.n1 a) (Aao h.n2 a),h.n1,h.n2,h.ln.wf.by,h.ln.wf.sh (Aao h.ln.len (Alb _ _)) (Ajm _ _)⟩
theorem PU:Eh (([],[]):List Sp×List Sp) (A8 ([],[])) (A6 ([],[])):=
 ⟨[],rfl, .nil,by simp, .nil,by simp,λn=>⟨λh=>absurd h Ba,λh=>absurd h.1 Ba⟩,λn=>⟨λh=>absurd h Ba,λh=>absurd h.1 Ba⟩⟩
theorem L2:Ii k m E_:=⟨PU,Abh _,Abh _,CD.nil.self⟩
theorem HX(h:dE k m s)(j:m<1000000000)(i:1000000000000<fu):Ok (dQ fu s) λb=>b=Bp↔Eh s.2.2.2.1 (A8 s.2.2.2.1) (A6 s.2.2.2.1)/\Bf s.2.2.2.2/\BW s.2.2.2.2=s.2.2.2.2:=by
 obtain⟨r,e,d,_⟩:=Ep (fu:=fu) h.sm (by omega);have l:=h.sm.n1;have n:=h.sm.n2;have g:F79 fu s.2.2.2.1=Ac (Dl (s.2.2.2.1=r)):=by refine(Ok.eq ?_);exact BY e (BY (vJ (by omega) (by omega)) (MN rf))
 have a:s.2.2.2.1=r↔Eh s.2.2.2.1 (A8 s.2.2.2.1) (A6 s.2.2.2.1):=⟨λc=>c▸d,λc=>c.unique d⟩;refine BY g (P0 (λc=>OC (L8 h.bt h.sh (by omega) (by omega) (by omega)) λb f=>MN ?_) λc=>MN ?_);all_goals grind
theorem Ii.valid(h:Ii k m s)(d:k<=12)(f:m<=100000000)(a:1000000000000<fu):dQ fu s=Ac Bp:=by obtain⟨b,e,c⟩:=HX (fu:=fu) (h.sc d) (by omega) a;rw[e,c.2 ⟨h.nu,h.ln.wf,h.ln.can⟩]
theorem Ii.JI(h:Ii k m s)(b:k<=12)(c:m<=100000000)(a:1000000000000<fu):nX fu s=Ac s:=by refine(Ok.eq ?_);exact BY (h.valid b c a) (P8 rf (MN rf))
theorem GA{a b:Tb}{M:Lg}{p:Nat}(c:CD a L m)(d:CD b M p)(h:(m+2)*(p+2)<=1000000000)(g:1000000000000<fu):nK (max (max m p) 256) fu a b:=by have e:=c.len;have f:=d.len;have i:GW a b<=(m+2)*(p+2):=Abv (by omega) (by omega);have j:m<=(m+2)*(p+2):=Aao (by omega:m<=(m+2)*1) (Abv (Aae _) (by omega));have k:p<=(m+2)*(p+2):=Aao (by omega:p<=1*(p+2)) (Abv (by omega) (Aae _));exact⟨c.wf.by,d.wf.by,c.wf.sh (by omega) (by omega),d.wf.sh (by omega) (by omega),by omega,by omega,by omega,by omega,by omega⟩
theorem orB(fu:Nat)(x y:Bool):vj fu (x,y)=Ac (x||y):=(by grind[vj])
theorem Uj(fu:Nat)(x y:Bool):YJ fu (x,y)=Ac (x&& !y):=(by grind[YJ])
theorem SO(h:Ii k m s)(v:k<=12)(C:m<=100000)(g:1000000000000<fu):uF fu s=Ac s:=by
 obtain⟨a,b,c,d,L⟩:=s;have z:nX fu E_=Ac E_:=(L2 (k:=0) (m:=0)).JI (by omega) (by omega) g;have i:=h.nu;have A:=h.n1;have B:=h.n2;have f:=h.ln;obtain⟨r,o,x,_⟩:=oM (fu:=fu) (i.sm (by omega) (by omega)) ((PU).sm (by simp) (by simp)) (by grind) (by omega);have j:d=r:=i.unique (x.congr (λn=>⟨λh=>h.resolve_right λh=>absurd h.1 Ba, .inl⟩) λn=>⟨λh=>h.resolve_right λh=>absurd h.1 Ba, .inl⟩);obtain⟨t,p,y⟩:=Ua (GA (fu:=fu) f (CD.nil (m:=0)) (by omega) g);have l:L=t:=f.unique (y.congr (funext λw=>by rw[f.gL,Hx,Alk]));rw[<-j]at o;rw[<-l]at p;have e:uH fu ((a,b,c,d,L),E_)=Ac (a,b,c,d,L):=by refine(Ok.eq ?_);refine BY (h.JI v (by omega) g) (BY z (BY (orB fu _ _) (BY (orB fu _ _) (BY (orB fu _ _) (BY o (BY p (MN ?_)))))));simp[E_]
 have u:uG fu ((a,b,c,d,L),E_)=Ac (a,b,c,d,L):=by refine(Ok.eq ?_);exact BY e (MN rf)
 refine(Ok.eq ?_);exact BY u (MN rf)
theorem IZ{fu k m:Nat}{s:Sc}(h:Ii k m s)(C:k<=12)(H:m<=100000000)(A:1000000000000<fu):Ok (YP fu s) λb=>b=Bp↔s=E_:=by
 obtain⟨a,b,c,t,L⟩:=s;have l:=h.nu;have F:=h.n1;have G:=h.n2;have q:=h.ln;dsimp only at l F G q;obtain⟨r,v,f,E,y,lf⟩:=XK (fu:=fu) (l.sm (by omega) (by omega)) (by omega);obtain rfl:t=r:=l.unique E;have B:f= !decide (t=([],[])):=by
  cases f with
  |false=>rw[(Agl l).1 (lf.no rfl).2];rfl
  |true=>rw[decide_eq_false λe=>(Agl l).2 e v (lf.yes rfl).1];rfl
 obtain⟨⟨w,g⟩,z,x⟩:=aM (fu:=fu) (n:=max m 256) q (q.wf.sh (Aao q.len (by omega)) (by omega)) (by omega) (by omega);have key:Ok (uC fu (a,b,c,t,L)) λo=>o.2.2.2.2.2=(a||b||c||f||g):=by refine BY (h.JI C (by omega) A) (BY y (BY z ?_));dsimp only;refine P0 (λd=>MN (by grind)) λd=>P0 (λi=>MN (by grind)) λi=>P0 (λj=>MN (by grind)) λj=>P0 (λp=>MN (by rw[d,i,j,p];rfl)) λp=>P0 (λu=>MN (by rw[d,i,j,p,u];rfl)) λu=>MN (by rw[d,i,j,p,u];rfl)
 grind[YP,E_,OC,MN]
abbrev Bb:=Vl×Vl
end
abbrev Bu:=List (Aq×Int×Bb)×List (Tb×Bb)
abbrev HQ:=List Bb×List Bb
section
variable{c:Bu}{fu:Nat}{v:List Int}{b d k i m:Nat}{ls:List Tb}{n:Nat}{s:List Bool}{x:Bb}{α:Type}{y:Sc}{l:List (Aq×Int×Bb)}{a:Nat}{u:List Int}{es:List Cm}{p j:Nat}{r:List Sp×List Sp}{P:Bb->Prop}
structure BX(c:Bu)(v:List Int):Prop where
 len:v.length=c.2.length+c.1.length
 cl:∀i (h:i<c.2.length), -1<=v.getD i 0/\v.getD i 0<(c.2[i]).1.length
 fd:∀j (h:j<c.1.length), -1<=v.getD (c.2.length+j) 0/\v.getD (c.2.length+j) 0<=(c.1[j]).1.length
structure dD(c:Bu):Prop where
 nf:c.1.length<=4
 nc:c.2.length<=4
 lb:∀f∈c.1,f.1.length<=60
 st:∀k∈c.2,k.1.length<=20000
 bt:∀k∈c.2,N3 k.1
 ed:∀k∈c.2,∀s∈k.1,s.2.length<=256
theorem AO{α:Type}{l:List α}{i:Nat}{d:α}(h:i<l.length):l.getD i d=l[i]:=by grind
theorem BG{l:List Int}(h:i<l.length):idx l (i:Int)=Ac (l.getD i 0):=by grind[Bk,AO]
theorem JG{l:List Int}(h:a+b<l.length):idx l ((a:Int)+(b:Int))=Ac (l.getD (a+b) 0):=by rw[show((a:Int)+(b:Int))=((a+b:Nat):Int) by omega,BG h]
def XM(v:List Int):List Int:=v.flatMap λn=>44::(Lib.itoa n).map λb=>((b.toNat:Nat):Int)
def Du(v:List Int):Aq:=(XM v).map λn=>UInt8.ofNat n.toNat
theorem XO{n:Int}(h0: -1<=n)(h:n<10000000000):(Lib.itoa n).length<=10:=by
 rcases Ael n 0 with b|b
 ·obtain rfl:n= -1:=by omega
  have:(Lib.itoa (-1)).length=(Lib.decDigits 1).length+1:=rfl;simp_all[Lib.decDigits_length,IP]
 grind[ON]
theorem R8{v:List Int}(h:∀n∈v, -1<=n/\n<10000000000):(XM v).length<=11*v.length:=by
 induction v with
 |nil=>trivial
 |cons n v c=>
  have d:=XO (h n (Aau ..)).1 (h n (Aau ..)).2;have:=c λm b=>h m (Aag _ b);grind[XM]
theorem qy{v:List Int}{fu:Nat}(h:∀n∈v, -1<=n/\n<10000000000)(i:v.length<=100)(g:1000000000000<fu):xI fu v=Ac (Du v):=by
 refine(Ok.eq ?_);refine Sw (λk (s:List Int)=>s=XM (v.take k)) v.length (by rfl) (by omega) (λk s nx d c e=>?_) (λs nx c=>?_)
 ·have j:=h _ (AN d);have a:=R8 (v:=v.take k) λn e=>h n (Acl e);have f:F58 fu (v[k],10,s++[44])=Ac (s++[44]++(Lib.itoa v[k]).map λb=>((b.toNat:Nat):Int)):=by
   exact(d58i fu _ _).trans (Ok.eq (PH (by grind) (Aap (MN rf))))
  refine P4 (Aah d (PH (by grind) (BY f (e _ ?_))));grind[XM,cu]
 ·refine P5 (MN ?_);rw[c,Al];rfl
theorem BX.mem(d:dD c)(b:BX c v):∀n∈v, -1<=n/\n<20001:=λn f=>by
 obtain⟨i,e,rfl⟩:=Aat f;have g:=b.len;rcases Aan i c.2.length with h|h;· have:=b.cl i h;rw[AO e]at this;have:=d.st _ (AN h);omega
 ·obtain⟨j,rfl⟩:∃j,i=c.2.length+j:=⟨i-c.2.length,by omega⟩;have:=b.fd j (by omega);rw[AO e]at this;have:=d.lb _ (AN (by omega:j<c.1.length));omega
theorem BX.key(d:dD c)(e:BX c v)(f:1000000000000<fu):xI fu v=Ac (Du v)/\(Du v).length<=100:=by
 have g:=e.mem d;have k:=e.len;have i:=d.nf;have j:=d.nc;have a:∀n∈v, -1<=n/\n<10000000000:=λn h=>by grind
 grind[Du,qy,R8,List.length_map]
theorem Hw{l:List Int}{i j:Nat}{x:Int}(h:i<l.length):(l.set i x).getD j 0=if i=j then x else l.getD j 0:=by grind
def GY:List Nat->Nat
 | []=>1
 |n::l=>n*GY l
def NI:List Nat->List (List Int)
 | []=>[[]]
 |n::l=>(aT n).flatMap λ(i:Nat)=>(NI l).map λv=>((i:Int)-1)::v
theorem L7:∀l,(NI l).length=GY l
 | []=>rfl
 |n::l=>by
  have:∀m,((aT m).flatMap λ(i:Nat)=>(NI l).map λv=>((i:Int)-1)::v).length=m*GY l:=λm=>by
   induction m with
   |zero=>simp
   |succ m c=>rw[Aem,Acp,Aac,c,Aek,Aal,L7 l,Aea]
  exact this n
theorem MJ:∀ {l:List Nat} {v:List Int},v.length=l.length->(∀i (h:i<l.length), -1<=v.getD i 0/\v.getD i 0+1<l[i])->v∈NI l
 | [],v,h,_=>by obtain rfl:v=[]:=OF.1 h;trivial
 |n::l,[],h,_=>by grind
 |n::l,x::v,h,k=>by have a:=k 0 (by simp);have a: -1<=x/\x+1<(n:Int):=a;refine Aad.2 ⟨(x+1).toNat,Abg.2 (by omega),By.2 ⟨v,MJ (by grind) (λi b=>?_),by grind⟩⟩;exact k (i+1) (by grind)
def GG(c:Bu):List Nat:=c.2.map (λk=>k.1.length+1)++c.1.map λf=>f.1.length+2
theorem BX.NI(b:BX c v):v∈NI (GG c):=by
 refine MJ (by rw[b.len];simp[GG]) λi d=>?_;have e:i<c.2.length+c.1.length:=by grind[GG]
 rcases Aan i c.2.length with h|h;· have:=b.cl i h;grind[GG]
 ·obtain⟨j,rfl⟩:∃j,i=c.2.length+j:=⟨i-c.2.length,by omega⟩;have:=b.fd j (by omega);grind[GG]
theorem gR{l:List Aq}(a:l.Nodup)(h:∀x∈l,∃v,BX c v/\x=Du v):l.length<=GY (GG c):=by rw[<-L7,<-Aal (f:=Du)];refine Ch a λx d=>?_;obtain⟨v,b,rfl⟩:=h x d;exact By.2 ⟨v,b.NI,rfl⟩
theorem rC:1000000000000<=Ah:=by decide
structure FO(c:Bu)(m:List (Aq×Bool)):Prop where
 nd:(m.map (·.1)).Nodup
 tr:∀p∈m,p.2=Bp
 ky:∀p∈m,∃v,BX c v/\p.1=Du v
theorem FO.le{m:List (Aq×Bool)}(h:FO c m):m.length<=GY (GG c):=by rw[<-Aal (f:=λp:Aq×Bool=>p.1)];refine gR h.nd λx b=>?_;obtain⟨p,a,rfl⟩:=By.1 b;exact h.ky p a
theorem UB{m:List (Aq×Bool)}{x:Aq}(h:AB m x=C7):x∉m.map (·.1):=by
 induction m with
 |nil=>simp
 |cons p m d=>
  grind[AB]
theorem OR{m:List (Aq×Bool)}{x:Aq}{b:Bool}(h:AB m x=Ac b):(x,b)∈m:=by
 induction m with
 |nil=>cases h
 |cons p m d=>
  grind[AB]
theorem FO.get{m:List (Aq×Bool)}(h:FO c m){x:Aq} :AB m x=C7\/AB m x=Ac Bp:=by
 cases a:AB m x with
 |none=>simp
 |some b=>exact .inr (congrArg Ac (h.tr _ (OR a)))
theorem FO.put{m:List (Aq×Bool)}(h:FO c m)(k:BX c v)(i:AB m (Du v)=C7):FO c (Bw m (Du v) Bp)/\(Bw m (Du v) Bp).length=m.length+1:=by
 have e:Bw m (Du v) Bp=m++[(Du v,Bp)]:=by grind[Bw]
 rw[e];refine⟨⟨?_,λp d=>?_,λp d=>?_⟩,by simp⟩;· rw[Aak];refine Abc.2 ⟨h.nd,by simp,λa j b g=>?_⟩;simp at g;grind[UB]
 ·rcases AS.1 d with d|d;· exact h.tr p d
  grind
 ·rcases AS.1 d with d|d;· exact h.ky p d
  grind
theorem nE:4294967296<=4294967296:=by decide
theorem bC(h:n<4294967296):F82 fu n=Ac []:=by refine(Ok.eq ?_);rw[F82];have a:=nE;refine P5 (Aap (Aap (N_ (λc=>PH (by omega) ?_) (λ_=>MN rfl))));obtain⟨k,b⟩:∃k,ao ((n:Int)-((0:Int)-(0:Int)))=k+1:=⟨n-1,by omega⟩;rw[b];simp only[pV];exact Abw (PH ⟨by omega,by omega⟩ (MN rfl))
theorem UJ{fu:Nat}{L:List (List Bb)}(h:L.flatten.length<1000000000)(g:L.length<fu):xE fu L=Ac L.flatten:=by
 refine(Ok.eq ?_);rw[xE];have j:=nE;have i (k:Nat) (b:k<L.length):(L.take (k+1)).flatten=(L.take k).flatten++L[k]:=by rw[IN b,Ahg];simp
 have le (k:Nat):(L.take k).flatten.length<=L.flatten.length:=by have:=congrArg FD (congrArg List.flatten (Acf k L));rw[Ahg,Aac]at this;omega
 refine Sw (λk (s:Int)=>s=((L.take k).flatten.length:Nat)) L.length (by simp) g ?_ ?_;· intro k s nx b e c;have t:=i k b;have l:=le (k+1);rw[t,Aac]at l;refine TT (by show(k:Int)<L.length;omega) (Aah b ?_);dsimp only;refine Aap (P5 (c _ ?_));rw[t,Aac,e];omega
 ·intro s nx e;refine Qd (by show¬(L.length:Int)<L.length;omega) ?_;rw[Aar]at e;dsimp only;rw[e];refine BY (bC (by omega)) ?_;refine Sw (λk out=>out=(L.take k).flatten) L.length (by simp) g ?_ ?_
  ·intro k out nx b d c;have t:=i k b;have l:=le (k+1);rw[t,Aac]at l;have m:out.length+L[k].length<=4294967296:=by rw[d];omega
   refine TT (by show(k:Int)<L.length;omega) (Aah b (PH m (c _ ?_)));rw[t,d]
  ·intro out nx d;refine Qd (by show¬(L.length:Int)<L.length;omega) (MN ?_);rw[d,Aar]
def Bq(c:Bu):List Bb:=c.1.map (·.2.2)++c.2.map (·.2)
def AY(c:HQ):List Bb:=c.1++c.2
def kids(v:Vl):List Bb:=v.lists.flatMap AY++v.structs.flatMap Bq
structure NV(c:Bu):Prop where
 nf:c.1.length<=4
 nc:c.2.length<=4
 lb:∀f∈c.1,f.1.length<=60
 st:GY (c.2.map λk=>k.1.length+3)<=14641
 bt:∀k∈c.2,N3 k.1
 ed:∀k∈c.2,∀s∈k.1,s.2.length<=256
theorem VG{l:List Nat}(h:∀n∈l,0<n):0<GY l:=by
 induction l with
 |nil=>exact Nat.one_pos
 |cons n l b=>exact Nat.mul_pos (h n (Aau ..)) (b λm a=>h m (Aag _ a))
theorem VH{l:List Nat}(h:∀n∈l,0<n)(a:n∈l):n<=GY l:=by
 induction l with
 |nil=>cases a
 |cons m l e=>
  have d:=VG λk b=>h k (Aag _ b);have c:=h m (Aau ..);rcases Aav.1 a with rfl|a;· exact Aey _ d
  ·exact Aao (e (λk b=>h k (Aag _ b)) a) (Nat.le_mul_of_pos_left _ c)
theorem VI(a b:List Nat):GY (a++b)=GY a*GY b:=by
 induction a with
 |nil=>simp[GY]
 |cons n a c=>rw[Aer,GY,GY,c,Aeo]
theorem T_{l:List α}{f g:α->Nat}(h:∀x∈l,f x<=g x):GY (l.map f)<=GY (l.map g):=by
 induction l with
 |nil=>exact Aae _
 |cons x l b=>exact Abv (h x (Aau ..)) (b λy a=>h y (Aag _ a))
theorem Ol(n:Nat)(l:List α):GY (l.map λ_=>n)=n^l.length:=by
 induction l with
 |nil=>rfl
 |cons x l a=>rw[Aas,GY,a,Abn,Nat.pow_succ,Ada]
theorem NV.each(h:NV c):∀k∈c.2,k.1.length<=14641:=λk b=>by have:=VH (l:=c.2.map λk=>k.1.length+3) (λn d=>by obtain⟨q,_,rfl⟩:=By.1 d;omega) (By.2 ⟨k,b,rfl⟩);have:=h.st;omega
theorem NV.lim(h:NV c):dD c:=⟨h.nf,h.nc,h.lb,λk a=>by have:=h.each k a;omega,h.bt,h.ed⟩
theorem NV.GG(h:NV c):GY (GG c)<=400000000000:=by
 unfold Go.GL.GG;rw[VI];have b:GY (c.2.map λk=>k.1.length+1)<=14641:=Aao (T_ λk _=>by omega) h.st;have d:GY (c.1.map λf=>f.1.length+2)<=62^c.1.length:=by rw[<-Ol 62 c.1];exact T_ λf g=>by have:=h.lb f g;omega
 have e:62^c.1.length<=62^4:=Agw (by decide) h.nf;exact Aao (Abv b (Aao d e)) (by decide)
def Bd:Nat->Vl->Prop
 |0,_=>False
 |d+1,v=>dE 5 12 v.sc/\(v.lists.length<=3/\∀c∈v.lists,c.1.length<=3/\c.2.length<=2)/\(v.structs.length<=3/\∀c∈v.structs,NV c)/\∀x∈kids v,Bd d x.1/\Bd d x.2
def eT(l:List (Aq×Int×Bb)):Prop:= ∀i (h:i+1<l.length),gh l[i].1 l[i+1].1=Bp
def Snd:Nat->Vl->Prop
 |0,_=>False
 |d+1,v=>Ii 5 12 v.sc/\(∀c∈v.lists,c.2.length<=1)/\(∀c∈v.structs,eT c.1/\∀k∈c.2,Bf k.1/\BW k.1=k.1)/\∀x∈kids v,Snd d x.1/\Snd d x.2
theorem Dv{α β:Type}{f:α->List β}{n:Nat} :∀ {l:List α},(∀x∈l,(f x).length<=n)->(l.flatMap f).length<=l.length*n
 | [],_=>by simp
 |x::l,h=>by have:=Dv (f:=f) (n:=n) (l:=l) λy b=>h y (Aag _ b);have:=h x (Aau ..);rw[Aga,Aac,Abn,Aea];omega
theorem Bd.kids{v:Vl}(h:Bd (d+1) v):(kids v).length<=39:=by
 obtain⟨_,⟨j,i⟩,⟨k,g⟩,_⟩:=h;have a:=Dv (f:=AY) (n:=5) (l:=v.lists) λc hc=>by have:=i c hc;unfold AY;rw[Aac];omega
 have b:=Dv (f:=Bq) (n:=8) (l:=v.structs) λc hc=>by have:=(g c hc).nf;have:=(g c hc).nc;unfold Bq;rw[Aac,Aal,Aal];omega
 unfold Go.GL.kids;rw[Aac];omega
theorem VO{s:Sc}(h1:s.2.2.2.1.1.length<=12)(h2:s.2.2.2.1.2.length<=12)(h3:s.2.2.2.2.length<=1000000):Ok (xM fu s) λr=>r=Bp↔s=E_:=by
 rw[xM];obtain⟨a,b,c,⟨e,f⟩,l⟩:=s;dsimp only at h1 h2 h3;have no:∀ {P:Prop},¬P->Ok (Ac Aj) λr=>r=Bp↔P:=λh=>MN ⟨λk=>(by cases k),λk=>absurd k h⟩;cases a with
 |true=>exact no λh=>by cases h
 |false=>cases b with
  |true=>exact no λh=>by cases h
  |false=>cases c with
   |true=>exact no λh=>by cases h
   |false=>
    refine VY rfl (VY rfl (VY rfl (Aap (Aap (MN ?_)))));rw[decide_eq_true_iff];constructor;· intro h;have h:((e.length:Int)+f.length+l.length)=0:=h;obtain rfl:e=[]:=OF.1 (by omega);obtain rfl:f=[]:=OF.1 (by omega);obtain rfl:l=[]:=OF.1 (by omega);rfl
    ·intro h;unfold E_ at h;simp only[Aet]at h;obtain⟨_,_,_,⟨rfl,rfl⟩,rfl⟩:=h;rfl
theorem Hm{c:HQ}(h:c.1.length<=1000/\c.2.length<=1000)(b:1000000000000<fu):ff fu c=Ac (AY c):=by
 refine(Ok.eq ?_);have e:xE fu [c.1,c.2]=Ac (AY c):=by grind[AY,UJ]
 exact BY e (MN rf)
theorem Zp(h:c.1.length<=1000/\c.2.length<=1000)(j:1000000000000<fu):F85 fu c=Ac (Bq c):=by
 refine(Ok.eq ?_);refine Sw (λk (s:List Bb)=>s=(c.1.take k).map (·.2.2)) c.1.length rf (by omega) (λk s nx e d g=>?_) (λs nx d=>?_);· refine P4 (Aah e (PH (by grind) (g _ ?_)));rw[d,IN e,Aak];rfl
 rw[Al]at d;refine Qd (by omega) ?_;refine Sw (λk (s:List Bb)=>s=c.1.map (·.2.2)++(c.2.take k).map (·.2)) c.2.length (by grind) (by omega) (λk s nx e b g=>?_) (λs nx b=>?_);· refine P4 (Aah e (PH (by grind) (g _ ?_)));rw[b,IN e,Aak,<-Aaj];rfl
 ·refine P5 (MN ?_);rw[b,Al];rfl
theorem V2{v:Vl}(h:Bd (d+1) v)(u:1000000000000<fu):F86 fu v=Ac (kids v):=by
 obtain⟨_,⟨B,w⟩,⟨E,t⟩,_⟩:=h;have x:∀k,((v.lists.take k).flatMap AY).length<=15:=λk=>by
  have:=Dv (f:=AY) (n:=5) (l:=v.lists.take k) λc hc=>by grind[AY]
  grind
 have lb:∀k,((v.structs.take k).flatMap Bq).length<=24:=λk=>by
  have:=Dv (f:=Bq) (n:=8) (l:=v.structs.take k) λc hc=>by have:=(t c (Acl hc)).nf;have:=(t c (Acl hc)).nc;grind[Bq]
  grind
 refine(Ok.eq ?_);refine Sw (λk (s:List Bb)=>s=(v.lists.take k).flatMap AY) v.lists.length rf (by omega) (λk s nx m o r=>?_) (λs nx o=>?_)
 ·have hc:=w _ (AN m);have e:(v.lists.take (k+1)).flatMap AY=s++AY v.lists[k]:=by rw[o,IN m,Acp,Aek]
  have:=x (k+1);rw[e,Aac]at this;have p:ff fu v.lists[k]=Ac (AY v.lists[k]):=Hm (by omega) u;refine P4 (Aah m (BY p (Abw (r _ e.symm))))
 rw[Al]at o;refine Qd (by omega) ?_;refine Sw (λk (s:List Bb)=>s=v.lists.flatMap AY++(v.structs.take k).flatMap Bq) v.structs.length (by simp[o]) (by omega) (λk s nx m j r=>?_) (λs nx j=>?_)
 ·have hc:=t _ (AN m);have z:=hc.nf;have A:=hc.nc;have e:v.lists.flatMap AY++(v.structs.take (k+1)).flatMap Bq=s++Bq v.structs[k]:=by rw[j,IN m,Acp,Aek,Aaj]
  have a:=x v.lists.length;rw[Al]at a;have b:=lb (k+1);have:=congrArg FD e;rw[Aac,Aac]at this;have q:F85 fu v.structs[k]=Ac (Bq v.structs[k]):=Zp (by omega) u;refine P4 (Aah m (BY q (Abw (r _ e.symm))))
 ·refine P5 (MN ?_);rw[j,Al];rfl
def FI:Nat->Nat
 |0=>0
 |d+1=>1+78*FI d
def Hj(es:List Cm)(q:Int)(b:Int):Int:=es.foldl (λq e=>if e.1<=b/\b<=e.2.1 then e.2.2 else q) q
theorem RH{b:Int} :∀ {es:List Cm} {q:Int},(∀e∈es,¬(e.1<=b/\b<=e.2.1))->Hj es q b=q
 | [],q,_=>rfl
 |e::es,q,h=>by unfold Hj;rw[Afp,if_neg (h e (Aau ..))];exact RH (es:=es) λf a=>h f (Aag _ a)
theorem Z2(m:es.Pairwise λa b=>a.2.1<b.1) :Hj es (-1) b=AQ es b:=by
 induction es with
 |nil=>rfl
 |cons e es n=>
  obtain⟨i,j⟩:=Abj.1 m;by_cases h:e.1<=(b:Int)/\(b:Int)<=e.2.1
  ·have c:AQ (e::es) b=e.2.2:=by
    grind[AQ,BN]
   have d:Hj (e::es) (-1) b=Hj es e.2.2 b:=by simp_all[Hj]
   grind[RH]
  grind[AQ,BN,Hj]
def YX(s:Aq)(n:Int)(b:Nat):Int:=if 0<=n/\n<s.length/\(s.getD n.toNat 0).toNat=b then n+1 else-1
def zZ:Vl:= .mk Aj (Aj,Aj,Aj,([],[]),[]) [] []
def dK:Tb×Bb:=([],zZ,zZ)
def dF:Aq×Int×Bb:=([],0,zZ,zZ)
def XA(c:Bu)(v:List Int)(b:Nat)(i:Nat):Int:=Bl (c.2.getD i dK).1 (v.getD i 0) b
def Uf(c:Bu)(v:List Int)(b:Nat)(j:Nat):Int:=YX (c.1.getD j dF).1 (v.getD (c.2.length+j) 0) b
structure fc(c:Bu)(v u:List Int)(b:Nat):Prop where
 len:u.length=c.2.length+c.1.length
 cl:∀i,i<c.2.length->u.getD i 0=XA c v b i
 fd:∀j,j<c.1.length->u.getD (c.2.length+j) 0=Uf c v b j
theorem M6(c:u.length=v.length)(h:∀i,i<u.length->u.getD i 0=v.getD i 0):u=v:=by grind[List.ext_getElem,AO]
theorem fc.uniq{d:List Int}(h:fc c v u b)(k:fc c v d b):u=d:=by
 refine M6 (by rw[h.len,k.len]) λi e=>?_;have:=h.len;rcases Aan i c.2.length with hc|hc;· rw[h.cl i hc,k.cl i hc]
 ·obtain⟨j,rfl⟩:∃j,i=c.2.length+j:=⟨i-c.2.length,by omega⟩;rw[h.fd j (by omega),k.fd j (by omega)]
theorem dA(H:dD c)(hw:∀k∈c.2,Bf k.1)(S:BX c v)(hF:1000000000000<fu):Ok (F62 fu (c,v,(b:Int))) λu=>fc c v u b:=by
 have h1:=H.nf;have h2:=H.nc;have Z:=S.len;refine PH (by grind) ?_;refine Sw (λk (s:List Int)=>s.length=v.length/\∀i,i<k->s.getD i 0= -1) v.length ⟨by simp,λi h=>by omega⟩ (by omega) (λk s nx l g E=>?_) (λs nx g=>?_)
 ·refine TT (by grind) (BY (BG (by grind)) (E _ ⟨by grind,λi f=>?_⟩));grind[Hw]
 refine Qd (by simp) ?_;obtain⟨Q,R⟩:=g;refine Sw (λk (s:List Int)=>s.length=v.length/\(∀i,i<k->s.getD i 0=XA c v b i)/\∀i,k<=i->i<v.length->s.getD i 0= -1) c.2.length ⟨Q,λi f=>by omega,λi _ f=>R i f⟩ (by omega) (λk s nx l g E=>?_) (λs nx g=>?_)
 ·have hc:=S.cl k l;have C:=AN l;obtain⟨w,F,x⟩:=g;have M:=H.ed _ C;have z:c.2.getD k dK=c.2[k]:=AO l;have step:∀t:List Int,t.length=v.length->t.getD k 0=XA c v b k->(∀i,i≠k->t.getD i 0=s.getD i 0)->Ok (nx (t,k+1)) λu=>fc c v u b:=λt I p y=>E _ ⟨I,λi f=>by
   rcases Aan i k with h|h;· rw[y i (by omega)];exact F i h
   ·obtain rfl:i=k:=by omega
    exact p,λi f N=>by rw[y i (by omega)];exact x i (by omega) N⟩;refine P4 (Aah l (BY (BG (by omega)) (N_ (λh=>step _ w (by
   rw[x k (Aae _) (by omega)];unfold XA;rw[Jg b h]) λ_ _=>rfl) λh=>(by
   have h:¬v.getD k 0<0:=h;refine BY (BG (by omega)) (Adq (Agq.1 h) hc.2 ?_);have D:(c.2[k]).1[(v.getD k 0).toNat]'(by omega)∈(c.2[k]).1:=AN _;have W:=(hw _ C) _ D;have K:=M _ D;have V:XA c v b k=AQ ((c.2[k]).1[(v.getD k 0).toNat]'(by omega)).2 b:=by unfold XA Bl Be;rw[z,if_neg h,AO (by omega)]
   dsimp only;generalize(c.2[k]).1[(v.getD k 0).toNat]'(by omega)=st at W K V;refine Sw (λm (t:List Int)=>t.length=v.length/\t.getD k 0=Hj (st.2.take m) (-1) b/\∀i,i≠k->t.getD i 0=s.getD i 0) st.2.length ⟨w,x k (Aae _) (by omega),λ_ _=>rfl⟩ (by omega) (λm t T C L r=>?_) (λt T L=>?_)
   ·obtain⟨G,t2,t3⟩:=L;have J:∀q,Hj (st.2.take (m+1)) q b=if(st.2[m]).1<=(b:Int)/\(b:Int)<=(st.2[m]).2.1 then(st.2[m]).2.2 else Hj (st.2.take m) q b:=λq=>by
     unfold Hj;rw[IN C,Adc];rfl
    refine P4 (Aah C (N_ (λa=>N_ (λp=>BY (BG (by dsimp only;omega)) (r _ ⟨by rw[Abq];exact G,?_,λi f=>?_⟩)) λp=>r _ ⟨G,?_,t3⟩) λa=>r _ ⟨G,?_,t3⟩));· rw[J,if_pos ⟨a,p⟩];dsimp only;rw[Hw (by omega),if_pos rf]
    ·dsimp only;rw[Hw (by omega),if_neg (Ne.symm f)];exact t3 i f
    ·rw[J,if_neg λh=>p h.2];exact t2
    ·rw[J,if_neg λh=>a h.1];exact t2
   ·obtain⟨G,t2,t3⟩:=L;rw[Aar]at t2;exact P5 (step _ G (by rw[V,t2];exact Z2 W.so) t3)))))
 obtain⟨i1,i2,i3⟩:=g;refine Qd (by dsimp only;omega) ?_;refine Sw (λk (s:List Int)=>s.length=v.length/\(∀i,i<c.2.length->s.getD i 0=XA c v b i)/\(∀j,j<k->s.getD (c.2.length+j) 0=Uf c v b j)/\∀j,k<=j->j<c.1.length->s.getD (c.2.length+j) 0= -1) c.1.length ⟨i1,i2,λj O=>by omega,λj _ O=>i3 _ (by omega) (by omega)⟩ (by omega) (λk s nx l g E=>?_) (λs nx g=>?_)
 ·have hc:=S.fd k l;obtain⟨w,F,x,Y⟩:=g;have z:c.1.getD k dF=c.1[k]:=AO l;have step:∀t:List Int,t.length=v.length->t.getD (c.2.length+k) 0=Uf c v b k->(∀i,i≠c.2.length+k->t.getD i 0=s.getD i 0)->Ok (nx (t,k+1)) λu=>fc c v u b:=λt I p y=>E _ ⟨I,λi f=>by rw[y i (by omega)];exact F i f,λj O=>by
   rcases Aan j k with h|h;· rw[y _ (by omega)];exact x j h
   ·obtain rfl:j=k:=by omega
    exact p,λj O P=>by rw[y _ (by omega)];exact Y j (by omega) P⟩;have no:Uf c v b k= -1->Ok (nx (s,k+1)) λu=>fc c v u b:=λh=>step _ w (by rw[Y k (Aae _) l,h]) λ_ _=>rfl;refine P4 (Aah l (Aap (BY (JG (by omega)) (N_ (λA=>N_ (λB=>?_) λB=>no ?_) λA=>no ?_))))
  ·have B:v.getD (c.2.length+k) 0<(c.1[k]).1.length:=B;have A:0<=v.getD (c.2.length+k) 0:=A;have f:Ey (c.1[k]).1 (v.getD (c.2.length+k) 0)=Ac (((c.1[k]).1[(v.getD (c.2.length+k) 0).toNat]'(by omega)).toNat:Int):=by
    obtain⟨q,hq⟩:∃q:Nat,v.getD (c.2.length+k) 0=q:=⟨(v.getD (c.2.length+k) 0).toNat,by omega⟩;simp only[hq];rw[MV (by omega)];rfl
   have hlb:=H.lb _ (AN l);have U:((c.1[k]).1.getD (v.getD (c.2.length+k) 0).toNat 0)=(c.1[k]).1[(v.getD (c.2.length+k) 0).toNat]'(by omega):=AO (by omega);refine BY f (N_ (λX=>Aap (BY (JG (by dsimp only;omega)) (step _ (by dsimp only;rw[Abq];exact w) ?_ λi f=>?_))) λX=>no ?_);· dsimp only;rw[show((c.2.length:Int)+(k:Int)).toNat=c.2.length+k by omega,Hw (by omega),if_pos rfl];unfold Uf YX;rw[z,if_pos ⟨A,B,by rw[U];omega⟩]
   ·dsimp only;rw[show((c.2.length:Int)+(k:Int)).toNat=c.2.length+k by omega,Hw (by omega),if_neg (Ne.symm f)]
   ·unfold Uf YX;rw[z,if_neg];rintro⟨_,_,e⟩;rw[U]at e;exact X (by omega)
  ·unfold Uf YX;rw[z,if_neg];rintro⟨_,e,_⟩;exact B e
  ·unfold Uf YX;rw[if_neg];rintro⟨e,_⟩;exact A e
 ·obtain⟨w,F,x,_⟩:=g;exact P5 (MN ⟨by rw[w,Z],F,x⟩)
def Lr(c:Bu)(v:List Int)(k:Nat):Nat:=((aT k).filter λi=>fin (c.2.getD i dK).1 (v.getD i 0)).length
def Qc(c:Bu)(v:List Int)(k:Nat):Nat:=((aT k).filter λj=>Dl (v.getD (c.2.length+j) 0=((c.1.getD j dF).1.length:Int))).length
def MW(c:Bu)(v:List Int):Nat:=Lr c v c.2.length+Qc c v c.1.length
theorem HA{p:Nat->Bool}{k:Nat} :((aT (k+1)).filter p).length=((aT k).filter p).length+(if p k=Bp then 1 else 0):=by rw[Aem,Afx,Aac];grind
theorem filter_le{p:Nat->Bool} :((aT k).filter p).length<=k:=by grind
theorem im(n:dD c)(o:BX c v)(t:1000000000000<fu):F60 fu (c,v)=Ac (MW c v:Int):=by
 have q:=n.nf;have r:=n.nc;have w:=o.len;refine(Ok.eq ?_);refine Sw (λk (s:Int)=>s=(Lr c v k:Int)) c.2.length rfl (by omega) (λk s nx f d g=>?_) (λs nx d=>?_)
 ·have hc:=o.cl k f;have l:Lr c v k<=k:=filter_le;have e:(Lr c v (k+1):Int)=(Lr c v k:Int)+(if fin (c.2.getD k dK).1 (v.getD k 0)=Bp then 1 else 0:Nat):=by
   grind[Lr,HA]
  have m:∀h:0<=v.getD k 0,fin (c.2.getD k dK).1 (v.getD k 0)=((c.2[k]).1[(v.getD k 0).toNat]'(by omega)).1:=λh=>by grind[fin,Be]
  subst d;refine P4 (Aah f (BY (BG (by omega)) (N_ (λh=>BY (BG (by omega)) (Adq h hc.2 (P0 (λj=>Aap (g _ ?_)) λj=>g _ ?_))) λh=>g _ ?_)))
  all_goals grind[fin]
 ·refine Qd (by omega) ?_;have u:Lr c v c.2.length<=c.2.length:=filter_le;refine Sw (λk (s:Int)=>s=(Lr c v c.2.length:Int)+(Qc c v k:Int)) c.1.length (by rw[d];show _=_+((0:Nat):Int);simp) (by omega) (λk s nx f d g=>?_) (λs nx d=>?_)
  ·have i:c.1.getD k dF=c.1[k]:=AO f;have l:Qc c v k<=k:=filter_le;have e:(Qc c v (k+1):Int)=(Qc c v k:Int)+(if Dl (v.getD (c.2.length+k) 0=((c.1.getD k dF).1.length:Int))=Bp then 1 else 0:Nat):=by
    unfold Qc;rw[HA];omega
   subst d;refine P4 (Aah f (Aap (BY (JG (by omega)) (N_ (λh=>Aap (g _ ?_)) λh=>g _ ?_))));· rw[e,if_pos (decide_eq_true (by rw[i];exact h))];omega
   ·rw[e,if_neg (by rw[decide_eq_true_eq,i];exact h)];simp
  ·refine P5 (MN ?_);unfold MW;omega
theorem FY{x:Nat}(h:s.getD x Aj=Bp):(s.set i Bp).getD x Aj=Bp:=by grind
theorem Ji(h:i<s.length):(s.set i Bp).getD i Aj=Bp:=by grind
def iK(c:Bu)(v:List Int)(i:Nat):List Cm:=if v.getD i 0<0 then []else(Be (c.2.getD i dK).1 (v.getD i 0)).2
def nC(c:Bu)(v:List Int)(j:Nat):Option Nat:=if 0<=v.getD (c.2.length+j) 0/\v.getD (c.2.length+j) 0<(c.1.getD j dF).1.length then Ac ((c.1.getD j dF).1.getD (v.getD (c.2.length+j) 0).toNat 0).toNat else C7
structure U4(c:Bu)(v:List Int)(s:List Bool)(k m:Nat):Prop where
 len:s.length=257
 z:s.getD 0 Aj=Bp
 ed:∀i,i<k->∀e∈iK c v i,s.getD e.1.toNat Aj=Bp/\s.getD (e.2.1+1).toNat Aj=Bp
 ch:∀j,j<m->∀x,nC c v j=Ac x->s.getD x Aj=Bp/\s.getD (x+1) Aj=Bp
theorem U4.up{t:List Bool}(h:U4 c v s k m)(l:t.length=257)(a:∀x,s.getD x Aj=Bp->t.getD x Aj=Bp):U4 c v t k m:=
 ⟨l,a _ h.z,λi d e b=>⟨a _ (h.ed i d e b).1,a _ (h.ed i d e b).2⟩,λj f x g=>⟨a _ (h.ch j f x g).1,a _ (h.ch j f x g).2⟩⟩
def ZJ(c:Bu)(v:List Int)(a b:Nat):Prop:=(∀i,i<c.2.length->XA c v a i=XA c v b i)/\∀j,j<c.1.length->Uf c v a j=Uf c v b j
def StV(c:Bu)(v:List Int)(l:List Int):Prop:=(∀s∈l,∃a:Nat,s=a/\a<256)/\∀b,b<256->∃a:Nat,(a:Int)∈l/\ZJ c v a b
theorem Rj(h:∀e∈es,BN a e=BN b e):AQ es a=AQ es b:=by
 unfold AQ;rw[show es.find? (BN a)=es.find? (BN b) by
  induction es with
  |nil=>rfl
  |cons e es d=>
   grind]
theorem OE{s:List Bool}(h0:s.getD 0 Aj=Bp):∀b:Nat,∃a,a<=b/\s.getD a Aj=Bp/\∀x,a<x->x<=b->s.getD x Aj=Aj
 |0=>⟨0,Aae _,h0,λx d c=>by omega⟩
 |b+1=>by
  cases h:s.getD (b+1) Aj with
  |true=>grind
  |false=>
   obtain⟨a,d,c,f⟩:=OE h0 b;grind
theorem U4.st(q:U4 c v s c.2.length c.1.length)(A:∀i,i<c.2.length->∀e∈iK c v i,0<=e.1/\0<=e.2.1):StV c v (((aT 256).filter λx=>s.getD x Aj).map λ(x:Nat)=>(x:Int)):=by
 refine⟨λx B=>?_,λb F=>?_⟩;· grind
 obtain⟨a,E,t,p⟩:=OE q.z b;refine⟨a,By.2 ⟨a,Abb.2 ⟨Abg.2 (by omega),t⟩,rfl⟩,λi r=>?_,λj z=>?_⟩
 ·unfold XA Bl;by_cases f:v.getD i 0<0;· omega
  ·rw[if_neg f,if_neg f];refine Rj λe w=>?_;have o:e∈iK c v i:=by grind[iK]
   obtain⟨m,n⟩:=q.ed i r e o;have C:¬(a<e.1.toNat/\e.1.toNat<=b):=λ⟨k,l⟩=>by rw[p _ k l]at m;cases m
   have D:¬(a<(e.2.1+1).toNat/\(e.2.1+1).toNat<=b):=λ⟨k,l⟩=>by rw[p _ k l]at n;cases n
   unfold BN;rw[show Dl (e.1<=(a:Int))=Dl (e.1<=(b:Int)) by rw[decide_eq_decide];omega,show Dl ((a:Int)<=e.2.1)=Dl ((b:Int)<=e.2.1) by rw[decide_eq_decide];omega]
 ·unfold Uf YX;by_cases f:0<=v.getD (c.2.length+j) 0/\v.getD (c.2.length+j) 0<(c.1.getD j dF).1.length
  ·obtain⟨m,n⟩:=q.ch j z _ (by unfold nC;rw[if_pos f]);generalize((c.1.getD j dF).1.getD (v.getD (c.2.length+j) 0).toNat 0).toNat=y at m n;have C:¬(a<y/\y<=b):=λ⟨k,l⟩=>by rw[p _ k l]at m;cases m
   have D:¬(a<y+1/\y+1<=b):=λ⟨k,l⟩=>by rw[p _ k l]at n;cases n
   have:(y=a)↔(y=b):=by omega
   simp only[this]
  ·rw[if_neg λh=>f ⟨h.1,h.2.1⟩,if_neg λh=>f ⟨h.1,h.2.1⟩]
theorem U4.ck(h:U4 c v s k m)(b:∀e∈iK c v k,s.getD e.1.toNat Aj=Bp/\s.getD (e.2.1+1).toNat Aj=Bp):U4 c v s (k+1) m:=
 ⟨h.len,h.z,λi d=>by
  rcases Aan i k with a|a;· exact h.ed i a
  grind,h.ch⟩
theorem U4.cj(h:U4 c v s k m)(b:∀x,nC c v m=Ac x->s.getD x Aj=Bp/\s.getD (x+1) Aj=Bp):U4 c v s k (m+1):=
 ⟨h.len,h.z,h.ed,λi d=>by
  rcases Aan i m with a|a;· exact h.ch i a
  grind⟩
theorem Xh(H:dD c)(hw:∀k∈c.2,Bf k.1)(K:BX c v)(hF:1000000000000<fu):Ok (F61 fu (c,v)) λl=>l.length<=256/\StV c v l:=by
 have h1:=H.nf;have h2:=H.nc;have hl:=K.len;have m0:U4 c v (lj (T8 257 Aj) 0 Bp) 0 0:=⟨by grind,Ji (by grind),λi u=>by omega,λj hj=>by omega⟩;refine Sw (λk (s:List Bool)=>U4 c v s k 0) c.2.length m0 (by omega) (λk s nx w d n=>?_) (λs nx d=>?_);· have hc:=K.cl k w;have A:=AN w;have O:=H.ed _ A;refine P4 (Aah w (BY (BG (by omega)) (N_ (λh=>n _ (d.ck λe f=>by
   grind[iK])) λh=>(by
   have h:¬v.getD k 0<0:=h;refine BY (BG (by omega)) (Adq (Agq.1 h) hc.2 ?_);have I:(c.2[k]).1[(v.getD k 0).toNat]'(by omega)∈(c.2[k]).1:=AN _;have V:=H.bt _ A _ I;have M:=O _ I;have ev:iK c v k=((c.2[k]).1[(v.getD k 0).toNat]'(by omega)).2:=by unfold iK Be;grind
   dsimp only;generalize(c.2[k]).1[(v.getD k 0).toNat]'(by omega)=st at V M ev;refine Sw (λm (t:List Bool)=>U4 c v t k 0/\∀e∈st.2.take m,t.getD e.1.toNat Aj=Bp/\t.getD (e.2.1+1).toNat Aj=Bp) st.2.length ⟨d,by simp⟩ (by omega) (λm t T A N P=>?_) (λt T N=>?_)
   ·have f:=V _ (AN A);obtain⟨L,t2⟩:=N;have tl:=L.len;have mono:∀x,t.getD x Aj=Bp->((t.set (0+ao (st.2[m]).1*1) Bp).set (0+ao ((st.2[m]).2.1+1)*1) Bp).getD x Aj=Bp:=λx g=>FY (FY g);refine P4 (Aah A (Aap (PH ⟨by grind,by grind⟩ (Abw (PH ⟨by dsimp only;omega,by dsimp only;omega⟩ (Abw (P _ ⟨L.up (by rw[Abq,Abq];exact tl) mono,λe r=>?_⟩)))))));rcases(Af A).1 r with r|rfl;· exact⟨mono _ (t2 e r).1,mono _ (t2 e r).2⟩
    ·refine⟨FY ?_,?_⟩;· have:=Ji (s:=t) (i:=0+ao (st.2[m]).1*1) (by omega);rwa [show 0+ao (st.2[m]).1*1=(st.2[m]).1.toNat by omega]at this⊢
     ·have:=Ji (s:=t.set (0+ao (st.2[m]).1*1) Bp) (i:=0+ao ((st.2[m]).2.1+1)*1) (by rw[Abq];omega);rwa [show 0+ao ((st.2[m]).2.1+1)*1=((st.2[m]).2.1+1).toNat by omega]at this⊢
   ·obtain⟨L,t2⟩:=N;rw[Aar,<-ev]at t2;exact P5 (n _ (L.ck t2))))))
 refine Qd (by omega) ?_;refine Sw (λk (s:List Bool)=>U4 c v s c.2.length k) c.1.length d (by omega) (λk s nx w d n=>?_) (λs nx d=>?_)
 ·have hc:=K.fd k w;have C:c.1.getD k dF=c.1[k]:=AO w;have no:nC c v k=C7->Ok (nx (s,k+1)) λl=>l.length<=256/\StV c v l:=λh=>n _ (d.cj λx g=>by rw[h]at g;cases g);refine P4 (Aah w (Aap (BY (JG (by omega)) (N_ (λF=>N_ (λG=>?_) λG=>no ?_) λF=>no ?_))))
  ·have G:v.getD (c.2.length+k) 0<(c.1[k]).1.length:=G;have F:0<=v.getD (c.2.length+k) 0:=F;have u:Ey (c.1[k]).1 (v.getD (c.2.length+k) 0)=Ac (((c.1[k]).1[(v.getD (c.2.length+k) 0).toNat]'(by omega)).toNat:Int):=by
    obtain⟨q,R⟩:∃q:Nat,v.getD (c.2.length+k) 0=q:=⟨(v.getD (c.2.length+k) 0).toNat,by omega⟩;simp only[R];rw[MV (by omega)];rfl
   have Z:((c.1[k]).1.getD (v.getD (c.2.length+k) 0).toNat 0)=(c.1[k]).1[(v.getD (c.2.length+k) 0).toNat]'(by omega):=AO (by omega);have B:nC c v k=Ac ((c.1[k]).1[(v.getD (c.2.length+k) 0).toNat]'(by omega)).toNat:=by unfold nC;rw[C,if_pos ⟨F,G⟩,Z]
   have D:=((c.1[k]).1[(v.getD (c.2.length+k) 0).toNat]'(by omega)).toNat_lt;dsimp only at u B D⊢;generalize((c.1[k]).1[(v.getD (c.2.length+k) 0).toNat]'(by omega)).toNat=y at u B D;have sl:=d.len;refine BY u (BY u (Aap (PH ⟨by omega,by omega⟩ (Abw (PH ⟨by omega,by omega⟩ (Abw (n _ ((d.up (by rw[Abq,Abq];exact sl) λx g=>FY (FY g)).cj λx g=>?_))))))));rw[B]at g;cases g;refine⟨FY ?_,?_⟩;· have:=Ji (s:=s) (i:=0+ao (y:Int)*1) (by omega);rwa [show 0+ao (y:Int)*1=y by omega]at this⊢
   ·have:=Ji (s:=s.set (0+ao (y:Int)*1) Bp) (i:=0+ao ((y:Int)+1)*1) (by rw[Abq];omega);rwa [show 0+ao ((y:Int)+1)*1=y+1 by omega]at this⊢
  ·unfold nC;rw[C,if_neg];rintro⟨_,e⟩;exact G e
  ·unfold nC;rw[if_neg];rintro⟨e,_⟩;exact F e
 refine Qd (by dsimp only;omega) ?_;have sl:=d.len;have S:=d.st λi u e f=>by
  unfold iK at f;split at f;· cases f
  ·rename_i n;have hc:=K.cl i u;have A:=AN u;have C:c.2.getD i dK=c.2[i]:=AO u;unfold Be at f;rw[C,show(c.2[i]).1.getD (v.getD i 0).toNat (Aj,[])=(c.2[i]).1[(v.getD i 0).toNat]'(by omega)from AO _]at f;have:=H.bt _ A _ (AN (by omega:(v.getD i 0).toNat<(c.2[i]).1.length)) e f;exact⟨this.1.1,by omega⟩
 refine Xp (X:=List Int×Int) (λx=>(0<=x.2/\x.2<=256)/\x.1=((aT x.2.toNat).filter λx=>s.getD x Aj).map λ(x:Nat)=>(x:Int)) (λx=>256-x.2.toNat) ⟨by decide,rfl⟩ (by dsimp only;omega) λx nx g _ n=>?_;obtain⟨o,z⟩:=x;obtain⟨W,J⟩:=g;dsimp only at W J n;have Q:o.length<=z.toNat:=by rw[J,Aal];exact filter_le
 refine N_ (λh=>?_) λh=>MN ⟨by dsimp only;omega,?_⟩
 ·have h:z<256:=h;obtain⟨q,rfl⟩:∃q:Nat,z=q:=⟨z.toNat,by omega⟩;rw[Ace]at J Q;refine PH ⟨W.1,by dsimp only;omega⟩ ?_;rw[show((0+ao (q:Int)*1:Nat):Int)=((q:Nat):Int) by omega];have eq:s.getD q Aj=s[q]'(by omega):=AO (by omega);have U:((aT (q+1)).filter λx=>s.getD x Aj).map (λ(x:Nat)=>(x:Int))=o++(if s.getD q Aj=Bp then [(q:Int)]else []):=by
   rw[J,Aem,Afx,Aak];congr 1;cases R:s.getD q Aj<;>simp only[Afl,R,List.filter_nil,if_true,Aas,Aei]<;>rfl
  refine Aah (by dsimp only;omega) (P0 (λD=>PH (p:=GK.F8 q) (by unfold GK.F8;omega) (PH (by unfold Ah;dsimp only;omega) (Aap (n _ ⟨by dsimp only;omega,?_⟩ (by dsimp only;omega))))) λD=>Aap (n _ ⟨by dsimp only;omega,?_⟩ (by dsimp only;omega)));· dsimp only;rw[show((q:Int)+1).toNat=q+1 by omega,U,if_pos (by rw[eq];exact D)]
  ·dsimp only;rw[show((q:Int)+1).toNat=q+1 by omega,U,if_neg (by rw[eq,D];decide),Adi]
 grind
theorem V5:Lib.itoa (-1)=[45,49]:=by decide+kernel
theorem Sg{n:Int}(h: -1<=n):(44:UInt8)∉Lib.itoa n:=by
 rcases Ael n 0 with a|a
 ·grind[V5]
 grind[JE]
theorem V6{m:Int}(h:0<=m):Lib.itoa (-1)≠Lib.itoa m:=λe=>by obtain⟨u,rfl⟩:∃u:Nat,m=u:=⟨m.toNat,by omega⟩;rw[V5,JF]at e;have:=IA u 45 (by grind);grind
theorem XP{n m:Int}(h: -1<=n)(k: -1<=m)(e:Lib.itoa n=Lib.itoa m):n=m:=by
 rcases Ael n 0 with b|b
 ·grind[absurd,Int.lt_or_le,V6]
 ·rcases Ael m 0 with a|a
  ·grind[absurd,V6]
  grind[MT]
def Sb(v:List Int):Aq:=v.flatMap λn=>44::Lib.itoa n
theorem ba(v:List Int):Du v=Sb v:=by unfold Du XM Sb;rw[List.map_flatMap];simp_all[Lib.itoa,Aas,Aam,Afm,Abs]
theorem OJ(v:List Int):Sb v=[]\/(Sb v).head?=Ac 44:=by
 cases v with
 |nil=>trivial
 |cons n v=>exact .inr rfl
theorem R_:∀ {u v:List Int},(∀n∈u, -1<=n)->(∀n∈v, -1<=n)->Sb u=Sb v->u=v
 | [],[],_,_,_=>rfl
 | [],n::v,_,_,e=>by cases e
 |n::u,[],_,_,e=>by cases e
 |n::u,m::v,h,k,e=>by have d:(44:UInt8)::(Lib.itoa n++Sb u)=44::(Lib.itoa m++Sb v):=e;obtain⟨a,b⟩:=Fu (Sg (h n (Aau ..))) (Sg (k m (Aau ..))) (OJ u) (OJ v) (List.cons.inj d).2;rw[XP (h n (Aau ..)) (k m (Aau ..)) a,R_ (λx c=>h x (Aag _ c)) (λx c=>k x (Aag _ c)) b]
theorem R9{c:Bu}{u v:List Int}(b:dD c)(d:BX c u)(f:BX c v)(e:Du u=Du v):u=v:=by rw[ba,ba]at e;exact R_ (λn a=>(d.mem b n a).1) (λn a=>(f.mem b n a).1) e
def En(c:Bu)(v:List Int)(b:Nat):List Int:=(aT c.2.length).map (XA c v b)++(aT c.1.length).map (Uf c v b)
theorem Hl(c:Bu)(v:List Int)(b:Nat):fc c v (En c v b) b:=by
 refine⟨by simp[En],λi a=>?_,λj d=>?_⟩;· grind[En]
 simp_all[En]
theorem fc.eq(h:fc c v u b):u=En c v b:=h.uniq (Hl c v b)
theorem ZJ.eq(h:ZJ c v a b):En c v a=En c v b:=by
 unfold En;congr 1;· exact Abs λi d=>h.1 i (Abg.1 d)
 ·exact Abs λj e=>h.2 j (Abg.1 e)
def CJ(c:Bu):List Int:=T8 (c.2.length+c.1.length) 0
def Gx(c:Bu)(w:Aq):List Int:=w.foldl (λv x=>En c v x.toNat) (CJ c)
theorem F4(c:Bu)(w:Aq)(x:UInt8):Gx c (w++[x])=En c (Gx c w) x.toNat:=by simp[Gx]
def Ln(c:Bu):Prop:= ∀w:Aq,MW c (Gx c w)=1
theorem aV{s:Aq}{n:Int}(h:n<=s.length): -1<=YX s n b/\YX s n b<=s.length:=by grind[YX]
theorem BX.nx(n:∀k∈c.2,Bf k.1)(l:BX c v)(b:Nat):BX c (En c v b):=by
 have h:=Hl c v b;refine⟨h.len,λi d=>?_,λj g=>?_⟩
 ·rw[h.cl i d];have hc:=l.cl i d;have f:c.2.getD i dK=c.2[i]:=AO d;have m:=AN d;unfold XA Bl;rw[f];split;· omega
  ·unfold Be;rw[show(c.2[i]).1.getD (v.getD i 0).toNat (Aj,[])=(c.2[i]).1[(v.getD i 0).toNat]'(by omega)from AO _];have:=((n _ m) _ (AN (by omega:(v.getD i 0).toNat<(c.2[i]).1.length))).step b;omega
 ·rw[h.fd j g];have hc:=l.fd j g;have f:c.1.getD j dF=c.1[j]:=AO g;unfold Uf;rw[f];exact aV hc.2
theorem Rk(h:∀k∈c.2,k.1≠ []):BX c (CJ c):=by
 have b:∀i,(CJ c).getD i 0=0:=λi=>by grind[CJ]
 refine⟨by simp[CJ],λi d=>?_,λj e=>?_⟩;all_goals grind[List.length_pos_iff,Als]
theorem Mp{c:Bu}(h:∀k∈c.2,k.1≠ [])(a:∀k∈c.2,Bf k.1)(w:Aq):BX c (Gx c w):=by
 have:∀(w:Aq) {v:List Int},BX c v->BX c (w.foldl (λv x=>En c v x.toNat) v):=λw=>by
  induction w with
  |nil=>simp
  |cons x w b=>exact λh=>b (h.nx a _)
 exact this w (Rk h)
structure uL(c:Bu)(m:List (Aq×Bool))(todo:List (List Int)):Prop where
 z:Du (CJ c)∈m.map (·.1)
 rc:∀v∈todo,∃w,v=Gx c w
 dn:∀x∈m.map (·.1),∃v,BX c v/\x=Du v/\(v∈todo\/MW c v=1/\∀b,b<256->Du (En c v b)∈m.map (·.1))
theorem uL.once{m:List (Aq×Bool)}(d:dD c)(h:∀k∈c.2,k.1≠ [])(e:∀k∈c.2,Bf k.1)(hc:uL c m []):Ln c:=by
 have all:∀w:Aq,Du (Gx c w)∈m.map (·.1):=λw=>by
  have:∀(l:Aq),Du (Gx c l.reverse)∈m.map (·.1):=λl=>by
   induction l with
   |nil=>exact hc.z
   |cons x l f=>
    rw[Afb,F4];obtain⟨v,v1,b,a⟩:=hc.dn _ f;rw[R9 d (Mp h e _) v1 b];rcases a with a|a;· grind
    ·exact a.2 _ x.toNat_lt
  have:=this w.reverse;grind
 intro w;obtain⟨v,v1,b,a⟩:=hc.dn _ (all w);grind[R9,Mp]
def Dz(c:Bu):Prop:=(∀k∈c.2,k.1≠ []/\Bf k.1/\BW k.1=k.1)/\Ln c
structure CloI(c:Bu)(v:List Int)(bs:List Int)(m:List (Aq×Bool))(todo:List (List Int))(k:Nat):Prop where
 z:Du (CJ c)∈m.map (·.1)
 rc:∀v∈todo,∃w,v=Gx c w
 dn:∀x∈m.map (·.1),∃u,BX c u/\x=Du u/\(u∈todo\/u=v\/MW c u=1/\∀b,b<256->Du (En c u b)∈m.map (·.1))
 pg:∀i,i<k->∀a:Nat,bs[i]?=Ac (a:Int)->Du (En c v a)∈m.map (·.1)
theorem OQ{m:List (Aq×Bool)}{x:Aq}(h:AB m x=C7):(Bw m x Bp).map (·.1)=m.map (·.1)++[x]:=by grind[Bw]
theorem UK(B:dD c)(hN:GY (GG c)<=400000000000)(R:1000000000000<fu):Ok (F63 fu c) λr=>r=Bp↔Dz c:=by
 have c308:=rC;have h1:=B.nf;have h2:=B.nc;have K:¬Dz c->Ok (Ac Aj) λr=>r=Bp↔Dz c:=λh=>MN ⟨λe=>(by grind),λe=>absurd e h⟩;refine VD (λn=> ∀k∈c.2.take n,k.1≠ []/\Bf k.1/\BW k.1=k.1) c.2.length (by simp) (by omega) (λn nx hn P F=>?_) (λnx P=>?_)
 ·have M:=AN hn;have hst:=B.st _ M;refine P4 (Aah hn (N_ (λe=>K λA=>(A.1 _ M).1 (OF.1 (by omega))) λh0=>OC (L8 (n:=20000) (B.bt _ M) ⟨hst,λs W=>by have:=B.ed _ M s W;omega⟩ (by omega) (by omega) (by omega)) λb Q=>P0 (λD=>K λA=>?_) λD=>F λk E=>?_));· have:=Q.2 (A.1 _ M).2;grind
  ·rcases(Af hn).1 E with h|rfl;all_goals grind
 rw[Al]at P;have V:∀k∈c.2,k.1≠ []:=λk E=>(P k E).1;have p:∀k∈c.2,Bf k.1:=λk E=>(P k E).2.1;have G:BX c (CJ c):=Rk V;refine P5 (Aap (Abw (PH (by omega) ?_)));obtain⟨hk0,hkl⟩:=G.key B R;refine BY (a:=CJ c) rfl (BY hk0 (PH ⟨by omega,by omega⟩ ?_));have hs0:FO c []:=⟨by simp,by simp,by simp⟩;obtain⟨hs1,hl1⟩:=hs0.put G rfl;have T:(Bw ([]:List (Aq×Bool)) (Du (CJ c)) Bp).map (·.1)=[Du (CJ c)]:=OQ rfl;refine Xp (X:=List (Aq×Bool)×List (List Int)) (λx=>FO c x.1/\(∀v∈x.2,BX c v)/\x.2.length<=x.1.length/\uL c x.1 x.2) (λx=>2*(GY (GG c)-x.1.length)+x.2.length)
  ⟨hs1,λv hv=>by rw[Aaf.1 hv];exact G,by rw[hl1];simp,⟨by exact Aaf.2 rfl,λv hv=>⟨[],Aaf.1 hv⟩,λx o=>⟨CJ c,G,by exact Aaf.1 o, .inl (Aaf.2 rfl)⟩⟩⟩ (by rw[Acn];omega) λx nx o _ F=>?_;obtain⟨seen,d⟩:=x;obtain⟨W,ht,hle,hc⟩:=o;dsimp only at W ht hle F hc;have hsl:=W.le;refine N_ (λh=>?_) λh=>MN ⟨λ_=>⟨P,?_⟩,λ_=>rfl⟩;rotate_left;· have h:¬0<(d.length:Int):=h;have:d=[]:=OF.1 (by omega);rw[this]at hc;exact hc.once B V p
 have h:0<(d.length:Int):=h
 have H:=AN (by omega:d.length-1<d.length);have g:=ht _ H;have hix:idx d ((d.length:Int)-1)=Ac (d[d.length-1]'(by omega)):=by rw[show((d.length:Int)-1)=((d.length-1:Nat):Int) by omega,Bk (by omega)]
 have q:∀u∈d,u∈d.take (d.length-1)\/u=d[d.length-1]'(by omega):=λu C=>by
  have:=(Af (l:=d) (k:=d.length-1) (by omega)).1 (by rw[show d.length-1+1=d.length by omega,Aar];exact C);rcases this with h|h;· exact .inl h
  ·exact .inr h
 obtain⟨w0,N⟩:=hc.rc _ H;refine Aap (BY hix (Aap (PH ⟨by omega,by omega⟩ (BY (im B g R) (N_ (λhh=>K λA=>hh (by rw[N,A.2 w0];rfl)) λhh=>OC (Xh B p g R) λbs S=>?_)))));rw[show ao ((d.length:Int)-1)=d.length-1 by omega];obtain⟨S,I,J⟩:=S;dsimp only;generalize d[d.length-1]'(by omega)=v at g q N hh I J;have hh1:MW c v=1:=by omega
 refine XN (λk (s:List (Aq×Bool)) (t:List (List Int))=>(FO c s/\(∀v∈t,BX c v)/\t.length<=s.length/\2*(GY (GG c)-s.length)+t.length<2*(GY (GG c)-seen.length)+d.length)/\CloI c v bs s t k) bs.length
  ⟨⟨W,λu C=>ht u (Acl C),by rw[Aba];omega,by rw[Aba];omega⟩,⟨hc.z,λu C=>hc.rc u (Acl C),λx o=>?_,λi hi=>by omega⟩⟩ (by omega) (λk s t nx2 E L U=>?_) (λs t nx2 L=>?_)
 ·obtain⟨u,Y,Z,j⟩:=hc.dn x o;refine⟨u,Y,Z,?_⟩;rcases j with j|j
  ·rcases q u j with u4|u4;· exact .inl u4
   ·exact .inr (.inl u4)
  ·exact .inr (.inr j)
 ·obtain⟨⟨O,a2,a3,a4⟩,z⟩:=L;obtain⟨a,ea,ha⟩:=I _ (AN E);refine P4 (Aah E ?_);dsimp only;rw[ea];refine OC (dA (b:=a) B p g R) λu hu'=>?_;have eu:=hu'.eq;have C:BX c u:=by rw[eu];exact g.nx p a
  obtain⟨e,el⟩:=C.key B R;have hsl2:=O.le;refine BY e (PH (by omega) ?_);have pg:∀(m:List Aq),(∀x∈s.map (·.1),x∈m)->Du u∈m->∀i,i<k+1->∀y:Nat,bs[i]?=Ac (y:Int)->Du (En c v y)∈m:=λm M hu2 i hi y hy=>by
   rcases Aan i k with h|h;· exact M _ (z.pg i h y hy)
   ·obtain rfl:i=k:=by omega
    rw[GB E,ea]at hy;have:a=y:=by have:=Abp hy;omega
    rw[<-this,<-eu];exact hu2
  rcases O.get (x:=Du u)with A|A
  ·rw[A];obtain⟨b1,b2⟩:=O.put C A;have b3:=b1.le;have ek:=OQ A;have up:∀x∈s.map (·.1),x∈(Bw s (Du u) Bp).map (·.1):=λx o=>by rw[ek];exact AS.2 (.inl o)
   refine VY rf (PH ⟨by omega,by omega⟩ (Abw (U _ _ ⟨⟨b1,λw p=>?_,by rw[b2,Aac,Acn];omega,by rw[b2,Aac,Acn];omega⟩,⟨up _ z.z,λw p=>?_,λx o=>?_,pg _ up (by rw[ek];exact AS.2 (.inr (Aaf.2 rf)))⟩⟩)))
   ·rcases AS.1 p with p|p;· exact a2 w p
    ·rw[Aaf.1 p];exact C
   ·rcases AS.1 p with p|p;· exact z.rc w p
    ·refine⟨w0++[UInt8.ofNat a],?_⟩;rw[Aaf.1 p,eu,F4,<-N,show(UInt8.ofNat a).toNat=a by rw[Afs];exact Agg ha]
   ·rw[ek]at o;rcases AS.1 o with o|o
    ·obtain⟨u',Y,Z,j⟩:=z.dn x o;refine⟨u',Y,Z,?_⟩;rcases j with j|j|j;· exact .inl (AS.2 (.inl j))
     ·exact .inr (.inl j)
     ·exact .inr (.inr ⟨j.1,λb Q=>up _ (j.2 b Q)⟩)
    ·exact⟨u,C,Aaf.1 o, .inl (AS.2 (.inr (Aaf.2 rf)))⟩
  ·rw[A];exact P8 rfl (U _ _ ⟨⟨O,a2,a3,a4⟩,⟨z.z,z.rc,z.dn,pg _ (λx o=>o) (By.2 ⟨_,OR A,rfl⟩)⟩⟩)
 ·obtain⟨⟨O,a2,a3,a4⟩,z⟩:=L;refine P5 (F _ ⟨O,a2,a3,⟨z.z,z.rc,λx o=>?_⟩⟩ a4);obtain⟨u,Y,Z,j⟩:=z.dn x o;refine⟨u,Y,Z,?_⟩;rcases j with j|j|j;· exact .inl j
  ·subst j;refine .inr ⟨hh1,λb Q=>?_⟩;obtain⟨a,ha,hab⟩:=J b Q;obtain⟨i,hi,ei⟩:=Aat ha;rw[<-hab.eq];exact z.pg i hi a (by rw[GB hi,ei])
  ·exact .inr j
def CM(ls:List Tb)(v:List Int)(b:Nat):List Int:=(aT ls.length).map λi=>Bl (ls.getD i []) (v.getD i 0) b
def MX(ls:List Tb)(v:List Int)(k:Nat):Nat:=((aT k).filter λi=>fin (ls.getD i []) (v.getD i 0)).length
def Gv(ls:List Tb):List Int:=T8 ls.length 0
def Ru(ls:List Tb)(w:Aq):List Int:=w.foldl (λv x=>CM ls v x.toNat) (Gv ls)
def WV(ls:List Tb):Prop:= ∀w:Aq,MX ls (Ru ls w) ls.length=1
theorem Kl(ls:List Tb)(w:Aq)(x:UInt8):Ru ls (w++[x])=CM ls (Ru ls w) x.toNat:=by simp[Ru]
structure QP(ls:List Tb)(v:List Int):Prop where
 len:v.length=ls.length
 rg:∀i (h:i<ls.length), -1<=v.getD i 0/\v.getD i 0<(ls[i]).length
structure ve(ls:List Tb)(n:Nat):Prop where
 ln:ls.length<=100
 ne:∀l∈ls,l≠ []
 wf:∀l∈ls,Bf l
 sh:∀l∈ls,DT l n
def Qs(ls:List Tb):List Nat:=ls.map λl=>l.length+1
theorem QP.NI(c:QP ls v):v∈NI (Qs ls):=by
 refine MJ (by rw[c.len];simp[Qs]) λi b=>?_;have a:i<ls.length:=by grind[Qs]
 have:=c.rg i a;grind[Qs]
theorem ZD{l:List (List Int)}(a:l.Nodup)(h:∀v∈l,QP ls v):l.length<=GY (Qs ls):=by rw[<-L7];exact Ch a λx b=>(h x b).NI
theorem Kq(h:i<ls.length):(CM ls v b).getD i 0=Bl (ls.getD i []) (v.getD i 0) b:=by grind[CM]
theorem QP.nx(e:ve ls n)(g:QP ls v)(b:Nat):QP ls (CM ls v b):=by
 refine⟨by simp[CM],λi a=>?_⟩;have hc:=g.rg i a;have f:=AN a;rw[Kq a,show ls.getD i []=ls[i]from AO a];unfold Bl;split;· omega
 ·unfold Be;rw[show(ls[i]).getD (v.getD i 0).toNat (Aj,[])=(ls[i])[(v.getD i 0).toNat]'(by omega)from AO _];have:=((e.wf _ f) _ (AN (by omega:(v.getD i 0).toNat<(ls[i]).length))).step b;omega
theorem Xi(b:ve ls n):QP ls (Gv ls):=by
 have d:∀i,(Gv ls).getD i 0=0:=λi=>by grind[Gv]
 refine⟨by simp[Gv],λi c=>?_⟩;have:=Aed.2 (b.ne _ (AN c));grind
theorem iN{c:Nat}(j:ve ls n)(B:n<fu)(w:100<fu)(hc:c<256)(q:QP ls v):
  Ok (nZ fu (ls,v,(c:Int))) λe=>((c:Int)<e/\e<=256)/\∀i,i<ls.length->Ff (CU (ls.getD i []) (v.getD i 0)) c e:=by
 have D:=j.ln;have C:=q.len;refine Sw (λk (y:Int)=>((c:Int)<y/\y<=256)/\∀i,i<k->Ff (CU (ls.getD i []) (v.getD i 0)) c y) ls.length ⟨⟨by omega,by simp⟩,λi x=>by omega⟩ (by omega) (λk y nx d g l=>?_) (λy nx g=>?_)
 ·obtain⟨m,A⟩:=g;have p:=AN d;have r:ls.getD k []=ls[k]:=AO d;have t:=q.rg k d;have step:∀z,((c:Int)<z/\z<=y)->Ff (CU (ls.getD k []) (v.getD k 0)) c z->Ok (nx (z,k+1)) λe=>((c:Int)<e/\e<=256)/\∀i,i<ls.length->Ff (CU (ls.getD i []) (v.getD i 0)) c e:=λz b f=>l _ ⟨⟨b.1,by omega⟩,λi x=>by
   rcases Aan i k with h|h;· exact(A i h).mono b.2
   grind⟩;refine P4 (BY (BG (by omega)) (N_ (λh=>step _ ⟨m.1,Abo _⟩ (by unfold CU;rw[if_pos h];intro e u;cases u)) λh=>(by
   have h:¬v.getD k 0<0:=h;have s:CU (ls.getD k []) (v.getD k 0)=((ls[k])[(v.getD k 0).toNat]'(by omega)).2:=by unfold CU Be;rw[if_neg h,r,show(ls[k]).getD (v.getD k 0).toNat (Aj,[])=(ls[k])[(v.getD k 0).toNat]'(by omega)from AO _]
   have a:(ls[k])[(v.getD k 0).toNat]'(by omega)∈ls[k]:=AN _;refine Aah d (BY (BG (by omega)) (Adq (by omega) (by dsimp only;omega) ?_));exact KF hc ⟨m.1,m.2⟩ ⟨_,(j.wf _ p) _ a⟩ (by have:=(j.sh _ p).2 _ a;omega) λz b f=>step z b (by rw[s];exact f))))
 ·exact P5 (MN g)
theorem Ff.Bl{l:Tb}{i:Int}{c:Nat}{e:Int}(h:Ff (CU l i) c e)(h1:c<=b)(h2:(b:Int)<e):GL.Bl l i c=GL.Bl l i b:=by
 unfold GL.Bl;unfold CU at h;split;· rfl
 ·rename_i a;rw[if_neg a]at h;refine Rj λx d=>?_;obtain⟨f,g⟩:=h x d;grind[BN,decide]
theorem gG{l:List (List Int)}{x:List Int}(h:∀y∈l,y.length=x.length)(s:l.length<fu)(o:x.length<fu):sV fu (l,x)=Ac (Dl (x∈l)):=by
 refine(Ok.eq ?_);refine VD (λk=>x∉l.take k) l.length (by simp) s (λk nx d c t=>?_) (λnx c=>?_)
 ·have n:=AN d;have p:=h _ n;have e:sW fu (l[k],x)=Ac (Dl (l[k]=x)):=by
   refine(Ok.eq ?_);generalize l[k]=y at p;refine VD (λj=> ∀i,i<j->y.getD i 0=x.getD i 0) y.length (λi q=>by omega) (by omega) (λj m r a f=>?_) (λm a=>?_)
   ·refine P4 (BY (BG r) (BY (BG (by omega)) (N_ (λg=>MN (decide_eq_false λe=>g (by rw[e])).symm) λheq=>f λi q=>?_)));grind
   ·exact P5 (MN (decide_eq_true (M6 p a)).symm)
  refine P4 (Aah d (BY e (N_ (λh=>MN (decide_eq_true (h▸n)).symm) λh=>t λo=>?_)));grind[Af]
 simp_all[Al,P5,MN,decide_eq_false]
structure Nx(ls:List Tb)(s:List (List Int))(k:Nat):Prop where
 nd:s.Nodup
 vl:∀v∈s,QP ls v
 z:Gv ls∈s
 rc:∀v∈s,∃w,v=Ru ls w
 dn:∀j v,j<k->s[j]?=Ac v->MX ls v ls.length=1/\∀b,b<256->CM ls v b∈s
theorem Nx.once{s:List (List Int)}(h:Nx ls s s.length):WV ls:=by
 have at_:∀v∈s,MX ls v ls.length=1/\∀b,b<256->CM ls v b∈s:=λv c=>by obtain⟨j,a,rfl⟩:=Aat c;exact h.dn j _ a (GB a)
 have all:∀l:Aq,Ru ls l.reverse∈s:=λl=>by
  induction l with
  |nil=>exact h.z
  |cons x l d=>rw[Afb,Kl];exact(at_ _ d).2 _ x.toNat_lt
 intro w;have:=all w.reverse;grind
theorem Nx.more{s:List (List Int)}(g:ve ls n)(h:Nx ls s k)(r:k<=s.length)(e:v∈s)(l:b<256)(o:CM ls v b∉s):Nx ls (s++[CM ls v b]) k:=by
 refine⟨?_,λu d=>?_,AS.2 (.inl h.z),λu d=>?_,λj u m d=>?_⟩;· refine Acv.2 ⟨h.nd,by simp,λa i c hc=>?_⟩;grind
 ·rcases AS.1 d with d|d;· exact h.vl u d
  ·rw[Aaf.1 d];exact(h.vl v e).nx g b
 ·rcases AS.1 d with d|d;· exact h.rc u d
  ·obtain⟨w,p⟩:=h.rc v e;refine⟨w++[UInt8.ofNat b],?_⟩;grind[UInt8.ofNat,List.mem_singleton,Kl,UInt8.toNat_ofNat',Nat.mod_eq_of_lt]
 ·have f:j<s.length:=by omega
  rw[Pe f]at d;obtain⟨a,b⟩:=h.dn j u m d;simp_all
theorem gl(L:ve ls n)(hf:n<fu)(hN:GY (Qs ls)<=400000000000)(hF:1000000000000<fu):Ok (sU fu ls) λr=>r=Bp↔WV ls:=by
 have hln:=L.ln;refine Sw (λk (z:List Int)=>z=T8 k 0) ls.length rfl (by omega) (λk z nx C B P=>?_) (λz nx B=>?_);· have hp:=Aed.2 (L.ne _ (AN C));refine P4 (Aah C (P5 (PH (by grind) (P _ ?_))));grind[List.replicate_succ']
 subst B;have hs0:=Xi L;refine Qd (by omega) ?_;show Ok (Ad fu _ ([Gv ls],0)) _;refine Xp (X:=List (List Int)×Nat) (λx=>Nx ls x.1 x.2/\x.2<=x.1.length) (λx=>GY (Qs ls)-x.2) ⟨⟨by simp,λv hv=>by simp_all,Aaf.2 rfl,λv hv=>⟨[],Aaf.1 hv⟩,λj v W=>by omega⟩,Abh _⟩ (by omega) λx nx K _ Q=>?_;obtain⟨s,k⟩:=x;obtain⟨I,C⟩:=K;dsimp only at I C Q;refine N_ (λh=>?_) λh=>MN ⟨λ_=>?_,λ_=>rfl⟩;rotate_left
 ·have h:¬(k:Int)<(s.length:Int):=h;have:k=s.length:=by omega
  subst this;exact I.once
 have h:(k:Int)<(s.length:Int):=h;have C:k<s.length:=by omega
 have J:=AN C;have m:=I.vl _ J;obtain⟨w0,R⟩:=I.rc _ J;have O:s[k]?=Ac s[k]:=GB C;have l:idx s (k:Int)=Ac s[k]:=Bk C;generalize s[k]=v at J m R O l;have hl:=m.len;refine Sw (λi (c:Int)=>c=(MX ls v i:Int)) ls.length rfl (by omega) (λi c nx2 g B P=>?_) (λc nx2 B=>?_)
 ·have ei:ls.getD i []=ls[i]:=AO g;have hc:=m.rg i g;have hle:MX ls v i<=i:=filter_le;have U:(MX ls v (i+1):Int)=(MX ls v i:Int)+(if fin (ls.getD i []) (v.getD i 0)=Bp then 1 else 0:Nat):=by
   unfold MX;rw[HA];omega
  have ef:∀h:0<=v.getD i 0,fin (ls.getD i []) (v.getD i 0)=((ls[i])[(v.getD i 0).toNat]'(by omega)).1:=λh=>by rw[ei];exact Ef h (by omega)
  subst B;refine P4 (BY l (BY (BG (by omega)) (N_ (λh=>Aah g (BY l (BY (BG (by omega)) (Adq h hc.2 (P0 (λd=>Aap (P _ ?_)) λd=>P _ ?_))))) λh=>P _ ?_)))
  ·rw[U,if_pos]; · rfl
   rw[ef h];exact d
  ·rw[U,if_neg]; · simp
   rw[ef h];intro K;rw[K]at d;cases d
  ·rw[U,if_neg]; · simp
   have h:¬0<=v.getD i 0:=h;unfold fin;rw[decide_eq_false h];simp
 refine P5 (N_ (λZ=>MN ⟨λe=>(by cases e),λho=>absurd (by rw[B,R,ho w0];rfl) Z⟩) λheq=>?_);have h1:MX ls v ls.length=1:=by omega
 refine Xp (X:=List (List Int)×Int) (λy=>(Nx ls y.1 k/\s.length<=y.1.length/\y.1[k]?=Ac v)/\(0<=y.2/\y.2<=256)/\∀b:Nat,(b:Int)<y.2->CM ls v b∈y.1) (λy=>256-y.2.toNat) ⟨⟨I,Aae _,O⟩,⟨by omega,by omega⟩,λb d=>by omega⟩ (by omega) λy nx3 hy _ G=>?_;obtain⟨t,z⟩:=y;obtain⟨⟨o,t2,t3⟩,hz,d⟩:=hy;dsimp only at o t2 t3 hz d G;have htl:=ZD o.nd o.vl;have hvt:v∈t:=Aai t3;have F:k<t.length:=by omega
 have M:idx t (k:Int)=Ac v:=by rw[Bk F,<-GB F,t3]
 refine N_ (λh=>?_) λh=>?_
 ·obtain⟨b,rfl⟩:∃b:Nat,z=b:=⟨z.toNat,by omega⟩;have f:b<256:=by omega
  have H:(CM ls v b).length=ls.length:=by unfold CM;simp
  refine Sw (λi (u:List Int)=>u=(CM ls v b).take i) ls.length (by simp) (by omega) (λi u nx4 g q Y=>?_) (λu nx4 q=>?_);· have hm:=AN g;have hc:=m.rg i g;refine P4 (Aah g (BY M (BY (BG (by omega)) (PH (p:=GK.F8 b) (by unfold GK.F8;omega) (OC (LF (L.sh _ hm) hf hc.2) λr hr=>PH (by unfold Ah;dsimp only;rw[q,Aba];omega) (Y _ ?_))))));dsimp only;rw[q,hr,IN (by omega)];congr 2;have:=Kq (ls:=ls) (v:=v) (b:=b) g;rw[AO (by omega)]at this;rw[this,show ls.getD i []=ls[i]from AO g]
  ·have V:u=CM ls v b:=by rw[q,<-H,Aar]
   refine P5 (BY (gG (λy hy=>by rw[(o.vl y hy).len];dsimp only;rw[V,H]) (by dsimp only;omega) (by dsimp only;rw[V,H];omega)) ?_);dsimp only;rw[V];have cut:=iN (c:=b) L hf (by omega) f m;have D:∀e:Int,(∀i,i<ls.length->Ff (CU (ls.getD i []) (v.getD i 0)) b e)->∀x:Nat,b<=x->(x:Int)<e->CM ls v x=CM ls v b:=λe E x hx1 hx2=>by unfold CM;exact Abs λi g=>((E i (Abg.1 g)).Bl hx1 hx2).symm
   by_cases w:CM ls v b∈t
   ·rw[decide_eq_true w];refine P8 rfl (BY M (OC cut λe E=>G _ ⟨⟨o,t2,t3⟩,⟨by dsimp only;omega,E.1.2⟩,λx K=>?_⟩ (by dsimp only;omega)));rcases Aan x b with A|A;· exact d x (by omega)
    ·rw[D e E.2 x A K];exact w
   ·rw[decide_eq_false w];have t1':=o.more L (by omega) hvt f w;have S:(t++[CM ls v b])[k]?=Ac v:=by rw[Pe F,t3]
    have N:idx (t++[CM ls v b]) (k:Int)=Ac v:=by rw[Bk (by simp;omega),<-GB (by simp;omega),S]
    refine VY rfl (PH (by unfold Ah;omega) (BY N (OC cut λe E=>G _ ⟨⟨t1',by dsimp only;rw[Aac];omega,S⟩,⟨by dsimp only;omega,E.1.2⟩,λx K=>?_⟩ (by dsimp only;omega))));rcases Aan x b with A|A;· exact AS.2 (.inl (d x (by omega)))
    ·rw[D e E.2 x A K];exact AS.2 (.inr (Aaf.2 rfl))
 ·have h:¬z<256:=h;refine Q _ ⟨⟨o.nd,o.vl,o.z,o.rc,λj u W T=>?_⟩,by dsimp only;omega⟩ (by dsimp only;omega);rcases Aan j k with A|A;· exact o.dn j u A T
  ·obtain rfl:j=k:=by dsimp only at W;omega
   dsimp only at T;rw[t3]at T;cases T;exact⟨h1,λb hb2=>d b (by omega)⟩
theorem DY(s:Aq):(Bv s).length=s.length+1:=by simp[Bv]
theorem W7{s:Aq}(h:i<s.length):(Bv s)[i]'(by grind[DY])=KZ i s[i]:=by grind[Bv]
theorem N7(s:Aq):(Bv s)[s.length]'(by grind[DY])=(Bp,[]):=by simp[Bv]
theorem Q3{s:Aq}{n:Int}(h: -1<=n/\n<=s.length):Bl (Bv s) n b=YX s n b:=by
 unfold Bl YX;by_cases e:n<0;· omega
 rw[if_neg e,Bs (by omega) (by grind[DY])];obtain⟨k,rfl⟩:∃k:Nat,n=k:=⟨n.toNat,by omega⟩;rcases Aan k s.length with d|d
 ·grind[Bv,KZ,AQ,BN,decide]
 ·obtain rfl:k=s.length:=by omega
  have c:(Bv s)[((s.length:Int)).toNat]'(by grind[DY])=(Bp,[]):=by grind[N7]
  rw[c,if_neg (by omega)];rfl
theorem N6{s:Aq}{n:Int}(h: -1<=n/\n<=s.length):fin (Bv s) n=Dl (n=(s.length:Int)):=by
 by_cases b:n<0;· grind[fin_neg,decide_eq_false]
 rw[Ef (by omega) (by grind[DY])];obtain⟨k,rfl⟩:∃k:Nat,n=k:=⟨n.toNat,by omega⟩;simp only[Ace];rcases Aan k s.length with a|a;· rw[W7 a,decide_eq_false (by omega)];rfl
 ·obtain rfl:k=s.length:=by omega
  rw[N7,decide_eq_true rfl]
theorem Q4(s:Aq):DT (Bv s) (s.length+1):=by
 refine⟨by simp_all[DY,Aae],λx a=>?_⟩;rcases AS.1 a with a|a;· obtain⟨i,b,rfl⟩:=List.mem_mapIdx.1 a;simp[KZ]
 grind
def PZ(c:Bu):List Tb:=c.2.map (·.1)++c.1.map λf=>Bv f.1
theorem H5(c:Bu):(PZ c).length=c.2.length+c.1.length:=by simp[PZ]
theorem aD{c:Bu}{i:Nat}(h:i<c.2.length):(PZ c).getD i []=(c.2.getD i dK).1:=by grind[PZ]
theorem aC(h:j<c.1.length):(PZ c).getD (c.2.length+j) []=Bv (c.1.getD j dF).1:=by grind[PZ]
theorem gB{c:Bu}{v:List Int}{b:Nat}(l:BX c v):CM (PZ c) v b=En c v b:=by
 have h:=Hl c v b;refine M6 (by rw[h.len];grind[CM,H5]) λi k=>?_;have g:i<c.2.length+c.1.length:=by grind[CM,H5]
 rw[Kq (by grind[H5])];rcases Aan i c.2.length with f|f;· rw[aD f,h.cl i f];rfl
 ·obtain⟨j,rfl⟩:∃j,i=c.2.length+j:=⟨i-c.2.length,by omega⟩;have e:j<c.1.length:=by omega
  have hc:=l.fd j e;rw[aC e,h.fd j e,show c.1.getD j dF=c.1[j]from AO e];unfold Uf;rw[show c.1.getD j dF=c.1[j]from AO e];exact Q3 hc
theorem bu{c:Bu}{v:List Int}(f:BX c v):MX (PZ c) v (PZ c).length=MW c v:=by
 unfold MX MW Lr Qc;rw[H5,List.range_add,Afx,Aac];congr 1;· grind[List.filter_congr,aD]
 ·rw[Ald,Aal];congr 1;refine Agb λj d=>?_;have d:=Abg.1 d;have hc:=f.fd j d;show fin ((PZ c).getD (c.2.length+j) []) (v.getD (c.2.length+j) 0)=_;rw[aC d,show c.1.getD j dF=c.1[j]from AO d];exact N6 hc
theorem ZM{c:Bu}(h:∀k∈c.2,k.1≠ [])(a:∀k∈c.2,Bf k.1)(w:Aq):Ru (PZ c) w=Gx c w:=by
 have:∀l:Aq,Ru (PZ c) l.reverse=Gx c l.reverse:=λl=>by
  induction l with
  |nil=>show Gv (PZ c)=CJ c;grind[Gv,CJ,H5]
  |cons x l b=>grind[List.reverse_cons,Kl,F4,gB,Mp]
 have:=this w.reverse;grind
theorem oO(h:∀k∈c.2,k.1≠ [])(a:∀k∈c.2,Bf k.1):WV (PZ c)↔Ln c:=by
 unfold WV Ln;constructor<;>intro k w;· have:=k w;grind[ZM,bu,Mp]
 grind[ZM,bu,Mp]
theorem rj(c:Bu):Qs (PZ c)=GG c:=by unfold Qs PZ GG;rw[Aak,Aam,Aam];congr 1;simp[Bv]
theorem wk(b:dD c)(h:∀k∈c.2,k.1≠ [])(g:∀k∈c.2,Bf k.1):ve (PZ c) 20000:=by
 have i:=b.nf;have j:=b.nc;refine⟨by grind[H5],λl a=>?_,λl a=>?_,λl a=>?_⟩<;>unfold PZ at a<;>rcases AS.1 a with a|a<;>obtain⟨x,d,rfl⟩:=By.1 a;· grind
 ·grind[DY]
 ·exact g x d
 ·exact(TN x.1).1
 ·exact⟨b.st x d,λs f=>by have:=b.ed x d s f;omega⟩
 ·have:=b.lb x d;exact⟨by have:=(Q4 x.1).1;omega,λs f=>by have:=(Q4 x.1).2 s f;omega⟩
theorem S5(m:dD c)(G:GY (GG c)<=400000000000)(F:1000000000000<fu):Ok (eo fu c) λr=>r=Bp↔Dz c:=by
 have K:=m.nf;have L:=m.nc;have u:¬Dz c->Ok (Ac Aj) λr=>r=Bp↔Dz c:=λh=>MN ⟨λe=>(by grind),λe=>absurd e h⟩;refine Sw (λn (s:List Tb)=>s=(c.2.take n).map (·.1)/\∀k∈c.2.take n,k.1≠ []/\Bf k.1/\BW k.1=k.1) c.2.length ⟨rfl,by simp⟩ (by omega) (λn s nx j i p=>?_) (λs nx i=>?_)
 ·obtain⟨q,J⟩:=i;have o:=AN j;have z:=m.st _ o;refine P4 (Aah j (OC (Kb (n:=20000) (m.bt _ o) ⟨z,λs I=>by have:=m.ed _ o s I;omega⟩ (by omega) (by omega) (by omega)) λb B=>P0 (λd=>u λx=>?_) λd=>N_ (λe=>u λx=>(x.1 _ o).1 (OF.1 (by grind))) λE=>PH (by grind) (p _ ⟨?_,λk v=>?_⟩)));· have:=B.2 (x.1 _ o).2;rw[this]at d;cases d
  ·rw[q,IN j,Aak];rfl
  ·rcases(Af j).1 v with h|rfl;· exact J k h
   ·exact⟨λe=>E (by rw[e];rfl),B.1 (by simpa using d)⟩
 obtain⟨q,i⟩:=i;rw[Al]at i q;have w:∀k∈c.2,k.1≠ []:=λk v=>(i k v).1;have C:∀k∈c.2,Bf k.1:=λk v=>(i k v).2.1;refine Qd (by omega) ?_;refine Sw (λn (t:List Tb)=>t=s++(c.1.take n).map λf=>Bv f.1) c.1.length (by simp) (by omega) (λn t A j a p=>?_) (λt A a=>?_);· have o:=AN j;have H:=m.lb _ o;refine P4 (Aah j (OC (fh (by dsimp only;omega) (by dsimp only;omega)) λr y=>PH (by unfold Ah;rw[a,q,Aac,Aal,Aal,Aba];omega) (p _ ?_)));rw[a,y,IN j,Aak,Aaj];rfl
 ·rw[Al]at a;have D:t=PZ c:=by rw[a,q];rfl
  refine Qd (by omega) ?_;rw[D];refine OC (gl (wk m w C) (by omega) (by rw[rj];exact G) F) λr y=>MN ?_;rw[y,oO w C];exact⟨λh=>⟨i,h⟩,λh=>h.2⟩
def vd(s:Sc):Prop:=Eh s.2.2.2.1 (A8 s.2.2.2.1) (A6 s.2.2.2.1)/\Bf s.2.2.2.2/\BW s.2.2.2.2=s.2.2.2.2
theorem N8{s:Sc}(h:dE k m s)(j:m<1000000000)(i:1000000000000<fu):Ok (NZ fu s) λb=>b=Bp↔vd s:=by
 obtain⟨r,e,_,d,_⟩:=PY (fu:=fu) (gu:=fu) h.sm (by omega) (by omega);have l:=h.sm.n1;have n:=h.sm.n2;have g:sX fu s.2.2.2.1=Ac (Dl (s.2.2.2.1=r)):=by refine(Ok.eq ?_);exact BY e (BY (vI (by omega) (by omega)) (MN rf))
 have a:s.2.2.2.1=r↔Eh s.2.2.2.1 (A8 s.2.2.2.1) (A6 s.2.2.2.1):=⟨λc=>c▸d,λc=>c.unique d⟩;refine BY g (P0 (λc=>OC (Kb h.bt h.sh (by omega) (by omega) (by omega)) λb f=>MN ?_) λc=>MN ?_);· rw[f];exact⟨λk=>⟨a.1 (of_decide_eq_true c),k⟩,And.right⟩
 ·exact⟨λh=>(by grind),λk=>absurd (a.2 k.1) (of_decide_eq_false c)⟩
def QS(l:List (Aq×Int×Bb)):Prop:=(∀f∈l,f.2.1=1\/f.2.1=2)/\eT l
def jB(l:List (Aq×Int×Bb))(k:Nat):Prop:=(∀f∈l.take k,f.2.1=1\/f.2.1=2)/\∀i (h:i+1<l.length),i+1<k->gh l[i].1 l[i+1].1=Bp
theorem Qh(g:k<l.length){nx:Nat->Option Bool}(s:l.length<=4)(c:jB l k)(p:l[k].2.1=1\/l[k].2.1=2)(m:jB l (k+1)->Ok (nx (k+1)) λr=>r=Bp↔QS l):
  Ok (bif Dl ((0:Int)<(k:Int))then Aa .i64 ((k:Int)-1) (Ab (idx l ((k:Int)-1)) λq=>bif !Go.Op.bytesLess q.1 l[k].1 then Ac Aj else nx (k+1))else nx (k+1)) λr=>r=Bp↔QS l:=by
 have mem:∀f∈l.take (k+1),f.2.1=1\/f.2.1=2:=λf o=>by
  rcases(Af g).1 o with h|rfl;· exact c.1 f h
  omega
 refine N_ (λn=>Aap (Adq (by omega) (by omega) (P0 (λa=>MN ⟨λh=>(by grind),λh=>?_⟩) λa=>m ⟨mem,λi d b=>?_⟩))) λn=>m ⟨mem,λi d b=>by omega⟩
 ·obtain⟨j,rfl⟩:∃j,k=j+1:=⟨k-1,by omega⟩;have e:((j+1:Nat):Int)-1=(j:Int):=by omega
  simp only[e,Ace]at a;rw[h.2 j g]at a;grind
 ·rcases Aan (i+1) k with h|h;· exact c.2 i d h
  ·obtain rfl:k=i+1:=by omega
   simp_all
theorem X2(e:l.length<=4)(m:1000000000000<fu):Ok (F36 fu l) λr=>r=Bp↔QS l:=by
 refine VD (jB l) l.length ⟨by simp,λi h k=>by omega⟩ (by omega) (λk nx b a g=>?_) (λnx a=>?_)
 ·refine P4 (Aah b (N_ (λc=>N_ (λd=>MN ⟨λh=>(by grind),λh=>?_⟩) λd=>Qh b e a (.inr (IS d)) g) λc=>Qh b e a (.inl (IS c)) g));rcases h.1 _ (AN b)with h|h;all_goals omega
 ·exact P5 (MN ⟨λ_=>⟨λf j=>a.1 f (by grind),λi h=>a.2 i h h⟩,λ_=>rfl⟩)
theorem UF(g:l.length<=4)(p:1000000000000<fu):Ok (ep fu l) λr=>r=Bp↔QS l:=by
 refine VD (jB l) l.length ⟨by simp,λi h k=>by omega⟩ (by omega) (λk nx a b j=>?_) (λnx b=>?_)
 ·have go:(l[k].2.1=1\/l[k].2.1=2)->Ok (bif Dl ((0:Int)<(k:Int))then Aa .i64 ((k:Int)-1) (Ab (idx l ((k:Int)-1)) λn=>Ab (idx l (k:Int)) λo=>bif !Go.Op.bytesLess n.1 o.1 then Ac Aj else nx (k+1))else nx (k+1)) λr=>r=Bp↔QS l:=λm=>by
   have:=Qh a g b m j;rw[Bk a];trivial
  refine P4 (Aah a (N_ (λc=>Aah a (N_ (λd=>MN ⟨λh=>(by grind),λh=>?_⟩) λd=>go (.inr (IS d)))) λc=>go (.inl (IS c))));rcases h.1 _ (AN a)with h|h;all_goals omega
 ·exact P5 (MN ⟨λ_=>⟨λf e=>b.1 f (by simp_all),λi h=>b.2 i h h⟩,λ_=>rfl⟩)
structure GdX(v:Vl):Prop where
 an:v.any=Bp->v.sc=E_/\v.lists=[]/\v.structs=[]
 sc:vd v.sc
 rs:∀c∈v.lists,c.2.length<=1
 st:∀c∈v.structs,QS c.1/\Dz c
def D_:Nat->Vl->Prop
 |0,_=>False
 |d+1,v=>GdX v/\∀x∈kids v,D_ d x.1/\D_ d x.2
theorem Q1:vd E_:=by have h:Ii 5 12 E_:=L2;exact⟨h.nu,h.ln.wf,h.ln.can⟩
theorem Wa{v:Vl}(h:Bd (d+1) v)(w:1000000000000<fu):Ok (F81 fu v) λr=>r=Bp↔GdX v:=by
 obtain⟨t,⟨C,D⟩,⟨H,z⟩,_⟩:=h;have no:¬GdX v->Ok (Ac Aj) λr=>r=Bp↔GdX v:=λh=>MN ⟨λe=>(by grind),λe=>absurd e h⟩;have E:=t.n1;have F:=t.n2;have G:=t.sh.1;refine P0 (λs=>OC (VO (by omega) (by omega) (by omega)) λb l=>P0 (λf=>Aap (MN ?_)) λf=>no λh=>?_) λs=>?_
 ·have e:=l.1 f;rw[decide_eq_true_iff];constructor;· intro h;have o:v.lists=[]:=OF.1 (by omega);have p:v.structs=[]:=OF.1 (by omega);exact⟨λ_=>⟨e,o,p⟩,e▸Q1,by grind,by rw[p];simp⟩
  ·intro h;obtain⟨_,o,p⟩:=h.an s;rw[o,p];rfl
 ·rw[l.2 (h.an s).1]at f;cases f
 refine VD (λk=> ∀c∈v.lists.take k,c.2.length<=1) v.lists.length (by simp) (by omega) (λk nx j q x=>?_) (λnx q=>?_)
 ·refine P4 (Aah j (N_ (λB=>no λh=>by have:=h.rs _ (AN j);omega) λh=>x λc hc=>?_));rcases(Af j).1 hc with hc|rfl;· exact q c hc
  ·omega
 rw[Al]at q;refine Qd (by omega) ?_;refine VD (λk=> ∀c∈v.structs.take k,QS c.1/\Dz c) v.structs.length (by simp) (by omega) (λk nx j a x=>?_) (λnx a=>?_)
 ·have l:=z _ (AN j);refine P4 (Aah j (OC (X2 l.nf w) λb m=>P0 (λg=>no λh=>?_) λg=>OC (UK l.lim l.GG w) λA n=>P0 (λi=>no λh=>?_) λi=>x λc hc=>?_));· rw[m.2 (h.st _ (AN j)).1]at g;cases g
  ·rw[n.2 (h.st _ (AN j)).2]at i;cases i
  ·rcases(Af j).1 hc with hc|rfl;· exact a c hc
   ·exact⟨m.1 (by simpa using g),n.1 (by simpa using i)⟩
 rw[Al]at a;refine P5 (OC (HX t (by omega) w) λb l=>MN ?_);rw[l];exact⟨λh=>⟨λy=>absurd y (by rw[s];decide),h,q,a⟩,λh=>h.sc⟩
theorem Jc:∀ {d fu:Nat} {v:Vl} {lv n a:Int} {b:Bool},Bd d v->1000000000000+d<fu->(1<=lv/\lv+d<=17)->(0<=n/\n+FI d<=1000000000000)->(0<=a/\a<=1000)->
  Ok (sL fu (v,lv,n,a,b)) λr=>(0<=r.1/\r.1<=n+FI d)/\(0<=r.2.1/\r.2.1<=1000)/\(r.2.2=Aj↔b=Aj/\D_ d v)
 |0,_,_,_,_,_,_,h,_,_,_,_=>h.elim
 |d+1,0,_,_,_,_,_,_,h,_,_,_=>by omega
 |d+1,fu+1,v,lv,n,a,b,h,W,P,X,O=>by
  have hc:FI (d+1)=1+78*FI d:=rfl;rw[show sL (fu+1) (v,lv,n,a,b)=_ from d88 fu v lv n a b];have u:F87 fu (lv,n,a,b)=Ac (n+1,(if a<lv then lv else a),b):=by refine(Ok.eq ?_);exact Aap (Abx (by omega) (MN rf))
  have c:0<=(if a<lv then lv else a)/\(if a<lv then lv else a)<=1000:=by omega
  refine BY u ?_;generalize(if a<lv then lv else a)=t at c;have q:¬D_ (d+1) v->Ok (Ac (n+1,t,Bp)) λr=>(0<=r.1/\r.1<=n+FI (d+1))/\(0<=r.2.1/\r.2.1<=1000)/\(r.2.2=Aj↔b=Aj/\D_ (d+1) v):=
   λE=>MN ⟨⟨by omega,by omega⟩,c,λh=>(by grind),λh=>absurd h.2 E⟩;refine N_ (λj=>absurd j (by omega)) λ_=>OC (Wa h (by omega)) λg I=>P0 (λe=>q λG=>by rw[I.2 G.1]at e;cases e) λe=>BY (V2 h (by omega)) ?_;have B:=I.1 (by simpa using e);have J:=h.kids;have C:=h.2.2.2;refine aa (λk (x:Int) (y:Int) (z:Bool)=>(0<=x/\x<=n+1+((2*k*FI d:Nat):Int))/\(0<=y/\y<=1000)/\(z=Aj↔b=Aj/\∀w∈(kids v).take k,D_ d w.1/\D_ d w.2)) (kids v).length ⟨⟨by omega,by simp⟩,c,⟨λh=>⟨h,by simp⟩,λh=>h.1⟩⟩ (by omega) (λk x y z nx l A F=>?_) (λx y z nx A=>?_)
  ·obtain⟨M,H,o⟩:=A;have i:=C _ (AN l);have D:2*k*FI d<=76*FI d:=Abi _ (by omega);have m:2*(k+1)*FI d=2*k*FI d+2*FI d:=by rw[Nat.mul_add,Adp]
   refine P4 (Aah l (Aap (OC (Jc i.1 (by omega) (by omega) (by omega) H) λr L=>?_)));obtain⟨Y,Q,R⟩:=L;refine Aap (OC (Jc i.2 (by omega) (by omega) (by omega) Q) λs G=>?_);obtain⟨S,T,U⟩:=G;refine F _ _ _ ⟨⟨S.1,by omega⟩,T,?_⟩;rw[U,R,o];constructor
   ·rintro⟨⟨⟨v1,p⟩,V⟩,t2⟩;refine⟨v1,λw i=>?_⟩;rcases(Af l).1 i with i|rfl;· exact p w i
    ·exact⟨V,t2⟩
   ·rintro⟨v1,p⟩;have K:=p _ ((Af l).2 (.inr rfl));exact⟨⟨⟨v1,λw i=>p w ((Af l).2 (.inl i))⟩,K.1⟩,K.2⟩
  ·obtain⟨M,H,o⟩:=A;have D:2*(kids v).length*FI d<=78*FI d:=Abi _ (by omega);refine P5 (MN ⟨⟨M.1,by omega⟩,H,?_⟩);rw[Al]at o;exact o.trans ⟨λh=>⟨h.1,B,h.2⟩,λh=>⟨h.1,h.2.2⟩⟩
theorem Jh{v:Vl}(h:Bd d v)(T:d<=3)(S:1000000001000<fu):Ok (sK fu v) λr=>r=Bp↔D_ d v:=by
 have J:d≠0:=by rintro rfl;trivial
 obtain⟨d,rfl⟩:∃e,d=e+1:=⟨d-1,by omega⟩;have hc:FI d<=6163:=by rcases(by omega:d=0\/d=1\/d=2)with rfl|rfl|rfl<;>decide
 have key:Ok (F89 fu (v,1,(0,0),Aj)) λr=>r.2.2=Aj↔D_ (d+1) v:=by
  rw[F89];have p:F34 fu (1,((0,0),Aj))=Ac (1,1,Aj):=by rfl
  refine BY p ?_;have o:¬D_ (d+1) v->Ok (Ac ((1:Int),(1:Int),Bp)) λr=>r.2.2=Aj↔D_ (d+1) v:=λB=>MN ⟨λh=>(by grind),λh=>absurd h B⟩;refine N_ (λf=>absurd f (by simp)) λ_=>OC (Wa h (by omega)) λg E=>P0 (λa=>o λD=>by rw[E.2 D.1]at a;grind) λa=>BY (V2 h (by omega)) ?_;have u:=E.1 (by grind);have F:=h.kids;have A:=h.2.2.2;refine aa (λk (x:Int) (y:Int) (z:Bool)=>(0<=x/\x<=1+((2*k*FI d:Nat):Int))/\(0<=y/\y<=1000)/\(z=Aj↔∀w∈(kids v).take k,D_ d w.1/\D_ d w.2)) (kids v).length ⟨⟨by simp,by simp⟩,⟨by decide,by decide⟩,⟨λ_=>by simp,λ_=>rfl⟩⟩ (by omega) (λk x y z nx i t C=>?_) (λx y z nx t=>?_)
  ·obtain⟨L,H,l⟩:=t;have b:=A _ (AN i);have K:2*k*FI d<=76*FI d:=Abi _ (by omega);have j:2*(k+1)*FI d=2*k*FI d+2*FI d:=by rw[Nat.mul_add,Adp]
   refine P4 (Aah i (Aap (OC (Jc b.1 (by omega) (by omega) (by omega) H) λr c=>?_)));obtain⟨U,M,N⟩:=c;refine Aap (OC (Jc b.2 (by omega) (by omega) (by omega) M) λs D=>?_);obtain⟨O,P,Q⟩:=D;refine C _ _ _ ⟨⟨O.1,by omega⟩,P,?_⟩;rw[Q,N,l];constructor
   ·rintro⟨⟨n,R⟩,t2⟩ w b;rcases(Af i).1 b with b|rfl;· exact n w b
    ·exact⟨R,t2⟩
   ·intro n;have G:=n _ ((Af i).2 (.inr rfl));exact⟨⟨λw b=>n w ((Af i).2 (.inl b)),G.1⟩,G.2⟩
  ·obtain⟨L,H,l⟩:=t;refine P5 (MN ?_);rw[Al]at l;exact l.trans ⟨λh=>⟨u,h⟩,λh=>h.2⟩
 rw[sK];have q:Ok (F90 fu v) λr=>r.2.2=Aj↔D_ (d+1) v:=by exact OC key λr c=>MN c
 grind[OC,MN]
theorem Xk(h:Bd d x.1/\Bd d x.2)(g:d<=3)(e:1000000001000<fu):Ok (F92 fu x) λr=>r=Bp↔D_ d x.1/\D_ d x.2:=by refine OC (Jh h.1 g e) λa f=>P0 (λc=>OC (Jh h.2 g e) λb i=>MN ?_) λc=>MN ⟨λh=>(by grind),λh=>?_⟩;all_goals grind
theorem XH{c:HQ}(h:c.1.length<=1000/\c.2.length<=1000):ej fu c=Ac (AY c):=by refine(Ok.eq ?_);rw[ej];refine Abw (PH (by grind) (MN ?_));rfl
theorem Xc(h:c.1.length<=1000/\c.2.length<=1000)(j:1000000000000<fu):jU fu c=Ac (Bq c):=by
 refine(Ok.eq ?_);refine Sw (λk (s:List Bb)=>s=(c.1.take k).map (·.2.2)) c.1.length rf (by omega) (λk s nx e d g=>?_) (λs nx d=>?_);· refine P4 (Aah e (PH (by grind) (g _ ?_)));grind[cu]
 rw[Al]at d;refine Qd (by omega) ?_;refine Sw (λk (s:List Bb)=>s=c.1.map (·.2.2)++(c.2.take k).map (·.2)) c.2.length (by grind) (by omega) (λk s nx e b g=>?_) (λs nx b=>?_);· refine P4 (Aah e (PH (by grind) (g _ ?_)));grind[cu,List.append_assoc]
 ·refine P5 (MN ?_);rw[b,Al];rfl
theorem a_{v:Vl}(h:Bd (d+1) v)(y:1000000000000<fu):eh fu v=Ac (kids v):=by
 obtain⟨_,⟨B,u⟩,⟨E,t⟩,_⟩:=h;have w:∀k,((v.lists.take k).flatMap AY).length<=15:=λk=>by
  have:=Dv (f:=AY) (n:=5) (l:=v.lists.take k) λc hc=>by grind[AY]
  grind
 have lb:∀k,((v.structs.take k).flatMap Bq).length<=24:=λk=>by
  have:=Dv (f:=Bq) (n:=8) (l:=v.structs.take k) λc hc=>by have:=(t c (Acl hc)).nf;have:=(t c (Acl hc)).nc;grind[Bq]
  grind
 refine(Ok.eq ?_);refine Sw (λk (s:List Bb)=>s=(v.lists.take k).flatMap AY) v.lists.length rf (by omega) (λk s nx m o r=>?_) (λs nx o=>?_)
 ·have hc:=u _ (AN m);have e:(v.lists.take (k+1)).flatMap AY=s++AY v.lists[k]:=by grind[cu,List.flatMap_singleton]
  have:=w (k+1);rw[e,Aac]at this;have p:ej fu v.lists[k]=Ac (AY v.lists[k]):=XH (by omega);refine P4 (Aah m (BY p (Abw (r _ e.symm))))
 rw[Al]at o;refine Qd (by omega) ?_;refine Sw (λk (s:List Bb)=>s=v.lists.flatMap AY++(v.structs.take k).flatMap Bq) v.structs.length (by simp[o]) (by omega) (λk s nx m j r=>?_) (λs nx j=>?_)
 ·have hc:=t _ (AN m);have z:=hc.nf;have A:=hc.nc;have e:v.lists.flatMap AY++(v.structs.take (k+1)).flatMap Bq=s++Bq v.structs[k]:=by rw[j,IN m,Acp,Aek,Aaj]
  have a:=w v.lists.length;rw[Al]at a;have b:=lb (k+1);have:=congrArg FD e;rw[Aac,Aac]at this;have q:jU fu v.structs[k]=Ac (Bq v.structs[k]):=Xc (by omega) y;refine P4 (Aah m (BY q (Abw (r _ e.symm))))
 ·refine P5 (MN ?_);rw[j,Al];rfl
theorem de{v:Vl} :Ok (j7 fu v) λr=>r=Bp↔v.sc=E_/\v.lists=[]/\v.structs=[]:=by
 obtain⟨a,⟨m,o,p,⟨i,j⟩,l⟩,n,q⟩:=v;have no:∀ {P:Prop},¬P->Ok (Ac Aj) λr=>r=Bp↔P:=λh=>MN ⟨λk=>(by grind),λk=>absurd k h⟩;have g:∀ {α:Type} {l:List α},((l.length:Nat):Int)=0->l=[]:=λh=>OF.1 (by omega);cases m with
 |true=>exact no λh=>by have:=h.1;cases this
 |false=>cases o with
  |true=>exact no λh=>by have:=h.1;cases this
  |false=>cases p with
   |true=>exact no λh=>by have:=h.1;cases this
   |false=>
    rw[j7];unfold iF iB;refine VY rfl (VY rfl (VY rfl (N_ (λb=>N_ (λc=>N_ (λd=>N_ (λf=>MN ?_) λf=>no ?_) λd=>no ?_) λc=>no ?_) λb=>no ?_)));· have b:=g b;have c:=g c;have d:=g d;have f:=g f;subst b;subst c;subst d;subst f;rw[decide_eq_true_iff];exact⟨λh=>⟨rfl,rfl,g h⟩,λh=>by grind⟩
    ·simp_all
    ·rintro⟨h,_⟩;have h:(Aj,Aj,Aj,(i,j),l)=E_:=h;unfold E_ at h;obtain⟨_,_,_,_,rfl⟩:=h;exact d rfl
    ·rintro⟨h,_⟩;have h:(Aj,Aj,Aj,(i,j),l)=E_:=h;unfold E_ at h;obtain⟨_,_,_,⟨_,rfl⟩,_⟩:=h;exact c rfl
    ·rintro⟨h,_⟩;have h:(Aj,Aj,Aj,(i,j),l)=E_:=h;unfold E_ at h;obtain⟨_,_,_,⟨rfl,_⟩,_⟩:=h;exact b rfl
theorem HW:∀ {d fu:Nat} {v:Vl} {lv:Int},Bd d v->1000000000000+d<fu->(1<=lv/\lv+d<=17)->Ok (NY fu (v,lv)) λr=>r=Bp↔D_ d v
 |0,_,_,_,h,_,_=>h.elim
 |d+1,0,_,_,_,h,_=>by omega
 |d+1,fu+1,v,lv,h,hF,Y=>by
  rw[show NY (fu+1) (v,lv)=_ from d289 fu v lv];have no:¬D_ (d+1) v->Ok (Ac Aj) λr=>r=Bp↔D_ (d+1) v:=λh=>MN ⟨λk=>(by grind),λk=>absurd k h⟩;have e:=a_ (fu:=fu) h (by omega);have T:=h.kids;obtain⟨V,⟨l1,l2⟩,⟨s1,Z⟩,I⟩:=h;have tail:(v.any=Bp->v.sc=E_/\v.lists=[]/\v.structs=[])->vd v.sc->Ok (Ad fu (λ(q:Nat) C=>
     bif Dl ((↑q:Int)<(↑(FD (Vl.lists v)):Int))then
      Ab (idx (Vl.lists v) (↑q:Int)) λK=>
      bif Dl ((1:Int)<(↑(FD K.2):Int))then
       Ac (Aj)
      else
       C (q+1)
     else
      Ad fu (
           λ(n:Nat) D=>
       bif Dl ((↑n:Int)<(↑(FD (Vl.structs v)):Int))then
        Ab (idx (Vl.structs v) (↑n:Int)) λL=>
        Ab (ep fu L.1) λM=>
        bif !M then
         Ac (Aj)
        else
         Ab (idx (Vl.structs v) (↑n:Int)) λN=>
         Ab (eo fu N) λO=>
         bif !O then
          Ac (Aj)
         else
          D (n+1)
       else
        Ab (eh fu v) λp=>
        Ad fu (λ(o:Nat) E=>
         bif Dl ((↑o:Int)<(↑(FD p):Int))then
          Ab (idx p (↑o:Int)) λP=>
          Aa (Lo.i64) (lv+(1:Int))<|
          Ab (NY fu (P.1,(lv+(1:Int)))) λQ=>
          bif !Q then
           Ac (Aj)
          else
           Ab (idx p (↑o:Int)) λR=>
           Aa (Lo.i64) (lv+(1:Int))<|
           Ab (NY fu (R.2,(lv+(1:Int)))) λS=>
           bif !S then
            Ac (Aj)
           else
            E (o+1)
         else
          Ac (Bp)) (0)) (0)) (0)) λr=>r=Bp↔D_ (d+1) v:=λH J=>by
   refine VD (λk=> ∀c∈v.lists.take k,c.2.length<=1) v.lists.length (by simp) (by omega) (λk nx e F z=>?_) (λnx F=>?_)
   ·refine P4 (Aah e (N_ (λg=>no λh=>by have:=h.1.rs _ (AN e);omega) λh=>z λc hc=>?_));rcases(Af e).1 hc with hc|rfl;all_goals grind
   rw[Al]at F;refine Qd (by omega) ?_;refine VD (λk=> ∀c∈v.structs.take k,QS c.1/\Dz c) v.structs.length (by simp) (by omega) (λk nx e i z=>?_) (λnx i=>?_)
   ·have s:=Z _ (AN e);refine P4 (Aah e (OC (UF s.nf (by omega)) λb u=>P0 (λa=>no λh=>?_) λa=>Aah e (OC (S5 s.lim s.GG (by omega)) λb' x=>P0 (λl=>no λh=>?_) λl=>z λc hc=>?_)));· rw[u.2 (h.1.st _ (AN e)).1]at a;grind
    ·rw[x.2 (h.1.st _ (AN e)).2]at l;grind
    ·rcases(Af e).1 hc with hc|rfl;all_goals grind
   rw[Al]at i;refine P5 (BY e ?_);refine VD (λk=> ∀w∈(kids v).take k,D_ d w.1/\D_ d w.2) (kids v).length (by simp) (by omega) (λk nx e j z=>?_) (λnx j=>?_)
   ·have t:=I _ (AN e);refine P4 (Aah e (Aap (OC (HW t.1 (by omega) (by omega)) λr U=>P0 (λg=>no λh=>?_) λg=>Aah e (Aap (OC (HW t.2 (by omega) (by omega)) λr2 A=>P0 (λf=>no λh=>?_) λf=>z λw t=>?_)))));· rw[U.2 (h.2 _ (AN e)).1]at g;cases g
    ·rw[A.2 (h.2 _ (AN e)).2]at f;cases f
    ·rcases(Af e).1 t with t|rfl;· exact j w t
     ·exact⟨U.1 (by simpa using g),A.1 (by simpa using f)⟩
   ·rw[Al]at j;exact P5 (MN ⟨λ_=>⟨⟨H,J,F,i⟩,j⟩,λ_=>rfl⟩)
  refine N_ (λy=>absurd y (by omega)) λ_=>P0 (λG=>OC de λb s=>P0 (λg=>no λB=>?_) λg=>OC (N8 V (by decide) (by omega)) λX a=>P0 (λf=>no λB=>?_) λf=>tail (λ_=>s.1 (by simpa using g)) (a.1 (by simpa using f))) λG=>OC (N8 V (by decide) (by omega)) λX a=>P0 (λf=>no λB=>?_) λf=>tail (λh=>absurd h (by rw[G];decide)) (a.1 (by simpa using f));· rw[s.2 (B.1.an G)]at g;cases g
  ·rw[a.2 B.1.sc]at f;cases f
  ·rw[a.2 B.1.sc]at f;cases f
theorem IJ(h:Bd d x.1/\Bd d x.2)(k:d<=3)(j:1000000001000<fu):Ok (Va fu x) λr=>r=Bp↔D_ d x.1/\D_ d x.2:=by
 have one:∀ {v:Vl},Bd d v->Ok (TE fu v) λr=>r=Bp↔D_ d v:=λi=>by exact OC (HW i (by omega) (by omega)) λr g=>MN g
 rw[Va];refine OC (one h.1) λa e=>P0 (λc=>OC (one h.2) λb f=>MN ?_) λc=>MN ⟨λh=>(by grind),λh=>?_⟩;all_goals grind
def Re(x y:Sc):Prop:=(x.1=Bp->y.1=Bp)/\(x.2.1=Bp->y.2.1=Bp)/\(x.2.2.1=Bp->y.2.2.1=Bp)/\(∀n,A8 x.2.2.2.1 n->A8 y.2.2.2.1 n)/\(∀n,A6 x.2.2.2.1 n->A6 y.2.2.2.1 n)/\∀w,Av x.2.2.2.2 0 w=Bp->Av y.2.2.2.2 0 w=Bp
theorem Kp{x y:List Sp×List Sp}(a:Eh r (λn=>A8 x n/\¬A8 y n) (λn=>A6 x n/\¬A6 y n)):r=([],[])↔(∀n,A8 x n->A8 y n)/\∀n,A6 x n->A6 y n:=by
 constructor
 ·rintro rfl;refine⟨λn h=>IS λk=>?_,λn h=>IS λk=>?_⟩;· have:=(a.A8 n).2 ⟨⟨h,k⟩,h.2⟩;exact Ba this.1
  ·have:=(a.A6 n).2 ⟨⟨h,k⟩,h.2⟩;exact Ba this.1
 ·rintro⟨b,c⟩;exact a.unique (PU.congr (λn=>⟨λh=>absurd h.1 Ba,λh=>absurd (b n h.1) h.2⟩) λn=>⟨λh=>absurd h.1 Ba,λh=>absurd (c n h.1) h.2⟩)
theorem Vs{x:Sc}{t:Tb}(j:Eh r (λn=>A8 x.2.2.2.1 n/\¬A8 y.2.2.2.1 n) (λn=>A6 x.2.2.2.1 n/\¬A6 y.2.2.2.1 n))(ht:CD t (λw=>Av x.2.2.2.2 0 w&& !Av y.2.2.2.2 0 w) m):
  ((x.1&& !y.1,x.2.1&& !y.2.1,x.2.2.1&& !y.2.2.1,r,t):Sc)=E_↔Re x y:=by
 have h:=Kp j;have i:=ht.Gz;unfold E_ Re;simp only[Aet];rw[show(r=(([],[]):List Sp×List Sp))↔_ from h,i];have g:∀a b:Bool,((a&& !b)=Aj)↔(a=Bp->b=Bp):=by simp
 rw[g,g,g];constructor;· rintro⟨a,b,c,⟨d,e⟩,f⟩;exact⟨a,b,c,d,e,λw k=>(g _ _).1 (congrFun f w) k⟩
 grind
theorem Ui{fu k i m p:Nat}{x y:Sc}(b:Ii k m x)(c:Ii i p y)(v:k+i<=11)(w:(m+2)*(p+2)<=100000000)(d:1000000000000<fu):
  Ok (kJ fu (x,y)) λo=>Ii 12 ((m+2)*(p+2)) o/\(o=E_↔Re x y):=by
 have z:m<=(m+2)*(p+2):=Aao (by omega:m<=(m+2)*1) (Abv (Aae _) (by omega));have A:p<=(m+2)*(p+2):=Aao (by omega:p<=1*(p+2)) (Abv (by omega) (Aae _));have D:=b.n1;have E:=b.n2;have F:=c.n1;have G:=c.n2;obtain⟨r,l,g,B,C⟩:=XD (fu:=fu) (b.nu.sm (by omega) (by omega)) (c.nu.sm (by omega) (by omega)) (by omega) (by omega);obtain⟨t,q,f⟩:=Ou (GA (fu:=fu) b.ln c.ln (by omega) d);rw[b.ln.gL,c.ln.gL]at f;have e:Ok (tZ fu (x,y)) λo=>o=(x.1&& !y.1,x.2.1&& !y.2.1,x.2.2.1&& !y.2.2.1,r,t):=by exact BY (b.JI (by omega) (by omega) d) (BY (c.JI (by omega) (by omega) d) (BY (Uj fu _ _) (BY (Uj fu _ _) (BY (Uj fu _ _) (BY l (BY q (MN rf)))))))
 rw[kJ];refine OC e λo s=>MN ?_;subst s;refine⟨⟨g.self (λn h=>h.1.2) (λn h=>h.1.2),?_,?_,?_⟩,Vs g f⟩;· grind
 ·grind
 ·have u:GW x.2.2.2.2 y.2.2.2.2<=(m+2)*(p+2):=Abv (by have:=b.ln.len;omega) (by have:=c.ln.len;omega);exact(f.mono u).self
theorem Xe{e:Nat}{x:Sc}(h:Ii k m x)(i:Ii e p y)(g:k+e<=11)(c:(m+2)*(p+2)<=100000000)(a:1000000000000<fu):
  Ok (kI fu (x,y)) λr=>r=Bp↔Re x y:=by
 grind[kI,OC,Ui,IZ,MN]
theorem Ii.bD{s:Sc}(h:Ii k m s)(d:k<=12)(e:m<=100000000)(a:1000000000000<fu):YD fu s=Ac s:=by refine(Ok.eq ?_);rw[YD];refine OC (N8 (h.sc d) (by omega) a) λb c=>?_;rw[c.2 ⟨h.nu,h.ln.wf,h.ln.can⟩];exact P8 rf (MN rf)
theorem KE{s:Sc}(h:Ii k m s)(p:k<=12)(t:m<=100000000)(o:1000000000000<fu):Ok (YC fu s) λb=>b=Bp↔s=E_:=by
 have j:=h.bD (fu:=fu) p t o;obtain⟨a,b,c,f,L⟩:=s;have g:=h.nu;have v:=h.n1;have w:=h.n2;dsimp only at g v w;obtain⟨r,l,_,u,_⟩:=PY (fu:=fu) (gu:=fu) (g.sm (by omega) (by omega)) (by omega) (by omega);obtain rfl:f=r:=g.unique u;have n:Ok (jT fu f) λb=>b=Bp↔f=([],[]):=by rw[jT];refine BY l (N_ (λd=>MN ?_) λd=>MN ⟨λh=>(by cases h),λh=>absurd (by rw[h];rfl) d⟩);have d:f.1=[]:=OF.1 (by omega);rw[decide_eq_true_iff];exact⟨λe=>Acu d (OF.1 (by omega)),λe=>by rw[e];rfl⟩
 have no:∀ {P:Prop},¬P->Ok (Ac Aj) λr=>r=Bp↔P:=λh=>MN ⟨λk=>(by cases k),λk=>absurd k h⟩;rw[YC];refine BY j ?_;unfold E_;cases a with
 |true=>exact no λh=>by cases h
 |false=>cases b with
  |true=>exact no λh=>by cases h
  |false=>cases c with
   |true=>exact no λh=>by cases h
   |false=>
    refine VY rf (VY rf (VY rf (OC n λq i=>P0 (λd=>MN ?_) λd=>no λh=>?_)))
    ·rw[decide_eq_true_iff,i.1 d];constructor;· intro e;have:L=[]:=OF.1 (by dsimp only at e;omega);rw[this]
     ·intro e;simp only[Aet]at e;rw[e.2.2.2.2];rfl
    ·simp only[Aet]at h;rw[i.2 h.2.2.2.1]at d;cases d
theorem Mf{q:Nat}{x:Sc}(f:Ii k m x)(g:Ii q p y)(D:k+q<=11)(z:(m+2)*(p+2)<=100000000)(i:1000000000000<fu):
  Ok (eg fu (x,y)) λr=>r=Bp↔Re x y:=by
 have E:m<=(m+2)*(p+2):=Aao (by omega:m<=(m+2)*1) (Abv (Aae _) (by omega));have F:p<=(m+2)*(p+2):=Aao (by omega:p<=1*(p+2)) (Abv (by omega) (Aae _));have I:=f.n1;have J:=f.n2;have K:=g.n1;have L:=g.n2;obtain⟨r,u,_,l,G,H⟩:=Gc (fu:=fu) (gu:=fu) (f.nu.sm (by omega) (by omega)) (g.nu.sm (by omega) (by omega)) (by omega) (by omega) (by omega);obtain⟨t,v,j⟩:=MH (GA (fu:=fu) f.ln g.ln (by omega) i);rw[f.ln.gL,g.ln.gL]at j;have B:GW x.2.2.2.2 y.2.2.2.2<=(m+2)*(p+2):=Abv (by have:=f.ln.len;omega) (by have:=g.ln.len;omega);have C:Ii 12 ((m+2)*(p+2)) (x.1&& !y.1,x.2.1&& !y.2.1,x.2.2.1&& !y.2.2.1,r,t):=⟨l.self (λn h=>h.1.2) (λn h=>h.1.2),by show r.1.length<=12;omega,by show r.2.length<=12;omega,(j.mono B).self⟩;have e:Ok (jQ fu (x,y)) λo=>o=(x.1&& !y.1,x.2.1&& !y.2.1,x.2.2.1&& !y.2.2.1,r,t):=by rw[jQ];refine BY (f.bD (by omega) (by omega) i) (BY (g.bD (by omega) (by omega) i) ?_);refine P0 (λa=>P0 (λb=>P0 (λc=>?_) λc=>?_) λb=>P0 (λc=>?_) λc=>?_) λa=>P0 (λb=>P0 (λc=>?_) λc=>?_) λb=>P0 (λc=>?_) λc=>?_;all_goals exact BY u (BY v (MN (by rw[a,b,c];simp)))
 rw[eg];refine OC e λo A=>?_;subst A;exact OC (KE C (by omega) z i) λb w=>MN (w.trans (Vs l j))
theorem KD{a b:List α}{f:α->α->Option Bool}(o:a.length<fu)(h:∀i (h1:i<a.length) (h2:i<b.length),Ok (f a[i] b[i]) λr=>r=Bp↔a[i]=b[i]):
  Ok (bif Dl ((a.length:Int)≠(b.length:Int))then Ac Aj else Ad fu (λ(c:Nat) g=>bif Dl ((c:Int)<(a.length:Int))then Ab (idx a (c:Int)) λt=>Ab (idx b (c:Int)) λu=>Ab (f t u) λv=>bif !v then Ac Aj else g (c+1)else Ac Bp) 0) λr=>r=Bp↔a=b:=by
 have no:a≠b->Ok (Ac Aj) λr=>r=Bp↔a=b:=λh=>MN ⟨λk=>(by grind),λk=>absurd k h⟩;refine N_ (λh=>no (by grind)) λm=>?_;have m:a.length=b.length:=by omega
 refine VD (λk=> ∀i (h1:i<a.length),i<k->a[i]=b[i]'(by omega)) a.length (λi _ h=>by omega) o (λk nx l d s=>?_) (λnx d=>?_)
 ·refine P4 (Aah l (Aah (by omega) (OC (h k l (by omega)) λr n=>P0 (λh2=>no ?_) λh2=>s λi p q=>?_)));all_goals grind
 ·exact P5 (MN ⟨λ_=>Adm m λi h1 h2=>d i h1 h1,λ_=>rfl⟩)
theorem Ahz{v w:Vl}(h1:v.any=w.any)(h2:v.sc=w.sc)(h3:v.lists=w.lists)(a:v.structs=w.structs):v=w:=by cases v;cases w;grind[Vl.any,Vl.sc,Vl.lists,Vl.structs]
theorem Xn{x:Sc}{w f:Nat}(e:dE k m x)(v:dE w f y)(G:m<=100000000/\f<=100000000)(F:1000000000000<fu):Ok (kP fu (x,y)) λr=>r=Bp↔x=y:=by
 obtain⟨a,b,c,⟨H,I⟩,l⟩:=x;obtain⟨C,D,E,⟨A,B⟩,z⟩:=y;have no:∀ {P:Prop},¬P->Ok (Ac Aj) λr=>r=Bp↔P:=λh=>MN ⟨λk=>(by grind),λk=>absurd k h⟩;have i:=e.sm.n1;have j:=e.sm.n2;rw[kP];simp only[Aet];dsimp only at i j⊢;refine P0 (λo=>P0 (λp=>P0 (λhc=>BY (zX (by omega)) (N_ (λq=>BY (zX (by omega)) (N_ (λd=>OC (Q:=λr=>r=Bp↔l=z) ?_ λr t=>MN ?_) λh=>no λk=>h k.2.2.2.1.2)) λh=>no λk=>h k.2.2.2.1.1)) λh=>no λk=>?_) λh=>no λk=>?_) λh=>no λk=>?_;· have g:=e.sh;grind[max,KN,Nat.le_trans]
 all_goals grind
def I'(d:Nat)(x:Bb):Prop:=Bd d x.1/\Bd d x.2
theorem Bd.lv{v:Vl}(h:Bd (d+1) v){c:HQ}(hc:c∈v.lists):∀x∈AY c,I' d x:=λx a=>
 h.2.2.2 x (AS.2 (.inl (Aad.2 ⟨c,hc,a⟩)))
theorem Bd.sv{v:Vl}(h:Bd (d+1) v)(hc:c∈v.structs):∀x∈Bq c,I' d x:=λx a=>
 h.2.2.2 x (AS.2 (.inr (Aad.2 ⟨c,hc,a⟩)))
theorem AR{P:Prop}(h:¬P):Ok (Ac Aj) λr=>r=Bp↔P:=MN ⟨λk=>(by grind),λk=>absurd k h⟩
theorem LH:∀ {d fu:Nat} {v w:Vl},Bd d v->Bd d w->1000000000000+10*d<fu->Ok (eM fu (v,w)) λr=>r=Bp↔v=w
 |0,_,_,_,h,_,_=>h.elim
 |d+1,fu,v,w,F,G,hF=>by
  obtain⟨f,rfl⟩:∃f,fu=f+5:=⟨fu-5,by omega⟩;have sv:∀ {g:Nat} {x y:Bb},I' d x->I' d y->1000000000000+10*d+1<g->Ok (NC g (x,y)) λr=>r=Bp↔x=y:=λ{g x y} M N hg=>by obtain⟨e,rfl⟩:∃e,g=e+1:=⟨g-1,by omega⟩;rw[show NC (e+1) (x,y)=_ from d136 e x y];refine OC (LH M.1 N.1 (by omega)) λr a=>P0 (λh=>OC (LH M.2 N.2 (by omega)) λs p=>MN ?_) λh=>AR λe=>?_;all_goals grind
  obtain⟨O,⟨a2,P⟩,⟨a4,R⟩,_⟩:=id F;obtain⟨S,⟨b2,T⟩,⟨b4,U⟩,_⟩:=id G;rw[show eM (f+5) (v,w)=_ from d135 (f+4) v w];refine P0 (λh=>AR λe=>?_) λc=>OC (Xn O S (by omega) (by omega)) λr a=>P0 (λh=>AR λe=>?_) λq=>N_ (λh=>AR λe=>h (by rw[e])) λB=>N_ (λh=>AR λe=>h (by rw[e])) λC=>?_;· grind
  ·grind
  have c:v.any=w.any:=by grind
  have q:v.sc=w.sc:=a.1 (by grind);have B:v.lists.length=w.lists.length:=by omega
  have C:v.structs.length=w.structs.length:=by omega
  refine VD (λk=> ∀i (h:i<v.lists.length),i<k->v.lists[i]=w.lists[i]'(by omega)) v.lists.length (λi _ h=>by omega) (by omega) (λk nx A m J=>?_) (λnx m=>?_)
  ·have t:=AN A;have u:=AN (show k<w.lists.length by omega);have E:=P _ t;have q2:=T _ u;have V:ff (f+4) v.lists[k]=Ac (AY v.lists[k]):=Hm (by omega) (by omega);have W:ff (f+4) (w.lists[k]'(by omega))=Ac (AY (w.lists[k]'(by omega))):=Hm (by omega) (by omega);have ne:v.lists[k]≠w.lists[k]'(by omega)->¬v=w:=λh e=>h (by simp only[e]);refine P4 (Aah A (Aah (by omega) (N_ (λh=>AR (ne λe=>h (by rw[e]))) λo=>BY V (BY W (OC (Q:=λr=>r=Bp↔AY v.lists[k]=AY (w.lists[k]'(by omega))) ?_ λr a=>P0 (λh=>AR (ne λe=>?_)) λh=>J λi H I=>?_)))));· rw[show uB (f+4) (AY v.lists[k],AY (w.lists[k]'(by omega)))=_ from d129 (f+3) _ _];refine KD (f:=λx y=>NC (f+3) (x,y)) (by unfold AY;rw[Aac];omega) λi b l=>sv (F.lv t _ (AN b)) (G.lv u _ (AN l)) (by omega)
   ·rw[a.2 (by rw[e])]at h;cases h
   ·rcases Aan i k with z|z;· exact m i H z
    ·obtain rfl:i=k:=by omega
     have a:=a.1 (by simpa using h);have o:(v.lists[i]).1.length=(w.lists[i]'(by omega)).1.length:=by omega
     exact Acu (Alf a o).1 (Alf a o).2
  have X:v.lists=w.lists:=Adm B λi b l=>m i b b;refine Qd (by omega) ?_;refine VD (λk=> ∀i (h:i<v.structs.length),i<k->v.structs[i]=w.structs[i]'(by omega)) v.structs.length (λi _ h=>by omega) (by omega) (λk nx A m J=>?_) (λnx m=>?_)
  ·have t:=AN A;have u:=AN (show k<w.structs.length by omega);have E:=R _ t;have n1:=E.nf;have n2:=E.nc;have ne:v.structs[k]≠w.structs[k]'(by omega)->¬v=w:=λh e=>h (by simp only[e]);refine P4 (Aah A (Aah (by omega) (OC (Q:=λr=>r=Bp↔v.structs[k]=w.structs[k]'(by omega)) ?_ λr a=>P0 (λh=>AR (ne λe=>?_)) λh=>J λi H I=>?_)))
   ·rw[show uy (f+4) (v.structs[k],w.structs[k]'(by omega))=_ from d134 (f+3) _ _];refine OC (Q:=λr=>r=Bp↔(v.structs[k]).1=(w.structs[k]'(by omega)).1) ?_ λr a=>P0 (λh=>OC (Q:=λr=>r=Bp↔(v.structs[k]).2=(w.structs[k]'(by omega)).2) ?_ λs p=>MN ?_) λh=>AR λe=>?_;· rw[show uA (f+3) ((v.structs[k]).1,(w.structs[k]'(by omega)).1)=_ from d131 (f+2) _ _];refine KD (f:=λx y=>kO (f+2) (x,y)) (by omega) λi b l=>?_;rw[show kO (f+2) ((v.structs[k]).1[i],(w.structs[k]'(by omega)).1[i])=_ from d130 (f+1) _ _];have K:=F.sv t _ (AS.2 (.inl (By.2 ⟨_,AN b,rfl⟩)));have L:=G.sv u _ (AS.2 (.inl (By.2 ⟨_,AN l,rfl⟩)));refine N_ (λZ=>N_ (λk2=>OC (sv K L (by omega)) λr a=>MN ?_) λh=>AR λe=>h (by rw[e])) λh=>AR λe=>h (by rw[e]);rw[a];exact⟨λD=>Acu Z (Acu k2 D),λe=>by rw[e]⟩
    ·rw[show uz (f+3) ((v.structs[k]).2,(w.structs[k]'(by omega)).2)=_ from d133 (f+2) _ _];unfold yK;refine KD (f:=λx y=>kN (f+2) (x,y)) (by omega) λi b l=>?_;rw[show kN (f+2) ((v.structs[k]).2[i],(w.structs[k]'(by omega)).2[i])=_ from d132 (f+1) _ _];unfold yL;have K:=F.sv t _ (AS.2 (.inr (By.2 ⟨_,AN b,rfl⟩)));have L:=G.sv u _ (AS.2 (.inr (By.2 ⟨_,AN l,rfl⟩)));have y1:=E.each _ (AN b);have y2:=E.ed _ (AN b);refine OC (KN (n:=14641) ⟨y1,λs p=>by have:=y2 s p;omega⟩ (by omega)) λr a=>P0 (λh=>OC (sv K L (by omega)) λs p=>MN ?_) λh=>AR λe=>?_;· rw[p];exact⟨λD=>Acu (a.1 h) D,λe=>by rw[e]⟩
     ·rw[a.2 (by rw[e])]at h;cases h
    ·rw[p];exact⟨λD=>Acu (a.1 h) D,λe=>by rw[e]⟩
    ·rw[a.2 (by rw[e])]at h;cases h
   ·rw[a.2 e]at h;cases h
   ·rcases Aan i k with z|z;· exact m i H z
    ·obtain rfl:i=k:=by omega
     exact a.1 (by simpa using h)
  ·have Y:v.structs=w.structs:=Adm C λi b l=>m i b b;exact P5 (MN ⟨λ_=>Ahz c q X Y,λ_=>rfl⟩)
theorem ZH{y:Bb}(b:I' d x)(c:I' d y)(g:1000000000000+10*d+1<fu):Ok (NC fu (x,y)) λr=>r=Bp↔x=y:=by obtain⟨e,rfl⟩:∃e,fu=e+1:=⟨fu-1,by omega⟩;rw[show NC (e+1) (x,y)=_ from d136 e x y];refine OC (LH b.1 c.1 (by omega)) λr a=>P0 (λh=>OC (LH b.2 c.2 (by omega)) λs f=>MN ?_) λh=>AR λe=>?_;all_goals grind
theorem Mo{y:Bb}(c:I' d x)(e:I' d y)(a:1000000000000+10*d+1<fu):Ok (eL fu (x,y)) λr=>r=Bp↔x=y:=by exact OC (ZH c e a) λr b=>MN b
def v0:Vl:= .mk Aj E_ [] []
def NB(v:Vl):Prop:=v.any=Bp\/v.lists≠ []\/v.structs≠ []\/v.sc≠E_
def SB(d:Nat)(v:Vl):Prop:=Bd d v/\Snd d v
def SX(d:Nat)(x:Bb):Prop:=SB d x.1/\SB d x.2
theorem L9(d:Nat):SB (d+1) v0:=by have z:=(L2 (k:=5) (m:=0)).sc (by simp);refine⟨⟨⟨z.sm,z.n1,z.n2,z.bt,by trivial⟩,⟨Abh _,?_⟩,⟨Abh _,?_⟩,?_⟩,⟨L2,?_,?_,?_⟩⟩<;>intro c h<;>cases h
theorem Dy{v:Vl}(h:SB d v)(g:1000000000000<fu):Ok (TH fu v) λr=>r=Bp↔¬NB v:=by
 cases d with
 |zero=>exact h.1.elim
 |succ d=>
  obtain⟨⟨b,⟨l,_⟩,⟨p,_⟩,_⟩,j,_⟩:=h;have m:=b.n1;have n:=b.n2;have o:=b.sh.1;have no:NB v->Ok (Ac Aj) λr=>r=Bp↔¬NB v:=λk=>MN ⟨λh=>(by grind),λh=>absurd k h⟩;refine P0 (λa=>Aap (N_ (λf=>OC (VO (by omega) (by omega) (by omega)) λr i=>?_) λf=>no ?_)) λa=>no (.inl (by grind))
  ·have a:v.any=Aj:=by simpa using a
   have c:v.lists=[]:=OF.1 (by omega);have e:v.structs=[]:=OF.1 (by omega);have iff:v.sc=E_↔¬NB v:=by unfold NB;rw[a,c,e];simp
   refine P0 (λh=>MN ?_) λ_=>OC (IZ j (by omega) (by omega) g) λs b=>MN (b.trans iff);simp_all
  ·by_cases c:v.lists=[];· refine .inr (.inr (.inl λe=>f ?_));rw[c,e];rfl
   ·exact .inr (.inl c)
noncomputable def vw(c:Bu)(s:Aq):Bb×Int:=match c.1.find? (λf=>Dl (f.1=s))with
 |some f=>(f.2.2,f.2.1)
 |none=>match c.2.find? (λk=>I5 k.1 s)with
  |some k=>(k.2,3)
  |none=>((v0,v0),3)
theorem Po{s:Aq}(h:NV c)(C:s.length<=1000)(B:1000000000000<fu):Ve fu (c,s)=Ac (vw c s):=by
 have D:=h.nf;have E:=h.nc;refine(Ok.eq ?_);refine VD (λk=> ∀i (d:i<c.1.length),i<k->Dl (c.1[i].1=s)=Aj) c.1.length (λi _ h=>by omega) (by omega) (λk nx o q x=>?_) (λnx q=>?_)
 ·refine P4 (Aah o (N_ (λl=>MN ?_) λl=>x λi d v=>?_));· have e:c.1.find? (λf=>Dl (f.1=s))=Ac c.1[k]:=Adk.2 ⟨decide_eq_true l,k,o,rf,λj w=>by grind⟩;grind[vw]
  grind
 ·have e:c.1.find? (λf=>Dl (f.1=s))=C7:=Adl.2 λf u=>by
   obtain⟨i,d,rfl⟩:=Aat u;grind
  refine Qd (by omega) ?_;refine VD (λk=> ∀i (d:i<c.2.length),i<k->I5 c.2[i].1 s=Aj) c.2.length (λi _ h=>by omega) (by omega) (λk nx o g x=>?_) (λnx g=>?_)
  ·have m:=AN o;have A:=h.each _ m;have y:kH fu (c.2[k].1,s)=Ac (I5 c.2[k].1 s):=(U1 (n:=14641) (h.bt _ m) ⟨A,λt z=>by have:=h.ed _ m t z;omega⟩ (by omega) (by omega) (by omega) (by omega)).eq;refine P4 (Aah o (BY y (P0 (λl=>MN ?_) λl=>x λi d v=>?_)));· have r:c.2.find? (λk=>I5 k.1 s)=Ac c.2[k]:=Adk.2 ⟨l,k,o,rfl,λj w=>by simp only[g j (by omega) w];rfl⟩;unfold vw;rw[e,r]
   grind
  ·have r:c.2.find? (λk=>I5 k.1 s)=C7:=Adl.2 λf u=>by
    obtain⟨i,d,rfl⟩:=Aat u;rw[g i d d];decide
   refine P5 (MN ?_);unfold vw;rw[e,r];rfl
theorem Q5{s:Aq}(h0:P (v0,v0))(h:∀x∈Bq c,P x):P (vw c s).1:=by
 unfold vw;split;· rename_i f a;exact h _ (AS.2 (.inl (By.2 ⟨f,Acj a,rfl⟩)))
 ·split;· rename_i k b;exact h _ (AS.2 (.inr (By.2 ⟨k,Acj b,rfl⟩)))
  omega
theorem vv{s:Aq}(h:∃f∈c.1,f.1=s):∃f∈c.1,f.1=s/\vw c s=(f.2.2,f.2.1):=by grind[vw]
def XQ(c:HQ)(i:Nat):Bb:=match c.1[i]? with
 |some x=>x
 |none=>match c.2 with
  |x::_=>x
  | []=>(v0,v0)
theorem gZ{c:HQ} :Ok (YK fu (c,(i:Int))) λr=>r.1=XQ c i:=by
 rw[YK];unfold XQ;refine P4 (N_ (λh=>Aah (by omega) (MN ?_)) λh=>TT (by omega) ?_);· grind
 ·rw[Aco (by omega)];cases hc:c.2 with
  |nil=>exact Qd (by simp) (MN rfl)
  |cons x l=>exact TT (by simp) (BY (a:=x) rfl (MN rfl))
theorem bm{c:HQ}(h0:P (v0,v0))(h:∀x∈AY c,P x):P (XQ c i):=by
 unfold XQ;split;· rename_i x a;exact h _ (AS.2 (.inl (Aai a)))
 ·split;· rename_i x l a;exact h _ (AS.2 (.inr (by rw[a];exact Aau ..)))
  omega
def KT(R:Vl->Vl->Prop)(x y:Bb):Prop:=R x.1 y.1/\R x.2 y.2
structure WW(R:Vl->Vl->Prop)(c c':HQ):Prop where
 ln:c'.1.length<=c.1.length
 cl:c'.2=[]->c.1.length<=c'.1.length/\c.2=[]
 it:∀i (h:i<c.1.length),KT R c.1[i] (XQ c' i)
 rs:∀h:0<c.2.length,KT R c.2[0] (c'.2.getD 0 (v0,v0))
structure U5(R:Vl->Vl->Prop)(c c':Bu):Prop where
 fa:∀f∈c.1,(vw c f.1).2<=(vw c' f.1).2/\KT R (vw c f.1).1 (vw c' f.1).1
 fb:∀f∈c'.1,(vw c f.1).2<=(vw c' f.1).2/\KT R (vw c f.1).1 (vw c' f.1).1
 cl:∀k∈c.2,∀k'∈c'.2,KT R k.2 k'.2\/∀w,¬(Av k.1 0 w=Bp/\Av k'.1 0 w=Bp)
def De:Nat->Vl->Vl->Prop
 |0,_,_=>False
 |d+1,a,b=>b.any=Bp\/a.any=Aj/\Re a.sc b.sc/\(∀c∈a.lists,∃e∈b.lists,WW (De d) c e)/\∀c∈a.structs,∃e∈b.structs,U5 (De d) c e
theorem Vz(hi:i<c.2.length)(w:Aq):(Gx c w).getD i 0=runT (c.2.getD i dK).1 0 w:=by
 have:∀l:Aq,(Gx c l.reverse).getD i 0=runT (c.2.getD i dK).1 0 l.reverse:=λl=>by
  induction l with
  |nil=>
   show(CJ c).getD i 0=0;grind[CJ]
  |cons x l d=>
   rw[Afb,F4,(Hl c _ _).cl i hi];grind[XA,runT]
 have:=this w.reverse;grind
theorem oc{l:List Nat}{i j:Nat}(hi:i∈l)(a:j∈l)(h:i≠j):2<=l.length:=by
 match l with
 | []=>grind
 | [x]=>
  grind
 |x::y::l=>simp
theorem Dz.Iy(h:Dz c)(hi:i<c.2.length)(k:j<c.2.length)(g:i≠j)(w:Aq):¬(Av c.2[i].1 0 w=Bp/\Av c.2[j].1 0 w=Bp):=λ⟨a,b⟩=>by
 have one:=h.2 w;have e:∀ {i:Nat} (hi:i<c.2.length),Av c.2[i].1 0 w=Bp->i∈(aT c.2.length).filter λi=>fin (c.2.getD i dK).1 ((Gx c w).getD i 0):=λhi h=>by refine Abb.2 ⟨Abg.2 hi,?_⟩;rw[Vz hi w,show c.2.getD _ dK=c.2[_]from AO hi];exact h
 grind[MW,Lr,oc]
theorem bk{c:HQ}(h:i<c.1.length):XQ c i=c.1[i]:=by grind[XQ]
theorem Od(x:Sc):Re x x:=⟨id,id,id,λ_=>id,λ_=>id,λ_=>id⟩
theorem De.refl:∀ {d:Nat} {a:Vl},D_ d a->De d a a
 |0,_,h=>h.elim
 |d+1,a,⟨n,l⟩=>by
  by_cases q:a.any=Bp;· exact .inl q
  have r:∀x∈kids a,KT (De d) x x:=λx b=>⟨De.refl (l x b).1,De.refl (l x b).2⟩;refine .inr ⟨by grind,Od _,λc hc=>⟨c,hc,?_⟩,λc hc=>⟨c,hc,?_⟩⟩
  ·have t:∀x∈AY c,KT (De d) x x:=λx b=>r x (AS.2 (.inl (Aad.2 ⟨c,hc,b⟩)));refine⟨Aae _,λh=>⟨Aae _,h⟩,λi m=>?_,λh=>?_⟩;· rw[bk m];exact t _ (AS.2 (.inl (AN m)))
   ·rw[show c.2.getD 0 (GL.v0,GL.v0)=c.2[0]from AO h];exact t _ (AS.2 (.inr (AN h)))
  ·have u:∀x∈Bq c,KT (De d) x x:=λx b=>r x (AS.2 (.inr (Aad.2 ⟨c,hc,b⟩)));have v:∀f∈c.1,(vw c f.1).2<=(vw c f.1).2/\KT (De d) (vw c f.1).1 (vw c f.1).1:=λf y=>⟨Abo _,by
    obtain⟨g,n,_,e⟩:=vv (c:=c) (s:=f.1) ⟨f,y,rfl⟩;rw[e];exact u _ (AS.2 (.inl (By.2 ⟨g,n,rfl⟩)))⟩;refine⟨v,v,λk l A o=>?_⟩;obtain⟨i,m,rfl⟩:=Aat l;obtain⟨j,z,rfl⟩:=Aat o;by_cases e:i=j;· subst e;exact .inl (u _ (AS.2 (.inr (By.2 ⟨_,l,rfl⟩))))
   ·exact .inr ((n.st c hc).2.Iy m z e)
end
end Go.GL
