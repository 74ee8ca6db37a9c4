/- Part 6 of the texts of this claim: what its theorem leans on. -/
import Derived.Test.YtejdlmphkeeekaaGreatDoorZClosingClosed5
set_option linter.all false
open Option renaming some→Ac,none→Dc
open Bool renaming false→Ak,true→Br
open Go renaming Value→Ce,Operand→Er,TypeId→Gn,Program→GO,World→IK,execOp→Kr,Oper→K5,IntKind→Lm
open Decidable renaming decide→Ds
open List renaming length→FB,replicate→T9,range→aO,take_succ_eq_append_getElem→cu,set→lh,take_append_drop→wj,getElem_mem→Als
open Int renaming toNat→ae
open Go.Op renaming bytesLess→fX
open Option renaming getD→qe
open Nat renaming strongRecOn→rZ
namespace Go.GL
open Go Go.GV Go.GK Go.Proofs
section
variable{l:Tb}{n fu:Nat}{cs a b:List Int}{c:Nat->Int}{i:Nat}{es:List Cu}{s:Nat}{x:Int}{f g:Nat->Bool}{m:Nat}{kn:List Lg}{q:Int}{L:Lg}{w:List UInt8}{d:List Int}{α:Type}{t:Nat}
def AB:Nat->(Nat->Bool)->Nat
 |0,_=>0
 |n+1,f=>AB n f+(if f n then 0 else 1)
theorem M9{f g:Nat->Bool} :∀ {n:Nat},(∀j,j<n->f j=Br->g j=Br)->AB n g<=AB n f
 |0,_=>Aaf _
 |n+1,h=>by have:=M9 (n:=n) λj d=>h j (by omega);grind[AB]
theorem QB{f g:Nat->Bool} :∀ {n:Nat},(∀j,j<n->f j=Br->g j=Br)->(∃j,j<n/\f j=Ak/\g j=Br)->AB n g<AB n f
 |0,_,⟨j,a,_⟩=>by omega
 |n+1,h,⟨j,a,c,d⟩=>by
  have l:=M9 (n:=n) (f:=f) (g:=g) λj a=>h j (by omega);simp only[AB];by_cases b:j=n;· grind
  ·have:=QB (n:=n) (f:=f) (g:=g) (λj a=>h j (by omega)) ⟨j,by omega,c,d⟩;grind
theorem QA:∀(n:Nat) (f:Nat->Bool),AB n f<=n
 |0,_=>Aaf _
 |n+1,f=>by have:=QA n f;grind[AB]
theorem Ju(h:L w=Br):live L=Br:=Hn.2 ⟨w,h⟩
theorem RZ{b:Nat}(h:live (Iw L b)=Br):live L=Br:=by obtain⟨w,a⟩:=Hn.1 h;exact Ju (w:=UInt8.ofNat b::w) a
def s4(l:Tb)(c:Nat->Int)(f:Nat->Bool):Prop:= ∀s,s<Ct l->f (c s).toNat=live (Au l (s:Nat))
theorem ClsB.nat(h:ClsB l c)(a:s<Ct l):(c s).toNat<Ct l/\(((c s).toNat:Nat):Int)=c s:=by have:=h.rg s a;grind[Ct]
theorem gD(P:Bg l)(hc:Bu cs)(hf:DR cs l)(hk:W1 l c)(hl:l.length<=n)(hn:n<4294967296)(hfu:n+2<fu)(hfu':256<fu):
  Ok (F46 fu (FI l cs (Bi (Ct l) c))) (λr=> ∃f,r=Bi (Ct l) f/\s4 l c f):=by
 have hN:Ct l=l.length+1:=rfl;rw[F46];unfold FI;rw[Az];refine PC (by grind) ?_;rw[DC];let Sd:(Nat->Bool)->Prop:=λf=> ∀j,j<Ct l->f j=Br->∀s,s<Ct l->(c s).toNat=j->live (Au l (s:Nat))=Br;refine Xn (X:=List Bool×Bool) (λx=> ∃f,x.1=Bi (Ct l) f/\Sd f/\(x.2=Ak->s4 l c f)) (λx=>(if x.2 then 1 else 0)+AB (Ct l) (λj=>x.1.getD j Ak)) ⟨_,rfl,λj _ h=>(by grind),λh=>(by grind)⟩ ?_ λx nx hI _ W=>?_;· grind[Ct,Bi,QA]
 obtain⟨o,again⟩:=x;obtain⟨f,ho,hS,hL⟩:=hI;subst ho
 have R:∀g:Nat->Bool,∀j,j<Ct l->(Bi (Ct l) g).getD j Ak=g j:=λg j e=>by rw[Aad,Je e];rfl
 have Q:∀g:Nat->Bool,AB (Ct l) (λj=>(Bi (Ct l) g).getD j Ak)=AB (Ct l) g:=λg=>
  Aky (M9 λj e h=>by grind) (M9 λj e h=>by grind);refine PY (λh=>?_) λh=>MI ⟨f,rfl,hL h⟩;subst h;have d:=λs m=>hk.toClsB.nat (s:=s) m;refine XJ (λk o H=> ∃g,o=Bi (Ct l) g/\Sd g/\(∀j,j<Ct l->f j=Br->g j=Br)/\
   (H=Ak->(∀j,j<Ct l->g j=f j)/\∀s,s<k->(UZ l s=Br\/∃i,i<cs.length/\f (c (G0 l cs s i).toNat).toNat=Br)->f (c s).toNat=Br)/\
   (H=Br->∃j,j<Ct l/\f j=Ak/\g j=Br)) (Ct l) ⟨f,rfl,hS,λ_ _ h=>h,λ_=>⟨λ_ _=>rfl,λs m=>by omega⟩,λh=>(by grind)⟩ (by omega) (λk o H Z B hJ G=>?_) (λo H Z hJ=>?_)
 ·obtain⟨
      g,rfl,v,p,z,M⟩:=hJ;try dsimp only
  refine VB (by omega) (BY (AW B) (BY (AW B) ?_));refine SA (λi b=>b=Br↔UZ l k=Br\/∃j,j<i/\g (c (G0 l cs k j).toNat).toNat=Br) cs.length (by simp) (by have:=hc.le;omega) (λi b nx2 N t U=>?_) (λb nx2 t=>?_)
  ·have Y:=F_ P cs k i;have hq:(G0 l cs k i).toNat<Ct l:=by omega
   have hcq:=d _ hq
   refine VB (by unfold Z9;rw[Az];omega) (BY (by exact AW N) (PY (λh=>U _ ?_) λh=>?_))
   ·subst h;simp only[true_iff]at t⊢;rcases t with t|⟨j,e,t⟩;· grind
    ·exact .inr ⟨j,by omega,t⟩
   ·refine BY (a:=c (G0 l cs k i).toNat) (by rw[show G0 l cs k i=(((G0 l cs k i).toNat:Nat):Int) by omega];exact AW (by omega)) (BY (a:=g (c (G0 l cs k i).toNat).toNat) (by rw[<-hcq.2];exact AW (by omega)) (U _ ?_));subst h;simp only[Aco,false_iff]at t;constructor;· exact λh=> .inr ⟨i,by omega,h⟩
    ·rintro(h|⟨j,e,h⟩);· grind
     ·rcases Aal j i with I|I;· exact absurd (.inr ⟨j,I,h⟩) t
      ·obtain rfl:j=i:=by omega
       exact h
  ·have y:=d k B;have e1:idx (Bi (Ct l) c) (k:Int)=Ac (c k):=AW B;have e2:idx (Bi (Ct l) g) (c k)=Ac (g (c k).toNat):=by rw[<-y.2];exact AW y.1
   have A:∀(V:¬(b=Br/\g (c k).toNat=Ak)),Ok (Z (Bi (Ct l) g,H,k+1)) λr=> ∃f,r=Bi (Ct l) f/\s4 l c f:=λV=>by
    refine G _ _ ⟨g,rfl,v,p,λh=>⟨(z h).1,λs m q=>?_⟩,M⟩;rcases Aal s k with I|I;· exact(z h).2 s I q
    ·obtain rfl:s=k:=by omega
     have S:=(z h).1;rw[<-S _ y.1];have hbt:b=Br:=t.2 (by
      rcases q with q|⟨i,N,q⟩;· exact .inl q
      ·refine .inr ⟨i,N,?_⟩;have Y:=F_ P cs s i;rw[S _ (d _ (by omega)).1];exact q);cases E:g (c s).toNat;· exact absurd ⟨hbt,E⟩ V
     ·rfl
   refine Qb (by unfold Z9;rw[Az];omega) (PY (λh=>BY e1 (BY e2 (PY (λJ=>BY e1 (BY e2 ?_)) λJ=>A ?_))) λh=>A ?_)
   ·have E:g (c k).toNat=Ak:=by cases hh:g (c k).toNat<;>simp[hh]at J⊢
    have O:live (Au l (k:Nat))=Br:=by
     rcases t.1 h with K|⟨j,e,K⟩;· exact Ju (w:=[]) (by exact K)
     ·have Y:=F_ P cs k j;have:=v _ (d _ (by omega)).1 K _ (by omega:(G0 l cs k j).toNat<Ct l) rfl;rw[Abd Y.1,Ou P hc k e]at this;exact RZ this
    rw[Bb];refine G _ _ ⟨_,rfl,λj e T s m D=>?_,λj e hfj=>?_,λh=>(by cases h),λ_=>⟨(c k).toNat,y.1,?_,by simp⟩⟩
    ·by_cases F:j=(c k).toNat
     ·have hcc:c s=c k:=by have:=(d s m).2;omega
      rw[(hk.iff s k m B).1 hcc];exact O
     ·simp only[F,if_false]at T;exact v j e T s m D
    ·by_cases F:j=(c k).toNat;· simp[F]
     ·simp only[F,if_false];exact p j e hfj
    ·cases hfk:f (c k).toNat;· rfl
     ·have:=p _ y.1 hfk;rw[this]at E;cases E
   ·rintro⟨_,K⟩;rw[K]at J;cases J
   ·rintro⟨K,_⟩;rw[K]at h;cases h
 ·obtain⟨g,rfl,v,p,z,M⟩:=hJ;try dsimp only
  refine Qb (by(try rw[Az])<;>omega) (W (_,H) ⟨g,rf,v,λh=>?_⟩ ?_)
  ·obtain⟨I,J⟩:=z h;have hcl:∀(w:List UInt8) (s:Nat),s<Ct l->Au l (s:Nat) w=Br->f (c s).toNat=Br:=by
    intro w;induction w with
    |nil=>intro s m C;exact J s m (.inl (by exact C))
    |cons b w ih=>
     intro s m C;obtain⟨i,N,g1,g2⟩:=hc.find b.toNat b.toNat_lt;have Y:=F_ P cs s i;refine J s m (.inr ⟨i,N,ih _ (by omega) ?_⟩);rw[Abd Y.1,Ou P hc s N,<-Jx P hc hf s N b.toNat_lt g1 g2];simpa [Iw]using C
   intro s m;have D:=d s m;rw[I _ D.1];cases L:f (c s).toNat
   ·cases O:live (Au l (s:Nat));· rfl
    ·obtain⟨w,C⟩:=Hn.1 O;rw[hcl w s m C]at L;cases L
   ·exact(hS _ D.1 L s m rf).symm
  ·rw[Q,Q];cases H with
   |true=>
    have:=QB (n:=Ct l) (f:=f) (g:=g) (λj e=>p j e) (M rfl);simp only[if_true];omega
   |false=>
    have:=M9 (n:=Ct l) (f:=f) (g:=g) (λj e=>p j e);simp only[if_true,Aco,if_false];omega
theorem bW(hc:Bu cs)(hi:i<cs.length):Ok (Yu fu ((FI l cs b),(i:Int))) (λr=>r=G1 cs i):=by
 rw[Yu];unfold FI;dsimp only;have c:=hc.le;refine PC (by omega) (N7 (λh=>PC (by omega) ?_) λh=>MI (by grind[Ht]));have a:i+1<cs.length:=by omega
 have d:=hc.hi hi;have e:=hc.rg _ (AN hi);rw[E2 a]at d;rw[show((i:Int)+1)=((i+1:Nat):Int) by omega];refine Aah a (PC (by omega) (PC (by omega) (MI (by rw[E2 a]))))
def pos(cs:List Int)(i:Nat):Nat:=if h:i<cs.length then cs[i].toNat else 256
theorem RH(h:Bu cs):pos cs 0=0:=by unfold pos;rw[dif_pos h.pos,h.w_];rfl
theorem pos_at{cs:List Int}(h:Bu cs){i:Nat}(hi:i<cs.length):((pos cs i:Nat):Int)=cs[i]:=by unfold pos;rw[dif_pos hi];have:=h.rg _ (AN hi);omega
theorem VI:pos cs cs.length=256:=by simp[pos]
theorem RI(h:Bu cs)(hi:i<cs.length):((pos cs (i+1):Nat):Int)=G1 cs i+1:=by
 by_cases a:i+1<cs.length;· grind[pos_at,E2]
 simp_all[pos,Ht,dif_neg]
theorem PH(h:Bu cs)(i:Nat):pos cs i<=256:=by
 unfold pos;split;· rename_i a;have:=h.rg _ (AN a);omega
 omega
theorem RD{lo hi n:Int}(h:0<es.length):push es lo hi n=if(es[es.length-1]'(by omega)).2.2=n/\(es[es.length-1]'(by omega)).2.1+1=lo then es.set (es.length-1) ((es[es.length-1]'(by omega)).1,hi,n)else es++[(lo,hi,n)]:=by
 rcases Fk es with rfl|⟨a,y,rfl⟩;· grind
 simp_all[FZ]
theorem RE(es:List Cu)(lo hi n:Int):(push es lo hi n).length<=es.length+1:=by rcases Fk es with rfl|⟨b,y,rfl⟩;all_goals grind[Jo,FZ]
noncomputable def gP(fu:Nat)(T:List Int×List (List Int)×List Bool×List Int)(es:List Cu)(i:Nat)(nx:(List (Int×Int)×List Int×List Cu×Nat)->Option (Tb×List Int×List (List Int)×List Bool×List Int))(x:Int)(b:List Int)(m:List (Int×Int)):Option (Tb×List Int×List (List Int)×List Bool×List Int):=
 Ab (idx T.1 (i:Int)) λa=>
 Aa (Lm.u8) (a)<|
 Ab (Yu fu (T,(i:Int))) λc=>
 Aa (Lm.i64) (x)<|
 Ah (FB es+1<=Aj)<|
 nx (m,b,es++[(a,c,qe (AF m x) (0:Int))],i+1)
noncomputable def j11(fu:Nat)(T:List Int×List (List Int)×List Bool×List Int)(es:List Cu)(i:Nat)(nx:(List (Int×Int)×List Int×List Cu×Nat)->Option (Tb×List Int×List (List Int)×List Bool×List Int))(x:Int)(a:List Int)(m:List (Int×Int)):Option (Tb×List Int×List (List Int)×List Bool×List Int):=
 bif Ds ((0:Int)<(↑(FB es):Int))then
  Aa (Lm.i64) ((↑(FB es):Int)-(1:Int))<|
  Ab (idx es ((↑(FB es):Int)-(1:Int))) λd=>
  Aa (Lm.i64) (x)<|
  bif Ds (d.2.2=qe (AF m x) (0:Int))then
   Aa (Lm.i64) ((↑(FB es):Int)-(1:Int))<|
   Ab (idx es ((↑(FB es):Int)-(1:Int))) λb=>
   Aa (Lm.i64) (b.2.1+(1:Int))<|
   Ab (idx T.1 (i:Int)) λe=>
   bif Ds (b.2.1+(1:Int)=e)then
    Aa (Lm.i64) ((↑(FB es):Int)-(1:Int))<|
    Ab (Yu fu (T,(i:Int))) λf=>
    Ab (idx es ((↑(FB es):Int)-(1:Int))) λc=>
    nx (m,a,es.set (ae ((↑(FB es):Int)-(1:Int))) (c.1,f,c.2.2),i+1)
   else gP fu T es i nx x a m
  else gP fu T es i nx x a m
 else gP fu T es i nx x a m
theorem a8{k:List Int}{q:Nat}{e:List Int}{m:List (Int×Int)}{nx:(List (Int×Int)×List Int×List Cu×Nat)->Option (Tb×List Int×List (List Int)×List Bool×List Int)}{P:Tb×List Int×List (List Int)×List Bool×List Int->Prop}
  (hc:Bu cs) (hi:i<cs.length) (y:BU es (pos cs i) q) (B:es.length<=256) (u:GK.DY x) {n:Int} (C:AF m x=Ac n)
  (h:Ok (nx (m,e,push es cs[i] (G1 cs i) n,i+1)) P):
  Ok (j11 fu (FI l cs k) es i nx x e m) P:=by
 have z:=hc.rg _ (AN hi);have t:(AF m x).getD 0=n:=by grind
 have b:push es cs[i] (G1 cs i) n=es++[(cs[i],G1 cs i,n)]->Ok (gP fu (FI l cs k) es i nx x e m) P:=λA=>by refine Aah (l:=cs) hi (PC (p:=GK.F8 cs[i]) (by omega) (Oz (bW hc hi) λa r=>?_));refine PC (p:=GK.DY x) u (PC (by grind) ?_);grind
 unfold j11;simp only[show(FI l cs k).1=cs from rfl];refine N7 (λw=>?_) λw=>b ?_
 ·have f:0<es.length:=by omega
  have v:((es.length:Int)-1)=((es.length-1:Nat):Int):=by omega
  have c:es.length-1<es.length:=by omega
  have F:=y.rg _ (AN c);have D:=PH hc i;have d:=RD (lo:=cs[i]) (hi:=G1 cs i) (n:=n) f;rw[t,v];refine Aaq (Aah c (PC (p:=GK.DY x) u (N7 (λg=>Aaq (Aah c (Aaq (Aah hi (N7 (λo=>?_) λo=>?_))))) λg=>?_)));· refine Aaq (Oz (bW hc hi) λa r=>?_);simp_all[Aah,if_pos]
  all_goals grind
 ·obtain rfl:es=[]:=OF.1 (by omega);rfl
theorem XG(l:Tb):live (Au l (l.length:Nat))=Ak:=by have:=aC l (-1) (by omega);rw[show sk l.length (-1)=((l.length:Nat):Int)from rfl]at this;grind[Hm]
structure KO(l:Tb)(c:Nat->Int)(kn:List Lg)(ord:List Int)(m:List (Int×Int)):Prop extends KnOk (qv l) kn where
 len:ord.length=kn.length
 ord:∀(i:Nat) (q:Int),ord[i]?=Ac q->(0<=q/\q<l.length)/\kn[i]?=Ac (Au l q)
 wI:m.length=kn.length
 map:∀s,s<Ct l->(Au l (s:Nat)∈kn->AF m (c s)=Ac ((Ik kn (Au l (s:Nat)):Nat):Int))/\(Au l (s:Nat)∉kn->AF m (c s)=Dc)
theorem KO.nil(l:Tb)(c:Nat->Int):KO l c [] [] []:=⟨⟨.nil,by simp,by simp⟩,rfl,by simp,rfl,λs a=>⟨by simp,λ_=>rfl⟩⟩
theorem KO.put{m:List (Int×Int)}(B:Bg l)(w:W1 l c)(h:KO l c kn a m)(A:s<l.length)(r:Au l (s:Nat)∉kn)(y:live (Au l (s:Nat))=Br):
  KO l c (IP kn (Au l (s:Nat))) (a++[(s:Int)]) (Bz m (c s) (a.length:Int)):=by
 have z:Ct l=l.length+1:=rfl;have f:s<Ct l:=by omega
 have x:=h.toKnOk.IP (D:=Au l (s:Nat)) (Jw (by omega) (by omega)) y;have e:IP kn (Au l (s:Nat))=kn++[Au l (s:Nat)]:=by simp_all[IP,if_pos,GA]
 refine⟨x,?_,?_,?_,?_⟩;· rw[e];simp[h.len]
 ·intro i q g;rw[e];by_cases v:i<a.length;· rw[Aaa v]at g;have:=h.ord i q g;grind
  ·have p:i=a.length:=by
    grind
   subst p;simp at g;subst g;exact⟨⟨by omega,by omega⟩,by rw[h.len];simp⟩
 ·rw[Kx,(h.map s f).2 r,e,h.wI];simp
 ·intro t k;rw[e,H9];by_cases b:c t=c s;· have n:=(w.iff t s k f).1 b;rw[if_pos b,n,h.len];grind[absurd,Au,JC,GA]
  ·have n:Au l (t:Nat)≠Au l (s:Nat):=λo=>b ((w.iff t s k f).2 o);rw[if_neg b];refine⟨λd=>?_,λd=>(h.map t k).2 λo=>d (by simp[o])⟩;have j:Au l (t:Nat)∈kn:=by
    rcases AT.1 d with d|d;· exact d
    ·simp at d;exact absurd d n
   rw[MO j];exact(h.map t k).1 j
theorem QG(L:Bg l)(h0:0<l.length)(hc:Bu cs)(hf:DR cs l)(Q:W1 l c)(hl:l.length<=n)(hn:n<4294967296)(hfu:n+2<fu)(Z:256<fu):
  Ok (F48 fu (FI l cs (Bi (Ct l) c))) (λr=>r.1=Cb l):=by
 have hN:Ct l=l.length+1:=rfl;have hcl:=hc.le;rw[F48];refine Oz (gD L hc hf Q hl hn hfu Z) λlv H=>?_;obtain⟨f,rfl,Y⟩:=H;have I:=λs hs=>Q.toClsB.nat (s:=s) hs;have e0:idx (FI l cs (Bi (Ct l) c)).2.2.2 0=Ac (c 0):=by grind[FI,AW]
 refine BY e0 (BY (a:=f (c 0).toNat) (by grind[AW]) ?_);rw[Y 0 (by omega)];have O:Au l ((0:Nat):Int)=Au l 0:=rfl;refine PY (λh=>MI ?_) λh=>?_
 ·grind[live,Au,Cb,Eu]
 have H:live (Au l 0)=Br:=by grind
 have hcr:=Q.rg 0 (by omega);refine BY e0 (Aaq (PC (by simp) ?_));have S:=(KO.nil l c).put L Q (s:=0) h0 (by simp) H;refine Xn (X:=List (Int×Int)×List Int×Tb×Nat) (λx=> ∃u F,KO l c u x.2.1 x.1/\x.2.2.2=x.2.2.1.length/\x.2.2.1.length<=u.length/\l.length<F+x.2.2.1.length/\DN F u x.2.2.1=Cb l) (λx=>l.length+1-x.2.2.2)
  ⟨[Au l 0],l.length+1,S,rfl,by simp,by simp,by unfold Cb Eu;rw[if_pos H]⟩ (by omega) λx nx hI _ hnx=>?_;obtain⟨m,P,out,k⟩:=x;obtain⟨u,F,v,hkl,hol,hF,M⟩:=hI;dsimp only at v hkl hol hF M;subst hkl;have hkn:u.length<=l.length:=by have:=v.toKnOk.le;rw[Fl]at this;exact this
 have hlen:=v.len;try dsimp only
 refine N7 (λhlt=>?_) λhlt=>MI ?_
 ·have hko:out.length<P.length:=by omega
  obtain⟨⟨hq0,hq1⟩,hK⟩:=v.ord out.length _ (IN hko);generalize hqe:P[out.length]=q at hq0 hq1 hK;obtain⟨t,rfl⟩:∃t:Nat,q=t:=⟨q.toNat,by omega⟩;have hqN:t<Ct l:=by omega
  have e1:idx P (out.length:Int)=Ac (t:Int):=by rw[Bl hko,hqe]
  obtain⟨F,rfl⟩:∃F',F=F'+1:=⟨F-1,by omega⟩;have T:=Aai hK;refine BY e1 (BY (by exact AW hqN) (BY e1 (BY (by exact AW hqN) ?_)));have hrow:=λi G=>ET (H6 L) (v.sub _ T) v.toKnOk (pos cs i) G;refine Z6 (λi m' o es=>o.length=(AM (Au l (t:Nat)) u (pos cs i)).1.length/\es=(AM (Au l (t:Nat)) u (pos cs i)).2/\es.length<=i/\KO l c (AM (Au l (t:Nat)) u (pos cs i)).1 o m') cs.length
   (by rw[RH hc];exact⟨hlen,rfl,by simp,v⟩) (by omega) (λi m' o es nx' G hJ C=>?_) (λm' o es nx' hJ=>?_)
  ·obtain⟨A,rfl,W,d⟩:=hJ;have hpl:=PH hc i;obtain⟨g1,g2,g3⟩:=hrow i hpl;have hr:=F_ L cs t i;obtain⟨g,htn⟩:∃g:Nat,G0 l cs t i=g:=⟨(G0 l cs t i).toNat,by omega⟩;have y:g<Ct l:=by omega
   have V:=I g y;have hpa:=pos_at hc G;have hps:=RI hc G;have hhi:=hc.hi G;have hD:∀b,pos cs i<=b->b<=(G1 cs i).toNat->Iw (Au l (t:Nat)) b=Au l (g:Nat):=λb b1 b2=>by rw[Jx L hc hf t G (by omega) (by omega) (by omega),<-Ou L hc t G,htn]
   have E:AM (Au l (t:Nat)) u (pos cs (i+1))=Di (AM (Au l (t:Nat)) u (pos cs i)) (Au l (g:Nat)) (pos cs i) (G1 cs i).toNat:=by rw[show pos cs (i+1)=(G1 cs i).toNat+1 by omega];exact HY _ _ _ _ _ (by omega) hD
   try dsimp only
   refine VB (by unfold Z9;rw[Az];omega) (BY (a:=(g:Int)) (by rw[<-htn];exact AW G) (BY (a:=c g) (by exact AW y) (BY (a:=f (c g).toNat) (by rw[<-V.2];exact AW V.1) ?_)));rw[Y g y];refine PY (λz=>C _ _ _ ?_) λj=>?_
   ·have z:live (Au l (g:Nat))=Ak:=by cases N:live (Au l (g:Nat))<;>simp[N]at z⊢
    have e:AM (Au l (t:Nat)) u (pos cs (i+1))=AM (Au l (t:Nat)) u (pos cs i):=by rw[E];unfold Di;rw[z];rfl
    rw[e];exact⟨A,rfl,by omega,d⟩
   ·have j:live (Au l (g:Nat))=Br:=by cases N:live (Au l (g:Nat))<;>simp[N]at j⊢
    have htl:g<l.length:=by
     rcases Aal g l.length with h1|h1;· exact h1
     ·obtain rfl:g=l.length:=by omega
      rw[XG]at j;cases j
    have hst:AM (Au l (t:Nat)) u (pos cs (i+1))=(IP (AM (Au l (t:Nat)) u (pos cs i)).1 (Au l (g:Nat)),push (AM (Au l (t:Nat)) u (pos cs i)).2 cs[i] (G1 cs i) (Ik (AM (Au l (t:Nat)) u (pos cs i)).1 (Au l (g:Nat)):Nat)):=by rw[E];unfold Di;rw[if_pos j,hpa,Abd (by omega)]
    have B:GK.DY (c g):=by unfold GK.DY;omega
    have hkl':=g2.le;rw[Fl]at hkl';have hpush:=RE (AM (Au l (t:Nat)) u (pos cs i)).2 cs[i] (G1 cs i) (Ik (AM (Au l (t:Nat)) u (pos cs i)).1 (Au l (g:Nat)):Nat);refine PC (p:=GK.DY (c g)) B (PY (λJ=>?_) λK=>?_)
    ·have hnm:Au l (g:Nat)∉(AM (Au l (t:Nat)) u (pos cs i)).1:=λR=>by
      rw[(d.map g y).1 R]at J;simp at J
     have D:=d.put L Q htl hnm j;have hix:=GA hnm;have hmem:=LJ (AM (Au l (t:Nat)) u (pos cs i)).1 (Au l (g:Nat));refine PC (p:=GK.DY (c g)) B (PC (by rw[d.wI];omega) (PC (by unfold Aj;omega) ?_));refine a8 hc G g3.1 (by omega) B (((D.map g y).1 hmem).trans (by rw[JC])) (C _ _ _ ?_);rw[hst];exact⟨by rw[D.len],rfl,by omega,D⟩
    ·have R:Au l (g:Nat)∈(AM (Au l (t:Nat)) u (pos cs i)).1:=IS λR=>by
      rw[(d.map g y).2 R]at K;simp at K
     refine a8 hc G g3.1 (by omega) B ((d.map g y).1 R) (C _ _ _ ?_);rw[hst,Gz R];exact⟨A,rf,by omega,d⟩
  ·obtain⟨A,rfl,W,d⟩:=hJ;rw[VI]at A d⊢;obtain⟨g1,g2,g3⟩:=ET (H6 L) (v.sub _ T) v.toKnOk 256 (Aaf _);have:=g1.len;try dsimp only
   refine Qb (by unfold Z9;rw[Az];omega) (PC (by(try simp)<;>(unfold Aj;omega)) (hnx _ ⟨(AM (Au l (t:Nat)) u 256).1,F,d,by simp,by simp;omega,by simp;omega,?_⟩ ?_))
   ·rw[<-M];dsimp only;conv=>rhs;unfold DN
    rw[hK];dsimp only;rw[PZ]
   ·dsimp only;omega
 ·have hno:u[out.length]?=Dc:=Acy (by omega);rw[<-M];cases F with
  |zero=>rfl
  |succ F=>unfold DN;rw[hno]
theorem MD(k:N0 l)(i:DW l n)(g:n<4294967296)(f:n+2<fu)(a:256<fu):
  Ok (oh fu l) (λr=>(Bg l->r=(Cb l,0))/\(¬Bg l->r=([],11))):=by
 rw[oh];refine Oz (Ec k i (by omega) g) λx e=>PY (λh=>MI ?_) λh=>?_
 ·grind
 ·have d:Bg l:=e.1 (by grind);refine N7 (λh=>MI ⟨λ_=>?_,λb=>absurd d b⟩) λh=>?_;· obtain rfl:l=[]:=OF.1 (by omega);grind[live,Au,Cb,Eu,C4,DG]
  ·refine Oz (SZ d i g (by omega) a) λx e=>?_;obtain⟨o,hc,j,rfl⟩:=e;refine Oz (Xq d (by omega) hc j i.1 g f a) λx e=>?_;obtain⟨c,m,rfl⟩:=e;refine Oz (QG d (by omega) hc j m i.1 g f a) λx e=>MI ⟨λ_=>?_,λb=>absurd d b⟩;rw[e]
theorem L5(f:N0 l)(d:DW l n)(g:n<4294967296)(c:n+2<fu)(a:256<fu):
  Ok (vG fu l) (λr=>r=Br↔Bg l/\Cb l=l):=by
 rw[vG];refine Oz (MD f d g c a) λx e=>?_;by_cases b:Bg l;· rw[e.1 b];refine VB rfl (Oz (KK d (by omega)) λr i=>MI ?_);grind
 simp_all[absurd,Qb,MI]
theorem Bg.by(h:Bg l):N0 l:=λs b e a=>by have:=(h s b).rg e a;omega
theorem BU.len(h:BU es m n):es.length<=m:=by
 have f:(es.map λe=>e.1.toNat).Nodup:=by refine Adl.2 ?_;refine Agb (λ{a b} g j i=>?_) h.so;have:=h.rg a g;omega
 have:=Co (b:=aO m) f (λx k=>by obtain⟨c,hc,rfl⟩:=By.1 k;have:=h.rg c hc;grind);grind
theorem Bg.sh(h:Bg l)(a:l.length<=n)(b:256<=n):DW l n:=⟨a,λs c=>by have:=(h s c).len;omega⟩
theorem Gw(K:Lg)(kn:List Lg)(lo:Nat):∀n,(∀b,lo<=b->b<lo+n->live (Iw K b)=Ak)->AM K kn (lo+n)=AM K kn lo
 |0,_=>rfl
 |n+1,h=>by rw[<-Ads,Mo,Gw K kn lo n λb a c=>h b a (by omega)];grind[Di]
theorem Mn(K:Lg)(kn:List Lg):AM K kn 0=(kn,[]):=rfl
theorem Xm(K D:Lg)(kn:List Lg)(lo hi:Nat)(h1:lo<=hi)(h2:hi<256)(d:∀b,b<256->b<lo\/hi<b->live (Iw K b)=Ak)(f:∀b,lo<=b->b<=hi->Iw K b=D)(g:live D=Br):
  AM K kn 256=(IP kn D,[((lo:Int),(hi:Int),((Ik kn D:Nat):Int))]):=by
 have a:AM K kn (0+lo)=AM K kn 0:=Gw K kn 0 lo λb _ h=>d b (by omega) (.inl (by omega));have e:AM K kn (hi+1)=Di (AM K kn lo) D lo hi:=HY K kn D lo hi h1 f;have c:AM K kn (hi+1+(255-hi))=AM K kn (hi+1):=Gw K kn (hi+1) (255-hi) λb i j=>d b (by omega) (.inr (by omega));rw[show hi+1+(255-hi)=256 by omega]at c;rw[Abm,Mn]at a;rw[c,e,a];unfold Di;rw[if_pos g];rfl
theorem T6(K:Lg)(kn:List Lg)(a:∀b,b<256->live (Iw K b)=Ak):AM K kn 256=(kn,[]):=by have:=Gw K kn 0 256 λb _ h=>a b (by omega);trivial
def single(w:List UInt8):Lg:=λv=>Ds (v=w)
theorem K2(w:List UInt8):live (single w)=Br:=Ju (w:=w) (by simp[single])
theorem T1{v:List UInt8}(h:single v=single w):v=w:=by have:=congrFun h v;grind[single]
theorem ofNat_eq{b:Nat}(a:b<256)(c:UInt8):UInt8.ofNat b=c↔b=c.toNat:=by
 constructor;· rintro rfl;simp;omega
 simp_all
theorem IG{b:Nat}(a:b<256)(c:UInt8)(w:List UInt8):Iw (single (c::w)) b=if b=c.toNat then single w else λ_=>Ak:=by grind[Iw,single,List.cons.injEq,ofNat_eq]
theorem Mi(b:Nat):Iw (single []) b=λ_=>Ak:=by rfl
theorem H5:live (λ_=>Ak)=Ak:=C4.2 λ_=>rfl
def Ur(s:List UInt8)(k:Nat):List Lg:=Bi k λj=>single (s.drop j)
theorem Vi(s:List UInt8):∀(d k fu:Nat),k+d=s.length->d+1<=fu->DN fu (Ur s (k+1)) (CP s k)=Bx s
 |0,k,fu+1,t,_=>by
  obtain rfl:k=s.length:=by omega
  have j:(CP s s.length).length=s.length:=by simp[CP]
  have g:(Ur s (s.length+1))[(CP s s.length).length]?=Ac (single []):=by grind[Ur,Je]
  unfold DN;rw[g];dsimp only;rw[T6 _ _ λb q=>by grind[Mi,H5]];have e:CP s s.length++[(single [] [],[])]=Bx s:=by simp[CP,Bx,single]
  rw[e];cases fu with
  |zero=>rfl
  |succ fu=>
   grind[DN,Ur,Bx,List.getElem?_eq_none,Az]
 |d+1,k,fu+1,t,x=>by
  have l:k<s.length:=by omega
  have j:(CP s k).length=k:=by simp[CP];omega
  have g:(Ur s (k+1))[(CP s k).length]?=Ac (single (s.drop k)):=by rw[j];unfold Ur;rw[Je (by omega)]
  have c:s.drop k=s[k]::s.drop (k+1):=Aar l;have m:single (s.drop (k+1))∉Ur s (k+1):=λu=>by obtain⟨i,y,r⟩:=EG.1 u;have:=congrArg FB (T1 r);simp at this;omega
  have n:=Xm (single (s.drop k)) (single (s.drop (k+1))) (Ur s (k+1)) s[k].toNat s[k].toNat (Aaf _) s[k].toNat_lt
   (λb q h=>by rw[c,IG q,if_neg (by omega)];exact H5)
   (λb v w=>by have:=s[k].toNat_lt;rw[c,IG (by omega),if_pos (by omega)]) (K2 _);have o:Ik (Ur s (k+1)) (single (s.drop (k+1)))=k+1:=by rw[GA m];unfold Ur;rw[Az]
  have p:IP (Ur s (k+1)) (single (s.drop (k+1)))=Ur s (k+2):=by unfold IP;rw[if_pos (GA m)];unfold Ur;rw[Dl (k+1)]
  unfold DN;rw[g];dsimp only;rw[n,p,o];have e:CP s k++[(single (s.drop k) [],[((s[k].toNat:Int),(s[k].toNat:Int),((k+1:Nat):Int))])]=CP s (k+1):=by rw[KU l,c];simp[single,KV,l]
  rw[e];exact Vi s d (k+1) fu (by omega) (by omega)
theorem Zg(s:List UInt8){fu:Nat}(a:s.length+1<=fu):Eu fu (single s)=Bx s:=by unfold Eu;rw[if_pos (K2 s)];have:=Vi s s.length 0 fu (by omega) a;trivial
theorem Zf(s:List UInt8):u7 (Ur s (s.length+1)):=by
 intro K d b e a;obtain⟨i,f,rfl⟩:=EG.1 d;rcases Aal i s.length with h|h
 ·rw[Aar h,IG e]at a⊢;split at a;· rename_i c;rw[if_pos c];exact EG.2 ⟨i+1,by omega,rfl⟩
  grind[H5]
 grind[List.drop_of_length_le,Mi,H5]
theorem TQ(s:List UInt8):Bg (Bx s)/\Au (Bx s) 0=single s:=by have:=WH (Zf s) (L:=single s) (λ_=>EG.2 ⟨0,by omega,rfl⟩) (fu:=s.length+2) (by grind[Ur,Az]);grind[Zg]
def KN:Tb:=[(Br,[(0,255,0)])]
theorem sR:Bg KN:=by intro s a;simp[KN]at a;subst a;exact⟨by trivial,by simp⟩
theorem dm:Au KN 0=λ_=>Br:=by
 funext w;induction w with
 |nil=>rfl
 |cons c w b=>
  have:Bn KN 0 c.toNat=0:=by have:=c.toNat_lt;grind[Bn,Bf,KN,AQ,BQ]
  show Au KN (Bn KN 0 c.toNat) w=Br;grind
theorem dp:Cb KN=KN:=by
 unfold Cb;rw[dm];have c:live (λ_=>Br)=Br:=Ju (w:=[]) rfl;have a:AM (λ_=>Br) [λ_=>Br] 256=Di (AM (λ_=>Br) [λ_=>Br] 0) (λ_=>Br) 0 255:=HY _ _ _ 0 255 (by simp) λb _ _=>rfl;have f:Ik [λ_=>Br] (λ_=>Br)=0:=by have:=gQ (kn:=[λ_=>Br]) (by simp) (i:=0) (by simp);simpa using this
 have d:IP [λ_=>Br] (λ_=>Br)=[λ_=>Br]:=Gz (by simp);have e:AM (λ_=>Br) [λ_=>Br] 256=([λ_=>Br],[(0,255,0)]):=by rw[a,Mn];unfold Di;rw[if_pos c];rw[d,f];rfl
 show Eu 2 _=_;unfold Eu;rw[if_pos c];unfold DN;simp only[Ado,Alm];rw[e];rfl
theorem LC{b:Nat}{i:Int}(w:DW l n)(x:n<fu)(h1:i<l.length):Ok (uL fu (l,i,(b:Int))) (λr=>r=Bn l i b):=by
 refine N7 (λh=>MI (by grind[Jg])) λh=>Adq (by omega) h1 ?_;have v:=Bv (by omega) h1;have p:Bn l i b=AQ (l[i.toNat]'(by omega)).2 b:=by grind[Bn]
 rw[p];have o:=w.2 _ (AN (by omega:i.toNat<l.length));generalize l[i.toNat]'(by omega)=s at o;refine TV (λk=> ∀j (_:j<k) (q:j<s.2.length),BQ b s.2[j]=Ak) s.2.length (by omega) (by omega) (λk nx t e u=>?_) (λnx e=>?_)
 ·have d:BQ b s.2[k]=Ak->∀j (_:j<k+1) (q:j<s.2.length),BQ b s.2[j]=Ak:=λh j q m=>by
   grind
  refine P2 (Aah t (N7 (λc=>N7 (λg=>MI ?_) λg=>u (d ?_)) λc=>u (d ?_)));· exact(G9 t (by simp[BQ,c,g]) λi f=>e i f (by omega)).symm
  all_goals grind[BQ]
 simp_all[P3,MI,Gq]
theorem ot(fu:Nat)(l:Tb):F9 fu l=yr fu l:=rfl
theorem Tu{s:Ay}(A:N0 l)(o:DW l n)(m:n<fu)(E:n<4294967296)(C:s.length<fu)(D:s.length<4294967296):Ok (dW fu (l,s)) (λr=>r=I3 l s):=by
 rw[dW];rw[ot];refine Oz (Ec A o m E) λx t=>PY (λh=>MI ?_) λh=>N7 (λh=>MI ?_) λG=>?_;· refine(Tv (λf=>?_) s).symm;have:=t.2 f;subst this;cases h
 ·obtain rfl:l=[]:=OF.1 (by omega);rw[LY (by simp[Bg]),DG]
 have f:Bg l:=t.1 (by cases x;cases h;rfl);rw[LY f];refine Xn (X:=Int×Int) (λp=>p.1<l.length/\(0<=p.2/\p.2<=s.length)/\runT l 0 s=runT l p.1 (s.drop p.2.toNat)) (λp=>s.length-p.2.toNat) ⟨by(try simp only);omega,⟨by decide,by(try simp only);omega⟩,rfl⟩ (by simpa using C) λp nx w _ j=>?_;obtain⟨q,i⟩:=p;obtain⟨e,⟨u,v⟩,c⟩:=w;simp only at e u v c;try dsimp only
 refine N7 (λB=>?_) λB=>?_
 ·have b:i.toNat<s.length:=by omega
  have g:i=((i.toNat:Nat):Int):=by omega
  have y:∀ {k:Int->Option Bool} {P},Ok (k (((s[i.toNat]'b).toNat:Nat):Int)) P->Ok (Ab (Ey s i) k) P:=λh=>by rw[g];exact Zr b h
  refine y (Oz (LC o m e) λa z=>PC (by unfold GK.DY;omega) ?_);subst z;have F:=f.st q (s[i.toNat]'b).toNat;refine j (_,i+1) ⟨by(try simp only);omega,⟨by(try simp only);omega,by(try simp only);omega⟩,?_⟩ (by(try simp only);omega);try simp only
  rw[c,show(i+1).toNat=i.toNat+1 by omega,<-HX,Aar b]
 ·have b:i.toNat=s.length:=by omega
  rw[b,Aaz (Aaf _)]at c;refine N7 (λd=>Adq d e (MI ?_)) λd=>MI ?_;· unfold Au;rw[c];exact(Eg d e).symm
  ·unfold Au;rw[c];unfold fin runT;simp[d]
theorem TX(fu:Nat)(l:Tb):F13 fu l=F38 fu l:=by rfl
def alB(fu k:Nat)(nx:(List Bool×Nat)->Option (List Bool))(x:TN)(o:List Bool)(j:Nat)(a:(List Bool×Nat)->Option (List Bool)):Option (List Bool):=bif Ds ((↑j:Int)<(↑(FB x.2):Int))then Ab (idx x.2 (↑j:Int)) λb=>Ab (idx o (↑k:Int)) λc=>bif c then Ab (idx o (↑k:Int)) λe=>a (o.set k Br,j+1)else Ab (idx o b.2.2) λd=>Ab (idx o (↑k:Int)) λf=>a (o.set k d,j+1)else nx (o,k+1)
def Ar(l:Tb)(f:Nat->Bool)(s:Nat):Prop:= ∃st,l[s]?=Ac st/\(st.1=Br\/∃e∈st.2,f e.2.2.toNat=Br)
def GM(l:Tb)(f:Nat->Bool):Prop:= ∀s,s<l.length->Ar l f s->f s=Br
def Ns(l:Tb)(f:Nat->Bool):Prop:= ∀s,s<l.length->f s=Br->live (Au l (s:Nat))=Br
theorem Ar.mono(k:Bg l)(a:∀j,j<l.length->f j=Br->g j=Br)(h:Ar l f s):Ar l g s:=by obtain⟨st,b,d⟩:=h;refine⟨st,b,d.imp id λ⟨e,c,i⟩=>⟨e,c,a _ ?_ i⟩⟩;have:=(k st (Aai b)).rg e c;omega
theorem Ob{es:List Cu}{m n:Nat}(h:BU es m n){e:Cu}(a:e∈es):AQ es e.1.toNat=e.2.2:=by obtain⟨i,b,rfl⟩:=Aau a;have g:=h.rg _ a;refine G9 b (by grind[BQ]) λj c=>?_;have d:=Aaw.1 h.so j i (by omega) b c;grind[BQ]
theorem Ar.live(o:Bg l)(k:Ns l f)(h:Ar l f s):live (Au l (s:Nat))=Br:=by
 obtain⟨st,c,d⟩:=h;have a:Bf l (s:Nat)=st:=by grind[Bf]
 have i:=o st (Aai c);rcases d with d|⟨e,j,m⟩;· exact Ju (w:=[]) (by grind[Au,runT,fin])
 ·have n:=i.rg e j;have g:=k _ (by omega) m;refine RZ (b:=e.1.toNat) ?_;rw[Ft _ _ _ (by omega)];have:Bn l (s:Nat) e.1.toNat=e.2.2:=by unfold Bn;grind[Ob]
  grind
theorem GM.all{l:Tb}{f:Nat->Bool}(m:Bg l)(h:GM l f):∀(w:List UInt8) (s:Nat),s<l.length->Au l (s:Nat) w=Br->f s=Br
 | [],s,c,a=>by refine h s c ⟨l[s],IN c, .inl ?_⟩;grind[Au,runT,fin,Bf]
 |b::w,s,c,a=>by
  have g:Bf l (s:Nat)=l[s]:=Bv (by omega) (by omega);have e:Au l (s:Nat) (b::w)=Au l (Bn l (s:Nat) b.toNat) w:=rfl;rw[e]at a;have k:Bn l (s:Nat) b.toNat=AQ l[s].2 b.toNat:=by grind[Bn]
  rw[k]at a;unfold AQ at a;cases j:l[s].2.find? (BQ b.toNat)with
  |none=>grind[Ef]
  |some e=>
   have d:=Ach j;have n:=(m _ (AN c)).rg e d;refine h s c ⟨l[s],IN c, .inr ⟨e,d,?_⟩⟩;refine GM.all m h w e.2.2.toNat (by omega) ?_;grind
theorem J2{k:Nat}(I:Bg l)(H:DW l n)(J:n<fu)(v:k<l.length){P:List Bool->Prop}{nx:(List Bool×Nat)->Option (List Bool)}
  (b:(Nat->((List Bool)×Nat->Option (List Bool))->List Bool->Nat->((List Bool)×Nat->Option (List Bool))->Option (List Bool)))
  (C:∀y o j f,b k y o j f=alB fu k y l[k] o j f)
  (F:∀m,(∀j,j<l.length->m j=if j=k then(g k||l[k].2.any λe=>g e.2.2.toNat)else g j)->Ok (nx (Bi l.length m,k+1)) P):
  Ok (Ad fu (λp f=>b k nx p.1 p.2 f) (Bi l.length g,0)) P:=by
 have D:=I _ (AN v);refine SA (λj o=> ∃m,o=Bi l.length m/\∀i,i<l.length->m i=if i=k then(g k||(l[k].2.take j).any λe=>g e.2.2.toNat)else g i) l[k].2.length ⟨g,rfl,λi _=>by grind⟩ (by have:=H.2 _ (AN v);omega) (λj o f B A w=>?_) (λo f A=>?_)
 ·obtain⟨m,rfl,c⟩:=A;have G:=D.rg _ (AN B)
  rw[C];have q:((l[k].2.take (j+1)).any λe=>g e.2.2.toNat)=(((l[k].2.take j).any λe=>g e.2.2.toNat)||g l[k].2[j].2.2.toNat):=by rw[<-Acl B,Afn];simp
  refine P2 (Aah B (BY (AW v) (PY (λh=>BY (AW v) (w _ ⟨_,Bb _ _ _ _,λi u=>?_⟩)) λh=>?_)))
  ·grind
  ·have x:l[k].2[j].2.2.toNat<l.length:=by omega
   refine BY (a:=m l[k].2[j].2.2.toNat) (Hr G.2.2.2.1 x) (BY (AW v) (w _ ⟨_,Bb _ _ _ _,λi u=>?_⟩));by_cases d:i=k
   ·subst d;have t:=c i u;rw[h]at t;simp only[if_true]at t⊢;rw[q,<-Bool.or_assoc,<-t,Alk,c _ x]
    all_goals grind
   grind
 ·obtain⟨m,rfl,c⟩:=A;simp_all[alB]
theorem Pf(z:Bg l)(X:DW l n)(hn:n<4294967296)(hf:n<fu):Ok (yL fu l) (λr=>r=Bi l.length λs=>live (Au l (s:Nat))):=by
 have hln:=X.1;rw[yL];refine PC (by grind) ?_;rw[DC];refine SA (λk o=> ∃f,o=Bi l.length f/\Ns l f/\(GM l f\/AB l.length f+k<=l.length)) l.length ⟨_,rfl,λs _ h=>(by grind), .inr (by grind[QA])⟩ (by omega) (λk o nx hk C W=>?_) (λo nx C=>?_)
 ·obtain⟨
      f,rfl,Q,P⟩:=C
  refine VB (by omega) ?_;refine SA (λq o=> ∃g,o=Bi l.length g/\Ns l g/\(∀j,j<l.length->f j=Br->g j=Br)/\(∀s,s<q->Ar l f s->g s=Br)/\(GM l f->∀j,j<l.length->g j=f j)) l.length ⟨f,rf,Q,λ_ _ h=>h,λs h=>by omega,λ_ _ _=>rfl⟩ (by omega) (λq o K u C U=>?_) (λo K C=>?_)
  ·obtain⟨
       g,rfl,t,y,O,x⟩:=C
   have B:∀i:Nat->Bool,(∀j,j<l.length->i j=if j=q then(g q||l[q].1)else g j)->∀v,(∀j,j<l.length->v j=if j=q then(i q||l[q].2.any λe=>i e.2.2.toNat)else i j)->Ok (K (Bi l.length v,q+1)) (λr=>r=Bi l.length λs=>live (Au l (s:Nat))):=λi G v L=>by
    have E:∀j,j<l.length->g j=Br->i j=Br:=λj b h=>by grind
    have D:Ns l i:=λs a h=>by
     rw[G s a]at h;by_cases e:s=q
     ·subst e;rw[if_pos rfl]at h;cases I:g s;· rw[I,Alk]at h;exact Ar.live z t ⟨l[s],IN a, .inl h⟩
      ·exact t s a I
     ·rw[if_neg e]at h;exact t s a h
    have p:∀j,j<l.length->i j=Br->v j=Br:=λj b h=>by grind
    have R:Ns l v:=λs a h=>by
     rw[L s a]at h;by_cases e:s=q
     ·subst e;rw[if_pos rfl]at h;cases I:i s;· rw[I,Alk,Acj]at h;obtain⟨e,A,M⟩:=h;exact Ar.live z D ⟨l[s],IN a, .inr ⟨e,A,M⟩⟩
      ·exact D s a I
     ·rw[if_neg e]at h;exact D s a h
    refine U _ ⟨v,rf,R,λj b h=>p j b (E j b (y j b h)),λs hsq m=>?_,λc j b=>?_⟩
    ·by_cases e:s=q
     ·subst e;obtain⟨st,Z,H⟩:=m;rw[IN u]at Z;cases Z;rw[L s u,if_pos rfl];rcases H with H|⟨e,A,H⟩;· grind
      ·have:(l[s].2.any λe=>i e.2.2.toNat)=Br:=Acj.2 ⟨e,A,E _ (by have:=(z _ (AN u)).rg e A;omega) (y _ (by have:=(z _ (AN u)).rg e A;omega) H)⟩;rw[this];simp
     grind
    ·have J:=x c;have N:∀j,j<l.length->i j=f j:=λj b=>by
      rw[G j b];split
      ·rename_i e;subst e;rw[J j b];cases S:l[j].1;· simp
       ·rw[c j b ⟨l[j],IN b, .inl S⟩];rfl
      ·exact J j b
     rw[L j b];split
     ·rename_i e;subst e;rw[N j b];cases S:l[j].2.any λe=>i e.2.2.toNat;· simp
      ·obtain⟨e,A,M⟩:=Acj.1 S;rw[N _ (by have:=(z _ (AN b)).rg e A;omega)]at M;rw[c j b ⟨l[j],IN b, .inr ⟨e,A,M⟩⟩];rfl
     ·exact N j b
   refine P2 (Aah u (BY (AW u) (PY (λh=>BY (AW u) ?_) λh=>BY (AW u) ?_)));· rw[Bb];refine J2 z X hf u (λk nx o j F=>alB fu k nx l[q] o j F) (λ_ _ _ _=>rfl) λv p=>B _ (λj b=>?_) v p;by_cases e:j=q<;>simp[e,h]
   ·rw[Bb];refine J2 z X hf u (λk nx o j F=>alB fu k nx l[q] o j F) (λ_ _ _ _=>rfl) λv p=>B _ (λj b=>?_) v p;by_cases e:j=q<;>simp[e,h]
  ·obtain⟨g,rfl,t,y,O,x⟩:=C
   refine P3 (W _ ⟨g,rfl,t,?_⟩);by_cases c:GM l f;· left;intro s a m;rw[x c s a];exact c s a (m.mono z λj b h=>by rw[x c j b]at h;exact h)
   ·have G:=P.resolve_left c;have:∃s,s<l.length/\f s=Ak/\g s=Br:=IS λV=>c λs a m=>by
     cases d:f s;· exact absurd ⟨s,a,d,O s a m⟩ V
     ·rfl
    have:=QB (n:=l.length) (f:=f) (g:=g) y this;omega
 ·obtain⟨f,rfl,Q,P⟩:=C
  have c:GM l f:=by
   rcases P with h|h;· exact h
   ·intro s a _;cases d:f s;· have:=QB (n:=l.length) (f:=f) (g:=λ_=>Br) (λ_ _ _=>rfl) ⟨s,a,d,rfl⟩;omega
    ·rfl
  refine P3 (MI (AP λs a=>?_));cases d:f s
  ·cases T:live (Au l (s:Nat));· rfl
   ·obtain⟨w,Y⟩:=Hn.1 T;rw[c.all z w s a Y]at d;cases d
  ·exact(Q s a d).symm
noncomputable def Ip(l:Tb)(e:Cu):Bool:=live (Au l e.2.2)
noncomputable def DV(l:Tb):Tb:=l.map λs=>(s.1,s.2.filter (Ip l))
theorem L7(l:Tb):(DV l).length=l.length:=by simp[DV]
theorem BU.filter(h:BU es m n)(p:Cu->Bool):BU (es.filter p) m n:=⟨λe a=>h.rg e (Aax.1 a).1,h.so.filter _⟩
theorem fg(h:Bg l):Bg (DV l):=λs a=>by obtain⟨t,b,rfl⟩:=By.1 a;rw[L7];exact(h t b).filter _
theorem SI{p q:Cu->Bool}(l:∀e∈es,∀b∈es,q e=Br->q b=Br->e=b):(es.filter p).find? q=match es.find? q with
  |some e=>if p e then Ac e else Dc
  |none=>Dc:=by
 cases h:es.find? q with
 |none=>
  grind
 |some e=>
  try dsimp only
  by_cases c:p e=Br;· cases d:(es.filter p).find? q with
   |none=>grind
   |some b=>
    grind
  grind
theorem BU.uniq(h:BU es m n)(b:Nat):∀e∈es,∀c∈es,BQ b e=Br->BQ b c=Br->e=c:=λe o c d k l=>by
 obtain⟨i,f,rfl⟩:=Aau o;obtain⟨j,g,rfl⟩:=Aau d;simp[BQ]at k l;rcases Acw i j with a|a|a;· have:=Aaw.1 h.so i j f g a;omega
 ·grind
 ·have:=Aaw.1 h.so j i g f a;omega
theorem N9{l:Tb}(h:Bg l)(q:Int)(b:Nat):Bn (DV l) q b=if live (Au l (Bn l q b))then Bn l q b else-1:=by
 unfold Bn;split;· omega
 ·have a:Bf (DV l) q=((Bf l q).1,(Bf l q).2.filter (Ip l)):=by
   grind[Bf,DV]
  rw[a]
  unfold AQ;have j:∀e∈(Bf l q).2,∀f∈(Bf l q).2,BQ b e=Br->BQ b f=Br->e=f:=by
   unfold Bf;rw[Aad];cases k:l[q.toNat]? with
   |none=>simp
   |some s=>exact(h s (Aai k)).uniq b
  rw[SI j];grind[Bf,BQ,Ip,live,Au]
theorem Pp{l:Tb}(h:Bg l):∀(w:List UInt8) (q:Int),Au (DV l) q w=Au l q w
 | [],q=>by grind[Au,runT,fin,Bf,DV]
 |c::w,q=>by
  show Au (DV l) (Bn (DV l) q c.toNat) w=Au l (Bn l q c.toNat) w;rw[N9 h];split;· exact Pp h w _
  grind[live,Au,Bn,C4,Ef]
theorem fh(h:DW l n):DW (DV l) n:=⟨by rw[L7];exact h.1,λs a=>by obtain⟨t,b,rfl⟩:=By.1 a;have:=h.2 t b;grind⟩
theorem Ra(y:Bg l)(t:DW l n)(B:n<4294967296)(z:n<fu):Ok (F12 fu l) (λr=>r=DV l):=by
 have A:=t.1;rw[F12];refine Oz (Pf y t B z) λx f=>?_;subst f;refine SA (λk o=>o=(l.take k).map λs=>(s.1,s.2.filter (Ip l))) l.length (by simp) (by omega) (λk o nx p i q=>?_) (λo nx i=>?_)
 ·subst i
  have v:=AN p;have C:=t.2 _ v;refine P2 (Aah p ?_);refine SA (λj x=>x=(l[k].2.take j).filter (Ip l)) l[k].2.length (by simp) (by omega) (λj x u m f c=>?_) (λx u f=>?_)
  ·try dsimp only
   have w:=(y _ v).rg _ (AN m);have d:(l[k].2.take (j+1)).filter (Ip l)=(l[k].2.take j).filter (Ip l)++(if Ip l l[k].2[j]then [l[k].2[j]]else []):=by rw[<-Acl m,Afu];simp[Aeo]
   have e:Ip l l[k].2[j]=live (Au l ((l[k].2[j].2.2.toNat:Nat):Int)):=by unfold Ip;rw[Abd w.2.2.2.1]
   refine P2 (Aah m (BY (Hr w.2.2.2.1 (by omega)) (PY (λh=>PC ?_ (c _ ?_)) λh=>c _ ?_)));all_goals grind
  ·subst f
   refine P3 (PC ?_ (q _ ?_));· simp only[Aap,Abh,Abo,Ado];unfold Aj;omega
   ·rw[Ai,<-Acl p,Aan];rfl
 ·subst i
  exact P3 (MI (by rw[Ai];rfl))
structure Ren(l:Tb)(ord:List Int):Prop where
 nd:ord.Nodup
 rg:∀q∈ord,0<=q/\q<l.length
def Ms(a:List Int)(e:Cu):Cu:=(e.1,e.2.1,((a.idxOf e.2.2:Nat):Int))
def Pj(l:Tb)(a:List Int)(q:Int)(s:TN):Prop:=s.1=(Bf l q).1/\s.2=(Bf l q).2.map (Ms a)/\∀e∈(Bf l q).2,e.2.2∈a
theorem oU{d:Tb}(G:Bg l)(r:Ren l a)(I:d.length=a.length)(v:∀(k:Nat) (q:Int) (s:TN),a[k]?=Ac q->d[k]?=Ac s->Pj l a q s):
  Bg d/\∀(w:List UInt8) (k:Nat) (q:Int),a[k]?=Ac q->Au d (k:Nat) w=Au l q w:=by
 have g:∀(k:Nat) (q:Int),a[k]?=Ac q->Pj l a q (Bf d (k:Nat)):=λk q f=>by grind[Bf,FB]
 have A:∀q∈a,BU (Bf l q).2 256 l.length:=λq n=>by have:=r.rg q n;rw[Bv this.1 this.2];exact G _ (AN _)
 refine⟨λs F=>?_,λw=>?_⟩;· obtain⟨k,f,rfl⟩:=Aau F;have n:a[k]?=Ac a[k]:=IN (by omega);obtain⟨z,o,p⟩:=v k _ _ n (IN f);have i:=A _ (Aai n);rw[o];refine⟨λe B=>?_,Adl.2 i.so⟩;obtain⟨t,j,rfl⟩:=By.1 B;have E:=i.rg t j;grind[Ms]
 ·induction w with
  |nil=>
   intro k q f;have u:=r.rg q (Aai f);have:=(g k q f).1;grind[Au,runT,fin]
  |cons c w H=>
   intro k q f;have u:=r.rg q (Aai f);obtain⟨z,o,p⟩:=g k q f;show Au d (Bn d (k:Nat) c.toNat) w=Au l (Bn l q c.toNat) w;have x:Bn d (k:Nat) c.toNat=AQ ((Bf l q).2.map (Ms a)) c.toNat:=by grind[Bn]
   have y:Bn l q c.toNat=AQ (Bf l q).2 c.toNat:=by unfold Bn;rw[if_neg (by omega)]
   rw[x,y];unfold AQ;have m:((Bf l q).2.map (Ms a)).find? (BQ c.toNat)=((Bf l q).2.find? (BQ c.toNat)).map (Ms a):=by rw[List.find?_map];rfl
   rw[m];cases C:(Bf l q).2.find? (BQ c.toNat)with
   |none=>dsimp only[Option.map];rw[Ef (by decide),Ef (by decide)]
   |some e=>
    have D:=p e (Ach C);have h:=Adr D;exact H _ _ (by rw[IN h,Aes h])
theorem Sq(h1:∀j (_:j<i) (f:j<a.length),a[j]≠x)(h2:i<=a.length)(h3:∀h:i<a.length,a[i]=x):a.idxOf x=i:=by
 rcases Aal i a.length with h|h
 ·have d:x∈a:=h3 h▸AN h;have c:=Adr d;have g:=Aes c;rcases Acw (a.idxOf x) i with b|b|b;all_goals simp_all[absurd,List.idxOf]
 grind
def Mv(a:List Int)(x:Int):List Int:=if x∈a then a else a++[x]
theorem ZR(a:List Int)(x:Int):x∈Mv a x:=by grind[Mv]
theorem fR(a:List Int)(x:Int):(Mv a x).idxOf x=a.idxOf x:=by grind[Mv]
def FN(a b:List Int):Prop:= ∃m,b=a++m
theorem FN.refl(a:List Int):FN a a:=⟨[],by simp⟩
theorem FN.trans{c:List Int}(h:FN a b)(k:FN b c):FN a c:=by obtain⟨x,rfl⟩:=h;obtain⟨y,rfl⟩:=k;exact⟨x++y,by simp⟩
theorem FN.put(a:List Int)(x:Int):FN a (Mv a x):=by unfold Mv;split;exact .refl a;exact⟨[x],rfl⟩
theorem FN.mem(h:FN a b)(c:x∈a):x∈b:=by obtain⟨m,rfl⟩:=h;grind
theorem FN.ix(h:FN a b)(c:x∈a):b.idxOf x=a.idxOf x:=by obtain⟨m,rfl⟩:=h;grind
theorem FN.get(h:FN a b)(c:a[i]?=Ac x):b[i]?=Ac x:=by obtain⟨m,rfl⟩:=h;grind
theorem FN.len(h:FN a b):a.length<=b.length:=by obtain⟨m,rfl⟩:=h;simp
theorem Pj.ext{s:TN}(h:Pj l a q s)(f:FN a b):Pj l b q s:=by obtain⟨g,i,d⟩:=h;refine⟨g,?_,λe c=>f.mem (d e c)⟩;rw[i];refine Abr λe c=>?_;simp only[Ms,f.ix (d e c)]
theorem Ren.put(h:Ren l d)(h0:0<=x)(h1:x<l.length):Ren l (Mv d x):=by
 unfold Mv;split;· omega
 ·refine⟨Acq.2 ⟨h.nd,by simp,λa f b e=>?_⟩,λq c=>?_⟩;· grind
  ·rcases AT.1 c with c|c;· exact h.rg q c
   grind
theorem Ren.le{c:List Int}(h:Ren l c):c.length<=l.length:=by
 have e:(c.map ae).Nodup:=by refine Adl.2 (Agb (λ{a b} f i g=>?_) h.nd);have:=h.rg a f;have:=h.rg b i;omega
 have:=Co (b:=aO l.length) e (λx k=>by obtain⟨q,j,rfl⟩:=By.1 k;have:=h.rg q j;grind);grind
theorem Rz(hw:Bg l)(h0:0<l.length)(hs:DW l n)(hn:n<4294967296)(hf:n+1<fu):
  Ok (F11 fu l) (λr=>Bg r/\Au r 0=Au l 0/\DW r n/\0<r.length):=by
 have hln:=hs.1;rw[F11];refine Xn (X:=List Int×Tb×Nat) (λx=>Ren l x.1/\x.1[0]?=Ac 0/\x.2.2=x.2.1.length/\x.2.1.length<=x.1.length/\∀(k:Nat) (q:Int) (s:TN),x.1[k]?=Ac q->x.2.1[k]?=Ac s->Pj l x.1 q s)
  (λx=>l.length+1-x.2.2) ⟨⟨by simp,by grind⟩,rfl,rfl,by simp,by simp⟩ (by omega) λx nx S _ hnx=>?_;obtain⟨c,out,k⟩:=x;obtain⟨I,P,F,W,d⟩:=S;dsimp only at I P F W d;subst F;have hol:=I.le;try dsimp only
 refine N7 (λY=>?_) λY=>MI ?_
 ·have A:out.length<c.length:=by omega
  have t:=I.rg _ (AN A);have p:=Bv t.1 t.2;have L:Bf l c[out.length]∈l:=p▸AN _;have hE:=hw _ L;have hsl:=hs.2 _ L;refine Aah A (Adq t.1 t.2 (Aah A (Adq t.1 t.2 ?_)));rw[<-p];generalize H:Bf l c[out.length]=st at L hE hsl;refine XJ (λj o Q=>Ren l o/\FN c o/\Q=(st.2.take j).map (Ms o)/\∀e∈st.2.take j,e.2.2∈o) st.2.length ⟨I, .refl _,by simp,by simp⟩ (by omega) (λj o Q N O T Z=>?_) (λo Q N T=>?_)
  ·obtain⟨y,b,rfl,g⟩:=T
   have hr:=hE.rg _ (AN O);have hrl:=y.le;refine P2 (Aah O ?_);have f:Ok (N (Mv o st.2[j].2.2,(st.2.take j).map (Ms o)++([(st.2[j].1,st.2[j].2.1,((o.idxOf st.2[j].2.2:Nat):Int))]:List (Int×Int×Int)),j+1)) (λr=>Bg r/\Au r 0=Au l 0/\DW r n/\0<r.length):=by
    refine Z _ _ ⟨y.put hr.2.2.2.1 hr.2.2.2.2,b.trans (.put _ _),?_,λe U=>?_⟩
    ·rw[<-Acl O,Aan];congr 1;· refine Abr λe U=>?_;simp only[Ms,(FN.put o st.2[j].2.2).ix (g e U)]
     grind[Ms,fR]
    ·rcases(Ag O).1 U with h|rfl;· exact(FN.put _ _).mem (g e h)
     grind[ZR]
   refine Xn (X:=Int) (λi=>(0<=i/\i<=o.length)/\∀q (_:q<i.toNat) (t:q<o.length),o[q]≠st.2[j].2.2) (λi=>o.length-i.toNat) ⟨⟨by simp,by omega⟩,λq h=>by simp at h⟩ (by omega) λi nx2 S _ hn2=>?_;obtain⟨⟨C,NA⟩,G⟩:=S;try dsimp only
   have B:((st.2.take j).map (Ms o)).length+([(st.2[j].1,st.2[j].2.1,i)]:List (Int×Int×Int)).length<=Aj:=by simp only[Aap,Abh,Abo,Ado];unfold Aj;omega
   refine N7 (λhi=>?_) λhi=>?_
   ·have D:i.toNat<o.length:=by omega
    refine Adq C hi (N7 (λhne=>PC (by omega) (hn2 (i+1) ⟨by omega,λq h1 R=>?_⟩ (by omega))) λheq=>?_)
    ·rcases Aal q i.toNat with h3|h3;· exact G q h3 R
     ·obtain rfl:q=i.toNat:=by omega
      exact hne
    ·have heq:o[i.toNat]=st.2[j].2.2:=IS heq;have E:o.idxOf st.2[j].2.2=i.toNat:=Sq G (by omega) λ_=>heq;have z:st.2[j].2.2∈o:=heq▸AN D;refine Qb (by omega) ?_;refine PC B ?_;rw[E,Abd C]at f;unfold Mv at f;rw[if_pos z]at f;exact f
   ·have D:i.toNat=o.length:=by omega
    have z:st.2[j].2.2∉o:=λL=>by obtain⟨q,t,e⟩:=Aau L;exact G q (by omega) t e
    have E:o.idxOf st.2[j].2.2=i.toNat:=by rw[List.idxOf_eq_length z,D]
    refine P2 (PC (by(try simp)<;>(unfold Aj;omega)) ?_);refine PC B ?_;rw[E,Abd C]at f;unfold Mv at f;rw[if_neg z]at f;exact f
  ·obtain⟨y,b,rfl,g⟩:=T
   rw[Ai]at g;have:=b.len;refine P3 (PC (by(try simp)<;>(unfold Aj;omega)) (hnx _ ⟨y,b.get P,by simp,by simp;omega,λk q s F m=>?_⟩ (by dsimp only;omega)));by_cases V:k<out.length
   ·rw[Aaa V]at m;have J:c[k]?=Ac c[k]:=IN (by omega);have u:=b.get J;rw[F]at u;obtain rfl:q=c[k]:=by simpa using u
    exact(d k _ s J m).ext b
   ·rw[Aac (by omega)]at m;have K:k=out.length:=by
     have:=(No.1 m).1;simp at this;omega
    subst K;simp at m;subst m;have u:=b.get (IN A);rw[F]at u;obtain rfl:q=c[out.length]:=by simpa using u
    refine⟨by rw[H],by rw[H,Ai],by rw[H];exact g⟩
 ·have hl:out.length=c.length:=by omega
  obtain⟨h1,R⟩:=oU hw I hl d;have hpos:=(No.1 P).1;refine⟨h1,funext λw=>R w 0 0 P,⟨by omega,λs m=>?_⟩,by omega⟩;obtain⟨k,F,rfl⟩:=Aau m;have t:c[k]?=Ac c[k]:=IN (by omega);have p:=(d k _ _ t (IN F)).2.1;have M:=I.rg _ (Aai t);rw[p,Aap,Bv M.1 M.2];exact hs.2 _ (AN _)
theorem Rv(i:a.length<fu):Ok (F15 fu (a,b)) (λr=>r=Br↔a=b):=by
 refine N7 (λh=>MI ⟨λh=>(by grind),λc=>by grind⟩) λh=>?_;have m:a.length=b.length:=by omega
 refine TV (λk=> ∀j (_:j<k) (h:j<a.length) (c:j<b.length),a[j]=b[j]) a.length (by omega) i (λk nx l d n=>?_) (λnx d=>?_)
 ·refine P2 (Aah l (Aah (by omega) (N7 (λh=>MI ⟨λh=>(by grind),λc=>by grind⟩) λh=>n λj o f g=>?_)));grind
 ·exact P3 (MI ⟨λ_=>HC m λj h c=>d j h h c,λ_=>rfl⟩)
theorem Ss[BEq α] [LawfulBEq α]{a:List α}{x:α}(h1:∀j (_:j<i) (f:j<a.length),a[j]≠x)(hi:i<a.length)(h3:a[i]=x):a.idxOf x=i:=by have e:x∈a:=h3▸AN hi;have c:=Adr e;have d:=Aes c;rcases Acw (a.idxOf x) i with b|b|b;all_goals simp_all[absurd,List.idxOf]
theorem bH{l:List (List Int)}{x:List Int}(n:l.length<fu)(o:∀y∈l,y.length<=m)(p:m<fu):Ok (F16 fu (l,x)) (λr=>if x∈l then r=(l.idxOf x:Nat)else r= -1):=by
 refine TV (λk=> ∀j (_:j<k) (h:j<l.length),l[j]≠x) l.length (by omega) n (λk nx c a q=>?_) (λnx a=>?_)
 ·refine P2 (Aah c (Oz (Rv (by grind)) λr g=>PY (λh=>MI ?_) λh=>q λj d i=>?_));· have b:=g.1 h;rw[if_pos (b▸AN c),Ss a c b]
  grind
 ·refine P3 (MI ?_);grind
def Trim(l:Tb):Prop:= ∀(q:Int) (b:Nat),0<=Bn l q b->live (Au l (Bn l q b))=Br
def c5(c:Nat->Int)(t:Int):Int:=if t<0 then t else c t.toNat
def Fa(l:Tb)(cs:List Int)(c:Nat->Int)(s:Nat):List Int:=c s::cs.map λb=>c5 c (Bn l (s:Nat) b.toNat)
structure Cl5B(l:Tb)(c:Nat->Int):Prop where
 rg:∀s,s<l.length->0<=c s
structure W3(l:Tb)(c:Nat->Int):Prop where
 iff:∀s t,s<l.length->t<l.length->(c s=c t↔Au l (s:Nat)=Au l (t:Nat))
theorem Gb:Fa l cs c s=Fa l cs c t↔c s=c t/\∀b∈cs,c5 c (Bn l (s:Nat) b.toNat)=c5 c (Bn l (t:Nat) b.toNat):=by simp[Fa]
theorem R3{l:Tb}(f:Bg l){cs:List Int}(hc:Bu cs)(n:DR cs l)(c:Nat->Int)(j:Cl5B l c)
  (h1:∀s t,s<l.length->t<l.length->c s=c t->(Bf l (s:Nat)).1=(Bf l (t:Nat)).1)
  (h2:∀s t,s<l.length->t<l.length->c s=c t->∀b∈cs,c5 c (Bn l (s:Nat) b.toNat)=c5 c (Bn l (t:Nat) b.toNat)):
  ∀(w:List UInt8) (s t:Nat),s<l.length->t<l.length->c s=c t->Au l (s:Nat) w=Au l (t:Nat) w
 | [],s,t,k,m,h=>by grind[Au,runT,fin]
 |b::w,s,t,k,m,h=>by
  obtain⟨i,o,p,r⟩:=hc.find b.toNat b.toNat_lt;have e:∀q:Nat,Au l (q:Nat) (b::w)=Au l (Bn l (q:Nat) cs[i].toNat) w:=λq=>by show Au l (Bn l (q:Nat) b.toNat) w=_;rw[n.const hc f o p r]
  have a:=h2 s t k m h _ (AN o);have u:=f.st (s:Nat) cs[i].toNat;have v:=f.st (t:Nat) cs[i].toNat;rw[e,e];unfold c5 at a;by_cases g:Bn l (s:Nat) cs[i].toNat<0
  ·by_cases d:Bn l (t:Nat) cs[i].toNat<0;· simp_all
   ·have:=j.rg (Bn l (t:Nat) cs[i].toNat).toNat (by omega);omega
  ·by_cases d:Bn l (t:Nat) cs[i].toNat<0;· have:=j.rg (Bn l (s:Nat) cs[i].toNat).toNat (by omega);omega
   ·rw[if_neg g,if_neg d]at a;have:=R3 f hc n c j h1 h2 w _ _ (by omega) (by omega) a;rwa [Abd (by omega),Abd (by omega)]at this
theorem a6(i:Bg l)(ht:Trim l)(hc:Bu cs)(a:∀s t,s<l.length->t<l.length->Au l (s:Nat)=Au l (t:Nat)->c s=c t)(k:s<l.length)(f:t<l.length)(h:Au l (s:Nat)=Au l (t:Nat)):
  Fa l cs c s=Fa l cs c t:=by
 refine Gb.2 ⟨a s t k f h,λb j=>?_⟩;have m:=hc.rg b j;have n:=i.st (s:Nat) b.toNat;have o:=i.st (t:Nat) b.toNat;have e:Au l (Bn l (s:Nat) b.toNat)=Au l (Bn l (t:Nat) b.toNat):=by rw[<-Ft _ _ _ (by omega),<-Ft _ _ _ (by omega),h]
 unfold c5;by_cases g:Bn l (s:Nat) b.toNat<0
 ·by_cases d:Bn l (t:Nat) b.toNat<0;· omega
  ·have:=ht (t:Nat) b.toNat (by omega);grind[Hm]
 ·by_cases d:Bn l (t:Nat) b.toNat<0;· have:=ht (s:Nat) b.toNat (by omega);rw[e,Hm d]at this;cases this
  ·rw[if_neg g,if_neg d];refine a _ _ (by omega) (by omega) ?_;rw[Abd (by omega),Abd (by omega),e]
theorem Gk.inj{f:Nat->α}{u:List α}(h:Gk n f u)(g:n<=u.length):∀s t,s<n->t<n->f s=f t->s=t:=λs t b c a=>by have d:Gk n (λi=>i) (aO n):=⟨List.nodup_range,λx=>by simp⟩;have:=(h.bG d (λs t _ _ e=>by rw[e])).2 (by have:=h.le;grind) s t b c a;omega
structure Ref5(l:Tb)(k r:Nat)(c:Nat->Int):Prop extends Cl5B l c where
 fwd:∀s t,s<l.length->t<l.length->Au l (s:Nat)=Au l (t:Nat)->c s=c t
 acc:∀s t,s<l.length->t<l.length->c s=c t->(Bf l (s:Nat)).1=(Bf l (t:Nat)).1
 AB:k=0\/∃(key:Nat->List Int) (u:List (List Int)),Gk l.length key u/\u.length=k/\∀s t,s<l.length->t<l.length->c s=c t->key s=key t
 rnd:r<=k
theorem S_(hw:Bg l)(htr:Trim l)(h0:0<l.length)(hc:Bu cs)(hf:DR cs l)(d:DW l n)(hn:n<4294967296)(hfu:n+2<fu)(hfu':257<fu):
  Ok (F17 fu (l,cs)) (λr=> ∃c,W3 l c/\r=Bi l.length c):=by
 have hln:=d.1;have hcl:=hc.le;have G:∀k (K:k<l.length),Bf l (k:Nat)=l[k]:=λk K=>Bv (by omega) (by omega);refine PC (by grind) ?_;rw[DC];refine SA (λk x=>x=Bi l.length (λs=>if s<k then(if(Bf l (s:Nat)).1 then 1 else 0)else 0)) l.length (by simp) (by omega) (λk x nx K p E=>?_) (λx nx p=>?_)
 ·subst p
  refine P2 (Aah K (PY (λh=>BY (AW K) (E _ ?_)) λh=>E _ (AP λs d=>?_)))
  ·rw[Bb];grind
  grind
 ·subst p
  refine Qb (by omega) ?_;refine XJ (S:=List Int) (T:=Nat) (λr X k=>k<=l.length/\∃c,X=Bi l.length c/\Ref5 l k r c) l.length ⟨by omega,_,rf,⟨λs d=>?_⟩,λs t d e h=>?_,λs t d e h=>?_, .inl rf,Aaf _⟩ (by omega) (λr X k nx' hr f E=>?_) (λX k nx' f=>?_);· omega
  ·have:=congrFun h [];grind[Au,runT,fin]
  ·grind
  ·obtain⟨
       hkl,c,rfl,f⟩:=f
   refine P2 (PC (by grind) ?_);refine XJ (λj y u=>Gk j (Fa l cs c) u/\(∀x∈u,x.length=cs.length+1)/\y=Bi l.length (λs=>if s<j then((u.idxOf (Fa l cs c s):Nat):Int)else 0)) l.length ⟨.zero _,by simp,by simp⟩ (by omega) (λj y u nx2 hj Y P=>?_) (λy u nx2 Y=>?_)
   ·obtain⟨
        D,F,rfl⟩:=Y;have H:=D.le
    refine P2 (BY (AW hj) ?_);refine SA (λi x=>x=c j::(cs.take i).map λb=>c5 c (Bn l (j:Nat) b.toNat)) cs.length (by simp) (by omega) (λi x V hi p hn3=>?_) (λx V p=>?_)
    ·subst p;try dsimp only
     have Z:=hc.rg _ (AN hi);have hst:=hw.st (j:Nat) cs[i].toNat;have z:Ok (Ah ((c j::(cs.take i).map λb=>c5 c (Bn l (j:Nat) b.toNat)).length+1<=Aj) (V ((c j::(cs.take i).map λb=>c5 c (Bn l (j:Nat) b.toNat))++[c5 c (Bn l (j:Nat) cs[i].toNat)],i+1))) (λr=> ∃c,W3 l c/\r=Bi l.length c):=by refine PC (by(try simp)<;>(unfold Aj;omega)) (hn3 _ ?_);rw[<-Acl hi,Aan];rfl
     refine P2 (Aah hi (PC (by omega) (Oz (Q:=λr=>r=Bn l (j:Nat) cs[i].toNat) ?_ λa I=>?_)));· have J:=LC (b:=cs[i].toNat) (i:=(j:Int)) d (by omega:n<fu) (by omega);rwa [Abd Z.1]at J
     ·subst I;refine N7 (λh=>BY (Hr h (by omega)) ?_) λh=>?_;· unfold c5 at z;rw[if_neg (by omega)]at z;exact z
      ·unfold c5 at z;rw[if_pos (by omega)]at z;exact z
    ·subst p;try dsimp only
     rw[Ai];refine P3 (Oz (bH (m:=cs.length+1) (by omega) (λy hy=>by rw[F y hy];exact Aaf _) (by omega)) λa I=>?_);have O:(c j::cs.map λb=>c5 c (Bn l (j:Nat) b.toNat))=Fa l cs c j:=rfl;rw[O]at I⊢;refine N7 (λh=>?_) λh=>?_
     ·have C:Fa l cs c j∉u:=λhm=>by rw[if_pos hm]at I;omega
      refine PC (by(try simp)<;>(unfold Aj;omega)) ?_;refine BY (AW hj) (P _ _ ⟨D.new C,λx p=>?_,?_⟩)
      ·rcases AT.1 p with p|p;· exact F x p
       ·simp at p;subst p;simp[Fa]
      ·rw[Bb];refine AP λs d=>?_;by_cases A:s=j;· subst A;rw[if_pos rfl,if_pos (by omega),Aey,if_neg C];simp
       ·rw[if_neg A];by_cases g:s<j;· rw[if_pos g,if_pos (by omega),Aey,if_pos ((D.mem _).2 ⟨s,g,rfl⟩)]
        ·rw[if_neg g,if_neg (by omega)]
     ·have C:Fa l cs c j∈u:=IS λhm=>by rw[if_neg hm]at I;omega
      rw[if_pos C]at I;refine BY (AW hj) (P _ _ ⟨D.old C,F,?_⟩);rw[Bb,I];refine AP λs d=>?_;by_cases A:s=j;· subst A;rw[if_pos rfl,if_pos (by omega)]
      ·rw[if_neg A];by_cases g:s<j;· rw[if_pos g,if_pos (by omega)]
       ·rw[if_neg g,if_neg (by omega)]
   ·obtain⟨D,F,rfl⟩:=Y;have H:=D.le;have B:∀s,s<l.length->Fa l cs c s∈u:=λs d=>(D.mem _).2 ⟨s,d,rfl⟩;have hpos:0<u.length:=Agm (B 0 h0);try dsimp only
    have L:Bi l.length (λs=>if s<l.length then((u.idxOf (Fa l cs c s):Nat):Int)else 0)=Bi l.length (λs=>((u.idxOf (Fa l cs c s):Nat):Int)):=
     AP λs d=>by rw[if_pos d]
    rw[L];have o:∀s t,s<l.length->t<l.length->(((u.idxOf (Fa l cs c s):Nat):Int)=((u.idxOf (Fa l cs c t):Nat):Int)↔Fa l cs c s=Fa l cs c t):=λs t d e=>
     ⟨λh=>OL (B s d) (B t e) (Int.ofNat_inj.1 h),λh=>by rw[h]⟩;have N:∀s t,s<l.length->t<l.length->Au l (s:Nat)=Au l (t:Nat)->Fa l cs c s=Fa l cs c t:=λs t d e h=>a6 hw htr hc f.fwd d e h;refine P3 (N7 (λh=>MI ⟨λs=>((u.idxOf (Fa l cs c s):Nat):Int),⟨λs t d e=>?_⟩,rfl⟩) λh=>?_)
    ·rw[o s t d e];refine⟨λhe=>?_,N s t d e⟩;have hk':u.length=k:=by omega
     obtain⟨key,v,R,U,q⟩:=f.AB.resolve_left (by omega);have M:=(R.bG D (λs t d e h=>q s t d e (Gb.1 h).1)).2 (by omega);funext w;exact R3 hw hc hf c f.toCl5B (λs t d e h=>f.acc s t d e h) (λs t d e h=>(Gb.1 (M s t d e (q s t d e h))).2) w s t d e (Gb.1 he).1
    ·have hlt:k<u.length:=by
      rcases f.AB with h0|⟨key,v,R,U,q⟩;· omega
      ·have:=(R.bG D (λs t d e h=>q s t d e (Gb.1 h).1)).1;omega
     have:=f.rnd;exact E _ _ ⟨H,_,rfl,⟨⟨λs d=>by omega⟩,λs t d e h=>(o s t d e).2 (N s t d e h),λs t d e h=>f.acc s t d e (Gb.1 ((o s t d e).1 h)).1, .inr ⟨Fa l cs c,u,D,rfl,λs t d e h=>(o s t d e).1 h⟩,by omega⟩⟩
  ·obtain⟨hkl,c,rfl,f⟩:=f;try dsimp only
   refine P3 (MI ⟨c,⟨λs t d e=>⟨λh=>?_,f.fwd s t d e⟩⟩,rfl⟩);have:=f.rnd;obtain⟨key,v,R,U,q⟩:=f.AB.resolve_left (by omega);rw[R.inj (by omega) s t d e (q s t d e h)]
theorem OI{D:Lg}(h1:∀j (_:j<i) (e:j<kn.length),kn[j]≠D)(h2:i<=kn.length)(h3:∀h:i<kn.length,kn[i]=D):Ik kn D=i:=by grind[Ik,absurd]
structure vC(l:Tb)(kn:List Lg)(ord:List Int):Prop extends KnOk (qv l) kn where
 len:ord.length=kn.length
 ord:∀(i:Nat) (q:Int),ord[i]?=Ac q->(0<=q/\q<l.length)/\kn[i]?=Ac (Au l q)
theorem vC.put(h:vC l kn a)(h0:0<=q)(h1:q<l.length)(f:live (Au l q)=Br)(g:Au l q∉kn):vC l (IP kn (Au l q)) (a++[q]):=by
 have e:IP kn (Au l q)=kn++[Au l q]:=by simp_all[IP,if_pos,GA]
 refine⟨h.toKnOk.IP (Jw h0 h1) f,by rw[e];simp[h.len],λi x b=>?_⟩;rw[e];by_cases d:i<a.length;· rw[Aaa d]at b;have:=h.ord i x b;grind
 ·have c:i=a.length:=by
   grind
  subst c;simp at b;subst b;exact⟨⟨h0,h1⟩,by rw[h.len];simp⟩
theorem PO(v:W3 l c)(h:vC l kn a)(h0:0<=q)(h1:q<l.length)(t:a.length<fu):
  Ok (yC fu (a,(Bi l.length c),q)) (λr=>r=(Ik kn (Au l q):Nat)):=by
 have p:=h.len;refine TV (λk=> ∀j (_:j<k) (u:j<kn.length),kn[j]≠Au l q) a.length (by omega) t (λk nx f i w=>?_) (λnx i=>?_)
 ·obtain⟨⟨g,x⟩,o⟩:=h.ord k _ (IN f)
  have b:c a[k].toNat=c q.toNat↔Au l a[k]=Au l q:=by have:=v.iff a[k].toNat q.toNat (by omega) (by omega);grind
  refine P2 (Aah f (BY (Hr g (by omega)) (BY (Hr h0 (by omega)) (N7 (λm=>MI ?_) λm=>w λj u s=>?_))));· rw[OI i (by omega) λ_=>by simp_all]
  grind
 ·refine P3 (MI ?_);rw[OI i (by omega) λh=>by omega]
def gO(fu:Nat)(es:List Cu)(i:Nat)(nx:(List Int×List Cu×Nat)->Option (Tb×Int))(lo hi n:Int)(a:List Int):Option (Tb×Int):=Aa (Lm.u8) lo<|Aa (Lm.u8) hi<|Ah (FB es+1<=Aj)<|nx (a,es++[(lo,hi,n)],i+1)
def j20(fu:Nat)(es:List Cu)(i:Nat)(nx:(List Int×List Cu×Nat)->Option (Tb×Int))(lo hi n:Int)(a:List Int):Option (Tb×Int):=Aa (Lm.i64) ((↑(FB es):Int)-(1:Int))<|bif Ds ((0:Int)<=(↑(FB es):Int)-(1:Int))then Ab (idx es ((↑(FB es):Int)-(1:Int))) λd=>bif Ds (d.2.2=n)then Ab (idx es ((↑(FB es):Int)-(1:Int))) λb=>Aa (Lm.i64) (b.2.1+(1:Int))<|bif Ds (b.2.1+(1:Int)=lo)then Aa (Lm.u8) hi<|Ab (idx es ((↑(FB es):Int)-(1:Int))) λc=>nx (a,es.set (ae ((↑(FB es):Int)-(1:Int))) (c.1,hi,c.2.2),i+1)else gO fu es i nx lo hi n a else gO fu es i nx lo hi n a else gO fu es i nx lo hi n a
noncomputable def j19(fu:Nat)(d a:List Int)(es:List Cu)(i:Nat)(nx:(List Int×List Cu×Nat)->Option (Tb×Int))(lo c hi:Int):Option (Tb×Int):=
 Ab (yC fu (a,d,c)) λb=>
 bif Ds (b=(↑(FB a):Int))then
  Ah (FB a+1<=Aj)<|
  j20 fu es i nx lo hi b (a++[c])
 else
  j20 fu es i nx lo hi b a
theorem a7{q:Nat}{n:Int}{nx:(List Int×List Cu×Nat)->Option (Tb×Int)}{P:Tb×Int->Prop}
  (hc:Bu cs) (hi:i<cs.length) (m:BU es (pos cs i) q) (s:es.length<=256) (h:Ok (nx (d,push es cs[i] (G1 cs i) n,i+1)) P):
  Ok (j20 fu es i nx cs[i] (G1 cs i) n d) P:=by
 have o:=hc.rg _ (AN hi);have g:=hc.hi hi;have a:push es cs[i] (G1 cs i) n=es++[(cs[i],G1 cs i,n)]->Ok (gO fu es i nx cs[i] (G1 cs i) n d) P:=λr=>
  PC (p:=GK.F8 cs[i]) (by omega) (PC (p:=GK.F8 (G1 cs i)) (by omega) (PC (by grind) (by grind)));refine PC (by omega) (N7 (λl=>?_) λl=>a ?_)
 ·have e:0<es.length:=by omega
  have k:((es.length:Int)-1)=((es.length-1:Nat):Int):=by omega
  have b:es.length-1<es.length:=by omega
  have u:=m.rg _ (AN b);have t:=PH hc i;have c:=RD (lo:=cs[i]) (hi:=G1 cs i) (n:=n) e;rw[k];refine Aah b (N7 (λf=>Aah b (PC (by omega) (N7 (λj=>?_) λj=>?_))) λf=>?_);· refine PC (by omega) (Aah b ?_);rw[if_pos ⟨f,j⟩]at c;rw[c]at h;rw[f];exact h
  all_goals grind
 ·obtain rfl:es=[]:=OF.1 (by omega);rfl
noncomputable def wJ(fu:Nat)(l:Tb)(cs k:List Int):Option (Tb×Int):=
 Ad fu (
      λ(c:List Int×Tb×Nat) g=>
  bif Ds ((↑c.2.2:Int)<(↑(FB c.1):Int))then
   Ab (idx c.1 (↑c.2.2:Int)) λh=>
   Ab (idx l h) λi=>
   Ad fu (λ(a:List Int×List Cu×Nat) b=>
    bif Ds ((↑a.2.2:Int)<(↑(FB cs):Int))then
     Ab (idx cs (↑a.2.2:Int)) λd=>
     Ab (idx a.1 (↑c.2.2:Int)) λj=>
     Aa (Lm.u8) (d)<|
     Ab (uL fu (l,j,d)) λe=>
     bif Ds (e<(0:Int))then
      b (a.1,a.2.1,a.2.2+1)
     else
      bif Ds ((↑(a.2.2+1):Int)<(↑(FB cs):Int))then
       Ab (idx cs (↑(a.2.2+1):Int)) λf=>
       Aa (Lm.i64) (f-(1:Int))<|
       j19 fu k a.1 a.2.1 a.2.2 b d e (f-1)
      else
       j19 fu k a.1 a.2.1 a.2.2 b d e 255
    else
     Ah (FB c.2.1+1<=Aj)<|
     g (a.1,c.2.1++[(i.1,a.2.1)],c.2.2+1)) (c.1,[],0)
  else
   Ac (c.2.1,(0:Int))) ([(0:Int)],[],0)
theorem aw(S:Bg l)(htr:Trim l)(h0:0<l.length)(M:live (Au l 0)=Br)(hc:Bu cs)(hf:DR cs l)(hk:W3 l c)(hs:DW l n)(hn:n<4294967296)(hfu:n+2<fu)(hfu':257<fu):
  Ok (wJ fu l cs (Bi l.length c)) (λr=>r=(Cb l,0)):=by
 have hcl:=hc.le;have hln:=hs.1;refine Xn (X:=List Int×Tb×Nat) (λx=> ∃f F,vC l f x.1/\x.2.2=x.2.1.length/\x.2.1.length<=f.length/\l.length<F+x.2.1.length/\DN F f x.2.1=Cb l) (λx=>l.length+1-x.2.2)
  ⟨[Au l 0],l.length+1,⟨⟨by simp,by grind[Jw],by grind⟩,rfl,λi q hq=>?_⟩,rfl,by simp,by simp,by grind[Cb,Eu]⟩ (by omega) λx nx hI _ hnx=>?_;· grind
 obtain⟨v,out,k⟩:=x;obtain⟨f,F,g,J,hol,hF,G⟩:=hI;dsimp only at g J hol hF G;subst J;have hkn:f.length<=l.length:=by have:=g.toKnOk.le;grind[Fl]
 have hlen:=g.len;try dsimp only
 refine N7 (λhlt=>?_) λhlt=>MI ?_
 ·have L:out.length<v.length:=by omega
  have p:v[out.length]?=Ac v[out.length]:=IN L;obtain⟨⟨y,z⟩,V⟩:=g.ord out.length _ p;generalize hqe:v[out.length]=q at y z V p;have P:=Bv y z;obtain⟨F,rfl⟩:∃F',F=F'+1:=⟨F-1,by omega⟩;have H:=Aai V;refine BY (by rw[Bl L,hqe]) (Adq y z ?_);rw[<-P];have hro:=λi w=>ET (H6 S) (g.sub _ H) g.toKnOk (pos cs i) w;refine XJ (λi o R=>FN v o/\R=(AM (Au l q) f (pos cs i)).2/\R.length<=i/\vC l (AM (Au l q) f (pos cs i)).1 o) cs.length
   (by rw[RH hc];exact⟨.refl _,rfl,by simp,g⟩) (by omega) (λi o R Q w U t=>?_) (λo R Q U=>?_)
  ·obtain⟨j,rfl,I,d⟩:=U;have hpl:=PH hc i;obtain⟨g1,g2,T⟩:=hro i hpl;have Y:=hc.rg _ (AN w);have hpa:=pos_at hc w;have hps:=RI hc w;have hhi:=hc.hi w;have hst:=S.st q cs[i].toNat;have O:=j.get p;have hD:∀b,pos cs i<=b->b<=(G1 cs i).toNat->Iw (Au l q) b=Au l (Bn l q cs[i].toNat):=λb b1 b2=>by
    rw[Jx S hc hf q w (by omega) (by omega) (by omega),Ft _ _ _ (by omega)]
   have u:AM (Au l q) f (pos cs (i+1))=Di (AM (Au l q) f (pos cs i)) (Au l (Bn l q cs[i].toNat)) (pos cs i) (G1 cs i).toNat:=by rw[show pos cs (i+1)=(G1 cs i).toNat+1 by omega];exact HY _ _ _ _ _ (by omega) hD
   have D:=LC (b:=cs[i].toNat) (i:=q) hs (by omega:n<fu) z;rw[Abd Y.1]at D;have B:=(No.1 O).1;try dsimp only
   refine P2 (Aah w (BY (by rw[Bl B];exact O▸(IN B).symm) (PC (by omega) (Oz D λa W=>?_))));subst W;refine N7 (λA=>t _ _ ?_) λA=>?_
   ·have e:AM (Au l q) f (pos cs (i+1))=AM (Au l q) f (pos cs i):=by rw[u];unfold Di;rw[Hm A];rfl
    rw[e];exact⟨j,rfl,by omega,d⟩
   ·have s:=htr q cs[i].toNat (by omega);have C:AM (Au l q) f (pos cs (i+1))=(IP (AM (Au l q) f (pos cs i)).1 (Au l (Bn l q cs[i].toNat)),push (AM (Au l q) f (pos cs i)).2 cs[i] (G1 cs i) (Ik (AM (Au l q) f (pos cs i)).1 (Au l (Bn l q cs[i].toNat)):Nat)):=by
     rw[u];unfold Di;rw[if_pos s,hpa,Abd (by omega)]
    have K:=g2.le;rw[Fl]at K;have hlen':=d.len;have hpush:=RE (AM (Au l q) f (pos cs i)).2 cs[i] (G1 cs i) (Ik (AM (Au l q) f (pos cs i)).1 (Au l (Bn l q cs[i].toNat)):Nat);have h:Ok (j19 fu (Bi l.length c) o (AM (Au l q) f (pos cs i)).2 i Q cs[i] (Bn l q cs[i].toNat) (G1 cs i)) (λr=>r=(Cb l,0)):=by
     unfold j19;refine Oz (PO hk d (by omega) (by omega) (by omega)) λa W=>?_;subst W;have Z:=a_ (AM (Au l q) f (pos cs i)).1 (Au l (Bn l q cs[i].toNat));refine N7 (λhe=>?_) λhe=>?_
     ·have hnm:Au l (Bn l q cs[i].toNat)∉(AM (Au l q) f (pos cs i)).1:=λN=>by have:=JB N;omega
      refine PC (by unfold Aj;omega) (a7 hc w T.1 (by omega) (t _ _ ?_));rw[C];exact⟨j.trans ⟨_,rf⟩,rf,by omega,d.put (by omega) (by omega) s hnm⟩
     ·have N:Au l (Bn l q cs[i].toNat)∈(AM (Au l q) f (pos cs i)).1:=IS λN=>by have:=GA N;omega
      refine a7 hc w T.1 (by omega) (t _ _ ?_);rw[C,Gz N];exact⟨j,rf,by omega,d⟩
    refine N7 (λh1=>?_) λh1=>?_
    ·have E:i+1<cs.length:=by omega
     have hr2:=hc.rg _ (AN E);refine Aah E (PC (by unfold GK.DY;omega) ?_);rw[E2 E]at h;exact h
    ·rw[Ht (by omega)]at h;exact h
  ·obtain⟨j,rfl,I,d⟩:=U;rw[VI]at d⊢;obtain⟨g1,g2,T⟩:=ET (H6 S) (g.sub _ H) g.toKnOk 256 (Aaf _);have:=g1.len;try dsimp only
   refine P3 (PC (by(try simp)<;>(unfold Aj;omega)) (hnx _ ⟨(AM (Au l q) f 256).1,F,d,by simp,by simp;omega,by simp;omega,?_⟩ ?_))
   ·rw[<-G];dsimp only;conv=>rhs;unfold DN
    rw[V];dsimp only;have:Au l q []=(Bf l q).1:=by simp[Au,runT,fin,y]
    rw[this]
   ·dsimp only;omega
 ·have hno:f[out.length]?=Dc:=Acy (by omega);rw[<-G];cases F with
  |zero=>rfl
  |succ F=>unfold DN;rw[hno]
theorem N8(h:Bg l):Trim (DV l):=λq b c=>by have:Au (DV l) (Bn (DV l) q b)=Au l (Bn (DV l) q b):=funext λw=>Pp h w _;grind[N9]
theorem K8(C:N0 l)(v:DW l n)(f:n<4294967296)(k:n+2<fu)(e:257<fu):
  Ok (vJ fu l) (λr=>(Bg l->r=(Cb l,0))/\(¬Bg l->r=([],11))):=by
 rw[vJ];refine Oz (Ec C v (by omega) f) λx g=>PY (λh=>MI ?_) λh=>?_
 ·grind
 ·have d:Bg l:=g.1 (by grind);refine N7 (λh=>MI ⟨λ_=>?_,λa=>absurd d a⟩) λh=>?_;· obtain rfl:l=[]:=OF.1 (by omega);grind[live,Au,Cb,Eu,C4,DG]
  ·refine Ok.mono (P:=λr=>r=(Cb l,0)) ?_ λr E=>⟨λ_=>E,λa=>absurd d a⟩;refine Oz (Pf d v f (by omega)) λx g=>?_;subst g;have o:0<l.length:=by omega
   refine BY (AW (i:=0) o) (PY (λj=>MI ?_) λj=>?_)
   ·simp_all[live,Au,Cb,Eu]
   ·have u:live (Au l 0)=Br:=by cases t:live (Au l 0)<;>simp[t]at j⊢
    refine Oz (Rz d o v f (by omega)) λm D=>?_;obtain⟨p,F,z,G⟩:=D;refine Oz (Ra p z f (by omega)) λx g=>?_;subst g;have s:=fg p;have y:=fh z;have B:Au (DV m) 0=Au l 0:=by rw[<-F];exact funext λw=>Pp p w 0
    have A:0<(DV m).length:=by rw[L7];exact G
    rw[TX];refine Oz (b9 s y (by omega) (by omega)) λH b=>Oz (S_ s (N8 p) A b.1 b.2 y f k e) λc hc=>?_;obtain⟨c,hc,rfl⟩:=hc;rw[<-IZ s d B];exact aw s (N8 p) A (by rw[B];exact u) b.1 b.2 hc y f k e
theorem J_(f:N0 l)(d:DW l n)(g:n<4294967296)(c:n+2<fu)(a:257<fu):
  Ok (yB fu l) (λr=>r=Br↔Bg l/\Cb l=l):=by
 refine Oz (K8 f d g c a) λx e=>?_;by_cases b:Bg l;· rw[e.1 b];refine VB rf (Oz (ZD d (by omega)) λr i=>MI ?_);grind
 simp_all[absurd,Qb,MI]
end
section
variable {σ : Type} {acc : σ -> Bool} {Pu : σ -> Nat -> σ}
section
variable{a:List σ}{T:Tb}
def sV(acc:σ->Bool)(Pu:σ->Nat->σ)(s:σ):Lg:=λw=>acc (w.foldl (λs c=>Pu s c.toNat) s)
structure U0(acc:σ->Bool)(Pu:σ->Nat->σ)(ord:List σ)(s:σ)(r:TN):Prop where
 acc:r.1=acc s
 ed:BU r.2 256 ord.length
 to:∀c,c<256->∃i:Nat,AQ r.2 c=i/\ord[i]?=Ac (Pu s c)
theorem U0.ext{more:List σ}{s:σ}{r:TN}(h:U0 acc Pu a s r):U0 acc Pu (a++more) s r:=by refine⟨h.acc,h.ed.mono (Aaf _) (by simp),λc hc=>?_⟩;obtain⟨i,d,b⟩:=h.to c hc;grind
structure Yt(acc:σ->Bool)(Pu:σ->Nat->σ)(ord:List σ)(T:Tb):Prop where
 len:T.length=ord.length
 row:∀(k:Nat) (s:σ) (r:TN),ord[k]?=Ac s->T[k]?=Ac r->U0 acc Pu ord s r
theorem Yt.wf(h:Yt acc Pu a T):Bg T:=λr b=>by obtain⟨k,d,rfl⟩:=Aau b;have:=(h.row k (a[k]'(by have:=h.len;omega)) T[k] (IN _) (IN _)).ed;rwa [h.len]
theorem Yt.lg{d:List σ}{T:Tb}(h:Yt acc Pu d T):∀(w:List UInt8) (k:Nat) (s:σ),d[k]?=Ac s->Au T (k:Int) w=sV acc Pu s w
 | [],k,s,b=>by
  have e:=(No.1 b).1;have a:k<T.length:=by have:=h.len;omega
  have r:=h.row k s T[k] b (IN a);show fin T (k:Int)=acc s;rw[Eg (by omega) (by omega)];exact r.acc
 |c::w,k,s,b=>by
  have e:=(No.1 b).1;have a:k<T.length:=by have:=h.len;omega
  have r:=h.row k s T[k] b (IN a);have hc:c.toNat<256:=c.toNat_lt;obtain⟨i,f,g⟩:=r.to c.toNat hc;show fin T (runT T (k:Int) (c::w))=sV acc Pu (Pu s c.toNat) w;rw[HX];have:Bn T (k:Int) c.toNat=(i:Int):=by simp_all[Bn,if_neg,Bv]
  rw[this];exact Yt.lg h w i _ g
end
end
section
variable{es:List Cu}
theorem Me{b:Nat}(h0:0<b)(h1:∀e∈es,e.1≠(b:Int))(h2:∀e∈es,e.2.1+1≠(b:Int)):AQ es b=AQ es (b-1):=by
 have:es.find? (BQ b)=es.find? (BQ (b-1)):=by
  induction es with
  |nil=>rfl
  |cons e es c=>
   grind[BQ]
 grind[AQ]
theorem G8{es:List Cu}{lo:Nat} :∀(n:Nat),(∀b,lo<b->b<=lo+n->∀e∈es,e.1≠(b:Int)/\e.2.1+1≠(b:Int))->AQ es (lo+n)=AQ es lo
 |0,_=>rfl
 |n+1,h=>by rw[Me (by omega) (λe a=>(h _ (by omega) (Aaf _) e a).1) (λe a=>(h _ (by omega) (Aaf _) e a).2)];exact G8 n λb c d=>h b c (by omega)
end
section
variable {σ : Type} [BEq σ] [LawfulBEq σ]
section
variable{f:Nat->σ}{a:List σ}{es:List Cu}{c:Nat}
structure Fz(f:Nat->σ)(ord:List σ)(es:List Cu)(c:Nat):Prop where
 ed:BU es c ord.length
 to:∀b,b<c->f b∈ord/\AQ es b=((ord.idxOf (f b):Nat):Int)
 last:0<c->∃es' lo q,es=es'++[(lo,(c:Int)-1,q)]
theorem Fz.zero:Fz f a [] 0:=⟨.nil,λb h=>by omega,λh=>by omega⟩
theorem Jf{es:List Cu}{c n:Nat}(h:BU es c n){x:Cu}{b:Nat}(d:b<c)(a:BQ b x=Ak):AQ (es++[x]) b=AQ es b:=by grind[AQ,BQ]
theorem EE{es:List Cu}{c n:Nat}(h:BU es c n){x:Cu}{b:Nat}(f:c<=b)(d:BQ b x=Br):AQ (es++[x]) b=x.2.2:=by
 unfold AQ;have:es.find? (BQ b)=Dc:=Adh.2 λe a=>by have:=h.rg e a;grind[BQ]
 grind
theorem Fz.new{more:List σ}{e:Nat}(h:Fz f a es c)(j:f c∈a++more)(o:c<e)(p:∀b,c<=b->b<e->f b=f c):
  Fz f (a++more) (es++[((c:Int),(e:Int)-1,(((a++more).idxOf (f c):Nat):Int))]) e:=by
 refine⟨⟨λx d=>?_,Abb.2 ⟨h.ed.so,by simp,λx d y k=>?_⟩⟩,λb n=>?_,λ_=>⟨es,_,_,rf⟩⟩
 ·rcases AT.1 d with d|d;· have:=h.ed.rg x d;grind
  grind
 ·have:=h.ed.rg x d;grind
 ·rcases Aal b c with g|g;· obtain⟨l,q⟩:=h.to b g;refine⟨by grind,?_⟩;rw[Jf h.ed g (by unfold BQ;simp;omega),q,Aey,if_pos l]
  ·have m:=p b g n;rw[m];refine⟨j,?_⟩;rw[EE h.ed g (by unfold BQ;simp;omega)]
theorem Fz.more{i:List σ}{lo q:Int}(h:Fz f i (es++[(lo,(c:Int)-1,q)]) c)(h0:0<c)(m:f c=f (c-1)):Fz f i (es++[(lo,(c:Int),q)]) (c+1):=by
 have n:=h.ed.rg (lo,(c:Int)-1,q) (by simp);have d:BU es c i.length:=⟨λx a=>h.ed.rg x (by grind),(Abb.1 h.ed.so).1⟩;have j:∀x∈es,x.2.1<lo:=λx a=>(Abb.1 h.ed.so).2.2 x a (lo,(c:Int)-1,q) (by simp);have e:BU es lo.toNat i.length:=⟨λx a=>by have:=h.ed.rg x (by grind);grind,d.so⟩;have g:=h.to (c-1) (by omega);rw[EE e (by omega) (by grind[BQ])]at g;refine⟨⟨λx a=>?_,Abb.2 ⟨d.so,by simp,λx a y l=>?_⟩⟩,λb s=>?_,λ_=>⟨es,lo,q,by simp⟩⟩
 ·rcases AT.1 a with a|a;· have:=d.rg x a;omega
  grind
 ·grind
 ·rcases Aal b c with k|k
  ·obtain⟨o,p⟩:=h.to b k;grind[BQ,EE,Jf]
  ·obtain rfl:b=c:=by omega
   rw[m,EE e (by omega) (by unfold BQ;simp;omega)];exact⟨g.1,g.2⟩
theorem Fz.row{acc:σ->Bool}{Pu:σ->Nat->σ}{s:σ}(h:Fz (Pu s) a es 256):U0 acc Pu a s (acc s,es):=
 ⟨rfl,h.ed,λc hc=>by obtain⟨d,e⟩:=h.to c hc;grind⟩
end
end
section
variable{fu n:Nat}{l a b:Tb}{m:Nat}{L:Lg}{r:Tb}{i:Int}{x:Int×Int}{f:Bool->Bool->Bool}{k c:Nat}{out:Tb}{is:Bool->Bool->Option Bool}{z:Int}{d:List (Int×Int)}{es:List Cu}{w:Ay}
def jr(f:Bool->Bool->Bool)(a b:Tb)(p:Int×Int):Bool:=f (fin a p.1) (fin b p.2)
def C2(a b:Tb)(p:Int×Int)(c:Nat):Int×Int:=(Bn a p.1 c,Bn b p.2 c)
theorem Pg(f:Bool->Bool->Bool)(a b:Tb):∀(w:List UInt8) (p:Int×Int),sV (jr f a b) (C2 a b) p w=f (Au a p.1 w) (Au b p.2 w)
 | [],p=>rfl
 |c::w,p=>Pg f a b w (C2 a b p c.toNat)
open Classical in
noncomputable def Dh(l:Tb):Tb:=if Bg l/\Cb l=l then l else []
theorem Hu(l:Tb):Bg (Dh l):=by grind[Dh,Bg]
theorem Ku(l:Tb):(Dh l).length<=l.length:=by grind[Dh]
theorem Hv(h:DW l n):DW (Dh l) n:=by
 unfold Dh;split;· omega
 ·exact⟨by simp,by simp⟩
theorem Sv(h:Bg l)(k:Cb l=l):Dh l=l:=by grind[Dh]
theorem Nc:Cb ([]:Tb)=[]:=by grind[live,Au,Cb,Eu,C4,DG]
theorem XS(l:Tb):Cb (Dh l)=Dh l:=by grind[Dh,Nc]
theorem Gc(d:N0 l)(f:DW l n)(e:n<4294967296)(a:n+2<fu)(b:257<fu):Q4 fu l=Ac (Dh l):=by refine(Ok.eq ?_);refine Oz (L5 d f e a (by omega)) λx c=>PY (λh=>MI ?_) λh=>MI ?_;all_goals grind[Dh]
theorem MW(d:N0 l)(f:DW l n)(e:n<4294967296)(b:n+2<fu)(a:257<fu):yA fu l=Ac (Dh l):=by refine(Ok.eq ?_);refine Oz (J_ d f e b a) λx c=>PY (λh=>MI ?_) λh=>MI ?_;all_goals grind[Dh]
theorem Hb{l:Tb}{i:Int}(h:(l.length:Int)<=i):Bf l i=(Ak,[]):=by grind[Bf]
theorem Vu{l:Tb}{i:Int}(b:Nat)(h:(l.length:Int)<=i):Bn l i b= -1:=by unfold Bn;rw[if_neg (by omega),Hb h];rfl
theorem Qk{l:Tb}{i:Int}(h:(l.length:Int)<=i):fin l i=Ak:=by grind[fin,Hb]
theorem fin_neg{l:Tb}{i:Int}(h:i<0):fin l i=Ak:=by grind[fin]
theorem WU:NZ fu (l,i)=Ac (fin l i):=by refine(Ok.eq ?_);refine N7 (λh=>N7 (λk=>Adq h k (MI (Eg h k).symm)) λk=>MI (Qk (by omega)).symm) λh=>MI (fin_neg (by omega)).symm
theorem Rj{b:Nat}(v:DW l n)(w:n<fu):NX fu (l,i,(b:Int))=Ac (Bn l i b):=by
 refine(Ok.eq ?_);refine N7 (λh=>MI (Jg _ h).symm) λh=>N7 (λk=>MI (Vu _ k).symm) λk=>Adq (by omega) (by omega) ?_;have u:=Bv (l:=l) (i:=i) (by omega) (by omega);have p:Bn l i b=AQ (l[i.toNat]'(by omega)).2 b:=by grind[Bn]
 rw[p];have o:=v.2 _ (AN (by omega:i.toNat<l.length));generalize l[i.toNat]'(by omega)=s at o;refine TV (λk=> ∀j (_:j<k) (q:j<s.2.length),BQ b s.2[j]=Ak) s.2.length (by omega) (by omega) (λk nx r e t=>?_) (λnx e=>?_)
 ·have d:BQ b s.2[k]=Ak->∀j (_:j<k+1) (q:j<s.2.length),BQ b s.2[j]=Ak:=λh j q m=>by
   grind
  refine P2 (Aah r (N7 (λc=>N7 (λg=>MI ?_) λg=>t (d ?_)) λc=>t (d ?_)));· grind[BQ,G9]
  all_goals grind[BQ]
 simp_all[P3,MI,Gq]
def J4(es:List Cu)(b:Nat):Prop:= ∃e∈es,e.1=(b:Int)\/e.2.1+1=(b:Int)
def C1(l:Tb)(i:Int):List Cu:=if i<0 then []else(Bf l i).2
theorem HU(l:Tb)(i:Int)(b:Nat):Bn l i b=AQ (C1 l i) b:=by unfold Bn C1;split<;>rfl
theorem fJ(h:Bg l)(i:Int):BU (C1 l i) 256 l.length:=by
 unfold C1;split;· exact .nil
 ·rcases Aeg i l.length with a|a;· rw[Bv (by omega) a];exact h _ (AN _)
  ·rw[Hb a];exact .nil
theorem Wq{p:Nat->Bool}(D:Bg l)(C:DW l n)(E:n<fu):
  Ok (NY fu (l,i,Bi 256 p)) λr=> ∃q,r=Bi 256 q/\∀b,b<256->(q b=Br↔p b=Br\/J4 (C1 l i) b):=by
 have Dc:C1 l i=[]->∃q,Bi 256 p=Bi 256 q/\∀b,b<256->(q b=Br↔p b=Br\/J4 (C1 l i) b):=λh=>⟨p,rfl,λb _=>by grind[J4]⟩;refine N7 (λh=>MI (Dc (by grind[C1]))) λh=>N7 (λk=>MI (Dc (by simp_all[C1,if_neg,Hb]))) λk=>Adq (by omega) (by omega) ?_;have B:C1 l i=(l[i.toNat]'(by omega)).2:=by unfold C1;rw[if_neg h,Bv (by omega) (by omega)]
 have o:=fJ D i;have w:=C.2 _ (AN (by omega:i.toNat<l.length));rw[B]at o⊢;generalize l[i.toNat]'(by omega)=s at o w;refine SA (λj x=> ∃q,x=Bi 256 q/\∀b,b<256->(q b=Br↔p b=Br\/J4 (s.2.take j) b)) s.2.length ⟨p,rfl,λb _=>by simp[J4]⟩ (by omega) (λj x nx v t z=>?_) (λx nx t=>?_)
 ·obtain⟨
      q,rfl,d⟩:=t;have F:=o.rg _ (AN v);have y:∀b,J4 (s.2.take (j+1)) b↔J4 (s.2.take j) b\/s.2[j].1=(b:Int)\/s.2[j].2.1+1=(b:Int):=λb=>by
   unfold J4;simp only[Ag v];simp
  refine P2 (Aah v ?_);dsimp only;rw[Abm,Acz,Abm,Acz];refine Abw (Abw (N7 (λA=>PC (p:=GK.F8 (s.2[j].2.1+1)) (by omega) (Abw (PC (by omega) ?_))) λA=>?_))
  ·rw[Bb,Bb];refine z _ ⟨_,rfl,λb u=>?_⟩;rw[y];by_cases m:b=(s.2[j].2.1+1).toNat;· simp only[m,if_true,true_iff];exact .inr (.inr (.inr (by omega)))
   ·by_cases c:b=s.2[j].1.toNat;· simp only[m,if_false];simp only[c,if_true,true_iff];exact .inr (.inr (.inl (by omega)))
    ·simp only[m,c,if_false,d b u];constructor
     ·rintro(h|h);· exact .inl h
      ·exact .inr (.inl h)
     ·rintro(h|h|h|h);· exact .inl h
      ·exact .inr h
      ·omega
      ·omega
  ·rw[Bb];refine z _ ⟨_,rfl,λb u=>?_⟩;rw[y];by_cases c:b=s.2[j].1.toNat;· simp only[c,if_true,true_iff];exact .inr (.inr (.inl (by omega)))
   ·simp only[c,if_false,d b u];constructor
    ·rintro(h|h);· exact .inl h
     ·exact .inr (.inl h)
    ·rintro(h|h|h|h);· exact .inl h
     ·exact .inr h
     ·omega
     ·omega
 ·obtain⟨q,rfl,d⟩:=t;rw[Ai]at d;exact P3 (MI ⟨q,rfl,d⟩)
theorem RJ{a:List (Int×Int)}{b:Nat->(Nat->Option Int)->Option Int}(p:a.length<fu)(n:∀k nx,k<a.length->b k nx=(bif Ds (x=a.getD k (0,0))then Ac (k:Int)else nx (k+1)))(o:∀nx,b a.length nx=Ac (-1)):
  Ad fu b 0=Ac (if x∈a then((a.idxOf x:Nat):Int)else-1):=by
 refine Ok.eq (TV (λk=> ∀j (_:j<k) (h:j<a.length),a[j]≠x) a.length (by omega) p (λk nx d c q=>?_) (λnx c=>?_))
 ·rw[n k nx d];have e:a.getD k (0,0)=a[k]:=by grind
  rw[e];refine N7 (λh=>MI ?_) λh=>q λj f l=>?_;· have g:x∈a:=h▸AN d;rw[if_pos g,Ss c d h.symm]
  grind
 grind[MI]
theorem Xt{a:List (Int×Int)}(d:a.length<fu):uY fu (a,x)=Ac (if x∈a then((a.idxOf x:Nat):Int)else-1):=by
 refine RJ d (λk nx b=>?_) (λnx=>?_)
 all_goals grind[decide,Ab,idx]
theorem Xs{a:List (Int×Int)}(d:a.length<fu):F28 fu (a,x)=Ac (if x∈a then((a.idxOf x:Nat):Int)else-1):=by
 refine RJ d (λk nx b=>?_) (λnx=>?_)
 all_goals grind[decide,Ab,idx]
def EX(a:List (Int×Int))(x:Int×Int):List (Int×Int):=if x∈a then a else a++[x]
theorem Mu(a:List (Int×Int))(x:Int×Int):∃more,EX a x=a++more:=by unfold EX;split;all_goals simp
theorem RB(a:List (Int×Int))(x:Int×Int):x∈EX a x:=by grind[EX]
theorem fQ{c:List (Int×Int)}(h:c.Nodup):(EX c x).Nodup:=by grind[EX]
theorem PE(a:List (Int×Int))(x:Int×Int):(EX a x).idxOf x=if x∈a then a.idxOf x else a.length:=by grind[EX]
theorem rT:4294967296<=Aj:=by decide
theorem gk{a:List (Int×Int)}(d:a.length<fu)(e:a.length<4294967295):YS fu (x,a)=Ac ((((EX a x).idxOf x:Nat):Int),EX a x):=by
 refine(Ok.eq ?_);have c:=rT;refine BY (Xt d) ?_;by_cases h:x∈a;· simp_all[EX,if_pos,P3,MI,PE]
 ·rw[if_neg h];refine P2 (Abw (MI ?_));grind[EX]
structure CK(r:Tb)(L:Lg)(m:Nat):Prop where
 wf:Bg r
 can:Cb r=r
 lg:Au r 0=L
 len:r.length<=m
theorem CK.of{T:Tb}(a:Bg T)(b:Au T 0=L)(c:T.length<=m):CK (Cb T) L m:=⟨WE a,Yi a,(WG a).trans b,Aam (iU a) c⟩
theorem CK.unique{s:Tb}(h:CK r L m)(k:CK s L n):r=s:=by rw[<-h.can,<-k.can];exact IZ h.wf k.wf (h.lg.trans k.lg.symm)
theorem CK.mono(h:CK r L m)(k:m<=n):CK r L n:=⟨h.wf,h.can,h.lg,Aam h.len k⟩
theorem CK.IU(h:CK r L m):Dh r=r:=Sv h.wf h.can
theorem CK.congr{M:Lg}(h:CK r L m)(k:L=M):CK r M m:=k▸h
theorem MV(l:Tb):CK (Dh l) (Au (Dh l) 0) l.length:=⟨Hu l,XS l,rfl,Ku l⟩
theorem CK.nil:CK [] (λ_=>Ak) m:=⟨by simp[Bg],Nc,funext λw=>DG 0 w,by simp⟩
def Y4(a b:Tb)(p:Int×Int):Prop:=(-1<=p.1/\p.1<=a.length)/\ -1<=p.2/\p.2<=b.length
def GY(a b:Tb):Nat:=(a.length+2)*(b.length+2)
theorem Hj{c:List (Int×Int)}(f:c.Nodup)(h:∀p∈c,Y4 a b p):c.length<=GY a b:=by
 have key:∀(n m:Nat),((aO n).flatMap λ(i:Nat)=>(aO m).map λ(j:Nat)=>(((i:Int)-1,(j:Int)-1):Int×Int)).length=n*m:=λn m=>by
  induction n with
  |zero=>simp
  |succ n k=>simp_all[Aei,Acn,Aab,Adx]
 rw[GY,<-key];refine Co f λp g=>?_;obtain⟨⟨l,o⟩,q,r⟩:=h p g;refine Pe.2 ⟨(p.1+1).toNat,Abf.2 (by omega),By.2 ⟨(p.2+1).toNat,Abf.2 (by omega),?_⟩⟩;grind
theorem Y4.step(d:Bg a)(e:Bg b)(p:Int×Int)(c:Nat):Y4 a b (C2 a b p c):=by have:=d.st p.1 c;have:=e.st p.2 c;grind[Y4,C2]
structure GU(f:Bool->Bool->Bool)(a b:Tb)(p0:Int×Int)(ord:List (Int×Int))(out:Tb):Prop where
 zero:ord[0]?=Ac p0
 nd:ord.Nodup
 nB:∀p∈ord,Y4 a b p
 le:out.length<=ord.length
 row:∀(k:Nat) (s:Int×Int) (r:TN),ord[k]?=Ac s->out[k]?=Ac r->U0 (jr f a b) (C2 a b) ord s r
theorem GU.put{l:Int×Int}(h:GU f a b l d out)(m:Y4 a b x):GU f a b l (EX d x) out:=by
 obtain⟨j,e⟩:=Mu d x;refine⟨?_,fQ h.nd,λp c=>?_,?_,λk s r g i=>?_⟩;· have:=(No.1 h.zero).1;rw[e,Aaa this];exact h.zero
 ·unfold EX at c;split at c;· exact h.nB p c
  ·rcases AT.1 c with c|c;· exact h.nB p c
   grind
 ·have:=h.le;grind
 ·have n:=(No.1 i).1;have:=h.le;rw[e,Aaa (by omega)]at g;rw[e];exact(h.row k s r g i).ext
theorem GU.add{l s:Int×Int}{r:TN}(h:GU f a b l d out)(j:d[out.length]?=Ac s)(m:U0 (jr f a b) (C2 a b) d s r):GU f a b l d (out++[r]):=by
 refine⟨h.zero,h.nd,h.nB,by grind,λk o n e c=>?_⟩;by_cases i:k<out.length;· rw[Aaa i]at c;exact h.row k o n e c
 grind
theorem GU.done{e:Int×Int}{c:List (Int×Int)}(h:GU f a b e c out)(i:¬out.length<c.length):Bg out/\Au out 0=(λw=>f (Au a e.1 w) (Au b e.2 w))/\out.length<=GY a b:=by
 have d:out.length=c.length:=by have:=h.le;omega
 have g:Yt (jr f a b) (C2 a b) c out:=⟨d,h.row⟩;refine⟨g.wf,funext λw=>?_,by rw[d];exact Hj h.nd h.nB⟩;have:=g.lg w 0 e h.zero;grind[Pg]
noncomputable def me(fu:Nat)(is:Bool->Bool->Option Bool)(i o:Tb):Option Tb:=
 Ad fu (
      λ(c:List (Int×Int)×List (Bool×List (Int×Int×Int))×Nat) h=>
  bif Ds ((↑c.2.2:Int)<(↑(FB c.1):Int))then
   Ab (idx c.1 (↑c.2.2:Int)) λe=>
   Ab (NZ fu (i,e.1)) λp=>
   Ab (NZ fu (o,e.2)) λq=>
   Ab (is p q) λr=>
   Ab (NY fu (i,e.1,(lh (T9 256 Ak) 0 Br))) λs=>
   Ab (NY fu (o,e.2,s)) λj=>
   Ad fu (λ(a:List (Int×Int)×List (Int×Int×Int)×Int) d=>
    bif Ds (a.2.2<(256:Int))then
     Ah ((0:Int)<=a.2.2/\a.2.2<(↑256:Int))<|
     Ab (idx j (↑(0+ae a.2.2*1):Int)) λk=>
     bif k then
      Aa (Lm.u8) (a.2.2)<|
      Aa (Lm.u8) (a.2.2)<|
      Ab (NX fu (i,e.1,a.2.2)) λl=>
      Aa (Lm.u8) (a.2.2)<|
      Ab (NX fu (o,e.2,a.2.2)) λm=>
      Ab (YS fu ((l,m),a.1)) λb=>
      Ah (FB a.2.1+1<=Aj)<|
      Aa (Lm.i64) ((↑(FB (a.2.1++[(a.2.2,(0:Int),b.1)])):Int)-(1:Int))<|
      Aa (Lm.u8) (a.2.2)<|
      Ab (idx (a.2.1++[(a.2.2,(0:Int),b.1)]) ((↑(FB (a.2.1++[(a.2.2,(0:Int),b.1)])):Int)-(1:Int))) λf=>
      Aa (Lm.i64) (a.2.2+(1:Int))<|
      d ((b.2,((a.2.1++[(a.2.2,(0:Int),b.1)]).set (ae ((↑(FB (a.2.1++[(a.2.2,(0:Int),b.1)])):Int)-(1:Int))) (f.1,a.2.2,f.2.2)),(a.2.2+(1:Int))))
     else
      Aa (Lm.i64) ((↑(FB a.2.1):Int)-(1:Int))<|
      Aa (Lm.u8) (a.2.2)<|
      Ab (idx a.2.1 ((↑(FB a.2.1):Int)-(1:Int))) λg=>
      Aa (Lm.i64) (a.2.2+(1:Int))<|
      d ((a.1,(a.2.1.set (ae ((↑(FB a.2.1):Int)-(1:Int))) (g.1,a.2.2,g.2.2)),(a.2.2+(1:Int))))
    else
     Ah (FB c.2.1+1<=Aj)<|
     h ((a.1,(c.2.1++[(r,a.2.1)]),c.2.2+1))) ((c.1,[],(0:Int)))
  else
   Ab (oh fu c.2.1) λn=>
   Ac (n.1)) (([((0:Int),(0:Int))],[],0))
theorem ZT(Z:∀x y,is x y=Ac (f x y))(ha:Bg a)(hb:Bg b)(sa:DW a n)(sb:DW b n)(hM:GY a b<=4000000000)(hn:n<4294967296)(hf:n+2<fu)(bp:300<fu)(hfM:GY a b+2<fu):
  Ok (me fu is a b) λr=>CK r (λw=>f (Au a 0 w) (Au b 0 w)) (GY a b):=by
 refine Xn (X:=List (Int×Int)×Tb×Nat) (λx=>GU f a b (0,0) x.1 x.2.1/\x.2.2=x.2.1.length) (λx=>GY a b+1-x.2.2)
  ⟨⟨rfl,by simp,λp hp=>by grind[Y4],by simp,λk s r _ hr=>by grind⟩,rfl⟩ (by omega) λx nx H _ hnx=>?_;obtain⟨g,out,k⟩:=x;obtain⟨H,hk⟩:=H;dsimp only at H hk;subst hk;have hol:=Hj H.nd H.nB;refine N7 (λd=>?_) λd=>?_
 ·have d:(out.length:Int)<g.length:=d;have d:out.length<g.length:=by omega
  have D:g[out.length]?=Ac g[out.length]:=IN d;refine Aah d ?_;generalize hs:g[out.length]=s at D;refine BY WU (BY WU (BY (Z _ _) ?_));rw[DC,Bb];refine Oz (Wq ha sa (by omega)) λr9 h9=>?_;obtain⟨q9,rfl,hq9⟩:=h9;refine Oz (Wq hb sb (by omega)) λr10 Q=>?_;obtain⟨q,rfl,hq⟩:=Q;refine Xn (X:=List (Int×Int)×List Cu×Int) (λx=>GU f a b (0,0) x.1 out/\(∃more,x.1=g++more)/\(0<=x.2.2/\x.2.2<=256)/\Fz (C2 a b s) x.1 x.2.1 x.2.2.toNat) (λx=>256-x.2.2.toNat)
   ⟨H,⟨[],by simp⟩,⟨by simp,by simp⟩,Fz.zero⟩ (by omega) λx nx2 hJ _ j=>?_;obtain⟨o,J,ci⟩:=x;obtain⟨t,⟨more,A⟩,⟨S,T⟩,G⟩:=hJ;dsimp only at t A S T G j;obtain⟨c,rfl⟩:∃c:Nat,ci=c:=⟨ci.toNat,by omega⟩;rw[Acd]at G j;have hoM:=Hj t.nd t.nB;have V:J.length<=256:=by have:=G.ed.len;omega
  refine N7 (λhc=>?_) λhc=>?_
  ·have hc:(c:Int)<256:=hc;have hc:c<256:=by omega
   dsimp only;rw[Acd,Abm,Acz];have v:GK.F8 (c:Int):=by omega
   have I:Y4 a b (C2 a b s c):=Y4.step ha hb s c;refine Abw (BY (AW hc) (PY (λh=>?_) λh=>?_))
   ·have R:=t.put I;refine PC (p:=GK.F8 (c:Int)) v (PC (p:=GK.F8 (c:Int)) v (BY (Rj sa (by omega)) (PC (p:=GK.F8 (c:Int)) v (BY (Rj sb (by omega)) (BY (gk (x:=C2 a b s c) (by omega) (by omega)) ?_)))));have M:((J++[((c:Int),(0:Int),(((EX o (C2 a b s c)).idxOf (C2 a b s c):Nat):Int))]).length:Int)-1=(J.length:Nat):=by simp
    have N:idx (J++[((c:Int),(0:Int),(((EX o (C2 a b s c)).idxOf (C2 a b s c):Nat):Int))]) ((J.length:Nat):Int)=Ac ((c:Int),(0:Int),(((EX o (C2 a b s c)).idxOf (C2 a b s c):Nat):Int)):=by rw[Bl (by simp)];simp
    rw[M];refine PC (by unfold Aj;omega) (Aaq (PC (p:=GK.F8 (c:Int)) v (BY N (Abx (by omega) ?_))));rw[Acd,Acx _ _ (by omega),Aio,Aht];obtain⟨m2,O⟩:=Mu o (C2 a b s c);have E:=G.new (more:=m2) (e:=c+1) (O▸RB o (C2 a b s c)) (by omega) (λb' C h2=>by rw[show b'=c by omega]);rw[<-O,show(((c+1:Nat):Int)-1)=(c:Int) by omega]at E;exact j (_,_,(c:Int)+1) ⟨R,⟨more++m2,by rw[O,A];simp⟩,⟨by dsimp only;omega,by dsimp only;omega⟩,by exact E⟩ (by dsimp only;omega)
   ·have B:¬(q c=Br):=by rw[h];decide
    rw[hq c hc,hq9 c hc]at B;have P:0<c:=by
     rcases Ahs c with e|e;· subst e;exact absurd (.inl (.inl rfl)) B
     ·exact e
    obtain⟨z,lo,qq,rfl⟩:=G.last P;have F:∀ {l:Tb} {i:Int},¬J4 (C1 l i) c->Bn l i c=Bn l i (c-1):=λ{l i} K=>by rw[HU,HU];exact Me P (λe U C=>K ⟨e,U, .inl C⟩) (λe U C=>K ⟨e,U, .inr C⟩)
    have W:C2 a b s c=C2 a b s (c-1):=Aby (F λC=>B (.inl (.inr C))) (F λC=>B (.inr C));have M:((z++[(lo,(c:Int)-1,qq)]).length:Int)-1=(z.length:Nat):=by simp
    have N:idx (z++[(lo,(c:Int)-1,qq)]) ((z.length:Nat):Int)=Ac (lo,(c:Int)-1,qq):=by rw[Bl (by simp)];simp
    rw[M];refine Aaq (PC (p:=GK.F8 (c:Int)) v (BY N (Abx (by omega) ?_)));rw[Acd,Acx _ _ (by omega),Aio,Aht];exact j (_,_,(c:Int)+1) ⟨t,⟨more,A⟩,⟨by dsimp only;omega,by dsimp only;omega⟩,by rw[show((c:Int)+1).toNat=c+1 by omega];exact G.more P W⟩ (by dsimp only;omega)
  ·have hc:¬(c:Int)<256:=hc;obtain rfl:c=256:=by omega
   have Y:o[out.length]?=Ac s:=by rw[A,Aaa d];exact D
   refine PC (by dsimp only;unfold Aj;omega) (hnx (_,_,out.length+1) ⟨t.add Y G.row,by simp⟩ (by dsimp only;omega))
 ·have d:¬(out.length:Int)<g.length:=d;obtain⟨L,t2,t3⟩:=H.done (by omega);have hsh:DW out (max (GY a b) 256):=L.sh (by omega) (by omega);refine Oz (MD L.by hsh (by omega) (by omega) (by omega)) λr hr=>MI ?_;rw[hr.1 L];exact CK.of L t2 t3
def D1(l:Tb):Int:=if l.length=0 then-1 else 0
theorem Od:yz fu l=Ac (D1 l):=by grind[yz,D1]
theorem Oc(l:Tb):Au l (D1 l)=Au l 0:=by
 unfold D1;split;· rename_i h;grind[Ef,DG]
 rfl
theorem Kg(l:Tb): -1<=D1 l/\D1 l<l.length:=by grind[D1]
theorem WT(h:i<l.length):vI fu (l,i)=Ac (fin l i):=by refine(Ok.eq ?_);exact N7 (λa=>Adq a h (MI (Eg a h).symm)) λa=>MI (fin_neg (by omega)).symm
theorem RS{b:Nat}(w:DW l n)(x:n<fu)(h1:i<l.length):vH fu (l,i,(b:Int))=Ac (Bn l i b):=by
 refine(Ok.eq ?_);refine N7 (λh=>MI (Jg _ h).symm) λh=>?_;have v:=Bv (l:=l) (i:=i) (by omega) (by omega);have q:Bn l i b=AQ (l[i.toNat]'(by omega)).2 b:=by grind[Bn]
 have c:idx l i=Ac (l[i.toNat]'(by omega)):=Fp (by omega) h1;rw[q];have p:=w.2 _ (AN (by omega:i.toNat<l.length));generalize l[i.toNat]'(by omega)=s at p c;refine TV (λk=> ∀j (_:j<k) (r:j<s.2.length),BQ b s.2[j]=Ak) s.2.length (by omega) (by omega) (λk nx t f u=>?_) (λnx f=>?_)
 ·have e:BQ b s.2[k]=Ak->∀j (_:j<k+1) (r:j<s.2.length),BQ b s.2[j]=Ak:=λh j r o=>by
   grind
  refine BY c (P2 (BY c (Aah t (N7 (λd=>N7 (λm=>MI ?_) λm=>u (e ?_)) λd=>u (e ?_)))));· grind[BQ,G9]
  all_goals grind[BQ]
 simp_all[BY,P3,MI,Gq]
def Fg(es:List Cu)(c:Nat)(z:Int):Prop:= ∀e∈es,((c:Int)<e.1->z<=e.1)/\((c:Int)<=e.2.1->z<=e.2.1+1)
theorem Fg.no(h:Fg es c z){b:Nat}(h1:c<b)(h2:(b:Int)<z):∀e∈es,e.1≠(b:Int)/\e.2.1+1≠(b:Int):=λe a=>by have:=h e a;omega
theorem Fg.mono{y:Int}(h:Fg es c z)(k:y<=z):Fg es c y:=λe a=>by have:=h e a;omega
theorem KC{s:TN}{P:Int->Prop}{nx:Int->Option Int}(hc:c<256)(F:(c:Int)<z/\z<=256)(q:∃n,BU s.2 256 n)(D:s.2.length<fu)
  (E:∀y,(c:Int)<y/\y<=z->Fg s.2 c y->Ok (nx y) P):
  Ok (Ad fu (λ(a:Int×Nat) i=>
    bif Ds ((↑a.2:Int)<(↑(FB s.2):Int))then
     Ab (idx s.2 (↑a.2:Int)) λG=>
     bif Ds ((c:Int)<G.1)then
      Ab (idx s.2 (↑a.2:Int)) λb=>
      Aa (Lm.i64) (if b.1<a.1 then b.1 else a.1)<|
      Ab (idx s.2 (↑a.2:Int)) λv=>
      bif Ds ((c:Int)<=v.2.1)then
       Ab (idx s.2 (↑a.2:Int)) λd=>
       Aa (Lm.i64) (d.2.1+(1:Int))<|
       Aa (Lm.i64) (if d.2.1+(1:Int)<if b.1<a.1 then b.1 else a.1 then d.2.1+(1:Int)else if b.1<a.1 then b.1 else a.1)<|
       i (((if(d.2.1+(1:Int))<(if b.1<a.1 then b.1 else a.1)then d.2.1+(1:Int)else if b.1<a.1 then b.1 else a.1),a.2+1))
      else
       i (((if b.1<a.1 then b.1 else a.1),a.2+1))
     else
      Ab (idx s.2 (↑a.2:Int)) λw=>
      bif Ds ((c:Int)<=w.2.1)then
       Ab (idx s.2 (↑a.2:Int)) λf=>
       Aa (Lm.i64) (f.2.1+(1:Int))<|
       Aa (Lm.i64) (if f.2.1+(1:Int)<a.1 then f.2.1+(1:Int)else a.1)<|
       i (((if(f.2.1+(1:Int))<a.1 then f.2.1+(1:Int)else a.1),a.2+1))
      else
       i ((a.1,a.2+1))
    else
     nx a.1) ((z,0))) P:=by
 obtain⟨n,q⟩:=q;refine SA (λj y=>((c:Int)<y/\y<=z)/\Fg (s.2.take j) c y) s.2.length ⟨⟨F.1,Abn _⟩,λe t=>by grind⟩ D (λj y o l r u=>?_) (λy o r=>?_)
 ·obtain⟨x,p⟩:=r;have J:=q.rg _ (AN l);have step:∀m,(c:Int)<m/\m<=y->((c:Int)<s.2[j].1->m<=s.2[j].1)->((c:Int)<=s.2[j].2.1->m<=s.2[j].2.1+1)->Ok (o (m,j+1)) P:=λm H B C=>u _ ⟨by omega,λe t=>by
   rcases(Ag l).1 t with h|rfl;· have:=p e h;omega
   omega⟩;dsimp only;refine P2 (Aah l (N7 (λh=>Aah l (Abx (by omega) (Aah l (N7 (λk=>Aah l (Aaq (Abx (by split<;>split<;>omega) (step _ ?_ ?_ ?_)))) λk=>step _ ?_ ?_ ?_)))) λh=>Aah l (N7 (λk=>Aah l (Aaq (Abx (by split<;>omega) (step _ ?_ ?_ ?_)))) λk=>step _ ?_ ?_ ?_)));all_goals(first|(split<;>split<;>omega)|(split<;>omega)|omega|(split<;>split<;>omega)|(split<;>omega)|(omega))
 grind
theorem iG{p q:Int}(G:Bg a)(H:Bg b)(N:DW a n)(sb:DW b n)(O:n<fu)(I:2<fu)(hc:c<256)(C:p<a.length)(D:q<b.length):
  Ok (oj fu ([a,b],[p,q],(c:Int))) λe=>((c:Int)<e/\e<=256)/\Fg (C1 a p) c e/\Fg (C1 b q) c e:=by
 rw[oj];obtain⟨f,rfl⟩:∃f,fu=f+3:=⟨fu-3,by omega⟩;have neg:∀ {l:Tb} {i:Int},i<0->C1 l i=[]:=λh=>by grind[C1]
 have row:∀ {l:Tb} {i:Int} (B:0<=i) (s:i<l.length),C1 l i=(l[i.toNat]'(by omega)).2:=λB s=>by simp_all[C1,if_neg,Bv]
 rw[Ad];refine VB (by simp) (BY (a:=p) rfl ?_);have j:∀y,(c:Int)<y/\y<=256->Fg (C1 a p) c y->Ok (Ad (f+2) (λ(r:Int×Nat) w=>
  bif Ds (
        (↑r.2:Int)<(↑(FB [a,b]):Int))then
   Ab (idx [p,q] (↑r.2:Int)) λJ=>
   bif Ds (J<(0:Int))then
    w ((r.1,r.2+1))
   else
    Ab (idx [a,b] (↑r.2:Int)) λK=>
    Ab (idx [p,q] (↑r.2:Int)) λL=>
    Ab (idx K L) λt=>
    Ad (f+3) (λ(d:Int×Nat) o=>
     bif Ds ((↑d.2:Int)<(↑(FB t.2):Int))then
      Ab (idx t.2 (↑d.2:Int)) λM=>
      bif Ds ((c:Int)<M.1)then
       Ab (idx t.2 (↑d.2:Int)) λg=>
       Aa (Lm.i64) (if g.1<d.1 then g.1 else d.1)<|
       Ab (idx t.2 (↑d.2:Int)) λz=>
       bif Ds ((c:Int)<=z.2.1)then
        Ab (idx t.2 (↑d.2:Int)) λk=>
        Aa (Lm.i64) (k.2.1+(1:Int))<|
        Aa (Lm.i64) (if k.2.1+(1:Int)<if g.1<d.1 then g.1 else d.1 then k.2.1+(1:Int)else if g.1<d.1 then g.1 else d.1)<|
        o (((if(k.2.1+(1:Int))<(if g.1<d.1 then g.1 else d.1)then k.2.1+(1:Int)else if g.1<d.1 then g.1 else d.1),d.2+1))
       else
        o (((if g.1<d.1 then g.1 else d.1),d.2+1))
      else
       Ab (idx t.2 (↑d.2:Int)) λA=>
       bif Ds ((c:Int)<=A.2.1)then
        Ab (idx t.2 (↑d.2:Int)) λm=>
        Aa (Lm.i64) (m.2.1+(1:Int))<|
        Aa (Lm.i64) (if m.2.1+(1:Int)<d.1 then m.2.1+(1:Int)else d.1)<|
        o (((if(m.2.1+(1:Int))<d.1 then m.2.1+(1:Int)else d.1),d.2+1))
       else
        o ((d.1,d.2+1))
     else
      w ((d.1,r.2+1))) ((r.1,0))
  else
   Ac (r.1)) (y,1)) λe=>((c:Int)<e/\e<=256)/\Fg (C1 a p) c e/\Fg (C1 b q) c e:=λy E F=>by
  rw[Ad];refine VB (by simp) (BY (a:=q) rfl ?_);have last:∀u,(c:Int)<u/\u<=y->Fg (C1 b q) c u->Ok (Ac u) λe=>((c:Int)<e/\e<=256)/\Fg (C1 a p) c e/\Fg (C1 b q) c e:=λu s v=>MI ⟨by omega,F.mono s.2,v⟩;refine N7 (λh=>?_) λh=>BY (a:=b) rfl (BY (a:=q) rfl (Adq (by omega) D ?_));· rw[Ad];exact Qb (by simp) (last y ⟨E.1,Abn _⟩ (by intro e x;grind))
  ·refine KC hc E ⟨_,H _ (AN _)⟩ (by have:=sb.2 _ (AN (by omega:q.toNat<b.length));omega) λu s v=>?_;grind
 refine N7 (λh=>j 256 (by omega) (by rw[neg h];intro e x;cases x)) λh=>BY (a:=a) rfl (BY (a:=p) rfl (Adq (by omega) C ?_));exact KC hc (by omega) ⟨_,G _ (AN _)⟩ (by have:=N.2 _ (AN (by omega:p.toNat<a.length));omega) λy s v=>j y (by omega) (by rw[row (by omega) C];omega)
noncomputable def xC(fu:Nat)(is:Bool->Bool->Option Bool)(j m:Tb)(n o:Int):Option Tb:=
 Ad fu (
      λ(c:List (Int×Int)×List (Bool×List (Int×Int×Int))×Nat) i=>
  bif Ds ((↑c.2.2:Int)<(↑(FB c.1):Int))then
   Ab (idx c.1 (↑c.2.2:Int)) λe=>
   Ah ((0:Int)<=(0:Int)/\(0:Int)<(↑2:Int))<|
   Ab (vI fu (j,e.1)) λp=>
   Ah ((0:Int)<=(1:Int)/\(1:Int)<(↑2:Int))<|
   Ab (vI fu (m,e.2)) λq=>
   Ab (is p q) λk=>
   Ad fu (λ(a:List (Int×Int)×List (Int×Int×Int)×Int) d=>
    bif Ds (a.2.2<(256:Int))then
     Ah ((0:Int)<=(0:Int)/\(0:Int)<(↑2:Int))<|
     Ah ((0:Int)<=(1:Int)/\(1:Int)<(↑2:Int))<|
     Ab (oj fu ([j,m],[e.1,e.2],a.2.2)) λb=>
     Ah ((0:Int)<=(0:Int)/\(0:Int)<(↑2:Int))<|
     Ab (vH fu (j,e.1,a.2.2)) λf=>
     Ah ((0:Int)<=(1:Int)/\(1:Int)<(↑2:Int))<|
     Ab (vH fu (m,e.2,a.2.2)) λg=>
     Ab (F28 fu (a.1,f,g)) λh=>
     bif Ds (h<(0:Int))then
      Ah (FB a.1+1<=Aj)<|
      Aa (Lm.u8) (a.2.2)<|
      Aa (Lm.i64) (b-(1:Int))<|
      Aa (Lm.u8) (b-(1:Int))<|
      Ah (FB a.2.1+1<=Aj)<|
      d (((a.1++[(f,g)]),(a.2.1++[(a.2.2,(b-(1:Int)),(↑(FB a.1):Int))]),b))
     else
      Aa (Lm.u8) (a.2.2)<|
      Aa (Lm.i64) (b-(1:Int))<|
      Aa (Lm.u8) (b-(1:Int))<|
      Ah (FB a.2.1+1<=Aj)<|
      d ((a.1,(a.2.1++[(a.2.2,(b-(1:Int)),h)]),b))
    else
     Ah (FB c.2.1+1<=Aj)<|
     i ((a.1,(c.2.1++[(k,a.2.1)]),c.2.2+1))) ((c.1,[],(0:Int)))
  else
   Ab (vJ fu c.2.1) λl=>
   Ac (l.1)) (([(n,o)],[],0))
theorem rU:4294967296<=Aj:=by decide
def ya(a b:Tb)(p:Int×Int):Prop:=p.1<a.length/\p.2<b.length
theorem cr(Y:∀x y,is x y=Ac (f x y))(T:Bg a)(U:Bg b)(sa:DW a n)(sb:DW b n)(hM:GY a b<=4000000000)(hn:n<4294967296)(hf:n+2<fu)(bp:300<fu)(hfM:GY a b+2<fu):
  Ok (xC fu is a b (D1 a) (D1 b)) λr=>CK r (λw=>f (Au a 0 w) (Au b 0 w)) (GY a b):=by
 have c187:=rU;refine Xn (X:=List (Int×Int)×Tb×Nat) (λx=>GU f a b (D1 a,D1 b) x.1 x.2.1/\(∀p∈x.1,ya a b p)/\x.2.2=x.2.1.length) (λx=>GY a b+1-x.2.2)
  ⟨⟨rfl,by simp,λp j=>by grind[Y4,Kg],by simp,λk s r _ hr=>by grind⟩,λp j=>by simp at j;subst j;exact⟨(Kg a).2,(Kg b).2⟩,rfl⟩ (by omega) λx nx B _ Z=>?_;obtain⟨l,out,k⟩:=x;obtain⟨B,R,hk⟩:=B;dsimp only at B R hk;subst hk;have hol:=Hj B.nd B.nB;refine N7 (λh=>?_) λh=>?_
 ·have h:(out.length:Int)<l.length:=h;have h:out.length<l.length:=by omega
  have z:l[out.length]?=Ac l[out.length]:=IN h;have i:=R _ (AN h);refine Aah h ?_;generalize hs:l[out.length]=s at z i;refine PC (by simp) (BY (WT i.1) (PC (by simp) (BY (WT i.2) (BY (Y _ _) ?_))));refine Xn (X:=List (Int×Int)×List Cu×Int) (λx=>GU f a b (D1 a,D1 b) x.1 out/\(∀p∈x.1,ya a b p)/\(∃more,x.1=l++more)/\(0<=x.2.2/\x.2.2<=256)/\Fz (C2 a b s) x.1 x.2.1 x.2.2.toNat) (λx=>256-x.2.2.toNat)
   ⟨B,R,⟨[],by simp⟩,⟨by simp,by dsimp only;omega⟩,Fz.zero⟩ (by omega) λx nx2 hJ _ q=>?_;obtain⟨o,es,ci⟩:=x;obtain⟨m,u,⟨more,C⟩,⟨V,W⟩,G⟩:=hJ;dsimp only at m u C V W G q;obtain⟨c,rfl⟩:∃c:Nat,ci=c:=⟨ci.toNat,by omega⟩;have hoM:=Hj m.nd m.nB;have hel:es.length<=256:=by have:=G.ed.len;omega
  refine N7 (λhc=>?_) λhc=>?_
  ·have hc:(c:Int)<256:=hc;have hc:c<256:=by omega
   have J:GK.F8 (c:Int):=by omega
   have D:Y4 a b (C2 a b s c):=Y4.step T U s c;have I:ya a b (C2 a b s c):=by have:=T.st s.1 c;have:=U.st s.2 c;unfold ya C2;omega
   dsimp only;refine PC (by decide) (PC (by decide) (Oz (iG T U sa sb (by omega) (by omega) hc i.1 i.2) λe he=>?_));obtain⟨⟨he0,he1⟩,P,Q⟩:=he;obtain⟨t,rfl⟩:∃t:Nat,e=t:=⟨e.toNat,by omega⟩;have v:∀E,c<=E->E<t->C2 a b s E=C2 a b s c:=λE h1 h2=>by obtain⟨d,rfl⟩:∃d,E=c+d:=⟨E-c,by omega⟩;have k1:=G8 (es:=C1 a s.1) (lo:=c) d λb2 O h4=>P.no O (by omega);have k2:=G8 (es:=C1 b s.2) (lo:=c) d λb2 O h4=>Q.no O (by omega);unfold C2;rw[HU,HU,k1,k2,<-HU,<-HU]
   have H:=m.put D;obtain⟨m2,N⟩:=Mu o (C2 a b s c);have A:=G.new (more:=m2) (e:=t) (N▸RB o (C2 a b s c)) (by omega) v;rw[<-N]at A;have S:∀p∈EX o (C2 a b s c),ya a b p:=λp j=>by
    unfold EX at j;split at j;· exact u p j
    ·rcases AT.1 j with j|j;· exact u p j
     ·simp at j;subst j;exact I
   have g:=q (EX o (C2 a b s c),es++[((c:Int),(t:Int)-1,(((EX o (C2 a b s c)).idxOf (C2 a b s c):Nat):Int))],(t:Int)) ⟨H,S,⟨more++m2,by rw[N,C];simp⟩,⟨by dsimp only;omega,by dsimp only;omega⟩,by rw[Acd];exact A⟩ (by dsimp only;omega);refine PC (by decide) (BY (RS sa (by omega) i.1) (PC (by decide) (BY (RS sb (by omega) i.2) (BY (Xs (x:=C2 a b s c) (by omega)) ?_))));have K:GK.F8 ((t:Int)-1):=by unfold GK.F8;omega
   by_cases F:C2 a b s c∈o;· rw[if_pos F];rw[PE,if_pos F]at g;unfold EX at g;rw[if_pos F]at g;exact P3 (PC (p:=GK.F8 (c:Int)) J (Aaq (PC (p:=GK.F8 ((t:Int)-1)) K (PC (by unfold Aj;omega) g))))
   ·rw[if_neg F];rw[PE,if_neg F]at g;unfold EX at g;rw[if_neg F]at g;exact P2 (Abw (PC (p:=GK.F8 (c:Int)) J (Aaq (PC (p:=GK.F8 ((t:Int)-1)) K (PC (by unfold Aj;omega) g)))))
  ·have hc:¬(c:Int)<256:=hc;obtain rfl:c=256:=by omega
   have g:o[out.length]?=Ac s:=by rw[C,Aaa h];exact z
   refine PC (by dsimp only;unfold Aj;omega) (Z (_,_,out.length+1) ⟨m.add g G.row,u,by simp⟩ (by dsimp only;omega))
 ·have h:¬(out.length:Int)<l.length:=h;obtain⟨M,t2,t3⟩:=B.done (by omega);have hsh:DW out (max (GY a b) 256):=M.sh (by omega) (by omega);refine Oz (K8 M.by hsh (by omega) (by omega) (by omega)) λr hr=>MI ?_;rw[hr.1 M];refine(CK.of M t2 t3).congr (funext λw=>?_);rw[Oc,Oc]
structure nT(n fu:Nat)(a b:Tb):Prop where
 ha:N0 a
 hb:N0 b
 sa:DW a n
 sb:DW b n
 hM:GY a b<=4000000000
 hn:n<4294967296
 hf:n+2<fu
 bp:300<fu
 hfM:GY a b+2<fu
theorem RG(a b:Tb):GY (Dh a) (Dh b)<=GY a b:=Abv (by grind[Ku]) (by grind[Ku])
theorem mf(a b:Tb):a.length<=GY a b:=Aam (by omega:a.length<=(a.length+2)*1) (Abv (Aaf _) (by omega))
theorem wi(a b:Tb):b.length<=GY a b:=Aam (by omega:b.length<=1*(b.length+2)) (Abv (by omega) (Aaf _))
noncomputable def gL(a:Tb):Lg:=Au (Dh a) 0
theorem Hx:gL []=λ_=>Ak:=by unfold gL;rw[Sv (by simp[Bg]) Nc];exact funext λw=>DG 0 w
theorem PG(c:nT n fu a b)(d:∀x y,is x y=Ac (f x y)):
  Ok (Ab (Q4 fu a) λg=>Ab (Q4 fu b) λi=>me fu is g i) λr=>CK r (λw=>f (gL a w) (gL b w)) (GY a b):=by
 have h:=RG a b;refine BY (Gc c.ha c.sa c.hn c.hf (by have:=c.bp;omega)) (BY (Gc c.hb c.sb c.hn c.hf (by have:=c.bp;omega)) ?_);exact(ZT d (Hu a) (Hu b) (Hv c.sa) (Hv c.sb) (by have:=c.hM;omega) c.hn c.hf c.bp (by have:=c.hfM;omega)).mono λr e=>e.mono h
theorem iP{l:List Cu}(h:l.length<4294967296):F99 fu l=Ac l:=by
 cases l with
 |nil=>grind[d99n]
 |cons x l=>exact(d99c fu x l).trans (by unfold Ah Aj;grind)
theorem X'(e:DW l n)(g:n<4294967296)(i:n<fu):YT fu l=Ac l:=by
 refine(Ok.eq ?_);refine SA (λk (o:Tb)=>o=l.take k) l.length (by simp) (by have:=e.1;omega) (λk o nx c b d=>?_) (λo nx b=>?_);· have f:(l[k]).2.length<4294967296:=Afr (e.2 _ (AN c)) g;have h:=e.1;refine P2 (Aah c (BY (iP f) (PC (by grind) (d _ ?_))));grind[List.take_add_one,List.getElem?_eq_getElem]
 simp_all[P3,MI]
theorem Qy(d:N0 a)(c:DW a n)(b:n<4294967296)(e:n+2<fu)(f:300<fu){P:Tb->Prop}(h:P (Dh a)):
  Ok (Ab (Q4 fu a) λr=>Ab (YT fu r) λr=>Ac r) P:=
 BY (Gc d c b e (by omega)) (BY (X' (Hv c) b (by omega)) (MI h))
theorem Uc(c:nT n fu a b):Ok (Vh fu (a,b)) λr=>CK r (λw=>gL a w||gL b w) (GY a b):=by
 refine N7 (λh=>?_) λ_=>N7 (λh=>?_) λ_=>?_;· obtain rfl:a=[]:=OF.1 (by omega);refine Qy c.hb c.sb c.hn c.hf c.bp (((MV b).congr (funext λw=>?_)).mono (wi _ _));rw[Hx];rfl
 ·obtain rfl:b=[]:=OF.1 (by omega);refine Qy c.ha c.sa c.hn c.hf c.bp (((MV a).congr (funext λw=>?_)).mono (mf _ _));rw[Hx];simp[gL]
 ·refine Oz (PG (f:=λx y=>x||y) c λx y=>?_) λr h=>MI h;grind[uZ]
theorem Oo(c:nT n fu a b):Ok (YO fu (a,b)) λr=>CK r (λw=>gL a w&& !gL b w) (GY a b):=by
 refine N7 (λh=>?_) λ_=>N7 (λh=>?_) λ_=>?_;· obtain rfl:a=[]:=OF.1 (by omega);refine MI (CK.nil.congr (funext λw=>?_));grind[Hx]
 ·obtain rfl:b=[]:=OF.1 (by omega);refine Qy c.ha c.sa c.hn c.hf c.bp (((MV a).congr (funext λw=>?_)).mono (mf _ _));rw[Hx];simp[gL]
 ·refine Oz (PG (f:=λx y=>x&& !y) c λx y=>?_) λr h=>MI h;grind[uK]
theorem jl(c:nT n fu a b):Ok (uu fu (a,b)) λr=>CK r (λw=>gL a w&&gL b w) (GY a b):=by
 refine N7 (λh=>?_) λ_=>N7 (λh=>?_) λ_=>?_;· obtain rfl:a=[]:=OF.1 (by omega);refine MI (CK.nil.congr (funext λw=>?_));grind[Hx]
 ·obtain rfl:b=[]:=OF.1 (by omega);refine MI (CK.nil.congr (funext λw=>?_));grind[Hx]
 ·refine Oz (PG (f:=λx y=>x&&y) c λx y=>?_) λr h=>MI h;grind[uv]
def fZ(o:Int)(x y:Bool):Bool:=if o=38 then x&&y else if o=124 then x||y else x&& !y
theorem eX(fu:Nat)(o:Int)(x y:Bool):F25 fu (o,x,y)=Ac (fZ o x y):=by
 rw[F25];unfold fZ;dsimp only[iF,iB];by_cases h:o=38;· rw[decide_eq_true h,if_pos h];cases x<;>rfl
 ·by_cases a:o=124;· rw[decide_eq_false h,if_neg h,decide_eq_true a,if_pos a];cases x<;>rfl
  ·rw[decide_eq_false h,if_neg h,decide_eq_false a,if_neg a];cases x<;>rfl
theorem Wr{o:Int}(c:nT n fu a b):Ok (F29 fu (a,b,o)) λr=>CK r (λw=>fZ o (gL a w) (gL b w)) (GY a b):=by have h:=RG a b;refine BY (MW c.ha c.sa c.hn c.hf (by have:=c.bp;omega)) (BY (MW c.hb c.sb c.hn c.hf (by have:=c.bp;omega)) (BY Od (BY Od ?_)));exact(cr (eX fu o) (Hu a) (Hu b) (Hv c.sa) (Hv c.sb) (by have:=c.hM;omega) c.hn c.hf c.bp (by have:=c.hfM;omega)).mono λr d=>d.mono h
theorem MC(c:nT n fu a b):Ok (W0 fu (a,b)) λr=>CK r (λw=>gL a w&& !gL b w) (GY a b):=by exact Oz (Wr c) λr h=>MI h
theorem dk(c:nT n fu a b):Ok (jL fu (a,b)) λr=>CK r (λw=>gL a w&&gL b w) (GY a b):=by rw[jL];exact Oz (Wr c) λr h=>MI h
theorem jm(fu:Nat):F8 fu () =Ac KN:=(rfl)
theorem CK.Gx(h:CK r L m):r=[]↔L=λ_=>Ak:=by
 constructor;· rintro rfl;rw[<-h.lg];exact funext λw=>DG 0 w
 ·intro e;exact h.unique ((CK.nil (m:=0)).congr e.symm)
def Ij(l:Tb)(i:Nat):List Cu:=(Bf l (i:Int)).2
def lw(l:Tb):Nat->Nat->Option Ay
 |0,i=>if fin l (i:Int)then Ac []else Dc
 |k+1,i=>(Ij l i).findSome? λe=>(lw l k e.2.2.toNat).map λw=>UInt8.ofNat e.1.toNat::w
def Em(l:Tb)(k i:Nat):Bool:=(lw l k i).isSome
theorem He(l:Tb)(i:Nat):Em l 0 i=fin l (i:Int):=by grind[Em,lw,fin]
theorem Hf(l:Tb)(k i:Nat):Em l (k+1) i=(Ij l i).any λe=>Em l k e.2.2.toNat:=by
 rw[Em,show lw l (k+1) i=(Ij l i).findSome? λe=>(lw l k e.2.2.toNat).map λw=>UInt8.ofNat e.1.toNat::w from rfl];induction Ij l i with
 |nil=>rfl
 |cons e c b=>
  rw[List.findSome?_cons,List.any_cons,<-b,Em];cases lw l k e.2.2.toNat with
  |none=>rfl
  |some w=>rfl
theorem Um{l:Tb} :∀ {k i:Nat} {w:Ay},lw l k i=Ac w->w.length=k
 |0,i,w,h=>by grind[lw]
 |k+1,i,w,h=>by obtain⟨e,_,a⟩:=Afa h;obtain⟨v,b,rfl⟩:=Pd.1 a;rw[Abo,Um b]
theorem Hc{i:Nat}(h:i<l.length):Ij l i=l[i].2:=by grind[Ij,Bv]
theorem Ry{l:Tb}{i:Nat}(h:l.length<=i):Ij l i=[]:=by grind[Ij,Hb]
theorem Py{l:Tb}(h:Bg l)(i:Nat):BU (Ij l i) 256 l.length:=by
 rcases Aal i l.length with k|k;· rw[Hc k];exact h _ (AN k)
 ·rw[Ry k];exact .nil
theorem oV(h:Bg l){i:Nat}(a:Em l k i=Br):i<l.length:=by
 cases k with
 |zero=>grind[He,Qk]
 |succ k=>grind[Hf,Ry]
theorem Mt{l:Tb}(h:Bg l){k:Nat} :∀ {d i:Nat},Em l (k+d) i=Br->∃j,j<l.length/\Em l k j=Br
 |0,i,a=>⟨i,oV h a,a⟩
 |d+1,i,a=>by rw[<-Ads,Hf]at a;obtain⟨e,_,b⟩:=Acj.1 a;exact Mt h b
theorem ZQ{l:Tb}(h:Bg l):∀ {w:Ay} {i:Nat},Au l (i:Int) w=Br->Em l w.length i=Br
 | [],i,g=>by rw[Ado,He];exact g
 |c::w,i,g=>by
  have a:Au l (Bn l i c.toNat) w=Br:=g;have f:Bn l i c.toNat=AQ (Ij l i) c.toNat:=by rfl
  rw[f]at a;unfold AQ at a;cases d:(Ij l i).find? (BQ c.toNat)with
  |none=>grind[Ef]
  |some e=>
   have j:=Ach d;have k:=(Py h i).rg e j;rw[Abo,Hf];refine Acj.2 ⟨e,j,ZQ h (w:=w) ?_⟩;grind
theorem Rw(l:Tb)(i:Int)(v w:Ay):runT l i (v++w)=runT l (runT l i v) w:=by simp[runT]
theorem T3(C:Bg l) :∀(n:Nat) (w:Ay),w.length=n->Au l i w=Br->∃v,v.length<l.length/\Au l i v=Br:=by
 intro n;induction n using rZ with
 |_ n A=>
  intro w B p;rcases Aal w.length l.length with h|h;· grind
  ·have f:∀j,0<=runT l i (w.take j)/\runT l i (w.take j)<l.length:=λj=>by
    have e:runT l i w=runT l (runT l i (w.take j)) (w.drop j):=by grind[Rw,wj]
    have d:fin l (runT l (runT l i (w.take j)) (w.drop j))=Br:=by rw[<-e];exact p
    constructor;· grind[Int.not_lt,fin_neg,G']
    ·refine Int.not_le.1 λm=>?_;cases y:w.drop j with
     |nil=>rw[y]at d;rw[show runT l (runT l i (w.take j)) []=runT l i (w.take j)from rfl,Qk m]at d;grind
     |cons c v=>
      grind[HX,Vu,fin_neg,G']
   have g:¬(Bi (w.length+1) λj=>(runT l i (w.take j)).toNat).Nodup:=λg=>by
    have:=Co (b:=aO l.length) g λx z=>by obtain⟨j,_,rfl⟩:=EG.1 z;have:=f j;exact Abf.2 (by omega)
    rw[Az,Aip]at this;omega
   have s:∃a b,a<b/\b<=w.length/\runT l i (w.take a)=runT l i (w.take b):=by refine IS λt=>g ?_;refine Aaw.2 λa b p u k=>?_;rw[Bo,Bo];intro heq;rw[Az]at u;have:=f a;have:=f b;exact t ⟨a,b,k,by omega,by omega⟩
   obtain⟨a,b,k,u,heq⟩:=s;refine A (w.take a++w.drop b).length ?_ _ rfl ?_;· rw[Aab,Abh,Ajj];omega
   grind[Au,Rw,wj]
theorem Jy(h:CK r L m)(e:r≠ []):∃k,k<r.length/\Em r k 0=Br:=by
 have a:∃w,Au r 0 w=Br:=IS λb=>e (h.Gx.2 (by rw[<-h.lg];grind));obtain⟨w,d⟩:=a;obtain⟨v,f,c⟩:=T3 h.wf _ w rfl d;exact⟨v.length,f,ZQ h.wf (i:=0) c⟩
theorem H7(h:∃k,k<n/\Em l k 0=Br):∃k,k<n/\Em l k 0=Br/\∀j,j<k->Em l j 0=Ak:=by
 obtain⟨k,f,g⟩:=h;induction k using rZ with
 |_ k i=>
  grind
def Cv(l:Tb)(k:Nat):List Bool:=Bi l.length (Em l k)
theorem cR(B:Bg l)(x:DW l n)(F:n<4294967296)(E:n<fu):uU fu (l,Cv l k)=Ac (Cv l (k+1)):=by
 refine(Ok.eq ?_);have z:=x.1;refine PC (by grind) ?_;refine SA (λi (s:List Bool)=>s=Bi l.length λj=>Ds (j<i)&&Em l (k+1) j) l.length (by grind[DC,AP]) (by omega) (λi s nx p r u=>?_) (λs nx r=>?_)
 ·have A:(l[i]).2.length<=n:=x.2 _ (AN p);have y:=B _ (AN p);have g:Ij l i=(l[i]).2:=Hc p;refine P2 (Aah p ?_);refine SA (λm (t:List Bool)=>t=Bi l.length λj=>if j=i then((l[i]).2.take m).any (λe=>Em l k e.2.2.toNat)else Ds (j<i)&&Em l (k+1) j) (l[i]).2.length ?_ (by omega) (λm t v q d f=>?_) (λt v d=>?_)
  ·grind
  ·have w:t.length=l.length:=by rw[d,Az]
   have c:t[i]'(by omega)=((l[i]).2.take m).any (λe=>Em l k e.2.2.toNat):=by simp only[d];rw[Bo,if_pos rfl]
   have D:=y.rg _ (AN q);have C:idx (Cv l k) ((l[i]).2[m]).2.2=Ac (Em l k ((l[i]).2[m]).2.2.toNat):=by grind[Cv,Fp,Az,Bo]
   refine P2 (Aah q (Aah (by dsimp only;omega) (PY (λh=>Aah (by dsimp only;omega) (f _ ?_)) λh=>BY C (Aah (by dsimp only;omega) (f _ ?_)))))
   ·rw[d,Bb];refine AP λj _=>?_;by_cases a:j=i;· rw[if_pos a,if_pos a,GB q,Afn,<-c,h];rfl
    ·rw[if_neg a,if_neg a,if_neg a]
   ·rw[d,Bb];refine AP λj _=>?_;by_cases a:j=i;· rw[if_pos a,if_pos a,GB q,Afn,<-c,h];simp
    ·rw[if_neg a,if_neg a,if_neg a]
  ·refine P3 (u _ ?_);rw[d,Ai];refine AP λj _=>?_;by_cases a:j=i;· rw[if_pos a,Hf,a,g];simp
   ·rw[if_neg a,show Ds (j<i+1)=Ds (j<i) by simp;omega]
 ·refine P3 (MI ?_);rw[r];exact AP λj a=>by simp[a]
theorem LO{l:List Bool}(d:l.length<fu):eF fu (l,Br)=Ac (l.any λb=>b):=by
 refine(Ok.eq ?_);rw[eF];have key:Ok (uT fu (l,Br)) λi=>Ds ((0:Int)<=i)=l.any λb=>b:=by
  refine TV (λk=>(l.take k).any (λb=>b)=Ak) l.length (by simp) d (λk nx c a f=>?_) (λnx a=>?_)
  ·refine P2 (Aah c (PY (λh=>MI ?_) λh=>f ?_))
   ·grind[decide_eq_true,List.any_eq_true,Als]
   grind[cu]
  simp_all[P3,MI,Ai]
 grind[Oz,MI]
theorem Vz{i:Nat}(hi:i<l.length)(h:Em l k i=Br):((Cv l k).any λb=>b)=Br:=
 Acj.2 ⟨_,EG.2 ⟨i,hi,rfl⟩,h⟩
def vD(w:Ay)(r:List (List UInt8)×Option Bool):Prop:=r.1.head?=Ac w
theorem Wk{kb:Bool->Option (List (List UInt8)×Option Bool)}{r:List (List UInt8)×Option Bool}(h:vD w r):Ok (xv kb r.1 r.2) (vD w):=by
 obtain⟨l,b⟩:=r;cases l with
 |nil=>cases h
 |cons y l=>
  cases h;unfold xv;split;· exact MI rfl
  ·exact MI rf
theorem Wl{kb:Bool->Option (List (List UInt8)×Bool)}{r:List (List UInt8)×Option Bool}(h:vD w r):Ok (rG kb r.1 r.2) λo=>o.1.head?=Ac w:=by
 obtain⟨l,b⟩:=r;cases l with
 |nil=>cases h
 |cons y l=>
  cases h;unfold rG;split;· exact MI rfl
  ·exact MI rf
theorem RA{i:Nat}(h:Em l k i=Ak):lw l k i=Dc:=by simp_all[lw,Em]
def vU(l:List Int):Ay:=l.map λn=>UInt8.ofNat n.toNat
theorem Vw{l:Tb}{n K:Nat}(G:Bg l)(E:DW l n)(N:n<4294967296){b:List (List Bool)}(D:b=Bi (K+1) (Cv l)):∀ {k fu:Nat} {i:Nat} {pre:List Int} {w:Ay},
  k<=K->K<4294967296->n+300+k<fu->pre.length+k<4294967296->lw l k i=Ac w->i<l.length->Ok (YR fu ((i:Int),(k:Int),pre,l,b)) (vD (vU pre++w))
 |0,fu+1,i,pre,w,M,C,J,O,h,o=>by
  rw[show YR (fu+1) ((i:Int),((0:Nat):Int),pre,l,b)=_ from d120 fu _ _ _ _ _];unfold u5;have:w=[]:=by have:=Um h;grind
  subst this;exact VB (by rfl) (MI (by simp[vD,vU]))
 |k+1,fu+1,i,pre,w,M,C,J,O,h,o=>by
  rw[show YR (fu+1) ((i:Int),((k+1:Nat):Int),pre,l,b)=_ from d120 fu _ _ _ _ _];unfold u5;have P:(l[i]).2.length<=n:=E.2 _ (AN o);have L:=G _ (AN o);have s:Ij l i=(l[i]).2:=Hc o;have h:((l[i]).2.findSome? λe=>(lw l k e.2.2.toNat).map λw=>UInt8.ofNat e.1.toNat::w)=Ac w:=s▸h;refine P3 (Aah o ?_);refine TV (λm=> ∀j (_:j<m) (d:j<(l[i]).2.length),Em l k ((l[i]).2[j]).2.2.toNat=Ak) (l[i]).2.length (by omega) (by omega) (λm nx x t y=>?_) (λnx t=>?_)
  ·have g:=L.rg _ (AN x);refine P2 (Aah x ?_);obtain⟨f,rfl⟩:∃f,fu=f+1:=⟨fu-1,by omega⟩;refine P2 (Abx (by omega) ?_);have Q:idx b (((k+1:Nat):Int)-1)=Ac (Cv l k):=by
    grind[Bl,Az,Bo]
   have R:idx (Cv l k) ((l[i]).2[m]).2.2=Ac (Em l k ((l[i]).2[m]).2.2.toNat):=by simp_all[Cv,Fp,Az,Bo]
   refine BY Q (BY R (PY (λq=>?_) λq=>y ?_))
   ·obtain⟨v,F⟩:=Abk.1 q;have z:w=UInt8.ofNat ((l[i]).2[m]).1.toNat::v:=by
     have:((l[i]).2.findSome? λe=>(lw l k e.2.2.toNat).map λw=>UInt8.ofNat e.1.toNat::w)=Ac (UInt8.ofNat ((l[i]).2[m]).1.toNat::v):=by
      conv=>lhs;rw[<-Ace m (l[i]).2]
      rw[Agr,Aar x,List.findSome?_cons,F];have:((l[i]).2.take m).findSome? (λe=>(lw l k e.2.2.toNat).map λw=>UInt8.ofNat e.1.toNat::w)=Dc:=by refine Alf.2 λe g=>?_;obtain⟨j,d,rfl⟩:=Aep.1 g;rw[RA (t j (by omega) (by omega))];rfl
      rw[this];rfl
     rw[this]at h;cases h;rfl
    have A:=Vw G E N D (k:=k) (fu:=f+1) (i:=((l[i]).2[m]).2.2.toNat) (pre:=pre++[((l[i]).2[m]).1]) (w:=v) (by omega) C (by omega) (by rw[Aab,Acm];omega) F (by omega);rw[Abd g.2.2.2.1,show(k:Int)=(((k+1:Nat):Int)-1) by omega]at A;have I:vU (pre++[((l[i]).2[m]).1])++v=vU pre++w:=by rw[z];simp[vU]
    rw[I]at A;refine Aaq (PC ⟨rfl,rfl⟩ (PC (p:=GK.F8 _) (by omega) (PC ⟨by unfold Aj;omega,by decide⟩ (Oz A λr q=>Wk q))))
   grind
  ·have:((l[i]).2.findSome? λe=>(lw l k e.2.2.toNat).map λw=>UInt8.ofNat e.1.toNat::w)=Dc:=by
    refine Alf.2 λe g=>?_;obtain⟨j,d,rfl⟩:=Aau g;rw[RA (t j d d)];rfl
   rw[this]at h;cases h
theorem WD:4294967296<=Aj:=by decide
theorem Rq(p:Bg l)(m:DW l n)(g:n<4294967296)(h0:0<l.length)(f:k<4294967296)(e:n+300+k<fu):
  Ok (YQ fu (l,k,1,(k:Int),Bi (k+1) (Cv l))) λr=>(Em l k 0=Ak->r=([],Ac Br))/\∀w,lw l k 0=Ac w->vD w r:=by
 have q:idx (Bi (k+1) (Cv l)) ((k:Int)+0)=Ac (Cv l k):=by simp_all[Int.add_zero,Bl,Az,Bo]
 have s:idx (Cv l k) (0:Int)=Ac (Em l k 0):=by grind[Cv,Fp,Az,Bo]
 refine PC (by simp) (BY q (BY s ?_));cases b:Em l k 0 with
 |false=>exact VX rfl (MI ⟨λ_=>rfl,λw h=>by grind[Em]⟩)
 |true=>
  obtain⟨w,a⟩:=Abk.1 b;have:=Vw p m g (K:=k) rfl (k:=k) (fu:=fu) (i:=0) (pre:=[]) (Aaf _) f e (by grind) a h0;refine P6 rfl (Oz this λr c=>(Wk c).mono λo j=>⟨λh=>(by grind),λv d=>?_⟩);rw[a]at d;cases d;exact j
theorem Zd(J:Bg l)(I:DW l n)(hn:n<4294967295)(h0:0<l.length)(C:m<l.length)(N:Em l m 0=Br)(v:∀j,j<m->Em l j 0=Ak)(hf:2*n+400<fu):
  Ok (TL fu l) λr=> ∃w,r.1.head?=Ac w:=by
 have Q:=WD;obtain⟨P,K⟩:=Abk.1 N;have Y:=I.1;refine SA (λk (s:List Bool)=>s=(Bi k λi=>fin l (i:Int))) l.length rfl (by omega) (λk s nx C B H=>?_) (λs nx B=>?_);· refine P2 (Aah C (PC (by grind[Az]) (H _ ?_)));grind[Dl,Eg]
 refine P3 (PC (by omega) ?_);have t:s=Cv l 0:=by rw[B];exact AP λi _=>(He l i).symm
 refine Xn (X:=List (List Bool)×Int) (λx=> ∃k:Nat,x.2=k/\k<=m/\x.1=Bi (max k 1) (Cv l)) (λx=>m+1-x.2.toNat) ⟨0,rfl,by omega,by rw[t];rfl⟩ (by omega) λx nx2 S _ g=>?_;obtain⟨e,z⟩:=x;obtain⟨k,O,V,c⟩:=S;dsimp only at O c g;subst O;have q:((Cv l k).any λb=>b)=Br:=by obtain⟨j,U,E⟩:=Mt J (k:=k) (d:=m-k) (i:=0) (by rw[show k+(m-k)=m by omega];exact N);exact Vz U E
 have u:(Cv l k).length<fu:=by unfold Cv;rw[Az];omega
 have p:∀ {R:List (List Bool)} {kb:Bool->Option (List (List UInt8)×Bool)},R=Bi (k+1) (Cv l)->
   (k<m->Ok (kb Br) λr=> ∃w,r.1.head?=Ac w)->
   Ok (Ab (YQ fu (l,ae (k:Int),ae ((k:Int)+1-(k:Int)),(k:Int),R)) λA=>rG kb A.1 A.2) λr=> ∃w,r.1.head?=Ac w:=λ{R kb} T F=>by
  rw[T,show ae (k:Int)=k by omega,show ae ((k:Int)+1-(k:Int))=1 by omega];refine Oz (Rq J I (by omega) h0 (by omega) (by omega)) λr y=>?_;rcases Aal k m with h|h;· rw[y.1 (v k h)];have:=F h;exact this
  ·obtain rfl:k=m:=by omega
   exact(Wl (y.2 P K)).mono λo W=>⟨P,W⟩
 dsimp only;refine P2 (N7 (λC=>?_) λC=>?_)
 ·have Z:idx e ((k:Int)-1)=Ac (Cv l (k-1)):=by
   rw[show((k:Int)-1)=((k-1:Nat):Int) by omega,c,Bl (by rw[Az];omega),Bo]
  have hc:=cR (l:=l) (k:=k-1) (fu:=fu) J I (by omega) (by omega);rw[show k-1+1=k by omega]at hc;have a:e++[Cv l k]=Bi (k+1) (Cv l):=by rw[c,show max k 1=k by omega,Dl]
  have M:e.length=k:=by rw[c,Az];omega
  have L:idx (e++[Cv l k]) (k:Int)=Ac (Cv l k):=by rw[a,Bl (by rw[Az];omega),Bo]
  refine Aaq (BY Z (BY hc (Abw (BY L (BY (LO u) ?_)))));rw[q];refine P6 rf (Aaq (Aaq (PC ⟨⟨by omega,by omega⟩,rf,by rw[a,Az];omega⟩ ?_)));refine p a λG=>P6 rf (Aaq (g _ ⟨k+1,by dsimp only;omega,by omega,by dsimp only;rw[a,show max (k+1) 1=k+1 by omega]⟩ (by dsimp only;omega)))
 ·obtain rfl:k=0:=by omega
  have a:e=Bi (0+1) (Cv l):=c;have L:idx e ((0:Nat):Int)=Ac (Cv l 0):=by rw[a,Bl (by rw[Az];omega),Bo]
  refine BY L (BY (LO u) ?_);rw[q];refine P6 rf (Aaq (Aaq (PC ⟨⟨by omega,by omega⟩,rf,by rw[a,Az];omega⟩ ?_)));refine p a λG=>P6 rf (Aaq (g _ ⟨1,by dsimp only;omega,by omega,by dsimp only;rw[a];rfl⟩ (by dsimp only;omega)))
theorem aI(h:CK r L m)(i:DW r n)(t:n<4294967295)(p:2*n+4000<fu):Ok (Ve fu r) λo=>o.2=Ds (r≠ []):=by
 have key:Ok (YP fu (r,1)) λo=>(r=[]->o=[])/\(r≠ []->∃w,o=[w]):=by
  rw[YP,k_ (by omega)];refine Qb (by simp) (BY (Gc h.wf.by i (by omega) (by omega) (by omega)) ?_);rw[h.IU];refine BY (rfl) ?_;by_cases c:r=[]
  ·subst c;have:TL fu []=Ac ([],Br):=by
    refine(Ok.eq ?_);have j:=WD;rw[TL];obtain⟨f,rfl⟩:∃f,fu=f+1:=⟨fu-1,by omega⟩;rw[Ad];exact Qb (by simp) (MI rfl)
   refine BY this ?_;exact MI ⟨λ_=>rfl,λh=>absurd rf h⟩
  ·have s:0<r.length:=Aea.2 c;obtain⟨k,q,e,g⟩:=H7 (Jy h c);refine Oz (Zd h.wf i t s q e g (by omega)) λo d=>?_;obtain⟨l,b⟩:=o;cases l with
   |nil=>grind
   |cons y l=>
    refine PC (by trivial) (Abx (by decide) (VB (by simp) (MI ⟨λh=>absurd h c,λ_=>⟨y,rf⟩⟩)))
 rw[Ve];refine Oz key λo d=>?_;by_cases c:r=[];· rw[d.1 c];exact VB rfl (MI (by simp[c]))
 ·obtain⟨w,rfl⟩:=d.2 c;exact Qb (by simp) (BY (a:=w) rfl (MI (by simp[c])))
abbrev Sc:=Bool×Bool×Bool×(List Sp×List Sp)×Tb
end
section
variable{m k:Nat}{s:Sc}{fu:Nat}{L:Lg}{r:Tb}
def FO:Sc:=(Ak,Ak,Ak,([],[]),[])
structure dz(k m:Nat)(s:Sc):Prop where
 sm:Lw s.2.2.2.1
 n1:s.2.2.2.1.1.length<=k
 n2:s.2.2.2.1.2.length<=k
 bt:N0 s.2.2.2.2
 sh:DW s.2.2.2.2 m
structure Il(k m:Nat)(s:Sc):Prop where
 nu:Ei s.2.2.2.1 (A8 s.2.2.2.1) (A6 s.2.2.2.1)
 n1:s.2.2.2.1.1.length<=k
 n2:s.2.2.2.1.2.length<=k
 ln:CK s.2.2.2.2 (Au s.2.2.2.2 0) m
theorem CK.self(h:CK r L m):CK r (Au r 0) m:=⟨h.wf,h.can,rfl,h.len⟩
theorem CK.gL(h:CK r L m):gL r=L:=by unfold Go.GL.gL;rw[h.IU,h.lg]
theorem Ei.self{r:List Sp×List Sp}{I F:Int->Prop}(h:Ei r I F)(hi:∀n,I n-> -100000000000<=n/\n<=100000000000)(a:∀y,F y-> -1000000000000000<=ur y/\ur y<=1000000000000000):Ei r (GL.A8 r) (GL.A6 r):=
 h.congr (λn=>((h.A8 n).trans ⟨Air,λk=>⟨k,hi n k⟩⟩).symm) λy=>((h.A6 y).trans ⟨Air,λk=>⟨k,a y k⟩⟩).symm
theorem Il.sc(h:Il k m s)(a:k<=12):dz k (max m 256) s:=
 ⟨h.nu.sm (Aam h.n1 a) (Aam h.n2 a),h.n1,h.n2,h.ln.wf.by,h.ln.wf.sh (Aam h.ln.len (Akx _ _)) (Aji _ _)⟩
theorem PR:Ei (([],[]):List Sp×List Sp) (A8 ([],[])) (A6 ([],[])):=
 ⟨[],rfl, .nil,by simp, .nil,by simp,λn=>⟨λh=>absurd h Bc,λh=>absurd h.1 Bc⟩,λn=>⟨λh=>absurd h Bc,λh=>absurd h.1 Bc⟩⟩
theorem L0:Il k m FO:=⟨PR,Abg _,Abg _,CK.nil.self⟩
theorem HW(h:dz k m s)(j:m<1000000000)(i:1000000000000<fu):Ok (dL fu s) λb=>b=Br↔Ei s.2.2.2.1 (A8 s.2.2.2.1) (A6 s.2.2.2.1)/\Bg s.2.2.2.2/\Cb s.2.2.2.2=s.2.2.2.2:=by
 obtain⟨r,e,d,_⟩:=Ep (fu:=fu) h.sm (by omega);have l:=h.sm.n1;have n:=h.sm.n2;have g:F79 fu s.2.2.2.1=Ac (Ds (s.2.2.2.1=r)):=by refine(Ok.eq ?_);exact BY e (BY (v_ (by omega) (by omega)) (MI rf))
 have a:s.2.2.2.1=r↔Ei s.2.2.2.1 (A8 s.2.2.2.1) (A6 s.2.2.2.1):=⟨λc=>c▸d,λc=>c.unique d⟩;refine BY g (PY (λc=>Oz (L5 h.bt h.sh (by omega) (by omega) (by omega)) λb f=>MI ?_) λc=>MI ?_);all_goals grind
theorem Il.valid(h:Il k m s)(d:k<=12)(f:m<=100000000)(a:1000000000000<fu):dL fu s=Ac Br:=by obtain⟨b,e,c⟩:=HW (fu:=fu) (h.sc d) (by omega) a;rw[e,c.2 ⟨h.nu,h.ln.wf,h.ln.can⟩]
theorem Il.IU(h:Il k m s)(b:k<=12)(c:m<=100000000)(a:1000000000000<fu):og fu s=Ac s:=by refine(Ok.eq ?_);exact BY (h.valid b c a) (P6 rf (MI rf))
theorem Gy{a b:Tb}{M:Lg}{p:Nat}(c:CK a L m)(d:CK b M p)(h:(m+2)*(p+2)<=1000000000)(g:1000000000000<fu):nT (max (max m p) 256) fu a b:=by have e:=c.len;have f:=d.len;have i:GY a b<=(m+2)*(p+2):=Abv (by omega) (by omega);have j:m<=(m+2)*(p+2):=Aam (by omega:m<=(m+2)*1) (Abv (Aaf _) (by omega));have k:p<=(m+2)*(p+2):=Aam (by omega:p<=1*(p+2)) (Abv (by omega) (Aaf _));exact⟨c.wf.by,d.wf.by,c.wf.sh (by omega) (by omega),d.wf.sh (by omega) (by omega),by omega,by omega,by omega,by omega,by omega⟩
theorem orB(fu:Nat)(x y:Bool):vF fu (x,y)=Ac (x||y):=(by grind[vF])
theorem Ul(fu:Nat)(x y:Bool):YJ fu (x,y)=Ac (x&& !y):=(by grind[YJ])
theorem SY(h:Il k m s)(v:k<=12)(C:m<=100000)(g:1000000000000<fu):uV fu s=Ac s:=by
 obtain⟨a,b,c,d,L⟩:=s;have z:og fu FO=Ac FO:=(L0 (k:=0) (m:=0)).IU (by omega) (by omega) g;have i:=h.nu;have A:=h.n1;have B:=h.n2;have f:=h.ln;obtain⟨r,o,x,_⟩:=oZ (fu:=fu) (i.sm (by omega) (by omega)) ((PR).sm (by simp) (by simp)) (by grind) (by omega);have j:d=r:=i.unique (x.congr (λn=>⟨λh=>h.resolve_right λh=>absurd h.1 Bc, .inl⟩) λn=>⟨λh=>h.resolve_right λh=>absurd h.1 Bc, .inl⟩);obtain⟨t,p,y⟩:=Uc (Gy (fu:=fu) f (CK.nil (m:=0)) (by omega) g);have l:L=t:=f.unique (y.congr (funext λw=>by rw[f.gL,Hx,Alj]));rw[<-j]at o;rw[<-l]at p;have e:uX fu ((a,b,c,d,L),FO)=Ac (a,b,c,d,L):=by refine(Ok.eq ?_);refine BY (h.IU v (by omega) g) (BY z (BY (orB fu _ _) (BY (orB fu _ _) (BY (orB fu _ _) (BY o (BY p (MI ?_)))))));simp[FO]
 have u:uW fu ((a,b,c,d,L),FO)=Ac (a,b,c,d,L):=by refine(Ok.eq ?_);exact BY e (MI rf)
 refine(Ok.eq ?_);exact BY u (MI rf)
theorem M3{fu k m:Nat}{s:Sc}(h:Il k m s)(C:k<=12)(H:m<=100000000)(A:1000000000000<fu):Ok (eE fu s) λb=>b=Br↔s=FO:=by
 obtain⟨a,b,c,t,L⟩:=s;have l:=h.nu;have F:=h.n1;have G:=h.n2;have q:=h.ln;dsimp only at l F G q;obtain⟨r,v,f,E,y,lf⟩:=XH (fu:=fu) (l.sm (by omega) (by omega)) (by omega);obtain rfl:t=r:=l.unique E;have B:f= !decide (t=([],[])):=by
  cases f with
  |false=>rw[(Agj l).1 (lf.no rfl).2];rfl
  |true=>rw[decide_eq_false λe=>(Agj l).2 e v (lf.yes rfl).1];rfl
 obtain⟨⟨w,g⟩,z,x⟩:=aI (fu:=fu) (n:=max m 256) q (q.wf.sh (Aam q.len (by omega)) (by omega)) (by omega) (by omega);have key:Ok (uS fu (a,b,c,t,L)) λo=>o.2.2.2.2.2=(a||b||c||f||g):=by refine BY (h.IU C (by omega) A) (BY y (BY z ?_));dsimp only;refine PY (λd=>MI (by grind)) λd=>PY (λi=>MI (by grind)) λi=>PY (λj=>MI (by grind)) λj=>PY (λp=>MI (by rw[d,i,j,p];rfl)) λp=>PY (λu=>MI (by rw[d,i,j,p,u];rfl)) λu=>MI (by rw[d,i,j,p,u];rfl)
 grind[eE,FO,Oz,MI]
abbrev Bs:=Vl×Vl
end
abbrev BC:=List (Ay×Int×Bs)×List (Tb×Bs)
abbrev Ig:=List Bs×List Bs
section
variable{c:BC}{fu:Nat}{v:List Int}{b d k i m:Nat}{ls:List Tb}{n:Nat}{s:List Bool}{x:Bs}{α:Type}{y:Sc}{l:List (Ay×Int×Bs)}{a:Nat}{u:List Int}{es:List Cu}{p j:Nat}{r:List Sp×List Sp}{P:Bs->Prop}
structure Cc(c:BC)(v:List Int):Prop where
 len:v.length=c.2.length+c.1.length
 cl:∀i (h:i<c.2.length), -1<=v.getD i 0/\v.getD i 0<(c.2[i]).1.length
 fd:∀j (h:j<c.1.length), -1<=v.getD (c.2.length+j) 0/\v.getD (c.2.length+j) 0<=(c.1[j]).1.length
structure dy(c:BC):Prop where
 nf:c.1.length<=4
 nc:c.2.length<=4
 lb:∀f∈c.1,f.1.length<=60
 st:∀k∈c.2,k.1.length<=20000
 bt:∀k∈c.2,N0 k.1
 ed:∀k∈c.2,∀s∈k.1,s.2.length<=256
theorem AO{α:Type}{l:List α}{i:Nat}{d:α}(h:i<l.length):l.getD i d=l[i]:=by grind
theorem BG{l:List Int}(h:i<l.length):idx l (i:Int)=Ac (l.getD i 0):=by grind[Bl,AO]
theorem JF{l:List Int}(h:a+b<l.length):idx l ((a:Int)+(b:Int))=Ac (l.getD (a+b) 0):=by rw[show((a:Int)+(b:Int))=((a+b:Nat):Int) by omega,BG h]
def XI(v:List Int):List Int:=v.flatMap λn=>44::(Lib.itoa n).map λb=>((b.toNat:Nat):Int)
def Dw(v:List Int):Ay:=(XI v).map λn=>UInt8.ofNat n.toNat
theorem XK{n:Int}(h0: -1<=n)(h:n<10000000000):(Lib.itoa n).length<=10:=by
 rcases Aeg n 0 with b|b
 ·obtain rfl:n= -1:=by omega
  have:(Lib.itoa (-1)).length=(Lib.decDigits 1).length+1:=rfl;simp_all[Lib.decDigits_length,IJ]
 grind[OK]
theorem Sf{v:List Int}(h:∀n∈v, -1<=n/\n<10000000000):(XI v).length<=11*v.length:=by
 induction v with
 |nil=>trivial
 |cons n v c=>
  have d:=XK (h n (Aas ..)).1 (h n (Aas ..)).2;have:=c λm b=>h m (Aag _ b);grind[XI]
theorem qL{v:List Int}{fu:Nat}(h:∀n∈v, -1<=n/\n<10000000000)(i:v.length<=100)(g:1000000000000<fu):yo fu v=Ac (Dw v):=by
 refine(Ok.eq ?_);refine SA (λk (s:List Int)=>s=XI (v.take k)) v.length (by rfl) (by omega) (λk s nx d c e=>?_) (λs nx c=>?_)
 ·have j:=h _ (AN d);have a:=Sf (v:=v.take k) λn e=>h n (Ack e);have f:F58 fu (v[k],10,s++[44])=Ac (s++[44]++(Lib.itoa v[k]).map λb=>((b.toNat:Nat):Int)):=by
   exact(d58i fu _ _).trans (Ok.eq (PC (by grind) (Aaq (MI rf))))
  refine P2 (Aah d (PC (by grind) (BY f (e _ ?_))));grind[XI,cu]
 ·refine P3 (MI ?_);rw[c,Ai];rfl
theorem Cc.mem(d:dy c)(b:Cc c v):∀n∈v, -1<=n/\n<20001:=λn f=>by
 obtain⟨i,e,rfl⟩:=Aau f;have g:=b.len;rcases Aal i c.2.length with h|h;· have:=b.cl i h;rw[AO e]at this;have:=d.st _ (AN h);omega
 ·obtain⟨j,rfl⟩:∃j,i=c.2.length+j:=⟨i-c.2.length,by omega⟩;have:=b.fd j (by omega);rw[AO e]at this;have:=d.lb _ (AN (by omega:j<c.1.length));omega
theorem Cc.key(d:dy c)(e:Cc c v)(f:1000000000000<fu):yo fu v=Ac (Dw v)/\(Dw v).length<=100:=by
 have g:=e.mem d;have k:=e.len;have i:=d.nf;have j:=d.nc;have a:∀n∈v, -1<=n/\n<10000000000:=λn h=>by grind
 grind[Dw,qL,Sf,List.length_map]
theorem Hw{l:List Int}{i j:Nat}{x:Int}(h:i<l.length):(l.set i x).getD j 0=if i=j then x else l.getD j 0:=by grind
def GZ:List Nat->Nat
 | []=>1
 |n::l=>n*GZ l
def NG:List Nat->List (List Int)
 | []=>[[]]
 |n::l=>(aO n).flatMap λ(i:Nat)=>(NG l).map λv=>((i:Int)-1)::v
theorem L4:∀l,(NG l).length=GZ l
 | []=>rfl
 |n::l=>by
  have:∀m,((aO m).flatMap λ(i:Nat)=>(NG l).map λv=>((i:Int)-1)::v).length=m*GZ l:=λm=>by
   induction m with
   |zero=>simp
   |succ m c=>rw[Aei,Acn,Aab,c,Aef,Aap,L4 l,Adx]
  exact this n
theorem ME:∀ {l:List Nat} {v:List Int},v.length=l.length->(∀i (h:i<l.length), -1<=v.getD i 0/\v.getD i 0+1<l[i])->v∈NG l
 | [],v,h,_=>by obtain rfl:v=[]:=OF.1 h;trivial
 |n::l,[],h,_=>by grind
 |n::l,x::v,h,k=>by have a:=k 0 (by simp);have a: -1<=x/\x+1<(n:Int):=a;refine Pe.2 ⟨(x+1).toNat,Abf.2 (by omega),By.2 ⟨v,ME (by grind) (λi b=>?_),by grind⟩⟩;exact k (i+1) (by grind)
def GG(c:BC):List Nat:=c.2.map (λk=>k.1.length+1)++c.1.map λf=>f.1.length+2
theorem Cc.NG(b:Cc c v):v∈NG (GG c):=by
 refine ME (by rw[b.len];simp[GG]) λi d=>?_;have e:i<c.2.length+c.1.length:=by grind[GG]
 rcases Aal i c.2.length with h|h;· have:=b.cl i h;grind[GG]
 ·obtain⟨j,rfl⟩:∃j,i=c.2.length+j:=⟨i-c.2.length,by omega⟩;have:=b.fd j (by omega);grind[GG]
theorem gJ{l:List Ay}(a:l.Nodup)(h:∀x∈l,∃v,Cc c v/\x=Dw v):l.length<=GZ (GG c):=by rw[<-L4,<-Aap (f:=Dw)];refine Co a λx d=>?_;obtain⟨v,b,rfl⟩:=h x d;exact By.2 ⟨v,b.NG,rfl⟩
theorem rS:1000000000000<=Aj:=by decide
structure FM(c:BC)(m:List (Ay×Bool)):Prop where
 nd:(m.map (·.1)).Nodup
 tr:∀p∈m,p.2=Br
 ky:∀p∈m,∃v,Cc c v/\p.1=Dw v
theorem FM.le{m:List (Ay×Bool)}(h:FM c m):m.length<=GZ (GG c):=by rw[<-Aap (f:=λp:Ay×Bool=>p.1)];refine gJ h.nd λx b=>?_;obtain⟨p,a,rfl⟩:=By.1 b;exact h.ky p a
theorem UB{m:List (Ay×Bool)}{x:Ay}(h:AF m x=Dc):x∉m.map (·.1):=by
 induction m with
 |nil=>simp
 |cons p m d=>
  grind[AF]
theorem OO{m:List (Ay×Bool)}{x:Ay}{b:Bool}(h:AF m x=Ac b):(x,b)∈m:=by
 induction m with
 |nil=>cases h
 |cons p m d=>
  grind[AF]
theorem FM.get{m:List (Ay×Bool)}(h:FM c m){x:Ay} :AF m x=Dc\/AF m x=Ac Br:=by
 cases a:AF m x with
 |none=>simp
 |some b=>exact .inr (congrArg Ac (h.tr _ (OO a)))
theorem FM.put{m:List (Ay×Bool)}(h:FM c m)(k:Cc c v)(i:AF m (Dw v)=Dc):FM c (Bz m (Dw v) Br)/\(Bz m (Dw v) Br).length=m.length+1:=by
 have e:Bz m (Dw v) Br=m++[(Dw v,Br)]:=by grind[Bz]
 rw[e];refine⟨⟨?_,λp d=>?_,λp d=>?_⟩,by simp⟩;· rw[Aan];refine Abb.2 ⟨h.nd,by simp,λa j b g=>?_⟩;simp at g;grind[UB]
 ·rcases AT.1 d with d|d;· exact h.tr p d
  grind
 ·rcases AT.1 d with d|d;· exact h.ky p d
  grind
theorem nO:4294967296<=4294967296:=by decide
theorem br(h:n<4294967296):F82 fu n=Ac []:=by refine(Ok.eq ?_);rw[F82];have a:=nO;refine P3 (Aaq (Aaq (N7 (λc=>PC (by omega) ?_) (λ_=>MI rfl))));obtain⟨k,b⟩:∃k,ae ((n:Int)-((0:Int)-(0:Int)))=k+1:=⟨n-1,by omega⟩;rw[b];simp only[qg];exact Abw (PC ⟨by omega,by omega⟩ (MI rfl))
theorem M7{fu:Nat}{L:List (List Bs)}(h:L.flatten.length<1000000000)(g:L.length<fu):ta fu L=Ac L.flatten:=by
 refine(Ok.eq ?_);rw[ta];have j:=nO;have i (k:Nat) (b:k<L.length):(L.take (k+1)).flatten=(L.take k).flatten++L[k]:=by rw[GB b,Ahb];simp
 have le (k:Nat):(L.take k).flatten.length<=L.flatten.length:=by have:=congrArg FB (congrArg List.flatten (Ace k L));rw[Ahb,Aab]at this;omega
 refine SA (λk (s:Int)=>s=((L.take k).flatten.length:Nat)) L.length (by simp) g ?_ ?_;· intro k s nx b e c;have t:=i k b;have l:=le (k+1);rw[t,Aab]at l;refine VB (by show(k:Int)<L.length;omega) (Aah b ?_);dsimp only;refine Aaq (P3 (c _ ?_));rw[t,Aab,e];omega
 ·intro s nx e;refine Qb (by show¬(L.length:Int)<L.length;omega) ?_;rw[Aav]at e;dsimp only;rw[e];refine BY (br (by omega)) ?_;refine SA (λk out=>out=(L.take k).flatten) L.length (by simp) g ?_ ?_
  ·intro k out nx b d c;have t:=i k b;have l:=le (k+1);rw[t,Aab]at l;have m:out.length+L[k].length<=4294967296:=by rw[d];omega
   refine VB (by show(k:Int)<L.length;omega) (Aah b (PC m (c _ ?_)));rw[t,d]
  ·intro out nx d;refine Qb (by show¬(L.length:Int)<L.length;omega) (MI ?_);rw[d,Aav]
def Bm(c:BC):List Bs:=c.1.map (·.2.2)++c.2.map (·.2)
def AK(c:Ig):List Bs:=c.1++c.2
def kids(v:Vl):List Bs:=v.lists.flatMap AK++v.structs.flatMap Bm
structure NS(c:BC):Prop where
 nf:c.1.length<=4
 nc:c.2.length<=4
 lb:∀f∈c.1,f.1.length<=60
 st:GZ (c.2.map λk=>k.1.length+3)<=14641
 bt:∀k∈c.2,N0 k.1
 ed:∀k∈c.2,∀s∈k.1,s.2.length<=256
theorem VF{l:List Nat}(h:∀n∈l,0<n):0<GZ l:=by
 induction l with
 |nil=>exact Nat.one_pos
 |cons n l b=>exact Nat.mul_pos (h n (Aas ..)) (b λm a=>h m (Aag _ a))
theorem VG{l:List Nat}(h:∀n∈l,0<n)(a:n∈l):n<=GZ l:=by
 induction l with
 |nil=>cases a
 |cons m l e=>
  have d:=VF λk b=>h k (Aag _ b);have c:=h m (Aas ..);rcases Aao.1 a with rfl|a;· exact Aet _ d
  ·exact Aam (e (λk b=>h k (Aag _ b)) a) (Nat.le_mul_of_pos_left _ c)
theorem VH(a b:List Nat):GZ (a++b)=GZ a*GZ b:=by
 induction a with
 |nil=>simp[GZ]
 |cons n a c=>rw[Afh,GZ,GZ,c,Aej]
theorem Ua{l:List α}{f g:α->Nat}(h:∀x∈l,f x<=g x):GZ (l.map f)<=GZ (l.map g):=by
 induction l with
 |nil=>exact Aaf _
 |cons x l b=>exact Abv (h x (Aas ..)) (b λy a=>h y (Aag _ a))
theorem Oh(n:Nat)(l:List α):GZ (l.map λ_=>n)=n^l.length:=by
 induction l with
 |nil=>rfl
 |cons x l a=>rw[Aat,GZ,a,Abo,Nat.pow_succ,Ada]
theorem NS.each(h:NS c):∀k∈c.2,k.1.length<=14641:=λk b=>by have:=VG (l:=c.2.map λk=>k.1.length+3) (λn d=>by obtain⟨q,_,rfl⟩:=By.1 d;omega) (By.2 ⟨k,b,rfl⟩);have:=h.st;omega
theorem NS.lim(h:NS c):dy c:=⟨h.nf,h.nc,h.lb,λk a=>by have:=h.each k a;omega,h.bt,h.ed⟩
theorem NS.GG(h:NS c):GZ (GG c)<=400000000000:=by
 unfold Go.GL.GG;rw[VH];have b:GZ (c.2.map λk=>k.1.length+1)<=14641:=Aam (Ua λk _=>by omega) h.st;have d:GZ (c.1.map λf=>f.1.length+2)<=62^c.1.length:=by rw[<-Oh 62 c.1];exact Ua λf g=>by have:=h.lb f g;omega
 have e:62^c.1.length<=62^4:=Agt (by decide) h.nf;exact Aam (Abv b (Aam d e)) (by decide)
def Bd:Nat->Vl->Prop
 |0,_=>False
 |d+1,v=>dz 5 12 v.sc/\(v.lists.length<=3/\∀c∈v.lists,c.1.length<=3/\c.2.length<=2)/\(v.structs.length<=3/\∀c∈v.structs,NS c)/\∀x∈kids v,Bd d x.1/\Bd d x.2
def eK(l:List (Ay×Int×Bs)):Prop:= ∀i (h:i+1<l.length),fX l[i].1 l[i+1].1=Br
def Snd:Nat->Vl->Prop
 |0,_=>False
 |d+1,v=>Il 5 12 v.sc/\(∀c∈v.lists,c.2.length<=1)/\(∀c∈v.structs,eK c.1/\∀k∈c.2,Bg k.1/\Cb k.1=k.1)/\∀x∈kids v,Snd d x.1/\Snd d x.2
theorem Dx{α β:Type}{f:α->List β}{n:Nat} :∀ {l:List α},(∀x∈l,(f x).length<=n)->(l.flatMap f).length<=l.length*n
 | [],_=>by simp
 |x::l,h=>by have:=Dx (f:=f) (n:=n) (l:=l) λy b=>h y (Aag _ b);have:=h x (Aas ..);rw[Afx,Aab,Abo,Adx];omega
theorem Bd.kids{v:Vl}(h:Bd (d+1) v):(kids v).length<=39:=by
 obtain⟨_,⟨j,i⟩,⟨k,g⟩,_⟩:=h;have a:=Dx (f:=AK) (n:=5) (l:=v.lists) λc hc=>by have:=i c hc;unfold AK;rw[Aab];omega
 have b:=Dx (f:=Bm) (n:=8) (l:=v.structs) λc hc=>by have:=(g c hc).nf;have:=(g c hc).nc;unfold Bm;rw[Aab,Aap,Aap];omega
 unfold Go.GL.kids;rw[Aab];omega
theorem VN{s:Sc}(h1:s.2.2.2.1.1.length<=12)(h2:s.2.2.2.1.2.length<=12)(h3:s.2.2.2.2.length<=1000000):Ok (yt fu s) λr=>r=Br↔s=FO:=by
 rw[yt];obtain⟨a,b,c,⟨e,f⟩,l⟩:=s;dsimp only at h1 h2 h3;have no:∀ {P:Prop},¬P->Ok (Ac Ak) λr=>r=Br↔P:=λh=>MI ⟨λk=>(by cases k),λk=>absurd k h⟩;cases a with
 |true=>exact no λh=>by cases h
 |false=>cases b with
  |true=>exact no λh=>by cases h
  |false=>cases c with
   |true=>exact no λh=>by cases h
   |false=>
    refine VX rfl (VX rfl (VX rfl (Aaq (Aaq (MI ?_)))));rw[decide_eq_true_iff];constructor;· intro h;have h:((e.length:Int)+f.length+l.length)=0:=h;obtain rfl:e=[]:=OF.1 (by omega);obtain rfl:f=[]:=OF.1 (by omega);obtain rfl:l=[]:=OF.1 (by omega);rfl
    ·intro h;unfold FO at h;simp only[Aeq]at h;obtain⟨_,_,_,⟨rfl,rfl⟩,rfl⟩:=h;rfl
theorem Hl{c:Ig}(h:c.1.length<=1000/\c.2.length<=1000)(b:1000000000000<fu):eU fu c=Ac (AK c):=by
 refine(Ok.eq ?_);have e:ta fu [c.1,c.2]=Ac (AK c):=by grind[AK,M7]
 exact BY e (MI rf)
theorem Zn(h:c.1.length<=1000/\c.2.length<=1000)(j:1000000000000<fu):F85 fu c=Ac (Bm c):=by
 refine(Ok.eq ?_);refine SA (λk (s:List Bs)=>s=(c.1.take k).map (·.2.2)) c.1.length rf (by omega) (λk s nx e d g=>?_) (λs nx d=>?_);· refine P2 (Aah e (PC (by grind) (g _ ?_)));rw[d,GB e,Aan];rfl
 rw[Ai]at d;refine Qb (by omega) ?_;refine SA (λk (s:List Bs)=>s=c.1.map (·.2.2)++(c.2.take k).map (·.2)) c.2.length (by grind) (by omega) (λk s nx e b g=>?_) (λs nx b=>?_);· refine P2 (Aah e (PC (by grind) (g _ ?_)));rw[b,GB e,Aan,<-Aak];rfl
 ·refine P3 (MI ?_);rw[b,Ai];rfl
theorem V1{v:Vl}(h:Bd (d+1) v)(u:1000000000000<fu):F86 fu v=Ac (kids v):=by
 obtain⟨_,⟨B,w⟩,⟨E,t⟩,_⟩:=h;have x:∀k,((v.lists.take k).flatMap AK).length<=15:=λk=>by
  have:=Dx (f:=AK) (n:=5) (l:=v.lists.take k) λc hc=>by grind[AK]
  grind
 have lb:∀k,((v.structs.take k).flatMap Bm).length<=24:=λk=>by
  have:=Dx (f:=Bm) (n:=8) (l:=v.structs.take k) λc hc=>by have:=(t c (Ack hc)).nf;have:=(t c (Ack hc)).nc;grind[Bm]
  grind
 refine(Ok.eq ?_);refine SA (λk (s:List Bs)=>s=(v.lists.take k).flatMap AK) v.lists.length rf (by omega) (λk s nx m o r=>?_) (λs nx o=>?_)
 ·have hc:=w _ (AN m);have e:(v.lists.take (k+1)).flatMap AK=s++AK v.lists[k]:=by rw[o,GB m,Acn,Aef]
  have:=x (k+1);rw[e,Aab]at this;have p:eU fu v.lists[k]=Ac (AK v.lists[k]):=Hl (by omega) u;refine P2 (Aah m (BY p (Abw (r _ e.symm))))
 rw[Ai]at o;refine Qb (by omega) ?_;refine SA (λk (s:List Bs)=>s=v.lists.flatMap AK++(v.structs.take k).flatMap Bm) v.structs.length (by simp[o]) (by omega) (λk s nx m j r=>?_) (λs nx j=>?_)
 ·have hc:=t _ (AN m);have z:=hc.nf;have A:=hc.nc;have e:v.lists.flatMap AK++(v.structs.take (k+1)).flatMap Bm=s++Bm v.structs[k]:=by rw[j,GB m,Acn,Aef,Aak]
  have a:=x v.lists.length;rw[Ai]at a;have b:=lb (k+1);have:=congrArg FB e;rw[Aab,Aab]at this;have q:F85 fu v.structs[k]=Ac (Bm v.structs[k]):=Zn (by omega) u;refine P2 (Aah m (BY q (Abw (r _ e.symm))))
 ·refine P3 (MI ?_);rw[j,Ai];rfl
def FG:Nat->Nat
 |0=>0
 |d+1=>1+78*FG d
def Hi(es:List Cu)(q:Int)(b:Int):Int:=es.foldl (λq e=>if e.1<=b/\b<=e.2.1 then e.2.2 else q) q
theorem RK{b:Int} :∀ {es:List Cu} {q:Int},(∀e∈es,¬(e.1<=b/\b<=e.2.1))->Hi es q b=q
 | [],q,_=>rfl
 |e::es,q,h=>by unfold Hi;rw[Afl,if_neg (h e (Aas ..))];exact RK (es:=es) λf a=>h f (Aag _ a)
theorem ZW(m:es.Pairwise λa b=>a.2.1<b.1) :Hi es (-1) b=AQ es b:=by
 induction es with
 |nil=>rfl
 |cons e es n=>
  obtain⟨i,j⟩:=Abj.1 m;by_cases h:e.1<=(b:Int)/\(b:Int)<=e.2.1
  ·have c:AQ (e::es) b=e.2.2:=by
    grind[AQ,BQ]
   have d:Hi (e::es) (-1) b=Hi es e.2.2 b:=by simp_all[Hi]
   grind[RK]
  grind[AQ,BQ,Hi]
def YW(s:Ay)(n:Int)(b:Nat):Int:=if 0<=n/\n<s.length/\(s.getD n.toNat 0).toNat=b then n+1 else-1
def dVl:Vl:= .mk Ak (Ak,Ak,Ak,([],[]),[]) [] []
def dK:Tb×Bs:=([],dVl,dVl)
def dF:Ay×Int×Bs:=([],0,dVl,dVl)
def Xy(c:BC)(v:List Int)(b:Nat)(i:Nat):Int:=Bn (c.2.getD i dK).1 (v.getD i 0) b
def Uh(c:BC)(v:List Int)(b:Nat)(j:Nat):Int:=YW (c.1.getD j dF).1 (v.getD (c.2.length+j) 0) b
structure eS(c:BC)(v u:List Int)(b:Nat):Prop where
 len:u.length=c.2.length+c.1.length
 cl:∀i,i<c.2.length->u.getD i 0=Xy c v b i
 fd:∀j,j<c.1.length->u.getD (c.2.length+j) 0=Uh c v b j
theorem M0(c:u.length=v.length)(h:∀i,i<u.length->u.getD i 0=v.getD i 0):u=v:=by grind[List.ext_getElem,AO]
theorem eS.uniq{d:List Int}(h:eS c v u b)(k:eS c v d b):u=d:=by
 refine M0 (by rw[h.len,k.len]) λi e=>?_;have:=h.len;rcases Aal i c.2.length with hc|hc;· rw[h.cl i hc,k.cl i hc]
 ·obtain⟨j,rfl⟩:∃j,i=c.2.length+j:=⟨i-c.2.length,by omega⟩;rw[h.fd j (by omega),k.fd j (by omega)]
theorem du(H:dy c)(hw:∀k∈c.2,Bg k.1)(S:Cc c v)(hF:1000000000000<fu):Ok (F62 fu (c,v,(b:Int))) λu=>eS c v u b:=by
 have h1:=H.nf;have h2:=H.nc;have Z:=S.len;refine PC (by grind) ?_;refine SA (λk (s:List Int)=>s.length=v.length/\∀i,i<k->s.getD i 0= -1) v.length ⟨by simp,λi h=>by omega⟩ (by omega) (λk s nx l g E=>?_) (λs nx g=>?_)
 ·refine VB (by grind) (BY (BG (by grind)) (E _ ⟨by grind,λi f=>?_⟩));grind[Hw]
 refine Qb (by simp) ?_;obtain⟨Q,R⟩:=g;refine SA (λk (s:List Int)=>s.length=v.length/\(∀i,i<k->s.getD i 0=Xy c v b i)/\∀i,k<=i->i<v.length->s.getD i 0= -1) c.2.length ⟨Q,λi f=>by omega,λi _ f=>R i f⟩ (by omega) (λk s nx l g E=>?_) (λs nx g=>?_)
 ·have hc:=S.cl k l;have C:=AN l;obtain⟨w,F,x⟩:=g;have M:=H.ed _ C;have z:c.2.getD k dK=c.2[k]:=AO l;have step:∀t:List Int,t.length=v.length->t.getD k 0=Xy c v b k->(∀i,i≠k->t.getD i 0=s.getD i 0)->Ok (nx (t,k+1)) λu=>eS c v u b:=λt I p y=>E _ ⟨I,λi f=>by
   rcases Aal i k with h|h;· rw[y i (by omega)];exact F i h
   ·obtain rfl:i=k:=by omega
    exact p,λi f N=>by rw[y i (by omega)];exact x i (by omega) N⟩;refine P2 (Aah l (BY (BG (by omega)) (N7 (λh=>step _ w (by
   rw[x k (Aaf _) (by omega)];unfold Xy;rw[Jg b h]) λ_ _=>rfl) λh=>(by
   have h:¬v.getD k 0<0:=h;refine BY (BG (by omega)) (Adq (Agn.1 h) hc.2 ?_);have D:(c.2[k]).1[(v.getD k 0).toNat]'(by omega)∈(c.2[k]).1:=AN _;have W:=(hw _ C) _ D;have K:=M _ D;have V:Xy c v b k=AQ ((c.2[k]).1[(v.getD k 0).toNat]'(by omega)).2 b:=by unfold Xy Bn Bf;rw[z,if_neg h,AO (by omega)]
   dsimp only;generalize(c.2[k]).1[(v.getD k 0).toNat]'(by omega)=st at W K V;refine SA (λm (t:List Int)=>t.length=v.length/\t.getD k 0=Hi (st.2.take m) (-1) b/\∀i,i≠k->t.getD i 0=s.getD i 0) st.2.length ⟨w,x k (Aaf _) (by omega),λ_ _=>rfl⟩ (by omega) (λm t T C L r=>?_) (λt T L=>?_)
   ·obtain⟨G,t2,t3⟩:=L;have J:∀q,Hi (st.2.take (m+1)) q b=if(st.2[m]).1<=(b:Int)/\(b:Int)<=(st.2[m]).2.1 then(st.2[m]).2.2 else Hi (st.2.take m) q b:=λq=>by
     unfold Hi;rw[GB C,Adc];rfl
    refine P2 (Aah C (N7 (λa=>N7 (λp=>BY (BG (by dsimp only;omega)) (r _ ⟨by rw[Abp];exact G,?_,λi f=>?_⟩)) λp=>r _ ⟨G,?_,t3⟩) λa=>r _ ⟨G,?_,t3⟩));· rw[J,if_pos ⟨a,p⟩];dsimp only;rw[Hw (by omega),if_pos rf]
    ·dsimp only;rw[Hw (by omega),if_neg (Ne.symm f)];exact t3 i f
    ·rw[J,if_neg λh=>p h.2];exact t2
    ·rw[J,if_neg λh=>a h.1];exact t2
   ·obtain⟨G,t2,t3⟩:=L;rw[Aav]at t2;exact P3 (step _ G (by rw[V,t2];exact ZW W.so) t3)))))
 obtain⟨i1,i2,i3⟩:=g;refine Qb (by dsimp only;omega) ?_;refine SA (λk (s:List Int)=>s.length=v.length/\(∀i,i<c.2.length->s.getD i 0=Xy c v b i)/\(∀j,j<k->s.getD (c.2.length+j) 0=Uh c v b j)/\∀j,k<=j->j<c.1.length->s.getD (c.2.length+j) 0= -1) c.1.length ⟨i1,i2,λj O=>by omega,λj _ O=>i3 _ (by omega) (by omega)⟩ (by omega) (λk s nx l g E=>?_) (λs nx g=>?_)
 ·have hc:=S.fd k l;obtain⟨w,F,x,Y⟩:=g;have z:c.1.getD k dF=c.1[k]:=AO l;have step:∀t:List Int,t.length=v.length->t.getD (c.2.length+k) 0=Uh c v b k->(∀i,i≠c.2.length+k->t.getD i 0=s.getD i 0)->Ok (nx (t,k+1)) λu=>eS c v u b:=λt I p y=>E _ ⟨I,λi f=>by rw[y i (by omega)];exact F i f,λj O=>by
   rcases Aal j k with h|h;· rw[y _ (by omega)];exact x j h
   ·obtain rfl:j=k:=by omega
    exact p,λj O P=>by rw[y _ (by omega)];exact Y j (by omega) P⟩;have no:Uh c v b k= -1->Ok (nx (s,k+1)) λu=>eS c v u b:=λh=>step _ w (by rw[Y k (Aaf _) l,h]) λ_ _=>rfl;refine P2 (Aah l (Aaq (BY (JF (by omega)) (N7 (λA=>N7 (λB=>?_) λB=>no ?_) λA=>no ?_))))
  ·have B:v.getD (c.2.length+k) 0<(c.1[k]).1.length:=B;have A:0<=v.getD (c.2.length+k) 0:=A;have f:Ey (c.1[k]).1 (v.getD (c.2.length+k) 0)=Ac (((c.1[k]).1[(v.getD (c.2.length+k) 0).toNat]'(by omega)).toNat:Int):=by
    obtain⟨q,hq⟩:∃q:Nat,v.getD (c.2.length+k) 0=q:=⟨(v.getD (c.2.length+k) 0).toNat,by omega⟩;simp only[hq];rw[MR (by omega)];rfl
   have hlb:=H.lb _ (AN l);have U:((c.1[k]).1.getD (v.getD (c.2.length+k) 0).toNat 0)=(c.1[k]).1[(v.getD (c.2.length+k) 0).toNat]'(by omega):=AO (by omega);refine BY f (N7 (λX=>Aaq (BY (JF (by dsimp only;omega)) (step _ (by dsimp only;rw[Abp];exact w) ?_ λi f=>?_))) λX=>no ?_);· dsimp only;rw[show((c.2.length:Int)+(k:Int)).toNat=c.2.length+k by omega,Hw (by omega),if_pos rfl];unfold Uh YW;rw[z,if_pos ⟨A,B,by rw[U];omega⟩]
   ·dsimp only;rw[show((c.2.length:Int)+(k:Int)).toNat=c.2.length+k by omega,Hw (by omega),if_neg (Ne.symm f)]
   ·unfold Uh YW;rw[z,if_neg];rintro⟨_,_,e⟩;rw[U]at e;exact X (by omega)
  ·unfold Uh YW;rw[z,if_neg];rintro⟨_,e,_⟩;exact B e
  ·unfold Uh YW;rw[if_neg];rintro⟨e,_⟩;exact A e
 ·obtain⟨w,F,x,_⟩:=g;exact P3 (MI ⟨by rw[w,Z],F,x⟩)
def Lo(c:BC)(v:List Int)(k:Nat):Nat:=((aO k).filter λi=>fin (c.2.getD i dK).1 (v.getD i 0)).length
def Qa(c:BC)(v:List Int)(k:Nat):Nat:=((aO k).filter λj=>Ds (v.getD (c.2.length+j) 0=((c.1.getD j dF).1.length:Int))).length
def MS(c:BC)(v:List Int):Nat:=Lo c v c.2.length+Qa c v c.1.length
theorem HA{p:Nat->Bool}{k:Nat} :((aO (k+1)).filter p).length=((aO k).filter p).length+(if p k=Br then 1 else 0):=by rw[Aei,Afu,Aab];grind
theorem filter_le{p:Nat->Bool} :((aO k).filter p).length<=k:=by grind
theorem h_(n:dy c)(o:Cc c v)(t:1000000000000<fu):F60 fu (c,v)=Ac (MS c v:Int):=by
 have q:=n.nf;have r:=n.nc;have w:=o.len;refine(Ok.eq ?_);refine SA (λk (s:Int)=>s=(Lo c v k:Int)) c.2.length rfl (by omega) (λk s nx f d g=>?_) (λs nx d=>?_)
 ·have hc:=o.cl k f;have l:Lo c v k<=k:=filter_le;have e:(Lo c v (k+1):Int)=(Lo c v k:Int)+(if fin (c.2.getD k dK).1 (v.getD k 0)=Br then 1 else 0:Nat):=by
   grind[Lo,HA]
  have m:∀h:0<=v.getD k 0,fin (c.2.getD k dK).1 (v.getD k 0)=((c.2[k]).1[(v.getD k 0).toNat]'(by omega)).1:=λh=>by grind[fin,Bf]
  subst d;refine P2 (Aah f (BY (BG (by omega)) (N7 (λh=>BY (BG (by omega)) (Adq h hc.2 (PY (λj=>Aaq (g _ ?_)) λj=>g _ ?_))) λh=>g _ ?_)))
  all_goals grind[fin]
 ·refine Qb (by omega) ?_;have u:Lo c v c.2.length<=c.2.length:=filter_le;refine SA (λk (s:Int)=>s=(Lo c v c.2.length:Int)+(Qa c v k:Int)) c.1.length (by rw[d];show _=_+((0:Nat):Int);simp) (by omega) (λk s nx f d g=>?_) (λs nx d=>?_)
  ·have i:c.1.getD k dF=c.1[k]:=AO f;have l:Qa c v k<=k:=filter_le;have e:(Qa c v (k+1):Int)=(Qa c v k:Int)+(if Ds (v.getD (c.2.length+k) 0=((c.1.getD k dF).1.length:Int))=Br then 1 else 0:Nat):=by
    unfold Qa;rw[HA];omega
   subst d;refine P2 (Aah f (Aaq (BY (JF (by omega)) (N7 (λh=>Aaq (g _ ?_)) λh=>g _ ?_))));· rw[e,if_pos (decide_eq_true (by rw[i];exact h))];omega
   ·rw[e,if_neg (by rw[decide_eq_true_eq,i];exact h)];simp
  ·refine P3 (MI ?_);unfold MS;omega
theorem FW{x:Nat}(h:s.getD x Ak=Br):(s.set i Br).getD x Ak=Br:=by grind
theorem Ji(h:i<s.length):(s.set i Br).getD i Ak=Br:=by grind
def iD(c:BC)(v:List Int)(i:Nat):List Cu:=if v.getD i 0<0 then []else(Bf (c.2.getD i dK).1 (v.getD i 0)).2
def nM(c:BC)(v:List Int)(j:Nat):Option Nat:=if 0<=v.getD (c.2.length+j) 0/\v.getD (c.2.length+j) 0<(c.1.getD j dF).1.length then Ac ((c.1.getD j dF).1.getD (v.getD (c.2.length+j) 0).toNat 0).toNat else Dc
structure U1(c:BC)(v:List Int)(s:List Bool)(k m:Nat):Prop where
 len:s.length=257
 z:s.getD 0 Ak=Br
 ed:∀i,i<k->∀e∈iD c v i,s.getD e.1.toNat Ak=Br/\s.getD (e.2.1+1).toNat Ak=Br
 ch:∀j,j<m->∀x,nM c v j=Ac x->s.getD x Ak=Br/\s.getD (x+1) Ak=Br
theorem U1.up{t:List Bool}(h:U1 c v s k m)(l:t.length=257)(a:∀x,s.getD x Ak=Br->t.getD x Ak=Br):U1 c v t k m:=
 ⟨l,a _ h.z,λi d e b=>⟨a _ (h.ed i d e b).1,a _ (h.ed i d e b).2⟩,λj f x g=>⟨a _ (h.ch j f x g).1,a _ (h.ch j f x g).2⟩⟩
def ZE(c:BC)(v:List Int)(a b:Nat):Prop:=(∀i,i<c.2.length->Xy c v a i=Xy c v b i)/\∀j,j<c.1.length->Uh c v a j=Uh c v b j
def StV(c:BC)(v:List Int)(l:List Int):Prop:=(∀s∈l,∃a:Nat,s=a/\a<256)/\∀b,b<256->∃a:Nat,(a:Int)∈l/\ZE c v a b
theorem Rm(h:∀e∈es,BQ a e=BQ b e):AQ es a=AQ es b:=by
 unfold AQ;rw[show es.find? (BQ a)=es.find? (BQ b) by
  induction es with
  |nil=>rfl
  |cons e es d=>
   grind]
theorem OB{s:List Bool}(h0:s.getD 0 Ak=Br):∀b:Nat,∃a,a<=b/\s.getD a Ak=Br/\∀x,a<x->x<=b->s.getD x Ak=Ak
 |0=>⟨0,Aaf _,h0,λx d c=>by omega⟩
 |b+1=>by
  cases h:s.getD (b+1) Ak with
  |true=>grind
  |false=>
   obtain⟨a,d,c,f⟩:=OB h0 b;grind
theorem U1.st(q:U1 c v s c.2.length c.1.length)(A:∀i,i<c.2.length->∀e∈iD c v i,0<=e.1/\0<=e.2.1):StV c v (((aO 256).filter λx=>s.getD x Ak).map λ(x:Nat)=>(x:Int)):=by
 refine⟨λx B=>?_,λb F=>?_⟩;· grind
 obtain⟨a,E,t,p⟩:=OB q.z b;refine⟨a,By.2 ⟨a,Aax.2 ⟨Abf.2 (by omega),t⟩,rfl⟩,λi r=>?_,λj z=>?_⟩
 ·unfold Xy Bn;by_cases f:v.getD i 0<0;· omega
  ·rw[if_neg f,if_neg f];refine Rm λe w=>?_;have o:e∈iD c v i:=by grind[iD]
   obtain⟨m,n⟩:=q.ed i r e o;have C:¬(a<e.1.toNat/\e.1.toNat<=b):=λ⟨k,l⟩=>by rw[p _ k l]at m;cases m
   have D:¬(a<(e.2.1+1).toNat/\(e.2.1+1).toNat<=b):=λ⟨k,l⟩=>by rw[p _ k l]at n;cases n
   unfold BQ;rw[show Ds (e.1<=(a:Int))=Ds (e.1<=(b:Int)) by rw[decide_eq_decide];omega,show Ds ((a:Int)<=e.2.1)=Ds ((b:Int)<=e.2.1) by rw[decide_eq_decide];omega]
 ·unfold Uh YW;by_cases f:0<=v.getD (c.2.length+j) 0/\v.getD (c.2.length+j) 0<(c.1.getD j dF).1.length
  ·obtain⟨m,n⟩:=q.ch j z _ (by unfold nM;rw[if_pos f]);generalize((c.1.getD j dF).1.getD (v.getD (c.2.length+j) 0).toNat 0).toNat=y at m n;have C:¬(a<y/\y<=b):=λ⟨k,l⟩=>by rw[p _ k l]at m;cases m
   have D:¬(a<y+1/\y+1<=b):=λ⟨k,l⟩=>by rw[p _ k l]at n;cases n
   have:(y=a)↔(y=b):=by omega
   simp only[this]
  ·rw[if_neg λh=>f ⟨h.1,h.2.1⟩,if_neg λh=>f ⟨h.1,h.2.1⟩]
theorem U1.ck(h:U1 c v s k m)(b:∀e∈iD c v k,s.getD e.1.toNat Ak=Br/\s.getD (e.2.1+1).toNat Ak=Br):U1 c v s (k+1) m:=
 ⟨h.len,h.z,λi d=>by
  rcases Aal i k with a|a;· exact h.ed i a
  grind,h.ch⟩
theorem U1.cj(h:U1 c v s k m)(b:∀x,nM c v m=Ac x->s.getD x Ak=Br/\s.getD (x+1) Ak=Br):U1 c v s k (m+1):=
 ⟨h.len,h.z,h.ed,λi d=>by
  rcases Aal i m with a|a;· exact h.ch i a
  grind⟩
theorem Xf(H:dy c)(hw:∀k∈c.2,Bg k.1)(K:Cc c v)(hF:1000000000000<fu):Ok (F61 fu (c,v)) λl=>l.length<=256/\StV c v l:=by
 have h1:=H.nf;have h2:=H.nc;have hl:=K.len;have m0:U1 c v (lh (T9 257 Ak) 0 Br) 0 0:=⟨by grind,Ji (by grind),λi u=>by omega,λj hj=>by omega⟩;refine SA (λk (s:List Bool)=>U1 c v s k 0) c.2.length m0 (by omega) (λk s nx w d n=>?_) (λs nx d=>?_);· have hc:=K.cl k w;have A:=AN w;have O:=H.ed _ A;refine P2 (Aah w (BY (BG (by omega)) (N7 (λh=>n _ (d.ck λe f=>by
   grind[iD])) λh=>(by
   have h:¬v.getD k 0<0:=h;refine BY (BG (by omega)) (Adq (Agn.1 h) hc.2 ?_);have I:(c.2[k]).1[(v.getD k 0).toNat]'(by omega)∈(c.2[k]).1:=AN _;have V:=H.bt _ A _ I;have M:=O _ I;have ev:iD c v k=((c.2[k]).1[(v.getD k 0).toNat]'(by omega)).2:=by unfold iD Bf;grind
   dsimp only;generalize(c.2[k]).1[(v.getD k 0).toNat]'(by omega)=st at V M ev;refine SA (λm (t:List Bool)=>U1 c v t k 0/\∀e∈st.2.take m,t.getD e.1.toNat Ak=Br/\t.getD (e.2.1+1).toNat Ak=Br) st.2.length ⟨d,by simp⟩ (by omega) (λm t T A N P=>?_) (λt T N=>?_)
   ·have f:=V _ (AN A);obtain⟨L,t2⟩:=N;have tl:=L.len;have mono:∀x,t.getD x Ak=Br->((t.set (0+ae (st.2[m]).1*1) Br).set (0+ae ((st.2[m]).2.1+1)*1) Br).getD x Ak=Br:=λx g=>FW (FW g);refine P2 (Aah A (Aaq (PC ⟨by grind,by grind⟩ (Abw (PC ⟨by dsimp only;omega,by dsimp only;omega⟩ (Abw (P _ ⟨L.up (by rw[Abp,Abp];exact tl) mono,λe r=>?_⟩)))))));rcases(Ag A).1 r with r|rfl;· exact⟨mono _ (t2 e r).1,mono _ (t2 e r).2⟩
    ·refine⟨FW ?_,?_⟩;· have:=Ji (s:=t) (i:=0+ae (st.2[m]).1*1) (by omega);rwa [show 0+ae (st.2[m]).1*1=(st.2[m]).1.toNat by omega]at this⊢
     ·have:=Ji (s:=t.set (0+ae (st.2[m]).1*1) Br) (i:=0+ae ((st.2[m]).2.1+1)*1) (by rw[Abp];omega);rwa [show 0+ae ((st.2[m]).2.1+1)*1=((st.2[m]).2.1+1).toNat by omega]at this⊢
   ·obtain⟨L,t2⟩:=N;rw[Aav,<-ev]at t2;exact P3 (n _ (L.ck t2))))))
 refine Qb (by omega) ?_;refine SA (λk (s:List Bool)=>U1 c v s c.2.length k) c.1.length d (by omega) (λk s nx w d n=>?_) (λs nx d=>?_)
 ·have hc:=K.fd k w;have C:c.1.getD k dF=c.1[k]:=AO w;have no:nM c v k=Dc->Ok (nx (s,k+1)) λl=>l.length<=256/\StV c v l:=λh=>n _ (d.cj λx g=>by rw[h]at g;cases g);refine P2 (Aah w (Aaq (BY (JF (by omega)) (N7 (λF=>N7 (λG=>?_) λG=>no ?_) λF=>no ?_))))
  ·have G:v.getD (c.2.length+k) 0<(c.1[k]).1.length:=G;have F:0<=v.getD (c.2.length+k) 0:=F;have u:Ey (c.1[k]).1 (v.getD (c.2.length+k) 0)=Ac (((c.1[k]).1[(v.getD (c.2.length+k) 0).toNat]'(by omega)).toNat:Int):=by
    obtain⟨q,R⟩:∃q:Nat,v.getD (c.2.length+k) 0=q:=⟨(v.getD (c.2.length+k) 0).toNat,by omega⟩;simp only[R];rw[MR (by omega)];rfl
   have Z:((c.1[k]).1.getD (v.getD (c.2.length+k) 0).toNat 0)=(c.1[k]).1[(v.getD (c.2.length+k) 0).toNat]'(by omega):=AO (by omega);have B:nM c v k=Ac ((c.1[k]).1[(v.getD (c.2.length+k) 0).toNat]'(by omega)).toNat:=by unfold nM;rw[C,if_pos ⟨F,G⟩,Z]
   have D:=((c.1[k]).1[(v.getD (c.2.length+k) 0).toNat]'(by omega)).toNat_lt;dsimp only at u B D⊢;generalize((c.1[k]).1[(v.getD (c.2.length+k) 0).toNat]'(by omega)).toNat=y at u B D;have sl:=d.len;refine BY u (BY u (Aaq (PC ⟨by omega,by omega⟩ (Abw (PC ⟨by omega,by omega⟩ (Abw (n _ ((d.up (by rw[Abp,Abp];exact sl) λx g=>FW (FW g)).cj λx g=>?_))))))));rw[B]at g;cases g;refine⟨FW ?_,?_⟩;· have:=Ji (s:=s) (i:=0+ae (y:Int)*1) (by omega);rwa [show 0+ae (y:Int)*1=y by omega]at this⊢
   ·have:=Ji (s:=s.set (0+ae (y:Int)*1) Br) (i:=0+ae ((y:Int)+1)*1) (by rw[Abp];omega);rwa [show 0+ae ((y:Int)+1)*1=y+1 by omega]at this⊢
  ·unfold nM;rw[C,if_neg];rintro⟨_,e⟩;exact G e
  ·unfold nM;rw[if_neg];rintro⟨e,_⟩;exact F e
 refine Qb (by dsimp only;omega) ?_;have sl:=d.len;have S:=d.st λi u e f=>by
  unfold iD at f;split at f;· cases f
  ·rename_i n;have hc:=K.cl i u;have A:=AN u;have C:c.2.getD i dK=c.2[i]:=AO u;unfold Bf at f;rw[C,show(c.2[i]).1.getD (v.getD i 0).toNat (Ak,[])=(c.2[i]).1[(v.getD i 0).toNat]'(by omega)from AO _]at f;have:=H.bt _ A _ (AN (by omega:(v.getD i 0).toNat<(c.2[i]).1.length)) e f;exact⟨this.1.1,by omega⟩
 refine Xn (X:=List Int×Int) (λx=>(0<=x.2/\x.2<=256)/\x.1=((aO x.2.toNat).filter λx=>s.getD x Ak).map λ(x:Nat)=>(x:Int)) (λx=>256-x.2.toNat) ⟨by decide,rfl⟩ (by dsimp only;omega) λx nx g _ n=>?_;obtain⟨o,z⟩:=x;obtain⟨W,J⟩:=g;dsimp only at W J n;have Q:o.length<=z.toNat:=by rw[J,Aap];exact filter_le
 refine N7 (λh=>?_) λh=>MI ⟨by dsimp only;omega,?_⟩
 ·have h:z<256:=h;obtain⟨q,rfl⟩:∃q:Nat,z=q:=⟨z.toNat,by omega⟩;rw[Acd]at J Q;refine PC ⟨W.1,by dsimp only;omega⟩ ?_;rw[show((0+ae (q:Int)*1:Nat):Int)=((q:Nat):Int) by omega];have eq:s.getD q Ak=s[q]'(by omega):=AO (by omega);have U:((aO (q+1)).filter λx=>s.getD x Ak).map (λ(x:Nat)=>(x:Int))=o++(if s.getD q Ak=Br then [(q:Int)]else []):=by
   rw[J,Aei,Afu,Aan];congr 1;cases R:s.getD q Ak<;>simp only[Aeo,R,List.filter_nil,if_true,Aat,Aee]<;>rfl
  refine Aah (by dsimp only;omega) (PY (λD=>PC (p:=GK.F8 q) (by unfold GK.F8;omega) (PC (by unfold Aj;dsimp only;omega) (Aaq (n _ ⟨by dsimp only;omega,?_⟩ (by dsimp only;omega))))) λD=>Aaq (n _ ⟨by dsimp only;omega,?_⟩ (by dsimp only;omega)));· dsimp only;rw[show((q:Int)+1).toNat=q+1 by omega,U,if_pos (by rw[eq];exact D)]
  ·dsimp only;rw[show((q:Int)+1).toNat=q+1 by omega,U,if_neg (by rw[eq,D];decide),Adf]
 grind
theorem V4:Lib.itoa (-1)=[45,49]:=by decide+kernel
theorem Sm{n:Int}(h: -1<=n):(44:UInt8)∉Lib.itoa n:=by
 rcases Aeg n 0 with a|a
 ·grind[V4]
 grind[JD]
theorem V5{m:Int}(h:0<=m):Lib.itoa (-1)≠Lib.itoa m:=λe=>by obtain⟨u,rfl⟩:∃u:Nat,m=u:=⟨m.toNat,by omega⟩;rw[V4,JE]at e;have:=Ix u 45 (by grind);grind
theorem XL{n m:Int}(h: -1<=n)(k: -1<=m)(e:Lib.itoa n=Lib.itoa m):n=m:=by
 rcases Aeg n 0 with b|b
 ·grind[absurd,Int.lt_or_le,V5]
 ·rcases Aeg m 0 with a|a
  ·grind[absurd,V5]
  grind[MP]
def Si(v:List Int):Ay:=v.flatMap λn=>44::Lib.itoa n
theorem aZ(v:List Int):Dw v=Si v:=by unfold Dw XI Si;rw[List.map_flatMap];simp_all[Lib.itoa,Aat,Aaj,Afi,Abr]
theorem OG(v:List Int):Si v=[]\/(Si v).head?=Ac 44:=by
 cases v with
 |nil=>trivial
 |cons n v=>exact .inr rfl
theorem Sh:∀ {u v:List Int},(∀n∈u, -1<=n)->(∀n∈v, -1<=n)->Si u=Si v->u=v
 | [],[],_,_,_=>rfl
 | [],n::v,_,_,e=>by cases e
 |n::u,[],_,_,e=>by cases e
 |n::u,m::v,h,k,e=>by have d:(44:UInt8)::(Lib.itoa n++Si u)=44::(Lib.itoa m++Si v):=e;obtain⟨a,b⟩:=Fv (Sm (h n (Aas ..))) (Sm (k m (Aas ..))) (OG u) (OG v) (List.cons.inj d).2;rw[XL (h n (Aas ..)) (k m (Aas ..)) a,Sh (λx c=>h x (Aag _ c)) (λx c=>k x (Aag _ c)) b]
theorem Sg{c:BC}{u v:List Int}(b:dy c)(d:Cc c u)(f:Cc c v)(e:Dw u=Dw v):u=v:=by rw[aZ,aZ]at e;exact Sh (λn a=>(d.mem b n a).1) (λn a=>(f.mem b n a).1) e
def En(c:BC)(v:List Int)(b:Nat):List Int:=(aO c.2.length).map (Xy c v b)++(aO c.1.length).map (Uh c v b)
theorem Hk(c:BC)(v:List Int)(b:Nat):eS c v (En c v b) b:=by
 refine⟨by simp[En],λi a=>?_,λj d=>?_⟩;· grind[En]
 simp_all[En]
theorem eS.eq(h:eS c v u b):u=En c v b:=h.uniq (Hk c v b)
theorem ZE.eq(h:ZE c v a b):En c v a=En c v b:=by
 unfold En;congr 1;· exact Abr λi d=>h.1 i (Abf.1 d)
 ·exact Abr λj e=>h.2 j (Abf.1 e)
def CS(c:BC):List Int:=T9 (c.2.length+c.1.length) 0
def Gv(c:BC)(w:Ay):List Int:=w.foldl (λv x=>En c v x.toNat) (CS c)
theorem FY(c:BC)(w:Ay)(x:UInt8):Gv c (w++[x])=En c (Gv c w) x.toNat:=by simp[Gv]
def Ll(c:BC):Prop:= ∀w:Ay,MS c (Gv c w)=1
theorem aQ{s:Ay}{n:Int}(h:n<=s.length): -1<=YW s n b/\YW s n b<=s.length:=by grind[YW]
theorem Cc.nx(n:∀k∈c.2,Bg k.1)(l:Cc c v)(b:Nat):Cc c (En c v b):=by
 have h:=Hk c v b;refine⟨h.len,λi d=>?_,λj g=>?_⟩
 ·rw[h.cl i d];have hc:=l.cl i d;have f:c.2.getD i dK=c.2[i]:=AO d;have m:=AN d;unfold Xy Bn;rw[f];split;· omega
  ·unfold Bf;rw[show(c.2[i]).1.getD (v.getD i 0).toNat (Ak,[])=(c.2[i]).1[(v.getD i 0).toNat]'(by omega)from AO _];have:=((n _ m) _ (AN (by omega:(v.getD i 0).toNat<(c.2[i]).1.length))).step b;omega
 ·rw[h.fd j g];have hc:=l.fd j g;have f:c.1.getD j dF=c.1[j]:=AO g;unfold Uh;rw[f];exact aQ hc.2
theorem Rn(h:∀k∈c.2,k.1≠ []):Cc c (CS c):=by
 have b:∀i,(CS c).getD i 0=0:=λi=>by grind[CS]
 refine⟨by simp[CS],λi d=>?_,λj e=>?_⟩;all_goals grind[List.length_pos_iff,Als]
theorem Mk{c:BC}(h:∀k∈c.2,k.1≠ [])(a:∀k∈c.2,Bg k.1)(w:Ay):Cc c (Gv c w):=by
 have:∀(w:Ay) {v:List Int},Cc c v->Cc c (w.foldl (λv x=>En c v x.toNat) v):=λw=>by
  induction w with
  |nil=>simp
  |cons x w b=>exact λh=>b (h.nx a _)
 exact this w (Rn h)
structure u6(c:BC)(m:List (Ay×Bool))(todo:List (List Int)):Prop where
 z:Dw (CS c)∈m.map (·.1)
 rc:∀v∈todo,∃w,v=Gv c w
 dn:∀x∈m.map (·.1),∃v,Cc c v/\x=Dw v/\(v∈todo\/MS c v=1/\∀b,b<256->Dw (En c v b)∈m.map (·.1))
theorem u6.once{m:List (Ay×Bool)}(d:dy c)(h:∀k∈c.2,k.1≠ [])(e:∀k∈c.2,Bg k.1)(hc:u6 c m []):Ll c:=by
 have all:∀w:Ay,Dw (Gv c w)∈m.map (·.1):=λw=>by
  have:∀(l:Ay),Dw (Gv c l.reverse)∈m.map (·.1):=λl=>by
   induction l with
   |nil=>exact hc.z
   |cons x l f=>
    rw[Aew,FY];obtain⟨v,v1,b,a⟩:=hc.dn _ f;rw[Sg d (Mk h e _) v1 b];rcases a with a|a;· grind
    ·exact a.2 _ x.toNat_lt
  have:=this w.reverse;grind
 intro w;obtain⟨v,v1,b,a⟩:=hc.dn _ (all w);grind[Sg,Mk]
def DB(c:BC):Prop:=(∀k∈c.2,k.1≠ []/\Bg k.1/\Cb k.1=k.1)/\Ll c
structure CloI(c:BC)(v:List Int)(bs:List Int)(m:List (Ay×Bool))(todo:List (List Int))(k:Nat):Prop where
 z:Dw (CS c)∈m.map (·.1)
 rc:∀v∈todo,∃w,v=Gv c w
 dn:∀x∈m.map (·.1),∃u,Cc c u/\x=Dw u/\(u∈todo\/u=v\/MS c u=1/\∀b,b<256->Dw (En c u b)∈m.map (·.1))
 pg:∀i,i<k->∀a:Nat,bs[i]?=Ac (a:Int)->Dw (En c v a)∈m.map (·.1)
theorem ON{m:List (Ay×Bool)}{x:Ay}(h:AF m x=Dc):(Bz m x Br).map (·.1)=m.map (·.1)++[x]:=by grind[Bz]
theorem UJ(B:dy c)(hN:GZ (GG c)<=400000000000)(R:1000000000000<fu):Ok (F63 fu c) λr=>r=Br↔DB c:=by
 have c308:=rS;have h1:=B.nf;have h2:=B.nc;have K:¬DB c->Ok (Ac Ak) λr=>r=Br↔DB c:=λh=>MI ⟨λe=>(by grind),λe=>absurd e h⟩;refine TV (λn=> ∀k∈c.2.take n,k.1≠ []/\Bg k.1/\Cb k.1=k.1) c.2.length (by simp) (by omega) (λn nx hn P F=>?_) (λnx P=>?_)
 ·have M:=AN hn;have hst:=B.st _ M;refine P2 (Aah hn (N7 (λe=>K λA=>(A.1 _ M).1 (OF.1 (by omega))) λh0=>Oz (L5 (n:=20000) (B.bt _ M) ⟨hst,λs W=>by have:=B.ed _ M s W;omega⟩ (by omega) (by omega) (by omega)) λb Q=>PY (λD=>K λA=>?_) λD=>F λk E=>?_));· have:=Q.2 (A.1 _ M).2;grind
  ·rcases(Ag hn).1 E with h|rfl;all_goals grind
 rw[Ai]at P;have V:∀k∈c.2,k.1≠ []:=λk E=>(P k E).1;have p:∀k∈c.2,Bg k.1:=λk E=>(P k E).2.1;have G:Cc c (CS c):=Rn V;refine P3 (Aaq (Abw (PC (by omega) ?_)));obtain⟨hk0,hkl⟩:=G.key B R;refine BY (a:=CS c) rfl (BY hk0 (PC ⟨by omega,by omega⟩ ?_));have hs0:FM c []:=⟨by simp,by simp,by simp⟩;obtain⟨hs1,hl1⟩:=hs0.put G rfl;have T:(Bz ([]:List (Ay×Bool)) (Dw (CS c)) Br).map (·.1)=[Dw (CS c)]:=ON rfl;refine Xn (X:=List (Ay×Bool)×List (List Int)) (λx=>FM c x.1/\(∀v∈x.2,Cc c v)/\x.2.length<=x.1.length/\u6 c x.1 x.2) (λx=>2*(GZ (GG c)-x.1.length)+x.2.length)
  ⟨hs1,λv hv=>by rw[Aae.1 hv];exact G,by rw[hl1];simp,⟨by exact Aae.2 rfl,λv hv=>⟨[],Aae.1 hv⟩,λx o=>⟨CS c,G,by exact Aae.1 o, .inl (Aae.2 rfl)⟩⟩⟩ (by rw[Acm];omega) λx nx o _ F=>?_;obtain⟨seen,d⟩:=x;obtain⟨W,ht,hle,hc⟩:=o;dsimp only at W ht hle F hc;have hsl:=W.le;refine N7 (λh=>?_) λh=>MI ⟨λ_=>⟨P,?_⟩,λ_=>rfl⟩;rotate_left;· have h:¬0<(d.length:Int):=h;have:d=[]:=OF.1 (by omega);rw[this]at hc;exact hc.once B V p
 have h:0<(d.length:Int):=h
 have H:=AN (by omega:d.length-1<d.length);have g:=ht _ H;have hix:idx d ((d.length:Int)-1)=Ac (d[d.length-1]'(by omega)):=by rw[show((d.length:Int)-1)=((d.length-1:Nat):Int) by omega,Bl (by omega)]
 have q:∀u∈d,u∈d.take (d.length-1)\/u=d[d.length-1]'(by omega):=λu C=>by
  have:=(Ag (l:=d) (k:=d.length-1) (by omega)).1 (by rw[show d.length-1+1=d.length by omega,Aav];exact C);rcases this with h|h;· exact .inl h
  ·exact .inr h
 obtain⟨w0,N⟩:=hc.rc _ H;refine Aaq (BY hix (Aaq (PC ⟨by omega,by omega⟩ (BY (h_ B g R) (N7 (λhh=>K λA=>hh (by rw[N,A.2 w0];rfl)) λhh=>Oz (Xf B p g R) λbs S=>?_)))));rw[show ae ((d.length:Int)-1)=d.length-1 by omega];obtain⟨S,I,J⟩:=S;dsimp only;generalize d[d.length-1]'(by omega)=v at g q N hh I J;have hh1:MS c v=1:=by omega
 refine XJ (λk (s:List (Ay×Bool)) (t:List (List Int))=>(FM c s/\(∀v∈t,Cc c v)/\t.length<=s.length/\2*(GZ (GG c)-s.length)+t.length<2*(GZ (GG c)-seen.length)+d.length)/\CloI c v bs s t k) bs.length
  ⟨⟨W,λu C=>ht u (Ack C),by rw[Abh];omega,by rw[Abh];omega⟩,⟨hc.z,λu C=>hc.rc u (Ack C),λx o=>?_,λi hi=>by omega⟩⟩ (by omega) (λk s t nx2 E L U=>?_) (λs t nx2 L=>?_)
 ·obtain⟨u,Y,Z,j⟩:=hc.dn x o;refine⟨u,Y,Z,?_⟩;rcases j with j|j
  ·rcases q u j with u4|u4;· exact .inl u4
   ·exact .inr (.inl u4)
  ·exact .inr (.inr j)
 ·obtain⟨⟨O,a2,a3,a4⟩,z⟩:=L;obtain⟨a,ea,ha⟩:=I _ (AN E);refine P2 (Aah E ?_);dsimp only;rw[ea];refine Oz (du (b:=a) B p g R) λu hu'=>?_;have eu:=hu'.eq;have C:Cc c u:=by rw[eu];exact g.nx p a
  obtain⟨e,el⟩:=C.key B R;have hsl2:=O.le;refine BY e (PC (by omega) ?_);have pg:∀(m:List Ay),(∀x∈s.map (·.1),x∈m)->Dw u∈m->∀i,i<k+1->∀y:Nat,bs[i]?=Ac (y:Int)->Dw (En c v y)∈m:=λm M hu2 i hi y hy=>by
   rcases Aal i k with h|h;· exact M _ (z.pg i h y hy)
   ·obtain rfl:i=k:=by omega
    rw[IN E,ea]at hy;have:a=y:=by have:=Abs hy;omega
    rw[<-this,<-eu];exact hu2
  rcases O.get (x:=Dw u)with A|A
  ·rw[A];obtain⟨b1,b2⟩:=O.put C A;have b3:=b1.le;have ek:=ON A;have up:∀x∈s.map (·.1),x∈(Bz s (Dw u) Br).map (·.1):=λx o=>by rw[ek];exact AT.2 (.inl o)
   refine VX rf (PC ⟨by omega,by omega⟩ (Abw (U _ _ ⟨⟨b1,λw p=>?_,by rw[b2,Aab,Acm];omega,by rw[b2,Aab,Acm];omega⟩,⟨up _ z.z,λw p=>?_,λx o=>?_,pg _ up (by rw[ek];exact AT.2 (.inr (Aae.2 rf)))⟩⟩)))
   ·rcases AT.1 p with p|p;· exact a2 w p
    ·rw[Aae.1 p];exact C
   ·rcases AT.1 p with p|p;· exact z.rc w p
    ·refine⟨w0++[UInt8.ofNat a],?_⟩;rw[Aae.1 p,eu,FY,<-N,show(UInt8.ofNat a).toNat=a by rw[Afq];exact Agd ha]
   ·rw[ek]at o;rcases AT.1 o with o|o
    ·obtain⟨u',Y,Z,j⟩:=z.dn x o;refine⟨u',Y,Z,?_⟩;rcases j with j|j|j;· exact .inl (AT.2 (.inl j))
     ·exact .inr (.inl j)
     ·exact .inr (.inr ⟨j.1,λb Q=>up _ (j.2 b Q)⟩)
    ·exact⟨u,C,Aae.1 o, .inl (AT.2 (.inr (Aae.2 rf)))⟩
  ·rw[A];exact P6 rfl (U _ _ ⟨⟨O,a2,a3,a4⟩,⟨z.z,z.rc,z.dn,pg _ (λx o=>o) (By.2 ⟨_,OO A,rfl⟩)⟩⟩)
 ·obtain⟨⟨O,a2,a3,a4⟩,z⟩:=L;refine P3 (F _ ⟨O,a2,a3,⟨z.z,z.rc,λx o=>?_⟩⟩ a4);obtain⟨u,Y,Z,j⟩:=z.dn x o;refine⟨u,Y,Z,?_⟩;rcases j with j|j|j;· exact .inl j
  ·subst j;refine .inr ⟨hh1,λb Q=>?_⟩;obtain⟨a,ha,hab⟩:=J b Q;obtain⟨i,hi,ei⟩:=Aau ha;rw[<-hab.eq];exact z.pg i hi a (by rw[IN hi,ei])
  ·exact .inr j
def CV(ls:List Tb)(v:List Int)(b:Nat):List Int:=(aO ls.length).map λi=>Bn (ls.getD i []) (v.getD i 0) b
def MT(ls:List Tb)(v:List Int)(k:Nat):Nat:=((aO k).filter λi=>fin (ls.getD i []) (v.getD i 0)).length
def Gs(ls:List Tb):List Int:=T9 ls.length 0
def Rx(ls:List Tb)(w:Ay):List Int:=w.foldl (λv x=>CV ls v x.toNat) (Gs ls)
def WV(ls:List Tb):Prop:= ∀w:Ay,MT ls (Rx ls w) ls.length=1
theorem Kj(ls:List Tb)(w:Ay)(x:UInt8):Rx ls (w++[x])=CV ls (Rx ls w) x.toNat:=by simp[Rx]
structure QR(ls:List Tb)(v:List Int):Prop where
 len:v.length=ls.length
 rg:∀i (h:i<ls.length), -1<=v.getD i 0/\v.getD i 0<(ls[i]).length
structure vB(ls:List Tb)(n:Nat):Prop where
 ln:ls.length<=100
 ne:∀l∈ls,l≠ []
 wf:∀l∈ls,Bg l
 sh:∀l∈ls,DW l n
def Qu(ls:List Tb):List Nat:=ls.map λl=>l.length+1
theorem QR.NG(c:QR ls v):v∈NG (Qu ls):=by
 refine ME (by rw[c.len];simp[Qu]) λi b=>?_;have a:i<ls.length:=by grind[Qu]
 have:=c.rg i a;grind[Qu]
theorem ZA{l:List (List Int)}(a:l.Nodup)(h:∀v∈l,QR ls v):l.length<=GZ (Qu ls):=by rw[<-L4];exact Co a λx b=>(h x b).NG
theorem Ko(h:i<ls.length):(CV ls v b).getD i 0=Bn (ls.getD i []) (v.getD i 0) b:=by grind[CV]
theorem QR.nx(e:vB ls n)(g:QR ls v)(b:Nat):QR ls (CV ls v b):=by
 refine⟨by simp[CV],λi a=>?_⟩;have hc:=g.rg i a;have f:=AN a;rw[Ko a,show ls.getD i []=ls[i]from AO a];unfold Bn;split;· omega
 ·unfold Bf;rw[show(ls[i]).getD (v.getD i 0).toNat (Ak,[])=(ls[i])[(v.getD i 0).toNat]'(by omega)from AO _];have:=((e.wf _ f) _ (AN (by omega:(v.getD i 0).toNat<(ls[i]).length))).step b;omega
theorem Xg(b:vB ls n):QR ls (Gs ls):=by
 have d:∀i,(Gs ls).getD i 0=0:=λi=>by grind[Gs]
 refine⟨by simp[Gs],λi c=>?_⟩;have:=Aea.2 (b.ne _ (AN c));grind
theorem iH{c:Nat}(j:vB ls n)(B:n<fu)(w:100<fu)(hc:c<256)(q:QR ls v):
  Ok (oj fu (ls,v,(c:Int))) λe=>((c:Int)<e/\e<=256)/\∀i,i<ls.length->Fg (C1 (ls.getD i []) (v.getD i 0)) c e:=by
 have D:=j.ln;have C:=q.len;refine SA (λk (y:Int)=>((c:Int)<y/\y<=256)/\∀i,i<k->Fg (C1 (ls.getD i []) (v.getD i 0)) c y) ls.length ⟨⟨by omega,by simp⟩,λi x=>by omega⟩ (by omega) (λk y nx d g l=>?_) (λy nx g=>?_)
 ·obtain⟨m,A⟩:=g;have p:=AN d;have r:ls.getD k []=ls[k]:=AO d;have t:=q.rg k d;have step:∀z,((c:Int)<z/\z<=y)->Fg (C1 (ls.getD k []) (v.getD k 0)) c z->Ok (nx (z,k+1)) λe=>((c:Int)<e/\e<=256)/\∀i,i<ls.length->Fg (C1 (ls.getD i []) (v.getD i 0)) c e:=λz b f=>l _ ⟨⟨b.1,by omega⟩,λi x=>by
   rcases Aal i k with h|h;· exact(A i h).mono b.2
   grind⟩;refine P2 (BY (BG (by omega)) (N7 (λh=>step _ ⟨m.1,Abn _⟩ (by unfold C1;rw[if_pos h];intro e u;cases u)) λh=>(by
   have h:¬v.getD k 0<0:=h;have s:C1 (ls.getD k []) (v.getD k 0)=((ls[k])[(v.getD k 0).toNat]'(by omega)).2:=by unfold C1 Bf;rw[if_neg h,r,show(ls[k]).getD (v.getD k 0).toNat (Ak,[])=(ls[k])[(v.getD k 0).toNat]'(by omega)from AO _]
   have a:(ls[k])[(v.getD k 0).toNat]'(by omega)∈ls[k]:=AN _;refine Aah d (BY (BG (by omega)) (Adq (by omega) (by dsimp only;omega) ?_));exact KC hc ⟨m.1,m.2⟩ ⟨_,(j.wf _ p) _ a⟩ (by have:=(j.sh _ p).2 _ a;omega) λz b f=>step z b (by rw[s];exact f))))
 ·exact P3 (MI g)
theorem Fg.Bn{l:Tb}{i:Int}{c:Nat}{e:Int}(h:Fg (C1 l i) c e)(h1:c<=b)(h2:(b:Int)<e):GL.Bn l i c=GL.Bn l i b:=by
 unfold GL.Bn;unfold C1 at h;split;· rfl
 ·rename_i a;rw[if_neg a]at h;refine Rm λx d=>?_;obtain⟨f,g⟩:=h x d;grind[BQ,decide]
theorem gz{l:List (List Int)}{x:List Int}(h:∀y∈l,y.length=x.length)(s:l.length<fu)(o:x.length<fu):tq fu (l,x)=Ac (Ds (x∈l)):=by
 refine(Ok.eq ?_);refine TV (λk=>x∉l.take k) l.length (by simp) s (λk nx d c t=>?_) (λnx c=>?_)
 ·have n:=AN d;have p:=h _ n;have e:tt fu (l[k],x)=Ac (Ds (l[k]=x)):=by
   refine(Ok.eq ?_);generalize l[k]=y at p;refine TV (λj=> ∀i,i<j->y.getD i 0=x.getD i 0) y.length (λi q=>by omega) (by omega) (λj m r a f=>?_) (λm a=>?_)
   ·refine P2 (BY (BG r) (BY (BG (by omega)) (N7 (λg=>MI (decide_eq_false λe=>g (by rw[e])).symm) λheq=>f λi q=>?_)));grind
   ·exact P3 (MI (decide_eq_true (M0 p a)).symm)
  refine P2 (Aah d (BY e (N7 (λh=>MI (decide_eq_true (h▸n)).symm) λh=>t λo=>?_)));grind[Ag]
 simp_all[Ai,P3,MI,decide_eq_false]
structure Nt(ls:List Tb)(s:List (List Int))(k:Nat):Prop where
 nd:s.Nodup
 vl:∀v∈s,QR ls v
 z:Gs ls∈s
 rc:∀v∈s,∃w,v=Rx ls w
 dn:∀j v,j<k->s[j]?=Ac v->MT ls v ls.length=1/\∀b,b<256->CV ls v b∈s
theorem Nt.once{s:List (List Int)}(h:Nt ls s s.length):WV ls:=by
 have at_:∀v∈s,MT ls v ls.length=1/\∀b,b<256->CV ls v b∈s:=λv c=>by obtain⟨j,a,rfl⟩:=Aau c;exact h.dn j _ a (IN a)
 have all:∀l:Ay,Rx ls l.reverse∈s:=λl=>by
  induction l with
  |nil=>exact h.z
  |cons x l d=>rw[Aew,Kj];exact(at_ _ d).2 _ x.toNat_lt
 intro w;have:=all w.reverse;grind
theorem Nt.more{s:List (List Int)}(g:vB ls n)(h:Nt ls s k)(r:k<=s.length)(e:v∈s)(l:b<256)(o:CV ls v b∉s):Nt ls (s++[CV ls v b]) k:=by
 refine⟨?_,λu d=>?_,AT.2 (.inl h.z),λu d=>?_,λj u m d=>?_⟩;· refine Acq.2 ⟨h.nd,by simp,λa i c hc=>?_⟩;grind
 ·rcases AT.1 d with d|d;· exact h.vl u d
  ·rw[Aae.1 d];exact(h.vl v e).nx g b
 ·rcases AT.1 d with d|d;· exact h.rc u d
  ·obtain⟨w,p⟩:=h.rc v e;refine⟨w++[UInt8.ofNat b],?_⟩;grind[UInt8.ofNat,List.mem_singleton,Kj,UInt8.toNat_ofNat',Nat.mod_eq_of_lt]
 ·have f:j<s.length:=by omega
  rw[Aaa f]at d;obtain⟨a,b⟩:=h.dn j u m d;simp_all
theorem f_(L:vB ls n)(hf:n<fu)(hN:GZ (Qu ls)<=400000000000)(hF:1000000000000<fu):Ok (tp fu ls) λr=>r=Br↔WV ls:=by
 have hln:=L.ln;refine SA (λk (z:List Int)=>z=T9 k 0) ls.length rfl (by omega) (λk z nx C B P=>?_) (λz nx B=>?_);· have hp:=Aea.2 (L.ne _ (AN C));refine P2 (Aah C (P3 (PC (by grind) (P _ ?_))));grind[List.replicate_succ']
 subst B;have hs0:=Xg L;refine Qb (by omega) ?_;show Ok (Ad fu _ ([Gs ls],0)) _;refine Xn (X:=List (List Int)×Nat) (λx=>Nt ls x.1 x.2/\x.2<=x.1.length) (λx=>GZ (Qu ls)-x.2) ⟨⟨by simp,λv hv=>by simp_all,Aae.2 rfl,λv hv=>⟨[],Aae.1 hv⟩,λj v W=>by omega⟩,Abg _⟩ (by omega) λx nx K _ Q=>?_;obtain⟨s,k⟩:=x;obtain⟨I,C⟩:=K;dsimp only at I C Q;refine N7 (λh=>?_) λh=>MI ⟨λ_=>?_,λ_=>rfl⟩;rotate_left
 ·have h:¬(k:Int)<(s.length:Int):=h;have:k=s.length:=by omega
  subst this;exact I.once
 have h:(k:Int)<(s.length:Int):=h;have C:k<s.length:=by omega
 have J:=AN C;have m:=I.vl _ J;obtain⟨w0,R⟩:=I.rc _ J;have O:s[k]?=Ac s[k]:=IN C;have l:idx s (k:Int)=Ac s[k]:=Bl C;generalize s[k]=v at J m R O l;have hl:=m.len;refine SA (λi (c:Int)=>c=(MT ls v i:Int)) ls.length rfl (by omega) (λi c nx2 g B P=>?_) (λc nx2 B=>?_)
 ·have ei:ls.getD i []=ls[i]:=AO g;have hc:=m.rg i g;have hle:MT ls v i<=i:=filter_le;have U:(MT ls v (i+1):Int)=(MT ls v i:Int)+(if fin (ls.getD i []) (v.getD i 0)=Br then 1 else 0:Nat):=by
   unfold MT;rw[HA];omega
  have ef:∀h:0<=v.getD i 0,fin (ls.getD i []) (v.getD i 0)=((ls[i])[(v.getD i 0).toNat]'(by omega)).1:=λh=>by rw[ei];exact Eg h (by omega)
  subst B;refine P2 (BY l (BY (BG (by omega)) (N7 (λh=>Aah g (BY l (BY (BG (by omega)) (Adq h hc.2 (PY (λd=>Aaq (P _ ?_)) λd=>P _ ?_))))) λh=>P _ ?_)))
  ·rw[U,if_pos]; · rfl
   rw[ef h];exact d
  ·rw[U,if_neg]; · simp
   rw[ef h];intro K;rw[K]at d;cases d
  ·rw[U,if_neg]; · simp
   have h:¬0<=v.getD i 0:=h;unfold fin;rw[decide_eq_false h];simp
 refine P3 (N7 (λZ=>MI ⟨λe=>(by cases e),λho=>absurd (by rw[B,R,ho w0];rfl) Z⟩) λheq=>?_);have h1:MT ls v ls.length=1:=by omega
 refine Xn (X:=List (List Int)×Int) (λy=>(Nt ls y.1 k/\s.length<=y.1.length/\y.1[k]?=Ac v)/\(0<=y.2/\y.2<=256)/\∀b:Nat,(b:Int)<y.2->CV ls v b∈y.1) (λy=>256-y.2.toNat) ⟨⟨I,Aaf _,O⟩,⟨by omega,by omega⟩,λb d=>by omega⟩ (by omega) λy nx3 hy _ G=>?_;obtain⟨t,z⟩:=y;obtain⟨⟨o,t2,t3⟩,hz,d⟩:=hy;dsimp only at o t2 t3 hz d G;have htl:=ZA o.nd o.vl;have hvt:v∈t:=Aai t3;have F:k<t.length:=by omega
 have M:idx t (k:Int)=Ac v:=by rw[Bl F,<-IN F,t3]
 refine N7 (λh=>?_) λh=>?_
 ·obtain⟨b,rfl⟩:∃b:Nat,z=b:=⟨z.toNat,by omega⟩;have f:b<256:=by omega
  have H:(CV ls v b).length=ls.length:=by unfold CV;simp
  refine SA (λi (u:List Int)=>u=(CV ls v b).take i) ls.length (by simp) (by omega) (λi u nx4 g q Y=>?_) (λu nx4 q=>?_);· have hm:=AN g;have hc:=m.rg i g;refine P2 (Aah g (BY M (BY (BG (by omega)) (PC (p:=GK.F8 b) (by unfold GK.F8;omega) (Oz (LC (L.sh _ hm) hf hc.2) λr hr=>PC (by unfold Aj;dsimp only;rw[q,Abh];omega) (Y _ ?_))))));dsimp only;rw[q,hr,GB (by omega)];congr 2;have:=Ko (ls:=ls) (v:=v) (b:=b) g;rw[AO (by omega)]at this;rw[this,show ls.getD i []=ls[i]from AO g]
  ·have V:u=CV ls v b:=by rw[q,<-H,Aav]
   refine P3 (BY (gz (λy hy=>by rw[(o.vl y hy).len];dsimp only;rw[V,H]) (by dsimp only;omega) (by dsimp only;rw[V,H];omega)) ?_);dsimp only;rw[V];have cut:=iH (c:=b) L hf (by omega) f m;have D:∀e:Int,(∀i,i<ls.length->Fg (C1 (ls.getD i []) (v.getD i 0)) b e)->∀x:Nat,b<=x->(x:Int)<e->CV ls v x=CV ls v b:=λe E x hx1 hx2=>by unfold CV;exact Abr λi g=>((E i (Abf.1 g)).Bn hx1 hx2).symm
   by_cases w:CV ls v b∈t
   ·rw[decide_eq_true w];refine P6 rfl (BY M (Oz cut λe E=>G _ ⟨⟨o,t2,t3⟩,⟨by dsimp only;omega,E.1.2⟩,λx K=>?_⟩ (by dsimp only;omega)));rcases Aal x b with A|A;· exact d x (by omega)
    ·rw[D e E.2 x A K];exact w
   ·rw[decide_eq_false w];have t1':=o.more L (by omega) hvt f w;have S:(t++[CV ls v b])[k]?=Ac v:=by rw[Aaa F,t3]
    have N:idx (t++[CV ls v b]) (k:Int)=Ac v:=by rw[Bl (by simp;omega),<-IN (by simp;omega),S]
    refine VX rfl (PC (by unfold Aj;omega) (BY N (Oz cut λe E=>G _ ⟨⟨t1',by dsimp only;rw[Aab];omega,S⟩,⟨by dsimp only;omega,E.1.2⟩,λx K=>?_⟩ (by dsimp only;omega))));rcases Aal x b with A|A;· exact AT.2 (.inl (d x (by omega)))
    ·rw[D e E.2 x A K];exact AT.2 (.inr (Aae.2 rfl))
 ·have h:¬z<256:=h;refine Q _ ⟨⟨o.nd,o.vl,o.z,o.rc,λj u W T=>?_⟩,by dsimp only;omega⟩ (by dsimp only;omega);rcases Aal j k with A|A;· exact o.dn j u A T
  ·obtain rfl:j=k:=by dsimp only at W;omega
   dsimp only at T;rw[t3]at T;cases T;exact⟨h1,λb hb2=>d b (by omega)⟩
theorem D0(s:Ay):(Bx s).length=s.length+1:=by simp[Bx]
theorem W7{s:Ay}(h:i<s.length):(Bx s)[i]'(by grind[D0])=KV i s[i]:=by grind[Bx]
theorem N4(s:Ay):(Bx s)[s.length]'(by grind[D0])=(Br,[]):=by simp[Bx]
theorem Q6{s:Ay}{n:Int}(h: -1<=n/\n<=s.length):Bn (Bx s) n b=YW s n b:=by
 unfold Bn YW;by_cases e:n<0;· omega
 rw[if_neg e,Bv (by omega) (by grind[D0])];obtain⟨k,rfl⟩:∃k:Nat,n=k:=⟨n.toNat,by omega⟩;rcases Aal k s.length with d|d
 ·grind[Bx,KV,AQ,BQ,decide]
 ·obtain rfl:k=s.length:=by omega
  have c:(Bx s)[((s.length:Int)).toNat]'(by grind[D0])=(Br,[]):=by grind[N4]
  rw[c,if_neg (by omega)];rfl
theorem N3{s:Ay}{n:Int}(h: -1<=n/\n<=s.length):fin (Bx s) n=Ds (n=(s.length:Int)):=by
 by_cases b:n<0;· grind[fin_neg,decide_eq_false]
 rw[Eg (by omega) (by grind[D0])];obtain⟨k,rfl⟩:∃k:Nat,n=k:=⟨n.toNat,by omega⟩;simp only[Acd];rcases Aal k s.length with a|a;· rw[W7 a,decide_eq_false (by omega)];rfl
 ·obtain rfl:k=s.length:=by omega
  rw[N4,decide_eq_true rfl]
theorem Q7(s:Ay):DW (Bx s) (s.length+1):=by
 refine⟨by simp_all[D0,Aaf],λx a=>?_⟩;rcases AT.1 a with a|a;· obtain⟨i,b,rfl⟩:=List.mem_mapIdx.1 a;simp[KV]
 grind
def PW(c:BC):List Tb:=c.2.map (·.1)++c.1.map λf=>Bx f.1
theorem H4(c:BC):(PW c).length=c.2.length+c.1.length:=by simp[PW]
theorem az{c:BC}{i:Nat}(h:i<c.2.length):(PW c).getD i []=(c.2.getD i dK).1:=by grind[PW]
theorem ay(h:j<c.1.length):(PW c).getD (c.2.length+j) []=Bx (c.1.getD j dF).1:=by grind[PW]
theorem gr{c:BC}{v:List Int}{b:Nat}(l:Cc c v):CV (PW c) v b=En c v b:=by
 have h:=Hk c v b;refine M0 (by rw[h.len];grind[CV,H4]) λi k=>?_;have g:i<c.2.length+c.1.length:=by grind[CV,H4]
 rw[Ko (by grind[H4])];rcases Aal i c.2.length with f|f;· rw[az f,h.cl i f];rfl
 ·obtain⟨j,rfl⟩:∃j,i=c.2.length+j:=⟨i-c.2.length,by omega⟩;have e:j<c.1.length:=by omega
  have hc:=l.fd j e;rw[ay e,h.fd j e,show c.1.getD j dF=c.1[j]from AO e];unfold Uh;rw[show c.1.getD j dF=c.1[j]from AO e];exact Q6 hc
theorem bo{c:BC}{v:List Int}(f:Cc c v):MT (PW c) v (PW c).length=MS c v:=by
 unfold MT MS Lo Qa;rw[H4,List.range_add,Afu,Aab];congr 1;· grind[List.filter_congr,az]
 ·rw[Akz,Aap];congr 1;refine Afy λj d=>?_;have d:=Abf.1 d;have hc:=f.fd j d;show fin ((PW c).getD (c.2.length+j) []) (v.getD (c.2.length+j) 0)=_;rw[ay d,show c.1.getD j dF=c.1[j]from AO d];exact N3 hc
theorem ZH{c:BC}(h:∀k∈c.2,k.1≠ [])(a:∀k∈c.2,Bg k.1)(w:Ay):Rx (PW c) w=Gv c w:=by
 have:∀l:Ay,Rx (PW c) l.reverse=Gv c l.reverse:=λl=>by
  induction l with
  |nil=>show Gs (PW c)=CS c;grind[Gs,CS,H4]
  |cons x l b=>grind[List.reverse_cons,Kj,FY,gr,Mk]
 have:=this w.reverse;grind
theorem o4(h:∀k∈c.2,k.1≠ [])(a:∀k∈c.2,Bg k.1):WV (PW c)↔Ll c:=by
 unfold WV Ll;constructor<;>intro k w;· have:=k w;grind[ZH,bo,Mk]
 grind[ZH,bo,Mk]
theorem rH(c:BC):Qu (PW c)=GG c:=by unfold Qu PW GG;rw[Aan,Aaj,Aaj];congr 1;simp[Bx]
theorem wK(b:dy c)(h:∀k∈c.2,k.1≠ [])(g:∀k∈c.2,Bg k.1):vB (PW c) 20000:=by
 have i:=b.nf;have j:=b.nc;refine⟨by grind[H4],λl a=>?_,λl a=>?_,λl a=>?_⟩<;>unfold PW at a<;>rcases AT.1 a with a|a<;>obtain⟨x,d,rfl⟩:=By.1 a;· grind
 ·grind[D0]
 ·exact g x d
 ·exact(TQ x.1).1
 ·exact⟨b.st x d,λs f=>by have:=b.ed x d s f;omega⟩
 ·have:=b.lb x d;exact⟨by have:=(Q7 x.1).1;omega,λs f=>by have:=(Q7 x.1).2 s f;omega⟩
theorem S9(m:dy c)(G:GZ (GG c)<=400000000000)(F:1000000000000<fu):Ok (d_ fu c) λr=>r=Br↔DB c:=by
 have K:=m.nf;have L:=m.nc;have u:¬DB c->Ok (Ac Ak) λr=>r=Br↔DB c:=λh=>MI ⟨λe=>(by grind),λe=>absurd e h⟩;refine SA (λn (s:List Tb)=>s=(c.2.take n).map (·.1)/\∀k∈c.2.take n,k.1≠ []/\Bg k.1/\Cb k.1=k.1) c.2.length ⟨rfl,by simp⟩ (by omega) (λn s nx j i p=>?_) (λs nx i=>?_)
 ·obtain⟨q,J⟩:=i;have o:=AN j;have z:=m.st _ o;refine P2 (Aah j (Oz (J_ (n:=20000) (m.bt _ o) ⟨z,λs I=>by have:=m.ed _ o s I;omega⟩ (by omega) (by omega) (by omega)) λb B=>PY (λd=>u λx=>?_) λd=>N7 (λe=>u λx=>(x.1 _ o).1 (OF.1 (by grind))) λE=>PC (by grind) (p _ ⟨?_,λk v=>?_⟩)));· have:=B.2 (x.1 _ o).2;rw[this]at d;cases d
  ·rw[q,GB j,Aan];rfl
  ·rcases(Ag j).1 v with h|rfl;· exact J k h
   ·exact⟨λe=>E (by rw[e];rfl),B.1 (by simpa using d)⟩
 obtain⟨q,i⟩:=i;rw[Ai]at i q;have w:∀k∈c.2,k.1≠ []:=λk v=>(i k v).1;have C:∀k∈c.2,Bg k.1:=λk v=>(i k v).2.1;refine Qb (by omega) ?_;refine SA (λn (t:List Tb)=>t=s++(c.1.take n).map λf=>Bx f.1) c.1.length (by simp) (by omega) (λn t A j a p=>?_) (λt A a=>?_);· have o:=AN j;have H:=m.lb _ o;refine P2 (Aah j (Oz (eW (by dsimp only;omega) (by dsimp only;omega)) λr y=>PC (by unfold Aj;rw[a,q,Aab,Aap,Aap,Abh];omega) (p _ ?_)));rw[a,y,GB j,Aan,Aak];rfl
 ·rw[Ai]at a;have D:t=PW c:=by rw[a,q];rfl
  refine Qb (by omega) ?_;rw[D];refine Oz (f_ (wK m w C) (by omega) (by rw[rH];exact G) F) λr y=>MI ?_;rw[y,o4 w C];exact⟨λh=>⟨i,h⟩,λh=>h.2⟩
def vA(s:Sc):Prop:=Ei s.2.2.2.1 (A8 s.2.2.2.1) (A6 s.2.2.2.1)/\Bg s.2.2.2.2/\Cb s.2.2.2.2=s.2.2.2.2
theorem N5{s:Sc}(h:dz k m s)(j:m<1000000000)(i:1000000000000<fu):Ok (NW fu s) λb=>b=Br↔vA s:=by
 obtain⟨r,e,_,d,_⟩:=PV (fu:=fu) (gu:=fu) h.sm (by omega) (by omega);have l:=h.sm.n1;have n:=h.sm.n2;have g:tu fu s.2.2.2.1=Ac (Ds (s.2.2.2.1=r)):=by refine(Ok.eq ?_);exact BY e (BY (v8 (by omega) (by omega)) (MI rf))
 have a:s.2.2.2.1=r↔Ei s.2.2.2.1 (A8 s.2.2.2.1) (A6 s.2.2.2.1):=⟨λc=>c▸d,λc=>c.unique d⟩;refine BY g (PY (λc=>Oz (J_ h.bt h.sh (by omega) (by omega) (by omega)) λb f=>MI ?_) λc=>MI ?_);· rw[f];exact⟨λk=>⟨a.1 (of_decide_eq_true c),k⟩,And.right⟩
 ·exact⟨λh=>(by grind),λk=>absurd (a.2 k.1) (of_decide_eq_false c)⟩
def QW(l:List (Ay×Int×Bs)):Prop:=(∀f∈l,f.2.1=1\/f.2.1=2)/\eK l
def jw(l:List (Ay×Int×Bs))(k:Nat):Prop:=(∀f∈l.take k,f.2.1=1\/f.2.1=2)/\∀i (h:i+1<l.length),i+1<k->fX l[i].1 l[i+1].1=Br
theorem Qf(g:k<l.length){nx:Nat->Option Bool}(s:l.length<=4)(c:jw l k)(p:l[k].2.1=1\/l[k].2.1=2)(m:jw l (k+1)->Ok (nx (k+1)) λr=>r=Br↔QW l):
  Ok (bif Ds ((0:Int)<(k:Int))then Aa .i64 ((k:Int)-1) (Ab (idx l ((k:Int)-1)) λq=>bif !Go.Op.bytesLess q.1 l[k].1 then Ac Ak else nx (k+1))else nx (k+1)) λr=>r=Br↔QW l:=by
 have mem:∀f∈l.take (k+1),f.2.1=1\/f.2.1=2:=λf o=>by
  rcases(Ag g).1 o with h|rfl;· exact c.1 f h
  omega
 refine N7 (λn=>Aaq (Adq (by omega) (by omega) (PY (λa=>MI ⟨λh=>(by grind),λh=>?_⟩) λa=>m ⟨mem,λi d b=>?_⟩))) λn=>m ⟨mem,λi d b=>by omega⟩
 ·obtain⟨j,rfl⟩:∃j,k=j+1:=⟨k-1,by omega⟩;have e:((j+1:Nat):Int)-1=(j:Int):=by omega
  simp only[e,Acd]at a;rw[h.2 j g]at a;grind
 ·rcases Aal (i+1) k with h|h;· exact c.2 i d h
  ·obtain rfl:k=i+1:=by omega
   simp_all
theorem XZ(e:l.length<=4)(m:1000000000000<fu):Ok (F36 fu l) λr=>r=Br↔QW l:=by
 refine TV (jw l) l.length ⟨by simp,λi h k=>by omega⟩ (by omega) (λk nx b a g=>?_) (λnx a=>?_)
 ·refine P2 (Aah b (N7 (λc=>N7 (λd=>MI ⟨λh=>(by grind),λh=>?_⟩) λd=>Qf b e a (.inr (IS d)) g) λc=>Qf b e a (.inl (IS c)) g));rcases h.1 _ (AN b)with h|h;all_goals omega
 ·exact P3 (MI ⟨λ_=>⟨λf j=>a.1 f (by grind),λi h=>a.2 i h h⟩,λ_=>rfl⟩)
theorem UF(g:l.length<=4)(p:1000000000000<fu):Ok (eb fu l) λr=>r=Br↔QW l:=by
 refine TV (jw l) l.length ⟨by simp,λi h k=>by omega⟩ (by omega) (λk nx a b j=>?_) (λnx b=>?_)
 ·have go:(l[k].2.1=1\/l[k].2.1=2)->Ok (bif Ds ((0:Int)<(k:Int))then Aa .i64 ((k:Int)-1) (Ab (idx l ((k:Int)-1)) λn=>Ab (idx l (k:Int)) λo=>bif !Go.Op.bytesLess n.1 o.1 then Ac Ak else nx (k+1))else nx (k+1)) λr=>r=Br↔QW l:=λm=>by
   have:=Qf a g b m j;rw[Bl a];trivial
  refine P2 (Aah a (N7 (λc=>Aah a (N7 (λd=>MI ⟨λh=>(by grind),λh=>?_⟩) λd=>go (.inr (IS d)))) λc=>go (.inl (IS c))));rcases h.1 _ (AN a)with h|h;all_goals omega
 ·exact P3 (MI ⟨λ_=>⟨λf e=>b.1 f (by simp_all),λi h=>b.2 i h h⟩,λ_=>rfl⟩)
structure GdX(v:Vl):Prop where
 an:v.any=Br->v.sc=FO/\v.lists=[]/\v.structs=[]
 sc:vA v.sc
 rs:∀c∈v.lists,c.2.length<=1
 st:∀c∈v.structs,QW c.1/\DB c
def Ea:Nat->Vl->Prop
 |0,_=>False
 |d+1,v=>GdX v/\∀x∈kids v,Ea d x.1/\Ea d x.2
theorem Q5:vA FO:=by have h:Il 5 12 FO:=L0;exact⟨h.nu,h.ln.wf,h.ln.can⟩
theorem V'{v:Vl}(h:Bd (d+1) v)(w:1000000000000<fu):Ok (F81 fu v) λr=>r=Br↔GdX v:=by
 obtain⟨t,⟨C,D⟩,⟨H,z⟩,_⟩:=h;have no:¬GdX v->Ok (Ac Ak) λr=>r=Br↔GdX v:=λh=>MI ⟨λe=>(by grind),λe=>absurd e h⟩;have E:=t.n1;have F:=t.n2;have G:=t.sh.1;refine PY (λs=>Oz (VN (by omega) (by omega) (by omega)) λb l=>PY (λf=>Aaq (MI ?_)) λf=>no λh=>?_) λs=>?_
 ·have e:=l.1 f;rw[decide_eq_true_iff];constructor;· intro h;have o:v.lists=[]:=OF.1 (by omega);have p:v.structs=[]:=OF.1 (by omega);exact⟨λ_=>⟨e,o,p⟩,e▸Q5,by grind,by rw[p];simp⟩
  ·intro h;obtain⟨_,o,p⟩:=h.an s;rw[o,p];rfl
 ·rw[l.2 (h.an s).1]at f;cases f
 refine TV (λk=> ∀c∈v.lists.take k,c.2.length<=1) v.lists.length (by simp) (by omega) (λk nx j q x=>?_) (λnx q=>?_)
 ·refine P2 (Aah j (N7 (λB=>no λh=>by have:=h.rs _ (AN j);omega) λh=>x λc hc=>?_));rcases(Ag j).1 hc with hc|rfl;· exact q c hc
  ·omega
 rw[Ai]at q;refine Qb (by omega) ?_;refine TV (λk=> ∀c∈v.structs.take k,QW c.1/\DB c) v.structs.length (by simp) (by omega) (λk nx j a x=>?_) (λnx a=>?_)
 ·have l:=z _ (AN j);refine P2 (Aah j (Oz (XZ l.nf w) λb m=>PY (λg=>no λh=>?_) λg=>Oz (UJ l.lim l.GG w) λA n=>PY (λi=>no λh=>?_) λi=>x λc hc=>?_));· rw[m.2 (h.st _ (AN j)).1]at g;cases g
  ·rw[n.2 (h.st _ (AN j)).2]at i;cases i
  ·rcases(Ag j).1 hc with hc|rfl;· exact a c hc
   ·exact⟨m.1 (by simpa using g),n.1 (by simpa using i)⟩
 rw[Ai]at a;refine P3 (Oz (HW t (by omega) w) λb l=>MI ?_);rw[l];exact⟨λh=>⟨λy=>absurd y (by rw[s];decide),h,q,a⟩,λh=>h.sc⟩
theorem Jd:∀ {d fu:Nat} {v:Vl} {lv n a:Int} {b:Bool},Bd d v->1000000000000+d<fu->(1<=lv/\lv+d<=17)->(0<=n/\n+FG d<=1000000000000)->(0<=a/\a<=1000)->
  Ok (s_ fu (v,lv,n,a,b)) λr=>(0<=r.1/\r.1<=n+FG d)/\(0<=r.2.1/\r.2.1<=1000)/\(r.2.2=Ak↔b=Ak/\Ea d v)
 |0,_,_,_,_,_,_,h,_,_,_,_=>h.elim
 |d+1,0,_,_,_,_,_,_,h,_,_,_=>by omega
 |d+1,fu+1,v,lv,n,a,b,h,W,P,X,O=>by
  have hc:FG (d+1)=1+78*FG d:=rfl;rw[show s_ (fu+1) (v,lv,n,a,b)=_ from d88 fu v lv n a b];have u:F87 fu (lv,n,a,b)=Ac (n+1,(if a<lv then lv else a),b):=by refine(Ok.eq ?_);exact Aaq (Abx (by omega) (MI rf))
  have c:0<=(if a<lv then lv else a)/\(if a<lv then lv else a)<=1000:=by omega
  refine BY u ?_;generalize(if a<lv then lv else a)=t at c;have q:¬Ea (d+1) v->Ok (Ac (n+1,t,Br)) λr=>(0<=r.1/\r.1<=n+FG (d+1))/\(0<=r.2.1/\r.2.1<=1000)/\(r.2.2=Ak↔b=Ak/\Ea (d+1) v):=
   λE=>MI ⟨⟨by omega,by omega⟩,c,λh=>(by grind),λh=>absurd h.2 E⟩;refine N7 (λj=>absurd j (by omega)) λ_=>Oz (V' h (by omega)) λg I=>PY (λe=>q λG=>by rw[I.2 G.1]at e;cases e) λe=>BY (V1 h (by omega)) ?_;have B:=I.1 (by simpa using e);have J:=h.kids;have C:=h.2.2.2;refine Z6 (λk (x:Int) (y:Int) (z:Bool)=>(0<=x/\x<=n+1+((2*k*FG d:Nat):Int))/\(0<=y/\y<=1000)/\(z=Ak↔b=Ak/\∀w∈(kids v).take k,Ea d w.1/\Ea d w.2)) (kids v).length ⟨⟨by omega,by simp⟩,c,⟨λh=>⟨h,by simp⟩,λh=>h.1⟩⟩ (by omega) (λk x y z nx l A F=>?_) (λx y z nx A=>?_)
  ·obtain⟨M,H,o⟩:=A;have i:=C _ (AN l);have D:2*k*FG d<=76*FG d:=Abi _ (by omega);have m:2*(k+1)*FG d=2*k*FG d+2*FG d:=by rw[Nat.mul_add,Adk]
   refine P2 (Aah l (Aaq (Oz (Jd i.1 (by omega) (by omega) (by omega) H) λr L=>?_)));obtain⟨Y,Q,R⟩:=L;refine Aaq (Oz (Jd i.2 (by omega) (by omega) (by omega) Q) λs G=>?_);obtain⟨S,T,U⟩:=G;refine F _ _ _ ⟨⟨S.1,by omega⟩,T,?_⟩;rw[U,R,o];constructor
   ·rintro⟨⟨⟨v1,p⟩,V⟩,t2⟩;refine⟨v1,λw i=>?_⟩;rcases(Ag l).1 i with i|rfl;· exact p w i
    ·exact⟨V,t2⟩
   ·rintro⟨v1,p⟩;have K:=p _ ((Ag l).2 (.inr rfl));exact⟨⟨⟨v1,λw i=>p w ((Ag l).2 (.inl i))⟩,K.1⟩,K.2⟩
  ·obtain⟨M,H,o⟩:=A;have D:2*(kids v).length*FG d<=78*FG d:=Abi _ (by omega);refine P3 (MI ⟨⟨M.1,by omega⟩,H,?_⟩);rw[Ai]at o;exact o.trans ⟨λh=>⟨h.1,B,h.2⟩,λh=>⟨h.1,h.2.2⟩⟩
theorem Jh{v:Vl}(h:Bd d v)(T:d<=3)(S:1000000001000<fu):Ok (s9 fu v) λr=>r=Br↔Ea d v:=by
 have J:d≠0:=by rintro rfl;trivial
 obtain⟨d,rfl⟩:∃e,d=e+1:=⟨d-1,by omega⟩;have hc:FG d<=6163:=by rcases(by omega:d=0\/d=1\/d=2)with rfl|rfl|rfl<;>decide
 have key:Ok (F89 fu (v,1,(0,0),Ak)) λr=>r.2.2=Ak↔Ea (d+1) v:=by
  rw[F89];have p:F34 fu (1,((0,0),Ak))=Ac (1,1,Ak):=by rfl
  refine BY p ?_;have o:¬Ea (d+1) v->Ok (Ac ((1:Int),(1:Int),Br)) λr=>r.2.2=Ak↔Ea (d+1) v:=λB=>MI ⟨λh=>(by grind),λh=>absurd h B⟩;refine N7 (λf=>absurd f (by simp)) λ_=>Oz (V' h (by omega)) λg E=>PY (λa=>o λD=>by rw[E.2 D.1]at a;grind) λa=>BY (V1 h (by omega)) ?_;have u:=E.1 (by grind);have F:=h.kids;have A:=h.2.2.2;refine Z6 (λk (x:Int) (y:Int) (z:Bool)=>(0<=x/\x<=1+((2*k*FG d:Nat):Int))/\(0<=y/\y<=1000)/\(z=Ak↔∀w∈(kids v).take k,Ea d w.1/\Ea d w.2)) (kids v).length ⟨⟨by simp,by simp⟩,⟨by decide,by decide⟩,⟨λ_=>by simp,λ_=>rfl⟩⟩ (by omega) (λk x y z nx i t C=>?_) (λx y z nx t=>?_)
  ·obtain⟨L,H,l⟩:=t;have b:=A _ (AN i);have K:2*k*FG d<=76*FG d:=Abi _ (by omega);have j:2*(k+1)*FG d=2*k*FG d+2*FG d:=by rw[Nat.mul_add,Adk]
   refine P2 (Aah i (Aaq (Oz (Jd b.1 (by omega) (by omega) (by omega) H) λr c=>?_)));obtain⟨U,M,N⟩:=c;refine Aaq (Oz (Jd b.2 (by omega) (by omega) (by omega) M) λs D=>?_);obtain⟨O,P,Q⟩:=D;refine C _ _ _ ⟨⟨O.1,by omega⟩,P,?_⟩;rw[Q,N,l];constructor
   ·rintro⟨⟨n,R⟩,t2⟩ w b;rcases(Ag i).1 b with b|rfl;· exact n w b
    ·exact⟨R,t2⟩
   ·intro n;have G:=n _ ((Ag i).2 (.inr rfl));exact⟨⟨λw b=>n w ((Ag i).2 (.inl b)),G.1⟩,G.2⟩
  ·obtain⟨L,H,l⟩:=t;refine P3 (MI ?_);rw[Ai]at l;exact l.trans ⟨λh=>⟨u,h⟩,λh=>h.2⟩
 rw[s9];have q:Ok (F90 fu v) λr=>r.2.2=Ak↔Ea (d+1) v:=by exact Oz key λr c=>MI c
 grind[Oz,MI]
theorem Xi(h:Bd d x.1/\Bd d x.2)(g:d<=3)(e:1000000001000<fu):Ok (F92 fu x) λr=>r=Br↔Ea d x.1/\Ea d x.2:=by refine Oz (Jh h.1 g e) λa f=>PY (λc=>Oz (Jh h.2 g e) λb i=>MI ?_) λc=>MI ⟨λh=>(by grind),λh=>?_⟩;all_goals grind
theorem XE{c:Ig}(h:c.1.length<=1000/\c.2.length<=1000):dZ fu c=Ac (AK c):=by refine(Ok.eq ?_);rw[dZ];refine Abw (PC (by grind) (MI ?_));rfl
theorem Xa(h:c.1.length<=1000/\c.2.length<=1000)(j:1000000000000<fu):jR fu c=Ac (Bm c):=by
 refine(Ok.eq ?_);refine SA (λk (s:List Bs)=>s=(c.1.take k).map (·.2.2)) c.1.length rf (by omega) (λk s nx e d g=>?_) (λs nx d=>?_);· refine P2 (Aah e (PC (by grind) (g _ ?_)));grind[cu]
 rw[Ai]at d;refine Qb (by omega) ?_;refine SA (λk (s:List Bs)=>s=c.1.map (·.2.2)++(c.2.take k).map (·.2)) c.2.length (by grind) (by omega) (λk s nx e b g=>?_) (λs nx b=>?_);· refine P2 (Aah e (PC (by grind) (g _ ?_)));grind[cu,List.append_assoc]
 ·refine P3 (MI ?_);rw[b,Ai];rfl
theorem Se{v:Vl}(h:Bd (d+1) v)(y:1000000000000<fu):YD fu v=Ac (kids v):=by
 obtain⟨_,⟨B,u⟩,⟨E,t⟩,_⟩:=h;have w:∀k,((v.lists.take k).flatMap AK).length<=15:=λk=>by
  have:=Dx (f:=AK) (n:=5) (l:=v.lists.take k) λc hc=>by grind[AK]
  grind
 have lb:∀k,((v.structs.take k).flatMap Bm).length<=24:=λk=>by
  have:=Dx (f:=Bm) (n:=8) (l:=v.structs.take k) λc hc=>by have:=(t c (Ack hc)).nf;have:=(t c (Ack hc)).nc;grind[Bm]
  grind
 refine(Ok.eq ?_);refine SA (λk (s:List Bs)=>s=(v.lists.take k).flatMap AK) v.lists.length rf (by omega) (λk s nx m o r=>?_) (λs nx o=>?_)
 ·have hc:=u _ (AN m);have e:(v.lists.take (k+1)).flatMap AK=s++AK v.lists[k]:=by grind[cu,List.flatMap_singleton]
  have:=w (k+1);rw[e,Aab]at this;have p:dZ fu v.lists[k]=Ac (AK v.lists[k]):=XE (by omega);refine P2 (Aah m (BY p (Abw (r _ e.symm))))
 rw[Ai]at o;refine Qb (by omega) ?_;refine SA (λk (s:List Bs)=>s=v.lists.flatMap AK++(v.structs.take k).flatMap Bm) v.structs.length (by simp[o]) (by omega) (λk s nx m j r=>?_) (λs nx j=>?_)
 ·have hc:=t _ (AN m);have z:=hc.nf;have A:=hc.nc;have e:v.lists.flatMap AK++(v.structs.take (k+1)).flatMap Bm=s++Bm v.structs[k]:=by rw[j,GB m,Acn,Aef,Aak]
  have a:=w v.lists.length;rw[Ai]at a;have b:=lb (k+1);have:=congrArg FB e;rw[Aab,Aab]at this;have q:jR fu v.structs[k]=Ac (Bm v.structs[k]):=Xa (by omega) y;refine P2 (Aah m (BY q (Abw (r _ e.symm))))
 ·refine P3 (MI ?_);rw[j,Ai];rfl
theorem cY{v:Vl} :Ok (jZ fu v) λr=>r=Br↔v.sc=FO/\v.lists=[]/\v.structs=[]:=by
 obtain⟨a,⟨m,o,p,⟨i,j⟩,l⟩,n,q⟩:=v;have no:∀ {P:Prop},¬P->Ok (Ac Ak) λr=>r=Br↔P:=λh=>MI ⟨λk=>(by grind),λk=>absurd k h⟩;have g:∀ {α:Type} {l:List α},((l.length:Nat):Int)=0->l=[]:=λh=>OF.1 (by omega);cases m with
 |true=>exact no λh=>by have:=h.1;cases this
 |false=>cases o with
  |true=>exact no λh=>by have:=h.1;cases this
  |false=>cases p with
   |true=>exact no λh=>by have:=h.1;cases this
   |false=>
    rw[jZ];unfold iF iB;refine VX rfl (VX rfl (VX rfl (N7 (λb=>N7 (λc=>N7 (λd=>N7 (λf=>MI ?_) λf=>no ?_) λd=>no ?_) λc=>no ?_) λb=>no ?_)));· have b:=g b;have c:=g c;have d:=g d;have f:=g f;subst b;subst c;subst d;subst f;rw[decide_eq_true_iff];exact⟨λh=>⟨rfl,rfl,g h⟩,λh=>by grind⟩
    ·simp_all
    ·rintro⟨h,_⟩;have h:(Ak,Ak,Ak,(i,j),l)=FO:=h;unfold FO at h;obtain⟨_,_,_,_,rfl⟩:=h;exact d rfl
    ·rintro⟨h,_⟩;have h:(Ak,Ak,Ak,(i,j),l)=FO:=h;unfold FO at h;obtain⟨_,_,_,⟨_,rfl⟩,_⟩:=h;exact c rfl
    ·rintro⟨h,_⟩;have h:(Ak,Ak,Ak,(i,j),l)=FO:=h;unfold FO at h;obtain⟨_,_,_,⟨rfl,_⟩,_⟩:=h;exact b rfl
theorem HV:∀ {d fu:Nat} {v:Vl} {lv:Int},Bd d v->1000000000000+d<fu->(1<=lv/\lv+d<=17)->Ok (NV fu (v,lv)) λr=>r=Br↔Ea d v
 |0,_,_,_,h,_,_=>h.elim
 |d+1,0,_,_,_,h,_=>by omega
 |d+1,fu+1,v,lv,h,hF,Y=>by
  rw[show NV (fu+1) (v,lv)=_ from d289 fu v lv];have no:¬Ea (d+1) v->Ok (Ac Ak) λr=>r=Br↔Ea (d+1) v:=λh=>MI ⟨λk=>(by grind),λk=>absurd k h⟩;have e:=Se (fu:=fu) h (by omega);have T:=h.kids;obtain⟨V,⟨l1,l2⟩,⟨s1,Z⟩,I⟩:=h;have tail:(v.any=Br->v.sc=FO/\v.lists=[]/\v.structs=[])->vA v.sc->Ok (Ad fu (λ(q:Nat) C=>
     bif Ds ((↑q:Int)<(↑(FB (Vl.lists v)):Int))then
      Ab (idx (Vl.lists v) (↑q:Int)) λK=>
      bif Ds ((1:Int)<(↑(FB K.2):Int))then
       Ac (Ak)
      else
       C (q+1)
     else
      Ad fu (
           λ(n:Nat) D=>
       bif Ds ((↑n:Int)<(↑(FB (Vl.structs v)):Int))then
        Ab (idx (Vl.structs v) (↑n:Int)) λL=>
        Ab (eb fu L.1) λM=>
        bif !M then
         Ac (Ak)
        else
         Ab (idx (Vl.structs v) (↑n:Int)) λN=>
         Ab (d_ fu N) λO=>
         bif !O then
          Ac (Ak)
         else
          D (n+1)
       else
        Ab (YD fu v) λp=>
        Ad fu (λ(o:Nat) E=>
         bif Ds ((↑o:Int)<(↑(FB p):Int))then
          Ab (idx p (↑o:Int)) λP=>
          Aa (Lm.i64) (lv+(1:Int))<|
          Ab (NV fu (P.1,(lv+(1:Int)))) λQ=>
          bif !Q then
           Ac (Ak)
          else
           Ab (idx p (↑o:Int)) λR=>
           Aa (Lm.i64) (lv+(1:Int))<|
           Ab (NV fu (R.2,(lv+(1:Int)))) λS=>
           bif !S then
            Ac (Ak)
           else
            E (o+1)
         else
          Ac (Br)) (0)) (0)) (0)) λr=>r=Br↔Ea (d+1) v:=λH J=>by
   refine TV (λk=> ∀c∈v.lists.take k,c.2.length<=1) v.lists.length (by simp) (by omega) (λk nx e F z=>?_) (λnx F=>?_)
   ·refine P2 (Aah e (N7 (λg=>no λh=>by have:=h.1.rs _ (AN e);omega) λh=>z λc hc=>?_));rcases(Ag e).1 hc with hc|rfl;all_goals grind
   rw[Ai]at F;refine Qb (by omega) ?_;refine TV (λk=> ∀c∈v.structs.take k,QW c.1/\DB c) v.structs.length (by simp) (by omega) (λk nx e i z=>?_) (λnx i=>?_)
   ·have s:=Z _ (AN e);refine P2 (Aah e (Oz (UF s.nf (by omega)) λb u=>PY (λa=>no λh=>?_) λa=>Aah e (Oz (S9 s.lim s.GG (by omega)) λb' x=>PY (λl=>no λh=>?_) λl=>z λc hc=>?_)));· rw[u.2 (h.1.st _ (AN e)).1]at a;grind
    ·rw[x.2 (h.1.st _ (AN e)).2]at l;grind
    ·rcases(Ag e).1 hc with hc|rfl;all_goals grind
   rw[Ai]at i;refine P3 (BY e ?_);refine TV (λk=> ∀w∈(kids v).take k,Ea d w.1/\Ea d w.2) (kids v).length (by simp) (by omega) (λk nx e j z=>?_) (λnx j=>?_)
   ·have t:=I _ (AN e);refine P2 (Aah e (Aaq (Oz (HV t.1 (by omega) (by omega)) λr U=>PY (λg=>no λh=>?_) λg=>Aah e (Aaq (Oz (HV t.2 (by omega) (by omega)) λr2 A=>PY (λf=>no λh=>?_) λf=>z λw t=>?_)))));· rw[U.2 (h.2 _ (AN e)).1]at g;cases g
    ·rw[A.2 (h.2 _ (AN e)).2]at f;cases f
    ·rcases(Ag e).1 t with t|rfl;· exact j w t
     ·exact⟨U.1 (by simpa using g),A.1 (by simpa using f)⟩
   ·rw[Ai]at j;exact P3 (MI ⟨λ_=>⟨⟨H,J,F,i⟩,j⟩,λ_=>rfl⟩)
  refine N7 (λy=>absurd y (by omega)) λ_=>PY (λG=>Oz cY λb s=>PY (λg=>no λB=>?_) λg=>Oz (N5 V (by decide) (by omega)) λX a=>PY (λf=>no λB=>?_) λf=>tail (λ_=>s.1 (by simpa using g)) (a.1 (by simpa using f))) λG=>Oz (N5 V (by decide) (by omega)) λX a=>PY (λf=>no λB=>?_) λf=>tail (λh=>absurd h (by rw[G];decide)) (a.1 (by simpa using f));· rw[s.2 (B.1.an G)]at g;cases g
  ·rw[a.2 B.1.sc]at f;cases f
  ·rw[a.2 B.1.sc]at f;cases f
theorem IF(h:Bd d x.1/\Bd d x.2)(k:d<=3)(j:1000000001000<fu):Ok (YC fu x) λr=>r=Br↔Ea d x.1/\Ea d x.2:=by
 have one:∀ {v:Vl},Bd d v->Ok (TH fu v) λr=>r=Br↔Ea d v:=λi=>by exact Oz (HV i (by omega) (by omega)) λr g=>MI g
 rw[YC];refine Oz (one h.1) λa e=>PY (λc=>Oz (one h.2) λb f=>MI ?_) λc=>MI ⟨λh=>(by grind),λh=>?_⟩;all_goals grind
def Rh(x y:Sc):Prop:=(x.1=Br->y.1=Br)/\(x.2.1=Br->y.2.1=Br)/\(x.2.2.1=Br->y.2.2.1=Br)/\(∀n,A8 x.2.2.2.1 n->A8 y.2.2.2.1 n)/\(∀n,A6 x.2.2.2.1 n->A6 y.2.2.2.1 n)/\∀w,Au x.2.2.2.2 0 w=Br->Au y.2.2.2.2 0 w=Br
theorem Km{x y:List Sp×List Sp}(a:Ei r (λn=>A8 x n/\¬A8 y n) (λn=>A6 x n/\¬A6 y n)):r=([],[])↔(∀n,A8 x n->A8 y n)/\∀n,A6 x n->A6 y n:=by
 constructor
 ·rintro rfl;refine⟨λn h=>IS λk=>?_,λn h=>IS λk=>?_⟩;· have:=(a.A8 n).2 ⟨⟨h,k⟩,h.2⟩;exact Bc this.1
  ·have:=(a.A6 n).2 ⟨⟨h,k⟩,h.2⟩;exact Bc this.1
 ·rintro⟨b,c⟩;exact a.unique (PR.congr (λn=>⟨λh=>absurd h.1 Bc,λh=>absurd (b n h.1) h.2⟩) λn=>⟨λh=>absurd h.1 Bc,λh=>absurd (c n h.1) h.2⟩)
theorem Vr{x:Sc}{t:Tb}(j:Ei r (λn=>A8 x.2.2.2.1 n/\¬A8 y.2.2.2.1 n) (λn=>A6 x.2.2.2.1 n/\¬A6 y.2.2.2.1 n))(ht:CK t (λw=>Au x.2.2.2.2 0 w&& !Au y.2.2.2.2 0 w) m):
  ((x.1&& !y.1,x.2.1&& !y.2.1,x.2.2.1&& !y.2.2.1,r,t):Sc)=FO↔Rh x y:=by
 have h:=Km j;have i:=ht.Gx;unfold FO Rh;simp only[Aeq];rw[show(r=(([],[]):List Sp×List Sp))↔_ from h,i];have g:∀a b:Bool,((a&& !b)=Ak)↔(a=Br->b=Br):=by simp
 rw[g,g,g];constructor;· rintro⟨a,b,c,⟨d,e⟩,f⟩;exact⟨a,b,c,d,e,λw k=>(g _ _).1 (congrFun f w) k⟩
 grind
theorem Uk{fu k i m p:Nat}{x y:Sc}(b:Il k m x)(c:Il i p y)(v:k+i<=11)(w:(m+2)*(p+2)<=100000000)(d:1000000000000<fu):
  Ok (kF fu (x,y)) λo=>Il 12 ((m+2)*(p+2)) o/\(o=FO↔Rh x y):=by
 have z:m<=(m+2)*(p+2):=Aam (by omega:m<=(m+2)*1) (Abv (Aaf _) (by omega));have A:p<=(m+2)*(p+2):=Aam (by omega:p<=1*(p+2)) (Abv (by omega) (Aaf _));have D:=b.n1;have E:=b.n2;have F:=c.n1;have G:=c.n2;obtain⟨r,l,g,B,C⟩:=XB (fu:=fu) (b.nu.sm (by omega) (by omega)) (c.nu.sm (by omega) (by omega)) (by omega) (by omega);obtain⟨t,q,f⟩:=Oo (Gy (fu:=fu) b.ln c.ln (by omega) d);rw[b.ln.gL,c.ln.gL]at f;have e:Ok (uw fu (x,y)) λo=>o=(x.1&& !y.1,x.2.1&& !y.2.1,x.2.2.1&& !y.2.2.1,r,t):=by exact BY (b.IU (by omega) (by omega) d) (BY (c.IU (by omega) (by omega) d) (BY (Ul fu _ _) (BY (Ul fu _ _) (BY (Ul fu _ _) (BY l (BY q (MI rf)))))))
 rw[kF];refine Oz e λo s=>MI ?_;subst s;refine⟨⟨g.self (λn h=>h.1.2) (λn h=>h.1.2),?_,?_,?_⟩,Vr g f⟩;· grind
 ·grind
 ·have u:GY x.2.2.2.2 y.2.2.2.2<=(m+2)*(p+2):=Abv (by have:=b.ln.len;omega) (by have:=c.ln.len;omega);exact(f.mono u).self
theorem Xc{e:Nat}{x:Sc}(h:Il k m x)(i:Il e p y)(g:k+e<=11)(c:(m+2)*(p+2)<=100000000)(a:1000000000000<fu):
  Ok (kE fu (x,y)) λr=>r=Br↔Rh x y:=by
 grind[kE,Oz,Uk,M3,MI]
theorem Il.bu{s:Sc}(h:Il k m s)(d:k<=12)(e:m<=100000000)(a:1000000000000<fu):YB fu s=Ac s:=by refine(Ok.eq ?_);rw[YB];refine Oz (N5 (h.sc d) (by omega) a) λb c=>?_;rw[c.2 ⟨h.nu,h.ln.wf,h.ln.can⟩];exact P6 rf (MI rf)
theorem OT{s:Sc}(h:Il k m s)(p:k<=12)(t:m<=100000000)(o:1000000000000<fu):Ok (dY fu s) λb=>b=Br↔s=FO:=by
 have j:=h.bu (fu:=fu) p t o;obtain⟨a,b,c,f,L⟩:=s;have g:=h.nu;have v:=h.n1;have w:=h.n2;dsimp only at g v w;obtain⟨r,l,_,u,_⟩:=PV (fu:=fu) (gu:=fu) (g.sm (by omega) (by omega)) (by omega) (by omega);obtain rfl:f=r:=g.unique u;have n:Ok (jQ fu f) λb=>b=Br↔f=([],[]):=by rw[jQ];refine BY l (N7 (λd=>MI ?_) λd=>MI ⟨λh=>(by cases h),λh=>absurd (by rw[h];rfl) d⟩);have d:f.1=[]:=OF.1 (by omega);rw[decide_eq_true_iff];exact⟨λe=>Aby d (OF.1 (by omega)),λe=>by rw[e];rfl⟩
 have no:∀ {P:Prop},¬P->Ok (Ac Ak) λr=>r=Br↔P:=λh=>MI ⟨λk=>(by cases k),λk=>absurd k h⟩;rw[dY];refine BY j ?_;unfold FO;cases a with
 |true=>exact no λh=>by cases h
 |false=>cases b with
  |true=>exact no λh=>by cases h
  |false=>cases c with
   |true=>exact no λh=>by cases h
   |false=>
    refine VX rf (VX rf (VX rf (Oz n λq i=>PY (λd=>MI ?_) λd=>no λh=>?_)))
    ·rw[decide_eq_true_iff,i.1 d];constructor;· intro e;have:L=[]:=OF.1 (by dsimp only at e;omega);rw[this]
     ·intro e;simp only[Aeq]at e;rw[e.2.2.2.2];rfl
    ·simp only[Aeq]at h;rw[i.2 h.2.2.2.1]at d;cases d
theorem Ma{q:Nat}{x:Sc}(f:Il k m x)(g:Il q p y)(D:k+q<=11)(z:(m+2)*(p+2)<=100000000)(i:1000000000000<fu):
  Ok (dX fu (x,y)) λr=>r=Br↔Rh x y:=by
 have E:m<=(m+2)*(p+2):=Aam (by omega:m<=(m+2)*1) (Abv (Aaf _) (by omega));have F:p<=(m+2)*(p+2):=Aam (by omega:p<=1*(p+2)) (Abv (by omega) (Aaf _));have I:=f.n1;have J:=f.n2;have K:=g.n1;have L:=g.n2;obtain⟨r,u,_,l,G,H⟩:=Ga (fu:=fu) (gu:=fu) (f.nu.sm (by omega) (by omega)) (g.nu.sm (by omega) (by omega)) (by omega) (by omega) (by omega);obtain⟨t,v,j⟩:=MC (Gy (fu:=fu) f.ln g.ln (by omega) i);rw[f.ln.gL,g.ln.gL]at j;have B:GY x.2.2.2.2 y.2.2.2.2<=(m+2)*(p+2):=Abv (by have:=f.ln.len;omega) (by have:=g.ln.len;omega);have C:Il 12 ((m+2)*(p+2)) (x.1&& !y.1,x.2.1&& !y.2.1,x.2.2.1&& !y.2.2.1,r,t):=⟨l.self (λn h=>h.1.2) (λn h=>h.1.2),by show r.1.length<=12;omega,by show r.2.length<=12;omega,(j.mono B).self⟩;have e:Ok (jM fu (x,y)) λo=>o=(x.1&& !y.1,x.2.1&& !y.2.1,x.2.2.1&& !y.2.2.1,r,t):=by rw[jM];refine BY (f.bu (by omega) (by omega) i) (BY (g.bu (by omega) (by omega) i) ?_);refine PY (λa=>PY (λb=>PY (λc=>?_) λc=>?_) λb=>PY (λc=>?_) λc=>?_) λa=>PY (λb=>PY (λc=>?_) λc=>?_) λb=>PY (λc=>?_) λc=>?_;all_goals exact BY u (BY v (MI (by rw[a,b,c];simp)))
 rw[dX];refine Oz e λo A=>?_;subst A;exact Oz (OT C (by omega) z i) λb w=>MI (w.trans (Vr l j))
theorem KB{a b:List α}{f:α->α->Option Bool}(o:a.length<fu)(h:∀i (h1:i<a.length) (h2:i<b.length),Ok (f a[i] b[i]) λr=>r=Br↔a[i]=b[i]):
  Ok (bif Ds ((a.length:Int)≠(b.length:Int))then Ac Ak else Ad fu (λ(c:Nat) g=>bif Ds ((c:Int)<(a.length:Int))then Ab (idx a (c:Int)) λt=>Ab (idx b (c:Int)) λu=>Ab (f t u) λv=>bif !v then Ac Ak else g (c+1)else Ac Br) 0) λr=>r=Br↔a=b:=by
 have no:a≠b->Ok (Ac Ak) λr=>r=Br↔a=b:=λh=>MI ⟨λk=>(by grind),λk=>absurd k h⟩;refine N7 (λh=>no (by grind)) λm=>?_;have m:a.length=b.length:=by omega
 refine TV (λk=> ∀i (h1:i<a.length),i<k->a[i]=b[i]'(by omega)) a.length (λi _ h=>by omega) o (λk nx l d s=>?_) (λnx d=>?_)
 ·refine P2 (Aah l (Aah (by omega) (Oz (h k l (by omega)) λr n=>PY (λh2=>no ?_) λh2=>s λi p q=>?_)));all_goals grind
 ·exact P3 (MI ⟨λ_=>Adi m λi h1 h2=>d i h1 h1,λ_=>rfl⟩)
theorem Ahw{v w:Vl}(h1:v.any=w.any)(h2:v.sc=w.sc)(h3:v.lists=w.lists)(a:v.structs=w.structs):v=w:=by cases v;cases w;grind[Vl.any,Vl.sc,Vl.lists,Vl.structs]
theorem Xl{x:Sc}{w f:Nat}(e:dz k m x)(v:dz w f y)(G:m<=100000000/\f<=100000000)(F:1000000000000<fu):Ok (kL fu (x,y)) λr=>r=Br↔x=y:=by
 obtain⟨a,b,c,⟨H,I⟩,l⟩:=x;obtain⟨C,D,E,⟨A,B⟩,z⟩:=y;have no:∀ {P:Prop},¬P->Ok (Ac Ak) λr=>r=Br↔P:=λh=>MI ⟨λk=>(by grind),λk=>absurd k h⟩;have i:=e.sm.n1;have j:=e.sm.n2;rw[kL];simp only[Aeq];dsimp only at i j⊢;refine PY (λo=>PY (λp=>PY (λhc=>BY (eqP (by omega)) (N7 (λq=>BY (eqP (by omega)) (N7 (λd=>Oz (Q:=λr=>r=Br↔l=z) ?_ λr t=>MI ?_) λh=>no λk=>h k.2.2.2.1.2)) λh=>no λk=>h k.2.2.2.1.1)) λh=>no λk=>?_) λh=>no λk=>?_) λh=>no λk=>?_;· have g:=e.sh;grind[max,KK,Nat.le_trans]
 all_goals grind
def Q0(d:Nat)(x:Bs):Prop:=Bd d x.1/\Bd d x.2
theorem Bd.lv{v:Vl}(h:Bd (d+1) v){c:Ig}(hc:c∈v.lists):∀x∈AK c,Q0 d x:=λx a=>
 h.2.2.2 x (AT.2 (.inl (Pe.2 ⟨c,hc,a⟩)))
theorem Bd.sv{v:Vl}(h:Bd (d+1) v)(hc:c∈v.structs):∀x∈Bm c,Q0 d x:=λx a=>
 h.2.2.2 x (AT.2 (.inr (Pe.2 ⟨c,hc,a⟩)))
theorem AV{P:Prop}(h:¬P):Ok (Ac Ak) λr=>r=Br↔P:=MI ⟨λk=>(by grind),λk=>absurd k h⟩
theorem LF:∀ {d fu:Nat} {v w:Vl},Bd d v->Bd d w->1000000000000+10*d<fu->Ok (eC fu (v,w)) λr=>r=Br↔v=w
 |0,_,_,_,h,_,_=>h.elim
 |d+1,fu,v,w,F,G,hF=>by
  obtain⟨f,rfl⟩:∃f,fu=f+5:=⟨fu-5,by omega⟩;have sv:∀ {g:Nat} {x y:Bs},Q0 d x->Q0 d y->1000000000000+10*d+1<g->Ok (Nx g (x,y)) λr=>r=Br↔x=y:=λ{g x y} M N hg=>by obtain⟨e,rfl⟩:∃e,g=e+1:=⟨g-1,by omega⟩;rw[show Nx (e+1) (x,y)=_ from d136 e x y];refine Oz (LF M.1 N.1 (by omega)) λr a=>PY (λh=>Oz (LF M.2 N.2 (by omega)) λs p=>MI ?_) λh=>AV λe=>?_;all_goals grind
  obtain⟨O,⟨a2,P⟩,⟨a4,R⟩,_⟩:=id F;obtain⟨S,⟨b2,T⟩,⟨b4,U⟩,_⟩:=id G;rw[show eC (f+5) (v,w)=_ from d135 (f+4) v w];refine PY (λh=>AV λe=>?_) λc=>Oz (Xl O S (by omega) (by omega)) λr a=>PY (λh=>AV λe=>?_) λq=>N7 (λh=>AV λe=>h (by rw[e])) λB=>N7 (λh=>AV λe=>h (by rw[e])) λC=>?_;· grind
  ·grind
  have c:v.any=w.any:=by grind
  have q:v.sc=w.sc:=a.1 (by grind);have B:v.lists.length=w.lists.length:=by omega
  have C:v.structs.length=w.structs.length:=by omega
  refine TV (λk=> ∀i (h:i<v.lists.length),i<k->v.lists[i]=w.lists[i]'(by omega)) v.lists.length (λi _ h=>by omega) (by omega) (λk nx A m J=>?_) (λnx m=>?_)
  ·have t:=AN A;have u:=AN (show k<w.lists.length by omega);have E:=P _ t;have q2:=T _ u;have V:eU (f+4) v.lists[k]=Ac (AK v.lists[k]):=Hl (by omega) (by omega);have W:eU (f+4) (w.lists[k]'(by omega))=Ac (AK (w.lists[k]'(by omega))):=Hl (by omega) (by omega);have ne:v.lists[k]≠w.lists[k]'(by omega)->¬v=w:=λh e=>h (by simp only[e]);refine P2 (Aah A (Aah (by omega) (N7 (λh=>AV (ne λe=>h (by rw[e]))) λo=>BY V (BY W (Oz (Q:=λr=>r=Br↔AK v.lists[k]=AK (w.lists[k]'(by omega))) ?_ λr a=>PY (λh=>AV (ne λe=>?_)) λh=>J λi H I=>?_)))));· rw[show uR (f+4) (AK v.lists[k],AK (w.lists[k]'(by omega)))=_ from d129 (f+3) _ _];refine KB (f:=λx y=>Nx (f+3) (x,y)) (by unfold AK;rw[Aab];omega) λi b l=>sv (F.lv t _ (AN b)) (G.lv u _ (AN l)) (by omega)
   ·rw[a.2 (by rw[e])]at h;cases h
   ·rcases Aal i k with z|z;· exact m i H z
    ·obtain rfl:i=k:=by omega
     have a:=a.1 (by simpa using h);have o:(v.lists[i]).1.length=(w.lists[i]'(by omega)).1.length:=by omega
     exact Aby (Alb a o).1 (Alb a o).2
  have X:v.lists=w.lists:=Adi B λi b l=>m i b b;refine Qb (by omega) ?_;refine TV (λk=> ∀i (h:i<v.structs.length),i<k->v.structs[i]=w.structs[i]'(by omega)) v.structs.length (λi _ h=>by omega) (by omega) (λk nx A m J=>?_) (λnx m=>?_)
  ·have t:=AN A;have u:=AN (show k<w.structs.length by omega);have E:=R _ t;have n1:=E.nf;have n2:=E.nc;have ne:v.structs[k]≠w.structs[k]'(by omega)->¬v=w:=λh e=>h (by simp only[e]);refine P2 (Aah A (Aah (by omega) (Oz (Q:=λr=>r=Br↔v.structs[k]=w.structs[k]'(by omega)) ?_ λr a=>PY (λh=>AV (ne λe=>?_)) λh=>J λi H I=>?_)))
   ·rw[show uO (f+4) (v.structs[k],w.structs[k]'(by omega))=_ from d134 (f+3) _ _];refine Oz (Q:=λr=>r=Br↔(v.structs[k]).1=(w.structs[k]'(by omega)).1) ?_ λr a=>PY (λh=>Oz (Q:=λr=>r=Br↔(v.structs[k]).2=(w.structs[k]'(by omega)).2) ?_ λs p=>MI ?_) λh=>AV λe=>?_;· rw[show uQ (f+3) ((v.structs[k]).1,(w.structs[k]'(by omega)).1)=_ from d131 (f+2) _ _];refine KB (f:=λx y=>kK (f+2) (x,y)) (by omega) λi b l=>?_;rw[show kK (f+2) ((v.structs[k]).1[i],(w.structs[k]'(by omega)).1[i])=_ from d130 (f+1) _ _];have K:=F.sv t _ (AT.2 (.inl (By.2 ⟨_,AN b,rfl⟩)));have L:=G.sv u _ (AT.2 (.inl (By.2 ⟨_,AN l,rfl⟩)));refine N7 (λZ=>N7 (λk2=>Oz (sv K L (by omega)) λr a=>MI ?_) λh=>AV λe=>h (by rw[e])) λh=>AV λe=>h (by rw[e]);rw[a];exact⟨λD=>Aby Z (Aby k2 D),λe=>by rw[e]⟩
    ·rw[show uP (f+3) ((v.structs[k]).2,(w.structs[k]'(by omega)).2)=_ from d133 (f+2) _ _];unfold zq;refine KB (f:=λx y=>kJ (f+2) (x,y)) (by omega) λi b l=>?_;rw[show kJ (f+2) ((v.structs[k]).2[i],(w.structs[k]'(by omega)).2[i])=_ from d132 (f+1) _ _];unfold zr;have K:=F.sv t _ (AT.2 (.inr (By.2 ⟨_,AN b,rfl⟩)));have L:=G.sv u _ (AT.2 (.inr (By.2 ⟨_,AN l,rfl⟩)));have y1:=E.each _ (AN b);have y2:=E.ed _ (AN b);refine Oz (KK (n:=14641) ⟨y1,λs p=>by have:=y2 s p;omega⟩ (by omega)) λr a=>PY (λh=>Oz (sv K L (by omega)) λs p=>MI ?_) λh=>AV λe=>?_;· rw[p];exact⟨λD=>Aby (a.1 h) D,λe=>by rw[e]⟩
     ·rw[a.2 (by rw[e])]at h;cases h
    ·rw[p];exact⟨λD=>Aby (a.1 h) D,λe=>by rw[e]⟩
    ·rw[a.2 (by rw[e])]at h;cases h
   ·rw[a.2 e]at h;cases h
   ·rcases Aal i k with z|z;· exact m i H z
    ·obtain rfl:i=k:=by omega
     exact a.1 (by simpa using h)
  ·have Y:v.structs=w.structs:=Adi C λi b l=>m i b b;exact P3 (MI ⟨λ_=>Ahw c q X Y,λ_=>rfl⟩)
theorem ZC{y:Bs}(b:Q0 d x)(c:Q0 d y)(g:1000000000000+10*d+1<fu):Ok (Nx fu (x,y)) λr=>r=Br↔x=y:=by obtain⟨e,rfl⟩:∃e,fu=e+1:=⟨fu-1,by omega⟩;rw[show Nx (e+1) (x,y)=_ from d136 e x y];refine Oz (LF b.1 c.1 (by omega)) λr a=>PY (λh=>Oz (LF b.2 c.2 (by omega)) λs f=>MI ?_) λh=>AV λe=>?_;all_goals grind
theorem Mj{y:Bs}(c:Q0 d x)(e:Q0 d y)(a:1000000000000+10*d+1<fu):Ok (eB fu (x,y)) λr=>r=Br↔x=y:=by exact Oz (ZC c e a) λr b=>MI b
def v0:Vl:= .mk Ak FO [] []
def NB(v:Vl):Prop:=v.any=Br\/v.lists≠ []\/v.structs≠ []\/v.sc≠FO
def SB(d:Nat)(v:Vl):Prop:=Bd d v/\Snd d v
def SX(d:Nat)(x:Bs):Prop:=SB d x.1/\SB d x.2
theorem KY(d:Nat):SB (d+1) v0:=by have z:=(L0 (k:=5) (m:=0)).sc (by simp);refine⟨⟨⟨z.sm,z.n1,z.n2,z.bt,by trivial⟩,⟨Abg _,?_⟩,⟨Abg _,?_⟩,?_⟩,⟨L0,?_,?_,?_⟩⟩<;>intro c h<;>cases h
theorem Hq{v:Vl}(h:SB d v)(g:1000000000000<fu):Ok (eD fu v) λr=>r=Br↔¬NB v:=by
 cases d with
 |zero=>exact h.1.elim
 |succ d=>
  obtain⟨⟨b,⟨l,_⟩,⟨p,_⟩,_⟩,j,_⟩:=h;have m:=b.n1;have n:=b.n2;have o:=b.sh.1;have no:NB v->Ok (Ac Ak) λr=>r=Br↔¬NB v:=λk=>MI ⟨λh=>(by grind),λh=>absurd k h⟩;refine PY (λa=>Aaq (N7 (λf=>Oz (VN (by omega) (by omega) (by omega)) λr i=>?_) λf=>no ?_)) λa=>no (.inl (by grind))
  ·have a:v.any=Ak:=by simpa using a
   have c:v.lists=[]:=OF.1 (by omega);have e:v.structs=[]:=OF.1 (by omega);have iff:v.sc=FO↔¬NB v:=by unfold NB;rw[a,c,e];simp
   refine PY (λh=>MI ?_) λ_=>Oz (M3 j (by omega) (by omega) g) λs b=>MI (b.trans iff);simp_all
  ·by_cases c:v.lists=[];· refine .inr (.inr (.inl λe=>f ?_));rw[c,e];rfl
   ·exact .inr (.inl c)
noncomputable def vw(c:BC)(s:Ay):Bs×Int:=match c.1.find? (λf=>Ds (f.1=s))with
 |some f=>(f.2.2,f.2.1)
 |none=>match c.2.find? (λk=>I3 k.1 s)with
  |some k=>(k.2,3)
  |none=>((v0,v0),3)
theorem Vk{s:Ay}(h:NS c)(C:s.length<=1000)(B:1000000000000<fu):YG fu (c,s)=Ac (vw c s):=by
 have D:=h.nf;have E:=h.nc;refine(Ok.eq ?_);refine TV (λk=> ∀i (d:i<c.1.length),i<k->Ds (c.1[i].1=s)=Ak) c.1.length (λi _ h=>by omega) (by omega) (λk nx o q x=>?_) (λnx q=>?_)
 ·refine P2 (Aah o (N7 (λl=>MI ?_) λl=>x λi d v=>?_));· have e:c.1.find? (λf=>Ds (f.1=s))=Ac c.1[k]:=Adg.2 ⟨decide_eq_true l,k,o,rf,λj w=>by grind⟩;grind[vw]
  grind
 ·have e:c.1.find? (λf=>Ds (f.1=s))=Dc:=Adh.2 λf u=>by
   obtain⟨i,d,rfl⟩:=Aau u;grind
  refine Qb (by omega) ?_;refine TV (λk=> ∀i (d:i<c.2.length),i<k->I3 c.2[i].1 s=Ak) c.2.length (λi _ h=>by omega) (by omega) (λk nx o g x=>?_) (λnx g=>?_)
  ·have m:=AN o;have A:=h.each _ m;have y:kD fu (c.2[k].1,s)=Ac (I3 c.2[k].1 s):=(UY (n:=14641) (h.bt _ m) ⟨A,λt z=>by have:=h.ed _ m t z;omega⟩ (by omega) (by omega) (by omega) (by omega)).eq;refine P2 (Aah o (BY y (PY (λl=>MI ?_) λl=>x λi d v=>?_)));· have r:c.2.find? (λk=>I3 k.1 s)=Ac c.2[k]:=Adg.2 ⟨l,k,o,rfl,λj w=>by simp only[g j (by omega) w];rfl⟩;unfold vw;rw[e,r]
   grind
  ·have r:c.2.find? (λk=>I3 k.1 s)=Dc:=Adh.2 λf u=>by
    obtain⟨i,d,rfl⟩:=Aau u;rw[g i d d];decide
   refine P3 (MI ?_);unfold vw;rw[e,r];rfl
theorem Vj{s:Ay}(h0:P (v0,v0))(h:∀x∈Bm c,P x):P (vw c s).1:=by
 unfold vw;split;· rename_i f a;exact h _ (AT.2 (.inl (By.2 ⟨f,Ach a,rfl⟩)))
 ·split;· rename_i k b;exact h _ (AT.2 (.inr (By.2 ⟨k,Ach b,rfl⟩)))
  omega
theorem vO{s:Ay}(h:∃f∈c.1,f.1=s):∃f∈c.1,f.1=s/\vw c s=(f.2.2,f.2.1):=by grind[vw]
def XM(c:Ig)(i:Nat):Bs:=match c.1[i]? with
 |some x=>x
 |none=>match c.2 with
  |x::_=>x
  | []=>(v0,v0)
theorem gS{c:Ig} :Ok (YK fu (c,(i:Int))) λr=>r.1=XM c i:=by
 rw[YK];unfold XM;refine P2 (N7 (λh=>Aah (by omega) (MI ?_)) λh=>VB (by omega) ?_);· grind
 ·rw[Acy (by omega)];cases hc:c.2 with
  |nil=>exact Qb (by simp) (MI rfl)
  |cons x l=>exact VB (by simp) (BY (a:=x) rfl (MI rfl))
theorem bf{c:Ig}(h0:P (v0,v0))(h:∀x∈AK c,P x):P (XM c i):=by
 unfold XM;split;· rename_i x a;exact h _ (AT.2 (.inl (Aai a)))
 ·split;· rename_i x l a;exact h _ (AT.2 (.inr (by rw[a];exact Aas ..)))
  omega
def KR(R:Vl->Vl->Prop)(x y:Bs):Prop:=R x.1 y.1/\R x.2 y.2
structure WW(R:Vl->Vl->Prop)(c c':Ig):Prop where
 ln:c'.1.length<=c.1.length
 cl:c'.2=[]->c.1.length<=c'.1.length/\c.2=[]
 it:∀i (h:i<c.1.length),KR R c.1[i] (XM c' i)
 rs:∀h:0<c.2.length,KR R c.2[0] (c'.2.getD 0 (v0,v0))
structure U2(R:Vl->Vl->Prop)(c c':BC):Prop where
 fa:∀f∈c.1,(vw c f.1).2<=(vw c' f.1).2/\KR R (vw c f.1).1 (vw c' f.1).1
 fb:∀f∈c'.1,(vw c f.1).2<=(vw c' f.1).2/\KR R (vw c f.1).1 (vw c' f.1).1
 cl:∀k∈c.2,∀k'∈c'.2,KR R k.2 k'.2\/∀w,¬(Au k.1 0 w=Br/\Au k'.1 0 w=Br)
def Dk:Nat->Vl->Vl->Prop
 |0,_,_=>False
 |d+1,a,b=>b.any=Br\/a.any=Ak/\Rh a.sc b.sc/\(∀c∈a.lists,∃e∈b.lists,WW (Dk d) c e)/\∀c∈a.structs,∃e∈b.structs,U2 (Dk d) c e
theorem Vy(hi:i<c.2.length)(w:Ay):(Gv c w).getD i 0=runT (c.2.getD i dK).1 0 w:=by
 have:∀l:Ay,(Gv c l.reverse).getD i 0=runT (c.2.getD i dK).1 0 l.reverse:=λl=>by
  induction l with
  |nil=>
   show(CS c).getD i 0=0;grind[CS]
  |cons x l d=>
   rw[Aew,FY,(Hk c _ _).cl i hi];grind[Xy,runT]
 have:=this w.reverse;grind
theorem oz{l:List Nat}{i j:Nat}(hi:i∈l)(a:j∈l)(h:i≠j):2<=l.length:=by
 match l with
 | []=>grind
 | [x]=>
  grind
 |x::y::l=>simp
theorem DB.Iv(h:DB c)(hi:i<c.2.length)(k:j<c.2.length)(g:i≠j)(w:Ay):¬(Au c.2[i].1 0 w=Br/\Au c.2[j].1 0 w=Br):=λ⟨a,b⟩=>by
 have one:=h.2 w;have e:∀ {i:Nat} (hi:i<c.2.length),Au c.2[i].1 0 w=Br->i∈(aO c.2.length).filter λi=>fin (c.2.getD i dK).1 ((Gv c w).getD i 0):=λhi h=>by refine Aax.2 ⟨Abf.2 hi,?_⟩;rw[Vy hi w,show c.2.getD _ dK=c.2[_]from AO hi];exact h
 grind[MS,Lo,oz]
theorem bc{c:Ig}(h:i<c.1.length):XM c i=c.1[i]:=by grind[XM]
theorem Oa(x:Sc):Rh x x:=⟨id,id,id,λ_=>id,λ_=>id,λ_=>id⟩
theorem Dk.refl:∀ {d:Nat} {a:Vl},Ea d a->Dk d a a
 |0,_,h=>h.elim
 |d+1,a,⟨n,l⟩=>by
  by_cases q:a.any=Br;· exact .inl q
  have r:∀x∈kids a,KR (Dk d) x x:=λx b=>⟨Dk.refl (l x b).1,Dk.refl (l x b).2⟩;refine .inr ⟨by grind,Oa _,λc hc=>⟨c,hc,?_⟩,λc hc=>⟨c,hc,?_⟩⟩
  ·have t:∀x∈AK c,KR (Dk d) x x:=λx b=>r x (AT.2 (.inl (Pe.2 ⟨c,hc,b⟩)));refine⟨Aaf _,λh=>⟨Aaf _,h⟩,λi m=>?_,λh=>?_⟩;· rw[bc m];exact t _ (AT.2 (.inl (AN m)))
   ·rw[show c.2.getD 0 (GL.v0,GL.v0)=c.2[0]from AO h];exact t _ (AT.2 (.inr (AN h)))
  ·have u:∀x∈Bm c,KR (Dk d) x x:=λx b=>r x (AT.2 (.inr (Pe.2 ⟨c,hc,b⟩)));have v:∀f∈c.1,(vw c f.1).2<=(vw c f.1).2/\KR (Dk d) (vw c f.1).1 (vw c f.1).1:=λf y=>⟨Abn _,by
    obtain⟨g,n,_,e⟩:=vO (c:=c) (s:=f.1) ⟨f,y,rfl⟩;rw[e];exact u _ (AT.2 (.inl (By.2 ⟨g,n,rfl⟩)))⟩;refine⟨v,v,λk l A o=>?_⟩;obtain⟨i,m,rfl⟩:=Aau l;obtain⟨j,z,rfl⟩:=Aau o;by_cases e:i=j;· subst e;exact .inl (u _ (AT.2 (.inr (By.2 ⟨_,l,rfl⟩))))
   ·exact .inr ((n.st c hc).2.Iv m z e)
end
end Go.GL
