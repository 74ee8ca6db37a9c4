/- Part 9 of the texts of this claim: what its theorem leans on. -/
import Derived.Test.YtbeogcbmdbnkiaaGreatDoorZLookupChains8
import Derived.Test.YtbeogcbmdbnkiaaGreatDoorZLookupChains7
import Derived.Test.YtbeogcbmdbnkiaaGreatDoorZLookupChains4
import Derived.LaidMore
import Derived.Test.YtbeogcbmdbnkiaaGreatDoorRows
import Derived.KernelRfl
import GoSem.ClaimGoes
set_option linter.all false
open Option renaming some→Ac,none→C7
open Bool renaming false→Ap,true→Br
open Go renaming Value→BU,Operand→Dc,TypeId→Ee,Program→Ge,World→GD,execOp→ID,Oper→J5,IntKind→Kj
namespace Go.GL
open Go Go.GV Go.GK Go.Proofs
section
variable{fu d:Nat}{v:Vl}{c:Bx}{i:Nat}{α:Type}{x:A7}{s:Au}{a:List α}{y:A7}{k m:Nat}{P:A7->Prop}{j:Nat}
theorem Kx{b:List α}{f:α->α->Option Bool}(o:a.length<fu)(h:∀i (h1:i<a.length) (h2:i<b.length),Ok (f a[i] b[i]) λr=>r=Br↔a[i]=b[i]):
  Ok (bif decide ((a.length:Int)≠(b.length:Int))then Ac Ap else Ad fu (λ(c:Nat) g=>bif decide ((c:Int)<(a.length:Int))then Ab (idx a (c:Int)) λt=>Ab (idx b (c:Int)) λu=>Ab (f t u) λv=>bif !v then Ac Ap else g (c+1)else Ac Br) 0) λr=>r=Br↔a=b:=by
 have no:a≠b->Ok (Ac Ap) λr=>r=Br↔a=b:=λh=>Ok.some ⟨λk=>(by cases k),λk=>absurd k h⟩;refine Ok.ite (λh=>no (by rintro rfl;exact h rfl)) λm=>?_;have m:a.length=b.length:=by omega
 refine Ok.count (λk=> ∀i (h1:i<a.length),i<k->a[i]=b[i]'(by omega)) a.length (λi _ h=>by omega) o (λk nx l d s=>?_) (λnx d=>?_)
 ·refine Ok.iu (Aal l (Aal (by omega) (Ok.Ab (h k l (by omega)) λr n=>Ok.bif (λh2=>no ?_) λh2=>s λi p q=>?_)));· intro e;have:r=Br:=n.2 (by simp only[e]);subst this;cases h2
  ·rcases Aak i k with j|j;· exact d i p j
   ·obtain rfl:i=k:=by omega
    exact n.1 (by simpa using h2)
 ·exact Ok.io (Ok.some ⟨λ_=>Ads m λi h1 h2=>d i h1 h1,λ_=>rfl⟩)
theorem Aik{w:Vl}(h1:v.any=w.any)(h2:v.sc=w.sc)(h3:v.lists=w.lists)(a:v.structs=w.structs):v=w:=by cases v;cases w;simp only[Vl.any,Vl.sc,Vl.lists,Vl.structs]at h1 h2 h3 a;subst h1 h2 h3 a;rfl
theorem F4{a b:Bool} :(a==b)=Br↔a=b:=by cases a<;>cases b<;>simp
theorem WW{x y:Sc}{w f:Nat}(e:cw k m x)(v:cw w f y)(G:m<=100000000/\f<=100000000)(F:1000000000000<fu):Ok (kf fu (x,y)) λr=>r=Br↔x=y:=by
 obtain⟨a,b,c,⟨H,I⟩,l⟩:=x;obtain⟨C,D,E,⟨A,B⟩,z⟩:=y;have no:∀ {P:Prop},¬P->Ok (Ac Ap) λr=>r=Br↔P:=λh=>Ok.some ⟨λk=>(by cases k),λk=>absurd k h⟩;have i:=e.sm.n1;have j:=e.sm.n2;rw[kf];simp only[Afc];dsimp only at i j⊢;refine Ok.bif (λo=>Ok.bif (λp=>Ok.bif (λhc=>IN (yX (by omega)) (Ok.ite (λq=>IN (yX (by omega)) (Ok.ite (λd=>Ok.Ab (Q:=λr=>r=Br↔l=z) ?_ λr t=>Ok.some ?_) λh=>no λk=>h k.2.2.2.1.2)) λh=>no λk=>h k.2.2.2.1.1)) λh=>no λk=>?_) λh=>no λk=>?_) λh=>no λk=>?_;· have g:=e.sh;have J:=v.sh;exact KG (n:=max m f) ⟨Aar g.1 (by omega),λs u=>Aar (g.2 s u) (by omega)⟩ (by omega)
 ·rw[t];exact⟨λh=>⟨F4.1 o,F4.1 p,F4.1 hc,⟨q,d⟩,h⟩,λh=>h.2.2.2.2⟩
 ·rw[F4.2 k.2.2.1]at h;cases h
 ·rw[F4.2 k.2.1]at h;cases h
 ·rw[F4.2 k.1]at h;cases h
def JZ(d:Nat)(x:A7):Prop:=Bd d x.1/\Bd d x.2
theorem Bd.lv(h:Bd (d+1) v){c:Ie}(hc:c∈v.lists):∀x∈A1 c,JZ d x:=λx a=>
 h.2.2.2 x (AT.2 (.inl (Aac.2 ⟨c,hc,a⟩)))
theorem Bd.sv(h:Bd (d+1) v)(hc:c∈v.structs):∀x∈Bv c,JZ d x:=λx a=>
 h.2.2.2 x (AT.2 (.inr (Aac.2 ⟨c,hc,a⟩)))
theorem BA{P:Prop}(h:¬P):Ok (Ac Ap) λr=>r=Br↔P:=Ok.some ⟨λk=>(by cases k),λk=>absurd k h⟩
theorem LB:∀ {d fu:Nat} {v w:Vl},Bd d v->Bd d w->1000000000000+10*d<fu->Ok (dC fu (v,w)) λr=>r=Br↔v=w
 |0,_,_,_,h,_,_=>h.elim
 |d+1,fu,v,w,F,G,hF=>by
  obtain⟨f,rfl⟩:∃f,fu=f+5:=⟨fu-5,by omega⟩;have sv:∀ {g:Nat} {x y:A7},JZ d x->JZ d y->1000000000000+10*d+1<g->Ok (Ns g (x,y)) λr=>r=Br↔x=y:=λ{g x y} M N hg=>by
   obtain⟨e,rfl⟩:∃e,g=e+1:=⟨g-1,by omega⟩;rw[show Ns (e+1) (x,y)=_ from d136 e x y];unfold tC;refine Ok.Ab (LB M.1 N.1 (by omega)) λr a=>Ok.bif (λh=>Ok.Ab (LB M.2 N.2 (by omega)) λs p=>Ok.some ?_) λh=>BA λe=>?_;· rw[p,Ajd];exact⟨λk=>⟨a.1 h,k⟩,Afo⟩
   ·rw[a.2 (congrArg Prod.fst e)]at h;cases h
  obtain⟨O,⟨a2,P⟩,⟨a4,R⟩,_⟩:=id F;obtain⟨S,⟨b2,T⟩,⟨b4,U⟩,_⟩:=id G;rw[show dC (f+5) (v,w)=_ from d135 (f+4) v w];unfold xS;refine Ok.bif (λh=>BA λe=>?_) λc=>Ok.Ab (WW O S (by omega) (by omega)) λr a=>Ok.bif (λh=>BA λe=>?_) λq=>Ok.ite (λh=>BA λe=>h (by rw[e])) λB=>Ok.ite (λh=>BA λe=>h (by rw[e])) λC=>?_;· subst e;simp at h
  ·rw[a.2 (by rw[e])]at h;cases h
  have c:v.any=w.any:=by simpa using c
  have q:v.sc=w.sc:=a.1 (by simpa using q);have B:v.lists.length=w.lists.length:=by omega
  have C:v.structs.length=w.structs.length:=by omega
  refine Ok.count (λk=> ∀i (h:i<v.lists.length),i<k->v.lists[i]=w.lists[i]'(by omega)) v.lists.length (λi _ h=>by omega) (by omega) (λk nx A m J=>?_) (λnx m=>?_)
  ·have t:=AN A;have u:=AN (show k<w.lists.length by omega);have E:=P _ t;have q2:=T _ u;have V:cO (f+4) v.lists[k]=Ac (A1 v.lists[k]):=Hc (by omega) (by omega);have W:cO (f+4) (w.lists[k]'(by omega))=Ac (A1 (w.lists[k]'(by omega))):=Hc (by omega) (by omega);have ne:v.lists[k]≠w.lists[k]'(by omega)->¬v=w:=λh e=>h (by simp only[e]);refine Ok.iu (Aal A (Aal (by omega) (Ok.ite (λh=>BA (ne λe=>h (by rw[e]))) λo=>IN V (IN W (Ok.Ab (Q:=λr=>r=Br↔A1 v.lists[k]=A1 (w.lists[k]'(by omega))) ?_ λr a=>Ok.bif (λh=>BA (ne λe=>?_)) λh=>J λi H I=>?_)))));· rw[show tv (f+4) (A1 v.lists[k],A1 (w.lists[k]'(by omega)))=_ from d129 (f+3) _ _];unfold xY;refine Kx (f:=λx y=>Ns (f+3) (x,y)) (by unfold A1;rw[Pd];omega) λi b l=>sv (F.lv t _ (AN b)) (G.lv u _ (AN l)) (by omega)
   ·rw[a.2 (by rw[e])]at h;cases h
   ·rcases Aak i k with z|z;· exact m i H z
    ·obtain rfl:i=k:=by omega
     have a:=a.1 (by simpa using h);have o:(v.lists[i]).1.length=(w.lists[i]'(by omega)).1.length:=by omega
     exact Acr (Alr a o).1 (Alr a o).2
  have X:v.lists=w.lists:=Ads B λi b l=>m i b b;refine Ok.iF (by omega) ?_;refine Ok.count (λk=> ∀i (h:i<v.structs.length),i<k->v.structs[i]=w.structs[i]'(by omega)) v.structs.length (λi _ h=>by omega) (by omega) (λk nx A m J=>?_) (λnx m=>?_)
  ·have t:=AN A;have u:=AN (show k<w.structs.length by omega);have E:=R _ t;have q2:=U _ u;have n1:=E.nf;have n2:=E.nc;have ne:v.structs[k]≠w.structs[k]'(by omega)->¬v=w:=λh e=>h (by simp only[e]);refine Ok.iu (Aal A (Aal (by omega) (Ok.Ab (Q:=λr=>r=Br↔v.structs[k]=w.structs[k]'(by omega)) ?_ λr a=>Ok.bif (λh=>BA (ne λe=>?_)) λh=>J λi H I=>?_)))
   ·rw[show tq (f+4) (v.structs[k],w.structs[k]'(by omega))=_ from d134 (f+3) _ _];unfold xT;refine Ok.Ab (Q:=λr=>r=Br↔(v.structs[k]).1=(w.structs[k]'(by omega)).1) ?_ λr a=>Ok.bif (λh=>Ok.Ab (Q:=λr=>r=Br↔(v.structs[k]).2=(w.structs[k]'(by omega)).2) ?_ λs p=>Ok.some ?_) λh=>BA λe=>?_;· rw[show tu (f+3) ((v.structs[k]).1,(w.structs[k]'(by omega)).1)=_ from d131 (f+2) _ _];unfold xW;refine Kx (f:=λx y=>kd (f+2) (x,y)) (by omega) λi b l=>?_;rw[show kd (f+2) ((v.structs[k]).1[i],(w.structs[k]'(by omega)).1[i])=_ from d130 (f+1) _ _];unfold xX;have K:=F.sv t _ (AT.2 (.inl (By.2 ⟨_,AN b,rfl⟩)));have L:=G.sv u _ (AT.2 (.inl (By.2 ⟨_,AN l,rfl⟩)));refine Ok.ite (λZ=>Ok.ite (λk2=>Ok.Ab (sv K L (by omega)) λr a=>Ok.some ?_) λh=>BA λe=>h (by rw[e])) λh=>BA λe=>h (by rw[e]);rw[a];exact⟨λD=>Acr Z (Acr k2 D),λe=>by rw[e]⟩
    ·rw[show tt (f+3) ((v.structs[k]).2,(w.structs[k]'(by omega)).2)=_ from d133 (f+2) _ _];unfold xU;refine Kx (f:=λx y=>kc (f+2) (x,y)) (by omega) λi b l=>?_;rw[show kc (f+2) ((v.structs[k]).2[i],(w.structs[k]'(by omega)).2[i])=_ from d132 (f+1) _ _];unfold xV;have K:=F.sv t _ (AT.2 (.inr (By.2 ⟨_,AN b,rfl⟩)));have L:=G.sv u _ (AT.2 (.inr (By.2 ⟨_,AN l,rfl⟩)));have y1:=E.each _ (AN b);have y2:=E.ed _ (AN b);refine Ok.Ab (KG (n:=14641) ⟨y1,λs p=>by have:=y2 s p;omega⟩ (by omega)) λr a=>Ok.bif (λh=>Ok.Ab (sv K L (by omega)) λs p=>Ok.some ?_) λh=>BA λe=>?_;· rw[p];exact⟨λD=>Acr (a.1 h) D,λe=>by rw[e]⟩
     ·rw[a.2 (by rw[e])]at h;cases h
    ·rw[p];exact⟨λD=>Acr (a.1 h) D,λe=>by rw[e]⟩
    ·rw[a.2 (by rw[e])]at h;cases h
   ·rw[a.2 e]at h;cases h
   ·rcases Aak i k with z|z;· exact m i H z
    ·obtain rfl:i=k:=by omega
     exact a.1 (by simpa using h)
  ·have Y:v.structs=w.structs:=Ads C λi b l=>m i b b;exact Ok.io (Ok.some ⟨λ_=>Aik c q X Y,λ_=>rfl⟩)
theorem YV(b:JZ d x)(c:JZ d y)(g:1000000000000+10*d+1<fu):Ok (Ns fu (x,y)) λr=>r=Br↔x=y:=by
 obtain⟨e,rfl⟩:∃e,fu=e+1:=⟨fu-1,by omega⟩;rw[show Ns (e+1) (x,y)=_ from d136 e x y];unfold tC;refine Ok.Ab (LB b.1 c.1 (by omega)) λr a=>Ok.bif (λh=>Ok.Ab (LB b.2 c.2 (by omega)) λs f=>Ok.some ?_) λh=>BA λe=>?_;· rw[f,Ajd];exact⟨λk=>⟨a.1 h,k⟩,Afo⟩
 ·rw[a.2 (congrArg Prod.fst e)]at h;cases h
theorem Mb(c:JZ d x)(e:JZ d y)(a:1000000000000+10*d+1<fu):Ok (Yg fu (x,y)) λr=>r=Br↔x=y:=by rw[Yg];exact Ok.Ab (YV c e a) λr b=>Ok.some b
def v0:Vl:= .mk Ap Fw [] []
def NB(v:Vl):Prop:=v.any=Br\/v.lists≠ []\/v.structs≠ []\/v.sc≠Fw
def SB(d:Nat)(v:Vl):Prop:=Bd d v/\Snd d v
def SX(d:Nat)(x:A7):Prop:=SB d x.1/\SB d x.2
theorem L1(d:Nat):SB (d+1) v0:=by have z:=(LR (k:=5) (m:=0)).sc (by decide);refine⟨⟨⟨z.sm,z.n1,z.n2,z.bt,by simp[D9,v0,Fw,Vl.sc]⟩,⟨Abh _,?_⟩,⟨Abh _,?_⟩,?_⟩,⟨LR,?_,?_,?_⟩⟩<;>intro c h<;>cases h
theorem D6(h:SB d v)(g:1000000000000<fu):Ok (S4 fu v) λr=>r=Br↔¬NB v:=by
 cases d with
 |zero=>exact h.1.elim
 |succ d=>
  obtain⟨⟨b,⟨l,_⟩,⟨p,_⟩,_⟩,j,_⟩:=h;have m:=b.n1;have n:=b.n2;have o:=b.sh.1;have no:NB v->Ok (Ac Ap) λr=>r=Br↔¬NB v:=λk=>Ok.some ⟨λh=>(by cases h),λh=>absurd k h⟩;rw[S4];refine Ok.bif (λa=>Aaq (Ok.ite (λf=>Ok.Ab (Vk (by omega) (by omega) (by omega)) λr i=>?_) λf=>no ?_)) λa=>no (.inl (by simpa using a))
  ·have a:v.any=Ap:=by simpa using a
   have c:v.lists=[]:=Aae.1 (by omega);have e:v.structs=[]:=Aae.1 (by omega);have iff:v.sc=Fw↔¬NB v:=by unfold NB;rw[a,c,e];simp
   refine Ok.bif (λh=>Ok.some ?_) λ_=>Ok.Ab (II j (by omega) (by omega) g) λs b=>Ok.some (b.trans iff);exact⟨λ_=>iff.1 (i.1 h),λ_=>rfl⟩
  ·by_cases c:v.lists=[];· refine .inr (.inr (.inl λe=>f ?_));rw[c,e];rfl
   ·exact .inr (.inl c)
noncomputable def vw(c:Bx)(s:Au):A7×Int:=match c.1.find? (λf=>decide (f.1=s))with
 |some f=>(f.2.2,f.2.1)
 |none=>match c.2.find? (λk=>NO k.1 s)with
  |some k=>(k.2,3)
  |none=>((v0,v0),3)
theorem UQ(h:SS c)(C:s.length<=1000)(B:1000000000000<fu):UF fu (c,s)=Ac (vw c s):=by
 have D:=h.nf;have E:=h.nc;refine(Ok.eq ?_);rw[UF];refine Ok.count (λk=> ∀i (d:i<c.1.length),i<k->decide (c.1[i].1=s)=Ap) c.1.length (λi _ h=>by omega) (by omega) (λk nx o q x=>?_) (λnx q=>?_)
 ·refine Ok.iu (Aal o (Ok.ite (λl=>Ok.some ?_) λl=>x λi d v=>?_));· have e:c.1.find? (λf=>decide (f.1=s))=Ac c.1[k]:=Aeq.2 ⟨decide_eq_true l,k,o,rf,λj w=>by simp only[q j (by omega) w];rfl⟩;unfold vw;rw[e]
  ·rcases Aak i k with p|p;· exact q i d p
   ·obtain rfl:i=k:=by omega
    exact decide_eq_false l
 ·have e:c.1.find? (λf=>decide (f.1=s))=C7:=Adr.2 λf u=>by
   obtain⟨i,d,rfl⟩:=Aat u;rw[q i d d];decide
  refine Ok.iF (by omega) ?_;refine Ok.count (λk=> ∀i (d:i<c.2.length),i<k->NO c.2[i].1 s=Ap) c.2.length (λi _ h=>by omega) (by omega) (λk nx o g x=>?_) (λnx g=>?_)
  ·have m:=AN o;have A:=h.each _ m;have y:dw fu (c.2[k].1,s)=Ac (NO c.2[k].1 s):=(Uu (n:=14641) (h.bt _ m) ⟨A,λt z=>by have:=h.ed _ m t z;omega⟩ (by omega) (by omega) (by omega) (by omega)).eq;refine Ok.iu (Aal o (IN y (Ok.bif (λl=>Ok.some ?_) λl=>x λi d v=>?_)));· have r:c.2.find? (λk=>NO k.1 s)=Ac c.2[k]:=Aeq.2 ⟨l,k,o,rfl,λj w=>by simp only[g j (by omega) w];rfl⟩;unfold vw;rw[e,r]
   ·rcases Aak i k with p|p;· exact g i d p
    ·obtain rfl:i=k:=by omega
     exact l
  ·have r:c.2.find? (λk=>NO k.1 s)=C7:=Adr.2 λf u=>by
    obtain⟨i,d,rfl⟩:=Aat u;rw[g i d d];decide
   refine Ok.io (Ok.some ?_);unfold vw;rw[e,r];rfl
theorem kH(h0:P (v0,v0))(h:∀x∈Bv c,P x):P (vw c s).1:=by
 unfold vw;split;· rename_i f a;exact h _ (AT.2 (.inl (By.2 ⟨f,Abv a,rfl⟩)))
 ·split;· rename_i k b;exact h _ (AT.2 (.inr (By.2 ⟨k,Abv b,rfl⟩)))
  ·exact h0
theorem uB(h:∃f∈c.1,f.1=s):∃f∈c.1,f.1=s/\vw c s=(f.2.2,f.2.1):=by
 unfold vw;cases b:c.1.find? (λf=>decide (f.1=s))with
 |some f=>exact⟨f,Abv b,by have:=List.find?_some (p:=λf:Au×Int×A7=>decide (f.1=s)) b;exact of_decide_eq_true this,rfl⟩
 |none=>
  obtain⟨f,d,e⟩:=h;have:=Adr.1 b f d;rw[decide_eq_true e]at this;exact absurd rfl this
def ga(c:Ie)(i:Nat):A7:=match c.1[i]? with
 |some x=>x
 |none=>match c.2 with
  |x::_=>x
  | []=>(v0,v0)
theorem gf{c:Ie} :Ok (Ye fu (c,(i:Int))) λr=>r.1=ga c i:=by
 rw[Ye];unfold ga;refine Ok.iu (Ok.ite (λh=>Aal (by omega) (Ok.some ?_)) λh=>Ok.iT (by omega) ?_);· rw[BY (by omega)]
 ·rw[Acj (by omega)];cases hc:c.2 with
  |nil=>exact Ok.iF (by simp) (Ok.some rfl)
  |cons x l=>exact Ok.iT (by simp) (IN (a:=x) rfl (Ok.some rfl))
theorem qd{c:Ie}(h0:P (v0,v0))(h:∀x∈A1 c,P x):P (ga c i):=by
 unfold ga;split;· rename_i x a;exact h _ (AT.2 (.inl (Aai a)))
 ·split;· rename_i x l a;exact h _ (AT.2 (.inr (by rw[a];exact Aaj ..)))
  ·exact h0
def SU(R:Vl->Vl->Prop)(x y:A7):Prop:=R x.1 y.1/\R x.2 y.2
structure nn(R:Vl->Vl->Prop)(c c':Ie):Prop where
 ln:c'.1.length<=c.1.length
 cl:c'.2=[]->c.1.length<=c'.1.length/\c.2=[]
 it:∀i (h:i<c.1.length),SU R c.1[i] (ga c' i)
 rs:∀h:0<c.2.length,SU R c.2[0] (c'.2.getD 0 (v0,v0))
structure dS(R:Vl->Vl->Prop)(c c':Bx):Prop where
 fa:∀f∈c.1,(vw c f.1).2<=(vw c' f.1).2/\SU R (vw c f.1).1 (vw c' f.1).1
 fb:∀f∈c'.1,(vw c f.1).2<=(vw c' f.1).2/\SU R (vw c f.1).1 (vw c' f.1).1
 cl:∀k∈c.2,∀k'∈c'.2,SU R k.2 k'.2\/∀w,¬(Aw k.1 0 w=Br/\Aw k'.1 0 w=Br)
def Fz:Nat->Vl->Vl->Prop
 |0,_,_=>False
 |d+1,a,b=>b.any=Br\/a.any=Ap/\WJ a.sc b.sc/\(∀c∈a.lists,∃e∈b.lists,nn (Fz d) c e)/\∀c∈a.structs,∃e∈b.structs,dS (Fz d) c e
theorem U3(hi:i<c.2.length)(w:Au):(Gn c w).getD i 0=runT (c.2.getD i dK).1 0 w:=by
 have:∀l:Au,(Gn c l.reverse).getD i 0=runT (c.2.getD i dK).1 0 l.reverse:=λl=>by
  induction l with
  |nil=>
   show(Co c).getD i 0=0;unfold Co;rw[IS,Afn];split<;>rfl
  |cons x l d=>
   rw[Afs,FF,(Ha c _ _).cl i hi];unfold W7;rw[d];unfold runT;rw[Acb];rfl
 have:=this w.reverse;rwa [Afh]at this
theorem nM{l:List Nat}(hi:i∈l)(a:j∈l)(h:i≠j):2<=l.length:=by
 match l with
 | []=>cases hi
 | [x]=>
  rw[Aaf]at hi a;omega
 |x::y::l=>simp
theorem D'.JC(h:D' c)(hi:i<c.2.length)(k:j<c.2.length)(g:i≠j)(w:Au):¬(Aw c.2[i].1 0 w=Br/\Aw c.2[j].1 0 w=Br):=λ⟨a,b⟩=>by
 have one:=h.2 w;have e:∀ {i:Nat} (hi:i<c.2.length),Aw c.2[i].1 0 w=Br->i∈(List.range c.2.length).filter λi=>fin (c.2.getD i dK).1 ((Gn c w).getD i 0):=λhi h=>by refine Aax.2 ⟨Abb.2 hi,?_⟩;rw[U3 hi w,show c.2.getD _ dK=c.2[_]from Az hi];exact h
 have:=nM (e hi a) (e k b) g;unfold Lj Lk at one;omega
theorem ak{c:Ie}(h:i<c.1.length):ga c i=c.1[i]:=by unfold ga;rw[BY h]
theorem WI(x:Sc):WJ x x:=⟨id,id,id,λ_=>id,λ_=>id,λ_=>id⟩
theorem Fz.refl:∀ {d:Nat} {a:Vl},DQ d a->Fz d a a
 |0,_,h=>h.elim
 |d+1,a,⟨n,l⟩=>by
  by_cases q:a.any=Br;· exact .inl q
  have r:∀x∈kids a,SU (Fz d) x x:=λx b=>⟨Fz.refl (l x b).1,Fz.refl (l x b).2⟩;refine .inr ⟨by simpa using q,WI _,λc hc=>⟨c,hc,?_⟩,λc hc=>⟨c,hc,?_⟩⟩
  ·have t:∀x∈A1 c,SU (Fz d) x x:=λx b=>r x (AT.2 (.inl (Aac.2 ⟨c,hc,b⟩)));refine⟨Aad _,λh=>⟨Aad _,h⟩,λi m=>?_,λh=>?_⟩;· rw[ak m];exact t _ (AT.2 (.inl (AN m)))
   ·rw[show c.2.getD 0 (GL.v0,GL.v0)=c.2[0]from Az h];exact t _ (AT.2 (.inr (AN h)))
  ·have u:∀x∈Bv c,SU (Fz d) x x:=λx b=>r x (AT.2 (.inr (Aac.2 ⟨c,hc,b⟩)));have v:∀f∈c.1,(vw c f.1).2<=(vw c f.1).2/\SU (Fz d) (vw c f.1).1 (vw c f.1).1:=λf y=>⟨Abn _,by
    obtain⟨g,n,_,e⟩:=uB (c:=c) (s:=f.1) ⟨f,y,rfl⟩;rw[e];exact u _ (AT.2 (.inl (By.2 ⟨g,n,rfl⟩)))⟩;refine⟨v,v,λk l A o=>?_⟩;obtain⟨i,m,rfl⟩:=Aat l;obtain⟨j,z,rfl⟩:=Aat o;by_cases e:i=j;· subst e;exact .inl (u _ (AT.2 (.inr (By.2 ⟨_,l,rfl⟩))))
   ·exact .inr ((n.st c hc).2.JC m z e)
def SV(d:Nat)(v:Vl):Prop:=Bd d v/\DQ d v
def SW(d:Nat)(x:A7):Prop:=SV d x.1/\SV d x.2
theorem Fh{s:Sc}(h:cw k m s)(a:uf s):Ld k m s:=⟨a.1,h.n1,h.n2,⟨a.2.1,a.2.2,rfl,h.sh.1⟩⟩
theorem UR(d:Nat):SV (d+1) v0:=⟨(L1 d).1,⟨λh=>(by cases h),QJ,λc hc=>(by cases hc),λc hc=>(by cases hc)⟩,λx a=>by cases a⟩
theorem SV.pW(h:SV (d+1) v):∀x∈kids v,SW d x:=λx a=>⟨⟨(h.1.2.2.2 x a).1,(h.2.2 x a).1⟩,⟨(h.1.2.2.2 x a).2,(h.2.2 x a).2⟩⟩
theorem SV.lv(h:SV (d+1) v){c:Ie}(hc:c∈v.lists):∀x∈A1 c,SW d x:=λx a=>h.pW x (AT.2 (.inl (Aac.2 ⟨c,hc,a⟩)))
theorem SV.sv(h:SV (d+1) v)(hc:c∈v.structs):∀x∈Bv c,SW d x:=λx a=>h.pW x (AT.2 (.inr (Aac.2 ⟨c,hc,a⟩)))
theorem SW.v0(h:SW d x):SW d (v0,v0):=by
 cases d with
 |zero=>exact h.1.1.elim
 |succ d=>exact⟨UR d,UR d⟩
theorem contains_eq{l:List α}{x:α}{g:α->α->Option (Bool×α)}{P:α->Prop}(n:l.length<fu)(o:∀y∈l,Ok (g y x) λr=>r.2=x/\(r.1=Br↔P y)):
  Ok (Ad fu (λ(b:α×Nat) i=>bif decide ((b.2:Int)<(l.length:Int))then Ab (idx l (b.2:Int)) λq=>Ab (g q b.1) λj=>bif j.1 then Ac ((b.2:Int),j.2)else i (j.2,b.2+1)else Ac ((-1:Int),b.1)) (x,0)) λr=>r.2=x/\(0<=r.1↔∃y∈l,P y):=by
 refine Ok.range (λk s=>s=x/\∀y∈l.take k,¬P y) l.length ⟨rf,by simp⟩ n (λk s nx e a p=>?_) (λs nx a=>?_)
 ·obtain⟨rfl,a⟩:=a;have m:=AN e;refine Ok.iu (Aal e (Ok.Ab (o _ m) λr d=>Ok.bif (λh=>Ok.some ⟨d.1,λ_=>⟨_,m,d.2.1 h⟩,λ_=>by show(0:Int)<=(k:Int);omega⟩) λh=>p _ ⟨d.1,λy c=>?_⟩));rcases(Ai e).1 c with c|rfl;· exact a y c
  ·intro f;rw[d.2.2 f]at h;cases h
 ·obtain⟨rfl,a⟩:=a;rw[An]at a;exact Ok.io (Ok.some ⟨rfl,λh=>by have h:(0:Int)<= -1:=h;omega,λ⟨y,c,f⟩=>absurd f (a y c)⟩)
theorem M0{g:α->Option (Bool×α)}{P:α->Prop}(j:a.length<fu)(l:∀x∈a,Ok (g x) λr=>r.1=Br↔P x):
  Ok (Ad fu (λ(f:Nat) e=>bif decide ((f:Int)<(a.length:Int))then Ab (idx a (f:Int)) λo=>Ab (g o) λp=>bif !p.1 then Ac Ap else e (f+1)else Ac Br) 0) λr=>r=Br↔∀x∈a,P x:=by
 refine Ok.count (λk=> ∀x∈a.take k,P x) a.length (by simp) j (λk nx c b n=>?_) (λnx b=>?_)
 ·have m:=AN c;refine Ok.iu (Aal c (Ok.Ab (l _ m) λr i=>Ok.bif (λh=>BA λk=>?_) λh=>n λx d=>?_));· rw[i.2 (k _ m)]at h;cases h
  ·rcases(Ai c).1 d with d|rfl;· exact b x d
   ·exact i.1 (by simpa using h)
 ·rw[An]at b;exact Ok.io (Ok.some ⟨λ_=>b,λ_=>rfl⟩)
end
section
variable {d : Nat} (ih : ∀ {fu : Nat} {a b : Vl}, SV d a -> SV d b -> 1000000000000 + 20 * d < fu -> Ok (S2 fu (a, b)) λr => r = Br ↔ Fz d a b)
section
variable{fu:Nat}
include ih
theorem PG{x y:A7}(e:SW d x)(g:SW d y)(j:1000000000000+20*d+1<fu):Ok (Lv fu (x,y)) λr=>r=Br↔SU (Fz d) x y:=by
 obtain⟨f,rfl⟩:∃f,fu=f+1:=⟨fu-1,by omega⟩;rw[show Lv (f+1) (x,y)=_ from d189 f x y];unfold xH;refine Ok.Ab (ih e.1 g.1 (by omega)) λr c=>Ok.bif (λh=>Ok.Ab (ih e.2 g.2 (by omega)) λs i=>Ok.some ?_) λh=>BA λk=>?_;· exact i.trans ⟨λk=>⟨c.1 h,k⟩,λk=>k.2⟩
 ·rw[c.2 k.1]at h;cases h
theorem Jk{x y:Ie}(h1:x.1.length<=3)(G:∀w∈A1 x,SW d w)(H:∀w∈A1 y,SW d w)(Q:1000000000000+20*d+2<fu):Ok (UD fu (x,y)) λr=>r=Br↔nn (Fz d) x y:=by
 obtain⟨
     f,rfl⟩:∃f,fu=f+1:=⟨fu-1,by omega⟩;rw[show UD (f+1) (x,y)=_ from d190 f x y];unfold xG;have loop:(y.1.length<=x.1.length)->(y.2=[]->x.1.length<=y.1.length/\x.2=[])->Ok (Ad f (λ(n:Nat) j=>
    bif decide ((n:Int)<(x.1.length:Int))then
     Ab (idx x.1 (n:Int)) λv=>
     Ab (Ye f (y,(n:Int))) λz=>
     Ab (Lv f (v,z.1)) λA=>
     bif !A then
      Ac Ap
     else
      j (n+1)
    else
     bif decide ((x.2.length:Int)=0)then
      Ac Br
     else
      Ab (idx x.2 0) λB=>
      Ab (idx y.2 0) λC=>
      Ab (Lv f (B,C)) λD=>
      Ac D) 0) λr=>r=Br↔nn (Fz d) x y:=λF s=>by
  refine Ok.count (λk=> ∀i (h:i<x.1.length),i<k->SU (Fz d) x.1[i] (ga y i)) x.1.length (λi h k=>by omega) (by omega) (λk nx q p M=>?_) (λnx p=>?_)
  ·have m:=G _ (AT.2 (.inl (AN q)));refine Ok.iu (Aal q (Ok.Ab gf λr t=>?_));rw[t];refine Ok.Ab (PG ih m (qd m.v0 H) (by omega)) λb l=>Ok.bif (λh=>BA λN=>?_) λh=>M λi K L=>?_;· rw[l.2 (N.it k q)]at h;cases h
   ·rcases Aak i k with o|o;· exact p i K o
    ·obtain rfl:i=k:=by omega
     exact l.1 (by simpa using h)
  ·have I:∀i (h:i<x.1.length),SU (Fz d) x.1[i] (ga y i):=λi h=>p i h h;refine Ok.io (Ok.ite (λO=>Ok.some ⟨λ_=>⟨F,s,I,λh=>by omega⟩,λ_=>rfl⟩) λh=>?_);have u:0<x.2.length:=by omega
   have J:0<y.2.length:=by
    rcases Agi y.2.length with e|e;· have:=(s (Aae.1 e)).2;rw[this]at u;exact absurd u (by decide)
    ·exact e
   refine Aeb (by decide) (by omega) (Aeb (by decide) (by omega) (Ok.Ab (PG ih (G _ (AT.2 (.inr (AN _)))) (H _ (AT.2 (.inr (AN _)))) (by omega)) λb l=>Ok.some (l.trans ⟨λk=>⟨F,s,I,λ_=>?_⟩,λk=>?_⟩)));· rw[show y.2.getD 0 (v0,v0)=y.2[0]from Az J];exact k
   ·have:=k.rs u;rwa [show y.2.getD 0 (v0,v0)=y.2[0]from Az J]at this
 refine Ok.ite (λh=>BA λk=>by have:=k.ln;omega) λo=>Ok.bif (λh=>?_) λh=>loop (by omega) λE=>absurd h (by rw[E];decide);have e:y.2=[]:=by
  rcases Agi y.2.length with e|e;· exact Aae.1 e
  ·rw[show decide ((0:Int)<(y.2.length:Int))=Br from decide_eq_true (by omega)]at h;cases h
 exact Ok.ite (λh=>BA λk=>by have:=(k.cl e).1;omega) λE=>Ok.ite (λh=>BA λk=>by have:=(k.cl e).2;rw[this]at h;exact absurd h (by decide)) λP=>loop (by omega) λ_=>⟨by omega,Aae.1 (by omega)⟩
theorem GZ{x y:Bx}(C:SS x)(i:SS y)(M:D' x)(N:D' y)(V:∀w∈Bv x,SW d w)(W:∀w∈Bv y,SW d w)(hF:1000000000000+20*d+2<fu):Ok (UE fu (x,y)) λr=>r=Br↔dS (Fz d) x y:=by
 obtain⟨f,rfl⟩:∃f,fu=f+1:=⟨fu-1,by omega⟩;rw[show UE (f+1) (x,y)=_ from d183 f x y];unfold xN;have n1:=C.nf;have n2:=C.nc;have n3:=i.nf;have n4:=i.nc;refine Ok.Af ⟨rfl,rfl⟩ ?_;let P:=λg:Au×Int×A7=>(vw x g.1).2<=(vw y g.1).2/\SU (Fz d) (vw x g.1).1 (vw y g.1).1;refine Ok.count (λk=>(1<=k->∀g∈x.1,P g)/\(2<=k->∀g∈y.1,P g)) 2 ⟨λh=>by omega,λh=>by omega⟩ (by omega) (λk nx I H J=>?_) (λnx H=>?_)
 ·have inner:∀(l:List (Au×Int×A7)),l.length<=4->(∀g∈l,g.1.length<=60/\SW d (v0,v0))->(dS (Fz d) x y->∀g∈l,P g)->((∀g∈l,P g)->Ok (nx (k+1)) λr=>r=Br↔dS (Fz d) x y)->
    Ok (
      Ad f (λ(Y:Nat) B=>
     bif decide ((Y:Int)<(l.length:Int))then
      Ab (idx l (Y:Int)) λr6=>
      Ab (UF f (x,r6.1)) λr7=>
      Ab (UF f (y,r6.1)) λr8=>
      bif decide (r8.2<r7.2)then
       Ac Ap
      else
       Ab (Lv f (r7.1,r8.1)) λr9=>
       bif !r9 then
        Ac Ap
       else
        B (Y+1)
     else
      nx (k+1)) 0) λr=>r=Br↔dS (Fz d) x y:=λl hl v hP U=>by
   refine Ok.count (λj=> ∀g∈l.take j,P g) l.length (by simp) (by omega) (λj B A u T=>?_) (λB u=>?_)
   ·have m:=AN A;obtain⟨q1,q2⟩:=v _ m;refine Ok.iu (Aal A (IN (UQ C (by omega) (by omega)) (IN (UQ i (by omega) (by omega)) (Ok.ite (λh=>BA λp=>by have:=(hP p _ m).1;omega) λD=>Ok.Ab (PG ih (kH q2 V) (kH q2 W) (by omega)) λr G=>Ok.bif (λh=>BA λp=>?_) λh=>T λg z=>?_))));· rw[G.2 (hP p _ m).2]at h;cases h
    rcases(Ai A).1 z with E|rfl;· exact u g E
    ·exact⟨by omega,G.1 (by simpa using h)⟩
   ·exact Ok.io (U λg z=>u g (by rw[An];exact z))
  have M:∀g∈x.1,g.1.length<=60/\SW d (v0,v0):=λg v=>⟨C.lb g v,(V _ (AT.2 (.inl (By.2 ⟨g,v,rfl⟩)))).v0⟩;have N:∀g∈y.1,g.1.length<=60/\SW d (v0,v0):=λg v=>⟨i.lb g v,(W _ (AT.2 (.inl (By.2 ⟨g,v,rfl⟩)))).v0⟩;refine Ok.iT (by omega) ?_;rcases(by omega:k=0\/k=1)with rfl|rfl;· exact IN (a:=x.1) rfl (inner x.1 n1 M (λp=>p.fa) λh=>J ⟨λ_=>h,λh=>by omega⟩)
  ·exact IN (a:=y.1) rf (inner y.1 n3 N (λp=>p.fb) λh=>J ⟨λ_=>H.1 (by omega),λ_=>h⟩)
 ·have O:=H.1 (by omega);have Q:=H.2 (by omega);refine Ok.iF (by omega) ?_;refine Ok.count (λk=> ∀a∈x.2.take k,∀b∈y.2,SU (Fz d) a.2 b.2\/∀w,¬(Aw a.1 0 w=Br/\Aw b.1 0 w=Br)) x.2.length (by simp) (by omega) (λk nx I n J=>?_) (λnx n=>?_)
  ·have K:=AN I;refine Ok.iu (Aal I ?_);refine Ok.count (λj=> ∀b∈y.2.take j,SU (Fz d) (x.2[k]).2 b.2\/∀w,¬(Aw (x.2[k]).1 0 w=Br/\Aw b.1 0 w=Br)) y.2.length (by simp) (by omega) (λj X A o F=>?_) (λX o=>?_)
   ·have L:=AN A;have s1:=V _ (AT.2 (.inr (By.2 ⟨_,K,rfl⟩)));have s2:=W _ (AT.2 (.inr (By.2 ⟨_,L,rfl⟩)));have Z:=M.1 _ K;have gb:=N.1 _ L;have la:CZ (x.2[k]).1 (Aw (x.2[k]).1 0) 14641:=⟨Z.2.1,Z.2.2,rfl,C.each _ K⟩;have lb:CZ (y.2[j]).1 (Aw (y.2[j]).1 0) 14641:=⟨gb.2.1,gb.2.2,rfl,i.each _ L⟩;have q:(SU (Fz d) (x.2[k]).2 (y.2[j]).2\/∀w,¬(Aw (x.2[k]).1 0 w=Br/\Aw (y.2[j]).1 0 w=Br))->∀b∈y.2.take (j+1),SU (Fz d) (x.2[k]).2 b.2\/∀w,¬(Aw (x.2[k]).1 0 w=Br/\Aw b.1 0 w=Br):=λh b S=>by
     rcases(Ai A).1 S with S|rfl;· exact o b S
     ·exact h
    refine Ok.iu (Aal A (Ok.Ab (PG ih s1 s2 (by omega)) λr G=>Ok.bif (λh=>Ok.Ab (iE (IE la lb (by decide) (by omega))) λt ht=>?_) λh=>F (q (.inl (G.1 (by simpa using h))))));rw[la.gL,lb.gL]at ht;have emp:t=[]↔∀w,¬(Aw (x.2[k]).1 0 w=Br/\Aw (y.2[j]).1 0 w=Br):=by
     rw[ht.Gr];constructor;· intro e w hw;have:=congrFun e w;rw[hw.1,hw.2]at this;cases this
     ·intro e;funext w;have:=e w;cases h1:Aw (x.2[k]).1 0 w<;>cases D:Aw (y.2[j]).1 0 w<;>simp_all
    refine Ok.ite (λD=>BA λp=>?_) λD=>F (q (.inr (emp.1 (Aae.1 (by omega)))));rcases p.cl _ K _ L with E|E;· rw[G.2 E]at h;cases h
    ·rw[emp.2 E]at D;exact absurd D (by decide)
   ·rw[An]at o;refine Ok.io (J λa R=>?_);rcases(Ai I).1 R with R|rfl;· exact n a R
    ·exact o
  ·rw[An]at n;exact Ok.io (Ok.some ⟨λ_=>⟨O,Q,n⟩,λ_=>rfl⟩)
end
end
section
variable{r:Tb}{fu:Nat}{x y:Au}{n:Nat}{w:Au}{k:Nat}{l:Tb}{L:Lg}{m:Nat}
theorem JR:∀ {d fu:Nat} {a b:Vl},SV d a->SV d b->1000000000000+20*d<fu->Ok (S2 fu (a,b)) λr=>r=Br↔Fz d a b
 |0,_,_,_,h,_,_=>h.1.elim
 |d+1,fu,a,b,j,l,C=>by
  obtain⟨f,rfl⟩:∃f,fu=f+7:=⟨fu-7,by omega⟩;have u:∀ {fu:Nat} {a b:Vl},SV d a->SV d b->1000000000000+20*d<fu->Ok (S2 fu (a,b)) λr=>r=Br↔Fz d a b:=JR;have z:=Fh j.1.1 j.2.1.sc;have sb:=Fh l.1.1 l.2.1.sc;rw[show S2 (f+7) (a,b)=_ from d188 (f+6) a b];unfold xI;refine Ok.bif (λh=>Ok.some ⟨λk=> .inl k,λk=>?_⟩) λh=>Ok.bif (λn=>Ok.some ⟨λk=> .inl k,λ_=>n⟩) λn=>?_
  ·rcases k with k|k;· exact k
   ·rw[h]at k;exact absurd k.1 (by decide)
  refine Ok.Ab (Mb (d:=d+1) (x:=(a,v0)) (y:=(b,v0)) ⟨j.1,(L1 d).1⟩ ⟨l.1,(L1 d).1⟩ (by omega)) λr c=>Ok.bif (λh=>Ok.some ⟨λ_=>?_,λ_=>rfl⟩) λ_=>?_;· have e:a=b:=congrArg Prod.fst (c.1 h);subst e;exact Fz.refl j.2
  have v:=j.1.2.1;have B:=l.1.2.1;have q:=j.1.2.2.1;have s:=l.1.2.2.1;refine Ok.Ab (WH z sb (by decide) (by decide) (by omega)) λr c=>Ok.bif (λi=>BA λk=>?_) λi=>?_
  ·rcases k with k|k;· rw[n]at k;cases k
   ·rw[c.2 k.2.1]at i;cases i
  have w:=c.1 (by simpa using i);have L:Ok (jK (f+6) (a.lists,b.lists)) λr=>r=Br↔∀x∈a.lists,∃y∈b.lists,nn (Fz d) x y:=by
   rw[show jK (f+6) (a.lists,b.lists)=_ from d182 (f+5) _ _];unfold xO;refine M0 (g:=λx=>jL (f+5) (b.lists,x)) (by omega) λx m=>?_;rw[show jL (f+5) (b.lists,x)=_ from d181 (f+4) _ _];unfold xP;have:Ok (jM (f+4) (b.lists,x)) λr=>r.2=x/\(0<=r.1↔∃y∈b.lists,nn (Fz d) x y):=by rw[show jM (f+4) (b.lists,x)=_ from d180 (f+3) _ _];unfold xQ;refine contains_eq (g:=λy x=>jN (f+3) (y,x)) (by omega) λy p=>?_;rw[show jN (f+3) (y,x)=_ from d179 (f+2) _ _];unfold xR;exact Ok.Ab (Jk u (v.2 x m).1 (j.lv m) (l.lv p) (by omega)) λr c=>Ok.some ⟨rfl,c⟩
   exact Ok.Ab this λr c=>Ok.some (decide_eq_true_iff.trans c.2)
  have S:Ok (jG (f+6) (a.structs,b.structs)) λr=>r=Br↔∀x∈a.structs,∃y∈b.structs,dS (Fz d) x y:=by
   rw[show jG (f+6) (a.structs,b.structs)=_ from d187 (f+5) _ _];unfold xJ;refine M0 (g:=λx=>jH (f+5) (b.structs,x)) (by omega) λx m=>?_;rw[show jH (f+5) (b.structs,x)=_ from d186 (f+4) _ _];unfold xK;have:Ok (jI (f+4) (b.structs,x)) λr=>r.2=x/\(0<=r.1↔∃y∈b.structs,dS (Fz d) x y):=by rw[show jI (f+4) (b.structs,x)=_ from d185 (f+3) _ _];unfold xL;refine contains_eq (g:=λy x=>jJ (f+3) (y,x)) (by omega) λy p=>?_;rw[show jJ (f+3) (y,x)=_ from d184 (f+2) _ _];unfold xM;exact Ok.Ab (GZ u (q.2 x m) (s.2 y p) (j.2.1.st x m).2 (l.2.1.st y p).2 (j.sv m) (l.sv p) (by omega)) λr c=>Ok.some ⟨rfl,c⟩
   exact Ok.Ab this λr c=>Ok.some (decide_eq_true_iff.trans c.2)
  refine Ok.Ab L λD o=>Ok.bif (λi=>Ok.Ab S λE t=>Ok.some (t.trans ⟨λk=> .inr ⟨h,w,o.1 i,k⟩,λk=>?_⟩)) λi=>BA λk=>?_
  ·rcases k with k|k;· rw[n]at k;cases k
   ·exact k.2.2.2
  ·rcases k with k|k;· rw[n]at k;cases k
   ·rw[o.2 k.2.2.1]at i;cases i
def wl(pre:Au)(o:Option Au):List Au:=match o with
 |some w=>[pre++w]
 |none=>[]
def S9(r:Tb):Option Au:=(List.range r.length).findSome? λk=>lw r k 0
def lsO(o:Option Au):Au×Bool:=match o with
 |some w=>(w,Br)
 |none=>([],Ap)
theorem MT{f:Nat->Option Au}(c:k<n)(h:f k=Ac w)(d:∀j,j<k->f j=C7):(List.range n).findSome? f=Ac w:=by
 have:(List.range n)=(List.range n).take k++k::(List.range n).drop (k+1):=by
  conv=>lhs;rw[<-Ace k (List.range n)]
  rw[Aaw (by rw[Agn];exact c),Aex]
 rw[this,List.findSome?_append,Agk.2,Ahr,h];· rfl
 ·intro x e;obtain⟨j,g,rfl⟩:=Adp.1 e;rw[Aex];exact d j (by omega)
theorem ZM(b:k<r.length)(h:lw r k 0=Ac w)(c:∀j,j<k->GN r j 0=Ap):S9 r=Ac w:=MT b h λj a=>by have:=c j a;unfold GN at this;exact Option.isNone_iff_eq_none.1 (Option.isSome_eq_false_iff.1 this)
theorem Yy{f:Nat}(J:Be l)(I:D9 l n)(hn:n<4294967295)(h0:0<l.length)(C:f<l.length)(M:GN l f 0=Br)(v:∀j,j<f->GN l j 0=Ap)(hf:2*n+400<fu):
  Ok (NS fu l) λr=>r.1.head?=lw l f 0:=by
 have O:=V_;obtain⟨Z,y⟩:=Abr.1 M;have V:=I.1;rw[NS];refine Ok.range (λk (s:List Bool)=>s=(Bu k λi=>fin l (i:Int))) l.length rfl (by omega) (λk s nx C B H=>?_) (λs nx B=>?_);· refine Ok.iu (Aal C (Ok.Af (by dsimp only;rw[B,AE];unfold Ag;omega) (H _ ?_)));rw[B,Da,E6 (by omega) (by omega)];rfl
 refine Ok.io (Ok.Af (by omega) ?_);have t:s=BW l 0:=by rw[B];exact A0 λi _=>(Jb l i).symm
 refine Ok.loop (X:=List (List Bool)×Int) (λx=> ∃k:Nat,x.2=k/\k<=f/\x.1=Bu (max k 1) (BW l)) (λx=>f+1-x.2.toNat) ⟨0,rfl,by omega,by dsimp only;rw[t];rfl⟩ (by dsimp only;omega) λx Y P _ m=>?_;obtain⟨e,z⟩:=x;obtain⟨k,N,T,c⟩:=P;dsimp only at N c m;subst N;have q:((BW l k).any λb=>b)=Br:=by obtain⟨j,S,E⟩:=Mr J (k:=k) (d:=f-k) (i:=0) (by rw[show k+(f-k)=f by omega];exact M);exact U5 S E
 have u:(BW l k).length<fu:=by unfold BW;rw[AE];omega
 have p:∀ {R:List (List Bool)} {kb:Bool->Option (List (List UInt8)×Bool)},R=Bu (k+1) (BW l)->
   (k<f->Ok (kb Br) λr=>r.1.head?=lw l f 0)->
   Ok (Ab (UK fu (l,Int.toNat (k:Int),Int.toNat ((k:Int)+1-(k:Int)),(k:Int),R)) λA=>gK kb A.1 A.2) λr=>r.1.head?=lw l f 0:=λ{R kb} Q F=>by
  rw[Q,show Int.toNat (k:Int)=k by omega,show Int.toNat ((k:Int)+1-(k:Int))=1 by omega];refine Ok.Ab (Q5 J I (by omega) h0 (by omega) (by omega)) λr w=>?_;rcases Aak k f with h|h;· rw[w.1 (v k h)];have:=F h;unfold gK;exact this
  ·obtain rfl:k=f:=by omega
   exact(VW (w.2 Z y)).mono λo U=>U.trans y.symm
 dsimp only;refine Ok.iu (Ok.ite (λC=>?_) λC=>?_)
 ·have W:idx e ((k:Int)-1)=Ac (BW l (k-1)):=by
   rw[show((k:Int)-1)=((k-1:Nat):Int) by omega,c,Bj (by rw[AE];omega),Bt]
  have hc:=bE (l:=l) (k:=k-1) (fu:=fu) J I (by omega) (by omega);rw[show k-1+1=k by omega]at hc;have a:e++[BW l k]=Bu (k+1) (BW l):=by rw[c,show max k 1=k by omega,Da]
  have L:e.length=k:=by rw[c,AE];omega
  have K:idx (e++[BW l k]) (k:Int)=Ac (BW l k):=by rw[a,Bj (by rw[AE];omega),Bt]
  refine Aaq (IN W (IN hc (Aby (IN K (IN (LL u) ?_)))));rw[q];refine Ok.F rf (Aaq (Aaq (Ok.Af ⟨⟨by omega,by omega⟩,rf,by rw[a,AE];omega⟩ ?_)));refine p a λG=>Ok.F rf (Aaq (m _ ⟨k+1,by dsimp only;omega,by omega,by dsimp only;rw[a,show max (k+1) 1=k+1 by omega]⟩ (by dsimp only;omega)))
 ·obtain rfl:k=0:=by omega
  have a:e=Bu (0+1) (BW l):=c;have K:idx e ((0:Nat):Int)=Ac (BW l 0):=by rw[a,Bj (by rw[AE];omega),Bt]
  refine IN K (IN (LL u) ?_);rw[q];refine Ok.F rf (Aaq (Aaq (Ok.Af ⟨⟨by omega,by omega⟩,rf,by rw[a,AE];omega⟩ ?_)));refine p a λG=>Ok.F rf (Aaq (m _ ⟨1,by dsimp only;omega,by omega,by dsimp only;rw[a];rfl⟩ (by dsimp only;omega)))
theorem Oq(h:CZ r L m)(j:D9 r n)(u:n<4294967295)(s:2*n+400<fu):S5 fu r=Ac (lsO (S9 r)):=by
 have key:Yi fu (r,1)=Ac (wl [] (S9 r)):=by
  refine(Ok.eq ?_);rw[Yi];refine Ok.iF (by decide) (IN (FM h.wf.by j (by omega) (by omega) (by omega)) ?_);rw[h.Ju];refine IN (rf) ?_;by_cases g:r=[]
  ·subst g;have:NS fu []=Ac ([],Br):=by
    refine(Ok.eq ?_);have q:=V_;rw[NS];obtain⟨f,rfl⟩:∃f,fu=f+1:=⟨fu-1,by omega⟩;rw[Ad];refine Ok.iF (by decide) (Ok.Af (by omega) ?_);rw[Ad];exact Ok.iF (by decide) (Ok.some rfl)
   refine IN this ?_;unfold E_ ND;exact Ok.some rf
  ·have t:0<r.length:=Aeo.2 g;obtain⟨k,i,c,d⟩:=Kl (MJ h g);obtain⟨w,p⟩:=Abr.1 c;rw[ZM i p d];refine Ok.Ab (Yy h.wf j u t i c d s) λo e=>?_;rw[p]at e;obtain⟨l,b⟩:=o;cases l with
   |nil=>cases e
   |cons y l=>
    cases e;unfold E_;exact Ok.Af (by simp[Ag]) (Aca (by decide) (Ok.iT (by simp) (Ok.some rfl)))
 refine(Ok.eq ?_);rw[S5];refine IN key ?_;cases S9 r with
 |none=>exact Ok.iT rfl (Ok.some rfl)
 |some w=>exact Ok.iF (by simp[wl]) (IN (a:=w) rfl (Ok.some rfl))
theorem mL{l:Tb}(h:Be l):∀ {k i:Nat} {w:Au},lw l k i=Ac w->Aw l (i:Int) w=Br
 |0,i,w,e=>by
  unfold lw at e;split at e;· cases e;rename_i h;exact h
  ·cases e
 |k+1,i,w,e=>by
  unfold lw at e;obtain⟨d,c,e⟩:=Aft e;obtain⟨v,g,rfl⟩:=Pe.1 e;have a:=(Po h i).rg d c;have j:=a.1;have m:=a.2.1;have n:=a.2.2.1;have f:=a.2.2.2.1;show Aw l (Bg l i (UInt8.ofNat d.1.toNat).toNat) v=Br;have b:Bg l i (UInt8.ofNat d.1.toNat).toNat=d.2.2:=by rw[show(UInt8.ofNat d.1.toNat).toNat=d.1.toNat by rw[Agg];omega];rw[show Bg l i d.1.toNat=AL (H9 l i) d.1.toNat by unfold Bg H9;rw[if_neg (by omega)]];exact N2 (Po h i) c
  rw[b];have:=mL h g;rwa [Aaz f]at this
theorem ZN(h:Be r)(e:S9 r=Ac w):Aw r 0 w=Br:=by obtain⟨k,_,e⟩:=Aft e;exact mL h (i:=0) e
theorem RD(h:CZ r L m)(e:S9 r=C7):r=[]:=GB λd=>by obtain⟨k,c,a,b⟩:=Kl (MJ h d);obtain⟨w,f⟩:=Abr.1 a;rw[ZM c f b]at e;cases e
theorem Qk:∀ {w:Au},Go.Op.bytesLess w w=Ap
 | []=>rfl
 |a::w=>by unfold Go.Op.bytesLess;rw[Qk];simp
theorem bO:∀ {w v:Au},Go.Op.bytesLess w v=Br->Go.Op.bytesLess v w=Ap
 |_,[],h=>by unfold Go.Op.bytesLess at h;simp at h
 | [],_::_,_=>by unfold Go.Op.bytesLess;rfl
 |a::w,b::v,h=>by
  unfold Go.Op.bytesLess at h⊢;simp only[Ado,AS,decide_eq_true_eq,beq_iff_eq,Bool.or_eq_false_iff,Afx,decide_eq_false_iff_not]at h⊢;rcases h with h|⟨rfl,h⟩
  ·refine⟨λk=>?_, .inl ?_⟩;· have c:=Aef.1 h;have d:=Aef.1 k;omega
   ·refine beq_eq_false_iff_ne.2 λe=>?_;subst e;have c:=Aef.1 h;omega
  ·exact⟨λk=>by have d:=Aef.1 k;omega, .inr (bO h)⟩
theorem Uj:∀ {w v:Au},Go.Op.bytesLess w v=Ap->Go.Op.bytesLess v w=Ap->w=v
 | [],[],_,_=>rfl
 |a::_,[],_,h=>by unfold Go.Op.bytesLess at h;cases h
 | [],_::_,h,_=>by unfold Go.Op.bytesLess at h;cases h
 |a::w,b::v,h,k=>by
  unfold Go.Op.bytesLess at h k;simp only[Bool.or_eq_false_iff,Afx,decide_eq_false_iff_not,beq_eq_false_iff_ne]at h k;have e:a=b:=by refine UInt8.toNat_inj.1 ?_;have d:=mt Aef.2 h.1;have f:=mt Aef.2 k.1;omega
  subst e;rw[Uj (h.2.resolve_left λq=>q rfl) (k.2.resolve_left λq=>q rfl)]
def JN(x y:Int):Int:=if x<y then-1 else if y<x then 1 else 0
def IL(x y:Au):Int:=if Go.Op.bytesLess x y=Br then-1 else if Go.Op.bytesLess y x=Br then 1 else 0
def XE(x y:Au):Int:=if JN x.length y.length=0 then IL x y else JN x.length y.length
def qQ(p q:Option Au):Int:=match p,q with
 |none,C7=>0
 |none,Ac _=>1
 |some _,C7=> -1
 |some w,Ac v=>XE w v
theorem M5(x y:Int):JN y x= -JN x y:=by unfold JN;split<;>split<;>(try split)<;>omega
theorem KE{x y:Int} :JN x y=0↔x=y:=by
 unfold JN;split;· omega
 ·split<;>omega
theorem Su(x y:Au):IL y x= -IL x y:=by
 unfold IL;by_cases h:Go.Op.bytesLess x y=Br;· rw[if_neg (by rw[bO h];decide),if_pos h,if_pos h];rfl
 ·by_cases k:Go.Op.bytesLess y x=Br;· rw[if_pos k,if_neg h,if_pos k]
  ·rw[if_neg k,if_neg h,if_neg h,if_neg k];rfl
theorem KC:IL x y=0↔x=y:=by
 unfold IL;constructor
 ·intro e;by_cases h:Go.Op.bytesLess x y=Br;· rw[if_pos h]at e;cases e
  ·by_cases k:Go.Op.bytesLess y x=Br;· rw[if_neg h,if_pos k]at e;cases e
   ·exact Uj (by simpa using h) (by simpa using k)
 ·rintro rfl;rw[Qk];rfl
theorem bq(x y:Au):XE y x= -XE x y:=by
 unfold XE;rw[M5 x.length y.length];by_cases h:JN x.length y.length=0;· rw[if_pos h,if_pos (by omega),Su]
 ·rw[if_neg h,if_neg (by omega)]
theorem XD:XE x y=0↔x=y:=by
 unfold XE;constructor
 ·intro h;split at h;· exact KC.1 h
  ·contradiction
 ·rintro rfl;rw[if_pos (KE.2 rfl),KC.2 rfl]
theorem br(p q:Option Au):qQ q p= -qQ p q:=by
 cases p<;>cases q;· rfl
 ·rfl
 ·rfl
 ·exact bq _ _
theorem Qe{x y:Int} :UI fu (x,y)=Ac (JN x y):=by refine(Ok.eq ?_);rw[UI];unfold JN;have e:∀z,dB fu z=Ac Ap:=λz=>(by rw[dB];simp);refine IN (e x) (IN (e y) (Ok.F rf (Ok.F rf ?_)));exact Ok.ite (λh=>Ok.some (by rw[if_pos h])) λh=>Ok.ite (λk=>Ok.some (by rw[if_neg h,if_pos k])) λk=>Ok.some (by rw[if_neg h,if_neg k])
theorem XF{P:Int->Prop}(h:P (IL x y)):Ok (bif Go.Op.bytesLess x y then Ac (-1:Int)else bif !(Go.Op.bytesLess x y||decide (x=y))then Ac (1:Int)else Ac (0:Int)) P:=by
 unfold IL at h;refine Ok.bif (λk=>Ok.some (by rwa [if_pos k]at h)) λk=>?_;rw[k]at h;rw[if_neg (by decide)]at h;rw[k,Ahv];by_cases e:x=y;· subst e;rw[Qk]at h;exact Ok.F (by simp) (Ok.some h)
 ·refine Ok.T (by simp[e]) (Ok.some ?_);by_cases a:Go.Op.bytesLess y x=Br;· rwa [if_pos a]at h
  ·exact absurd (Uj k (by simpa using a)) e
theorem V6:Yf fu (x,y)=Ac (IL x y):=by refine(Ok.eq ?_);rw[Yf];refine IN (rf) (IN (rf) ?_);rw[decide_eq_true (rf:x=x),decide_eq_true (rf:y=y)];exact Ok.F rf (Ok.F rf (XF rf))
open Classical in
noncomputable def S'(a b:Tb):Tb:=if h:∃t m,CZ t (λw=>gL a w&& !gL b w) m then h.choose else []
theorem aZ{a b:Tb}{q:Nat}(h:CZ r (λw=>gL a w&& !gL b w) q):S' a b=r:=by have e:∃t m,CZ t (λw=>gL a w&& !gL b w) m:=⟨r,q,h⟩;unfold S';rw[dif_pos e];obtain⟨m,c⟩:=e.choose_spec;exact c.unique h
noncomputable def HA(a b:Tb):Int:=qQ (S9 (S' a b)) (S9 (S' b a))
theorem JM(a b:Tb):HA b a= -HA a b:=br _ _
theorem gB{x y:Int}(c:2<fu):dA fu [x,y]=Ac (if x=0 then y else x):=by
 refine(Ok.eq ?_);rw[dA];obtain⟨f,rfl⟩:∃f,fu=f+3:=⟨fu-3,by omega⟩;rw[Ad];refine Ok.iT (by simp) (Aal (by simp) (Ok.ite (λh=>Ok.some ?_) λh=>?_));· exact(if_neg h).symm
 have a:x=0:=GB h;rw[Ad];refine Ok.iT (by simp) (Aal (by simp) (Ok.ite (λh=>Ok.some ?_) λh=>?_));· exact(if_pos a).symm
 have b:y=0:=GB h;rw[Ad];refine Ok.iF (by simp) (Ok.some ?_);rw[if_pos a,b]
end
section
variable {a b : Tb} {L M : Lg} {m p fu : Nat} (ha : CZ a L m) (hb : CZ b M p) (hm : (m + 2) * (p + 2) <= 1000000000) (hF : 1000000000000 < fu)
include ha hb hm hF
theorem IJ:CZ (S' a b) (λw=>L w&& !M w) (H_ a b)/\H_ a b<=1000000000/\UJ fu (a,b)=Ac (S' a b)/\r_ fu (a,b)=Ac (S' a b):=by
 have e:=IE (fu:=fu) ha hb (by omega) hF;have j:H_ a b<=(m+2)*(p+2):=Aci (by have:=ha.len;omega) (by have:=hb.len;omega);obtain⟨r,g,c⟩:=Oc e;obtain⟨t,h,i⟩:=TR e;have d:=aZ c;have f:=aZ i;rw[d];refine⟨?_,by omega,g,?_⟩;· rw[ha.gL,hb.gL]at c;exact c
 ·rw[h,<-f,d]
theorem E':UH fu (a,b)=Ac (HA a b):=by
 have c:=IE (fu:=fu) ha hb (by omega) hF;have f:(p+2)*(m+2)<=1000000000:=by rw[Acw];exact hm
 obtain⟨d,k,h,_⟩:=IJ ha hb hm hF;obtain⟨e,o,i,_⟩:=IJ hb ha f hF;have g:∀ {l:Tb} {K:Lg} {q:Nat},CZ l K q->O8 l->D9 l (max (max m p) 256)->Lt fu l=Ac l:=λ{l K q} d e j=>by rw[FM e j c.hn c.hf (by omega),d.Ju]
 refine(Ok.eq ?_);rw[UH];refine IN (g ha c.ha c.sa) (IN (g hb c.hb c.sb) (IN h (IN (Oq (n:=max (H_ a b) 256) d (d.wf.sh (Aar d.len (by omega)) (by omega)) (by omega) (by omega)) (IN i (IN (Oq (n:=max (H_ b a) 256) e (e.wf.sh (Aar e.len (by omega)) (by omega)) (by omega) (by omega)) ?_)))));unfold HA;cases S9 (S' a b)with
 |none=>cases S9 (S' b a)with
  |none=>exact Ok.T rfl (Ok.T rfl (Ok.some rfl))
  |some v=>exact Ok.T rfl (Ok.F rfl (Ok.F rfl (Ok.T rfl (Ok.some rfl))))
 |some w=>cases S9 (S' b a)with
  |none=>exact Ok.F rfl (Ok.T rfl (Ok.some rfl))
  |some v=>exact Ok.F rfl (Ok.F rfl (Ok.F rfl (IN Qe (IN V6 (IN (gB (by omega)) (Ok.some rfl))))))
theorem qJ{w v:Au}(h1:S9 (S' a b)=Ac w)(h2:S9 (S' b a)=Ac v):w≠v:=λe=>by
 have c:(p+2)*(m+2)<=1000000000:=by rw[Acw];exact hm
 obtain⟨d,_⟩:=IJ ha hb hm hF;obtain⟨f,_⟩:=IJ hb ha c hF;have g:=ZN d.wf h1;have h:=ZN f.wf h2;rw[d.lg]at g;rw[f.lg]at h;subst e;cases i:L w<;>cases j:M w<;>simp_all
theorem KD:HA a b=0↔a=b:=by
 have c:(p+2)*(m+2)<=1000000000:=by rw[Acw];exact hm
 obtain⟨e,_⟩:=IJ ha hb hm hF;obtain⟨f,_⟩:=IJ hb ha c hF;have ne:=λw v=>qJ ha hb hm hF (w:=w) (v:=v);constructor;· unfold HA;cases g:S9 (S' a b)with
  |none=>cases d:S9 (S' b a)with
   |none=>
    intro _;have i:=e.Gr.1 (RD e g);have j:=f.Gr.1 (RD f d);refine ha.unique (hb.congr (funext λw=>?_));have n:=congrFun i w;have o:=congrFun j w;cases k:L w<;>cases l:M w<;>simp_all
   |some v=>intro h;cases h
  |some w=>cases d:S9 (S' b a)with
   |none=>intro h;cases h
   |some v=>intro h;exact absurd (XD.1 h) (ne w v g d)
 ·rintro rfl;have:=JM a a;omega
end
section
variable{fu:Nat}{a b:Bool}{x y:Sc}{l:List Int}{P:Int->Prop}{k m p:Nat}
theorem JJ{x y:List Sp×List Sp}(N:Lr x)(O:Lr y)(S:x.1.length+y.1.length<=11/\x.2.length+y.2.length<=11)(F:20<fu):
  ∃c,DS fu (x,y)=Ac c/\DS fu (y,x)=Ac (-c)/\(c=0->(∀n,A5 x n↔A5 y n)/\∀n,A3 x n↔A3 y n):=by
 obtain⟨p,_,i,t,V,W⟩:=HQ (fu:=fu) (gu:=200) N O S F (by omega);obtain⟨q,_,j,B,X,Y⟩:=HQ (fu:=fu) (gu:=200) O N (by omega) F (by omega);have T:=t.sm (by omega) (by omega);have U:=B.sm (by omega) (by omega);obtain⟨Q,v,f,z,_,ev,P⟩:=HU (fu:=fu) (gu:=200) T F (by omega);obtain⟨R,w,g,C,_,o,lw⟩:=HU (fu:=fu) (gu:=200) U F (by omega);have A:∀u,CU Q u->CU x u/\ -1000000000000000<=u/\u<=1000000000000000:=λu k=>by
  rcases(EC z u).1 k with⟨a,b⟩|⟨a,b⟩;· have b:=(t.A5 _).1 b;exact⟨.inl ⟨a,b.1.1.1⟩,by omega⟩
  ·have b:=(t.A3 _).1 b;have c:=b.1.1.1;rw[Ig a]at c b;exact⟨.inr ⟨a,c⟩,b.2⟩
 have D:∀u,CU R u->¬CU x u/\ -1000000000000000<=u/\u<=1000000000000000:=λu k=>by
  rcases(EC C u).1 k with⟨a,b⟩|⟨a,b⟩
  ·have b:=(B.A5 _).1 b;refine⟨λk=>?_,by omega⟩;rcases k with⟨_,k⟩|⟨k,_⟩;· exact b.1.2 ⟨k,b.2⟩
   ·exact k a
  ·have b:=(B.A3 _).1 b;have K:=b.2;rw[Ig a]at K;refine⟨λk=>?_,K⟩;rcases k with⟨k,_⟩|⟨_,k⟩;· exact a k
   ·exact b.1.2 ⟨by rw[Ig a];exact k,b.2⟩
 have E:∀u,CU Q u\/CU R u-> -2000000000000000<=u/\u<=2000000000000000:=λu k=>k.elim (λk=>by have:=(A u k).2;omega) (λk=>by have:=(D u k).2;omega);have m:∀c,Ok (DS fu (x,y)) (λr=>r=c)->DS fu (x,y)=Ac c:=λc k=>k.eq;have d:∀c,Ok (DS fu (y,x)) (λr=>r=c)->DS fu (y,x)=Ac c:=λc k=>k.eq;have nil:∀ {r H:List Sp×List Sp},DY r (A5 r) (A3 r)->DY H (A5 r) (A3 r)->(∀u,¬CU H u)->r=([],[]):=λ{r H} h M no=>(h.unique M).trans ((Agx M).1 no);cases f with
 |false=>
  cases g with
  |false=>
   refine⟨0,m _ ?_,d _ ?_,λ_=>?_⟩;· rw[DS];exact IN i (IN ev (IN j (IN o (Ok.T rf (Ok.T rf (Ok.some rf))))))
   ·rw[DS];exact IN j (IN o (IN i (IN ev (Ok.T rfl (Ok.T rfl (Ok.some rfl))))))
   ·have a:=(Kf t).1 (nil (t.self (λn h=>h.1.2) (λn h=>h.1.2)) z (P.no rfl).2);have b:=(Kf B).1 (nil (B.self (λn h=>h.1.2) (λn h=>h.1.2)) C (lw.no rfl).2);exact⟨λn=>⟨a.1 n,b.1 n⟩,λn=>⟨a.2 n,b.2 n⟩⟩
  |true=>
   refine⟨1,m _ ?_,d _ ?_,λh=>by omega⟩;· rw[DS];exact IN i (IN ev (IN j (IN o (Ok.T rf (Ok.F rf (Ok.F rf (Ok.F rf (Ok.some rf))))))))
   ·rw[DS];exact IN j (IN o (IN i (IN ev (Ok.F rfl (Ok.T rfl (Ok.some rfl))))))
 |true=>
  have I:=P.yes rfl;cases g with
  |false=>
   refine⟨-1,m _ ?_,d _ ?_,λh=>by omega⟩;· rw[DS];exact IN i (IN ev (IN j (IN o (Ok.F rf (Ok.T rf (Ok.some rf))))))
   ·rw[DS];exact IN j (IN o (IN i (IN ev (Ok.T rfl (Ok.F rfl (Ok.F rfl (Ok.F rfl (Ok.some rfl))))))))
  |true=>
   have J:=lw.yes rfl;have L:=Vp (fu:=fu) (E v (.inl I.1)) (E w (.inr J.1));have s:=Vp (fu:=fu) (E w (.inr J.1)) (E v (.inl I.1));have ne:v≠w:=λe=>(D w J.1).1 (e▸(A v I.1).1);by_cases c:BX v w
   ·have G:¬BX w v:=λk=>by unfold BX ab at c k;omega
    refine⟨-1,m _ ?_,d _ ?_,λh=>by omega⟩;· rw[DS];exact IN i (IN ev (IN j (IN o (Ok.F rf (Ok.F rf (Ok.T rf (IN L (Ok.T (decide_eq_true c) (Ok.some rf)))))))))
    ·rw[DS];exact IN j (IN o (IN i (IN ev (Ok.F rfl (Ok.F rfl (Ok.T rfl (IN s (Ok.F (decide_eq_false G) (Ok.some rfl)))))))))
   ·have G:BX w v:=GB λk=>ne (MA c k);refine⟨1,m _ ?_,d _ ?_,λh=>by omega⟩;· rw[DS];exact IN i (IN ev (IN j (IN o (Ok.F rfl (Ok.F rfl (Ok.T rfl (IN L (Ok.F (decide_eq_false c) (Ok.some rfl)))))))))
    ·rw[DS];exact IN j (IN o (IN i (IN ev (Ok.F rfl (Ok.F rfl (Ok.T rfl (IN s (Ok.T (decide_eq_true G) (Ok.some rfl)))))))))
def C_(a b:Bool):Int:=if a=b then 0 else if a=Br then-1 else 1
theorem HB(a b:Bool):C_ b a= -C_ a b:=by cases a<;>cases b<;>rfl
theorem FY:C_ a b=0↔a=b:=by cases a<;>cases b<;>decide
theorem hH:UB fu (a,b)=Ac (C_ a b):=by rw[UB];cases a<;>cases b<;>rfl
def fz:List Int->Int
 | []=>0
 |x::l=>if x=0 then fz l else x
theorem T4:∀l:List Int,fz (l.map λx=> -x)= -fz l
 | []=>rfl
 |x::l=>by
  show(if-x=0 then fz (l.map λx=> -x)else-x)= -(if x=0 then fz l else x);by_cases h:x=0;· rw[if_pos (by omega),if_pos h,T4 l]
  ·rw[if_neg (by omega),if_neg h]
theorem E5:∀ {l:List Int},fz l=0->∀x∈l,x=0
 | [],_,x,a=>by cases a
 |y::l,h,x,a=>by
  have h:(if y=0 then fz l else y)=0:=h;by_cases k:y=0
  ·rw[if_pos k]at h;rcases Aay.1 a with rfl|a;· exact k
   ·exact E5 h x a
  ·rw[if_neg k]at h;exact absurd h k
theorem R3(i:l.length<fu)(h:P (fz l)):
  Ok (Ad fu (λ(d:Nat) c=>bif decide ((d:Int)<(l.length:Int))then Ab (idx l (d:Int)) λg=>bif decide (g≠(0:Int))then Ac g else c (d+1)else Ac (0:Int)) 0) P:=by
 refine Ok.count (λk=>fz (l.drop k)=fz l) l.length rf i (λk nx f a j=>?_) (λnx a=>?_)
 ·have e:fz (l.drop k)=if l[k]=0 then fz (l.drop (k+1))else l[k]:=by rw[Aaw f];rfl
  refine Ok.iu (Aal f (Ok.ite (λb=>Ok.some ?_) λb=>j ?_));· rw[if_neg b]at e;rw[<-e,a];exact h
  ·rw[if_pos (GB b)]at e;rw[<-e,a]
 ·rw[Afz]at a;refine Ok.io (Ok.some ?_);have:fz l=0:=a.symm;rw[<-this];exact h
theorem aH{K:Option Int}(h1:C_ a b≠0->P (C_ a b))(h2:C_ a b=0->Ok K P):
  Ok (bif decide ((a::[b])=(Br::[Ap]))then Ac (-1:Int)else bif decide ((a::[b])=(Ap::[Br]))then Ac (1:Int)else K) P:=by
 cases a<;>cases b;· exact Ok.F rfl (Ok.F rfl (h2 rfl))
 ·exact Ok.F rf (Ok.T rf (Ok.some (h1 (by decide))))
 ·exact Ok.T rf (Ok.some (h1 (by decide)))
 ·exact Ok.F rf (Ok.F rf (h2 rf))
theorem JI{gu H:Nat}(d:Ld k m x)(g:Ld H p y)(hk:k+H<=11)(t:(m+2)*(p+2)<=100000000)(r:1000000000000<fu)(F:1000000000000<gu):
  ∃c,S1 fu (x,y)=Ac c/\fz [C_ x.1 y.1,C_ x.2.1 y.2.1,C_ x.2.2.1 y.2.2.1,(QA gu (x.2.2.2.1,y.2.2.2.1)).getD 0,HA x.2.2.2.2 y.2.2.2.2]=c/\S1 fu (y,x)=Ac (-c)/\(c=0->x=y):=by
 have q1:m<=(m+2)*(p+2):=Aar (by omega:m<=(m+2)*1) (Aci (Aad _) (by omega));have q2:p<=(m+2)*(p+2):=Aar (by omega:p<=1*(p+2)) (Aci (by omega) (Aad _));have G:(p+2)*(m+2)<=100000000:=by rw[Acw];exact t
 have x1:=d.n1;have x2:=d.n2;have y1:=g.n1;have y2:=g.n2;have w:=d.sc (by omega:k<=12);have A:=g.sc (by omega:H<=12);have L:Ys fu x=Ac Br:=by obtain⟨b,e,j⟩:=HL (fu:=fu) w (by omega) r;rw[e,j.2 ⟨d.nu,d.ln.wf,d.ln.can⟩]
 have M:Ys fu y=Ac Br:=by obtain⟨b,e,j⟩:=HL (fu:=fu) A (by omega) r;rw[e,j.2 ⟨g.nu,g.ln.wf,g.ln.can⟩]
 obtain⟨n,K,B,zn⟩:=JJ (fu:=fu) w.sm A.sm (by omega) (by omega);obtain⟨S,P,C⟩:=K6 (fu:=fu) (gu:=gu) w.sm A.sm (by omega) (by omega) (by omega);obtain rfl:n=S:=Abo (K.symm.trans C);have J:=E' d.ln g.ln (Aar t (by decide)) r;have o:=E' g.ln d.ln (Aar G (by decide)) r;have O:=KD d.ln g.ln (Aar t (by decide)) r;have sl:=JM x.2.2.2.2 y.2.2.2.2;generalize HA x.2.2.2.2 y.2.2.2.2=l at J O sl;generalize HA y.2.2.2.2 x.2.2.2.2=l' at o sl;subst sl;have i:∀ {u v:Sc} {n l:Int},Ys fu u=Ac Br->Ys fu v=Ac Br->DS fu (u.2.2.2.1,v.2.2.2.1)=Ac n->UH fu (u.2.2.2.2,v.2.2.2.2)=Ac l->S1 fu (u,v)=Ac (fz [C_ u.1 v.1,C_ u.2.1 v.2.1,C_ u.2.2.1 v.2.2.1,n,l]):=λ{u v n l} s E Q R=>by
  refine(Ok.eq ?_);rw[S1];refine IN s (Ok.F rfl (IN E (Ok.F rfl ?_)));obtain⟨f,rfl⟩:∃f,fu=f+4:=⟨fu-4,by omega⟩;rw[Ad];refine Ok.iT (by decide) (Ok.Af (by decide) (IN (a:=(u.1,v.1)) rfl (aH (λh=>(if_neg h).symm) λD=>Aca (by decide) ?_)));rw[Ad];refine Ok.iT (by decide) (Ok.Af (by decide) (IN (a:=(u.2.1,v.2.1)) rfl (aH (λh=>((if_pos D).trans (if_neg h)).symm) λs=>Aca (by decide) ?_)));rw[Ad];refine Ok.iT (by decide) (Ok.Af (by decide) (IN (a:=(u.2.2.1,v.2.2.1)) rfl (aH (λh=>((if_pos D).trans ((if_pos s).trans (if_neg h))).symm) λE=>Aca (by decide) ?_)));rw[Ad];have I:fz [C_ u.1 v.1,C_ u.2.1 v.2.1,C_ u.2.2.1 v.2.2.1,n,l]=fz [n,l]:=(if_pos D).trans ((if_pos s).trans (if_pos E));refine Ok.iF (by decide) (IN Q (Ok.ite (λh=>Ok.some ?_) λh=>IN R (Ok.some ?_)));· rw[I];exact(if_neg h).symm
  ·rw[I];refine Eq.trans ?_ (if_pos (GB h)).symm;show l=if l=0 then 0 else l;split;· assumption
   ·rfl
 refine⟨fz [C_ x.1 y.1,C_ x.2.1 y.2.1,C_ x.2.2.1 y.2.2.1,n,l],i L M K J,?_,?_,λh=>?_⟩;· rw[P];rfl
 ·rw[i M L B o,<-T4];simp only[Aap,Ada];rw[HB x.1,HB x.2.1,HB x.2.2.1]
 ·have z:=E5 h;have V:=FY.1 (z (C_ x.1 y.1) (by simp));have W:=FY.1 (z (C_ x.2.1 y.2.1) (by simp));have X:=FY.1 (z (C_ x.2.2.1 y.2.2.1) (by simp));have N:=zn (z n (by simp));have Y:=O.1 (z l (by simp));have Z:=d.nu.unique (g.nu.congr (λn=>(N.1 n).symm) λn=>(N.2 n).symm);exact Acr V (Acr W (Acr X (Acr Z Y)))
noncomputable def Hz(x y:Sc):Int:=fz [C_ x.1 y.1,C_ x.2.1 y.2.1,C_ x.2.2.1 y.2.2.1,(QA 2000000000000 (x.2.2.2.1,y.2.2.2.1)).getD 0,HA x.2.2.2.2 y.2.2.2.2]
theorem Hy{j:Nat}(e:Ld k m x)(f:Ld j p y)(i:k+j<=11)(b:(m+2)*(p+2)<=100000000)(a:1000000000000<fu):
  S1 fu (x,y)=Ac (Hz x y)/\Hz y x= -Hz x y/\(Hz x y=0->x=y):=by
 have d:(p+2)*(m+2)<=100000000:=by rw[Acw];exact b
 obtain⟨c,g,n,o,q⟩:=JI (fu:=fu) (gu:=2000000000000) e f i b a (by decide);obtain⟨l,t,u,_⟩:=JI (fu:=fu) (gu:=2000000000000) f e (by omega) d a (by decide)
 unfold Hz;rw[n,u];exact⟨g,Abo (t.symm.trans o),q⟩
def BL{α:Type}(c:α->α->Int):List α->List α->Int
 | [],[]=>0
 | [],_::_=> -1
 |_::_,[]=>1
 |x::a,y::b=>if c x y=0 then BL c a b else c x y
theorem Er{α:Type}{c:α->α->Int} :∀ {a b:List α},(∀x∈a,∀y∈b,c y x= -c x y)->BL c b a= -BL c a b
 | [],[],_=>rfl
 | [],_::_,_=>rfl
 |_::_,[],_=>rfl
 |x::a,y::b,h=>by
  have e:=h x (Aaj ..) y (Aaj ..);have g:=Er (a:=a) (b:=b) λu d v f=>h u (Aag _ d) v (Aag _ f);unfold BL;rw[e,g];by_cases k:c x y=0;· rw[if_pos (by omega),if_pos k]
  ·rw[if_neg (by omega),if_neg k]
theorem DP{α:Type}{c:α->α->Int} :∀ {a b:List α},(∀x∈a,∀y∈b,c x y=0->x=y)->BL c a b=0->a=b
 | [],[],_,_=>rfl
 | [],_::_,_,h=>by cases h
 |_::_,[],_,h=>by cases h
 |x::a,y::b,h,e=>by
  have d:=h x (Aaj ..) y (Aaj ..);have i:=DP (a:=a) (b:=b) λu f v g=>h u (Aag _ f) v (Aag _ g);unfold BL at e;by_cases k:c x y=0;· rw[if_pos k]at e;rw[d k,i e]
  ·rw[if_neg k]at e;exact absurd e k
def M4(R:Vl->Vl->Int)(x y:A7):Int:=fz [R x.1 y.1,R x.2 y.2]
def EI(R:Vl->Vl->Int)(c b:Ie):Int:=fz [JN c.1.length b.1.length,C_ (decide (0<c.2.length)) (decide (0<b.2.length)),BL (M4 R) (A1 c) (A1 b)]
def XI(R:Vl->Vl->Int)(f a:Au×Int×A7):Int:=fz [IL f.1 a.1,JN f.2.1 a.2.1,M4 R f.2.2 a.2.2]
noncomputable def XJ(R:Vl->Vl->Int)(k a:Tb×A7):Int:=fz [HA k.1 a.1,M4 R k.2 a.2]
noncomputable def FX(R:Vl->Vl->Int)(c a:Bx):Int:=fz [BL (XI R) c.1 a.1,BL (XJ R) c.2 a.2]
noncomputable def CW:Nat->Vl->Vl->Int
 |0,_,_=>0
 |d+1,a,b=>fz [C_ a.any b.any,Hz a.sc b.sc,BL (EI (CW d)) a.lists b.lists,BL (FX (CW d)) a.structs b.structs]
theorem Kq{a:List Int}(h:a=l.map λx=> -x):fz a= -fz l:=by rw[h,T4]
end
section
variable {R : Vl -> Vl -> Int} {d : Nat} (hs : ∀ {a b : Vl}, SV d a -> SV d b -> R b a = - R a b /\ (R a b = 0 -> a = b))
include hs
theorem JK{x y:A7}(f:SW d x)(g:SW d y):M4 R y x= -M4 R x y/\(M4 R x y=0->x=y):=by have c:=hs f.1 g.1;have e:=hs f.2 g.2;refine⟨Kq (by simp only[Aap,Ada];rw[c.1,e.1]),λh=>?_⟩;have z:=E5 h;exact Acr (c.2 (z _ (by simp))) (e.2 (z _ (by simp)))
theorem OS{c f:Ie}(hc:∀x∈A1 c,SW d x)(g:∀x∈A1 f,SW d x):EI R f c= -EI R c f/\(EI R c f=0->c=f):=by
 refine⟨Kq ?_,λh=>?_⟩;· simp only[Aap,Ada];rw[<-M5,<-HB,<-Er λx i y j=>(JK hs (hc x i) (g y j)).1]
 ·have z:=E5 h;have l:=KE.1 (z (JN c.1.length f.1.length) (by simp));have k:=DP (λx i y j=>(JK hs (hc x i) (g y j)).2) (z (BL (M4 R) (A1 c) (A1 f)) (by simp));have:=Alr k (by omega);exact Acr this.1 this.2
theorem bu{f c:Au×Int×A7}(h:SW d f.2.2)(e:SW d c.2.2):XI R c f= -XI R f c/\(XI R f c=0->f=c):=by
 have k:=JK hs h e;refine⟨Kq ?_,λh=>?_⟩;· simp only[Aap,Ada];rw[<-Su,<-M5,k.1]
 ·have z:=E5 h;have g:=KC.1 (z (IL f.1 c.1) (by simp));have i:=KE.1 (z (JN f.2.1 c.2.1) (by simp));have j:=k.2 (z (M4 R f.2.2 c.2.2) (by simp));exact Acr g (Acr i j)
theorem bz{k c:Tb×A7}(l:CZ k.1 (Aw k.1 0) 14641)(f:CZ c.1 (Aw c.1 0) 14641)(h:SW d k.2)(e:SW d c.2):XJ R c k= -XJ R k c/\(XJ R k c=0->k=c):=by
 have q:=JK hs h e;refine⟨Kq ?_,λh=>?_⟩;· simp only[Aap,Ada];rw[<-JM,q.1]
 ·have z:=E5 h;have g:=(KD (fu:=2000000000000) l f (by decide) (by decide)).1 (z (HA k.1 c.1) (by simp));exact Acr g (q.2 (z (M4 R k.2 c.2) (by simp)))
theorem OR{c j:Bx}(b:SS c)(b':SS j)(g:D' c)(m:D' j)(hc:∀x∈Bv c,SW d x)(l:∀x∈Bv j,SW d x):FX R j c= -FX R c j/\(FX R c j=0->c=j):=by
 have f:=λx (e:x∈c.1) y (i:y∈j.1)=>bu hs (hc _ (AT.2 (.inl (By.2 ⟨x,e,rfl⟩)))) (l _ (AT.2 (.inl (By.2 ⟨y,i,rfl⟩))));have k:=λx (e:x∈c.2) y (i:y∈j.2)=>bz hs ⟨(g.1 x e).2.1,(g.1 x e).2.2,rfl,b.each x e⟩ ⟨(m.1 y i).2.1,(m.1 y i).2.2,rfl,b'.each y i⟩ (hc _ (AT.2 (.inr (By.2 ⟨x,e,rfl⟩)))) (l _ (AT.2 (.inr (By.2 ⟨y,i,rfl⟩))));refine⟨Kq ?_,λh=>?_⟩;· simp only[Aap,Ada];rw[<-Er λx e y i=>(f x e y i).1,<-Er λx e y i=>(k x e y i).1]
 ·have z:=E5 h;exact Acr (DP (λx e y i=>(f x e y i).2) (z (BL (XI R) c.1 j.1) (by simp))) (DP (λx e y i=>(k x e y i).2) (z (BL (XJ R) c.2 j.2) (by simp)))
end
section
variable{α:Type}{fu d:Nat}{c:α->α->Int}{l:List α}{x y:α}{g1 g2:α×α->Option (Int×α×α)}{B:α->α->Prop}{cmp:α->α->Option Int}{a b:Vl}{g3:α×α->Option (Int×α×α)}{h n:Int}
theorem Ajj(h1:a.any=b.any)(h2:a.sc=b.sc)(h3:a.lists=b.lists)(c:a.structs=b.structs):a=b:=by cases a;cases b;simp_all [Vl.any,Vl.sc,Vl.lists,Vl.structs]
theorem JL:∀ {d:Nat} {a b:Vl},SV d a->SV d b->CW d b a= -CW d a b/\(CW d a b=0->a=b)
 |0,_,_,h,_=>h.1.elim
 |d+1,a,b,f,g=>by
  have k:=Fh f.1.1 f.2.1.sc;have sb:=Fh g.1.1 g.2.1.sc;obtain⟨_,i,j⟩:=Hy (fu:=2000000000000) k sb (by decide) (by decide) (by decide);have l:=λx (c:x∈a.lists) y (e:y∈b.lists)=>OS JL (f.lv c) (g.lv e);have s:=λx (c:x∈a.structs) y (e:y∈b.structs)=>OR JL (f.1.2.2.1.2 x c) (g.1.2.2.1.2 y e) (f.2.1.st x c).2 (g.2.1.st y e).2 (f.sv c) (g.sv e);refine⟨Kq ?_,λh=>?_⟩;· simp only[Aap,Ada];rw[<-HB,i,<-Er λx c y e=>(l x c y e).1,<-Er λx c y e=>(s x c y e).1]
  ·have z:=E5 h;exact Ajj (FY.1 (z (C_ a.any b.any) (by simp))) (j (z (Hz a.sc b.sc) (by simp))) (DP (λx c y e=>(l x c y e).2) (z (BL (EI (CW d)) a.lists b.lists) (by simp))) (DP (λx c y e=>(s x c y e).2) (z (BL (FX (CW d)) a.structs b.structs) (by simp)))
theorem EJ{a b:List α}{f:α->α->Option Int}(o:a.length<fu)(h:∀x∈a,∀y∈b,f x y=Ac (c x y)):
  Ok (Ad fu (λ(g:Nat) l=>bif decide ((g:Int)<(a.length:Int))then Ab (idx a (g:Int)) λq=>bif decide ((b.length:Int)<=(g:Int))then Ac (1:Int)else Ab (idx b (g:Int)) λs=>Ab (f q s) λm=>bif decide (m≠(0:Int))then Ac m else l (g+1)else bif decide ((a.length:Int)<(b.length:Int))then Ac (-1:Int)else Ac (0:Int)) 0) λr=>r=BL c a b:=by
 refine Ok.count (λk=>k<=b.length/\BL c (a.drop k) (b.drop k)=BL c a b) a.length ⟨Abh _,rf⟩ o (λk nx j d p=>?_) (λnx d=>?_)
 ·obtain⟨n,d⟩:=d;rw[Aaw j]at d;refine Ok.iu (Aal j (Ok.ite (λe=>Ok.some ?_) λe=>?_));· rw[List.drop_eq_nil_of_le (by omega:b.length<=k)]at d;exact d
  ·have e:k<b.length:=by omega
   rw[Aaw e]at d;refine Aal e (IN (h _ (AN j) _ (AN e)) (Ok.ite (λi=>Ok.some ?_) λi=>p ⟨by omega,?_⟩));· rw[<-d];exact(if_neg i).symm
   ·rw[<-d];exact(if_pos (GB i)).symm
 ·obtain⟨n,d⟩:=d;rw[Afz]at d;refine Ok.io (Ok.ite (λe=>Ok.some ?_) λe=>Ok.some ?_);· rw[Aaw (by omega:a.length<b.length)]at d;exact d
  ·rw[List.drop_eq_nil_of_le (by omega:b.length<=a.length)]at d;exact d
theorem Ku{d e:Int}(h1:g1 (x,y)=Ac (d,x,y))(h2:g2 (x,y)=Ac (e,x,y)):
  Ok (bif decide ((0:Int)<(↑2:Int))then Af ((0:Int)<=(0:Int)/\(0:Int)<(↑2:Int))<|Ab (g1 (x,y)) λa=>bif decide (a.1≠(0:Int))then Ac (a.1,a.2.1,a.2.2)else Aa (Kj.i64) ((0:Int)+(1:Int))<|bif decide ((0:Int)+(1:Int)<(↑2:Int))then Af ((0:Int)<=(0:Int)+(1:Int)/\(0:Int)+(1:Int)<(↑2:Int))<|Ab (g2 (a.2.1,a.2.2)) λb=>bif decide (b.1≠(0:Int))then Ac (b.1,b.2.1,b.2.2)else Aa (Kj.i64) ((0:Int)+(1:Int)+(1:Int))<|bif decide ((0:Int)+(1:Int)+(1:Int)<(↑2:Int))then Af ((0:Int)<=(0:Int)+(1:Int)+(1:Int)/\(0:Int)+(1:Int)+(1:Int)<(↑2:Int))<|none else Ac ((0:Int),b.2.1,b.2.2)else Ac ((0:Int),a.2.1,a.2.2)else Ac ((0:Int),x,y)) λr=>r.1=fz [d,e]:=by
 refine Ok.iT (by decide) (Ok.Af (by decide) (IN h1 (Ok.ite (λk=>Ok.some (if_neg k).symm) λc=>Aca (by decide) ?_)));refine Ok.iT (by decide) (Ok.Af (by decide) (IN h2 (Ok.ite (λk=>Ok.some ((if_pos (GB c)).trans (if_neg k)).symm) λf=>Aca (by decide) ?_)));exact Ok.iF (by decide) (Ok.some ((if_pos (GB c)).trans (if_pos (GB f))).symm)
theorem ON{f g:Int}(h1:g1 (x,y)=Ac (f,x,y))(h2:g2 (x,y)=Ac (g,x,y))(h3:g3 (x,y)=Ac (h,x,y)):
  Ok (bif decide ((0:Int)<(↑3:Int))then Af ((0:Int)<=(0:Int)/\(0:Int)<(↑3:Int))<|Ab (g1 (x,y)) λa=>bif decide (a.1≠(0:Int))then Ac (a.1,a.2.1,a.2.2)else Aa (Kj.i64) ((0:Int)+(1:Int))<|bif decide ((0:Int)+(1:Int)<(↑3:Int))then Af ((0:Int)<=(0:Int)+(1:Int)/\(0:Int)+(1:Int)<(↑3:Int))<|Ab (g2 (a.2.1,a.2.2)) λb=>bif decide (b.1≠(0:Int))then Ac (b.1,b.2.1,b.2.2)else Aa (Kj.i64) ((0:Int)+(1:Int)+(1:Int))<|bif decide ((0:Int)+(1:Int)+(1:Int)<(↑3:Int))then Af ((0:Int)<=(0:Int)+(1:Int)+(1:Int)/\(0:Int)+(1:Int)+(1:Int)<(↑3:Int))<|Ab (g3 (b.2.1,b.2.2)) λc=>bif decide (c.1≠(0:Int))then Ac (c.1,c.2.1,c.2.2)else Aa (Kj.i64) ((0:Int)+(1:Int)+(1:Int)+(1:Int))<|bif decide ((0:Int)+(1:Int)+(1:Int)+(1:Int)<(↑3:Int))then Af ((0:Int)<=(0:Int)+(1:Int)+(1:Int)+(1:Int)/\(0:Int)+(1:Int)+(1:Int)+(1:Int)<(↑3:Int))<|none else Ac ((0:Int),c.2.1,c.2.2)else Ac ((0:Int),b.2.1,b.2.2)else Ac ((0:Int),a.2.1,a.2.2)else Ac ((0:Int),x,y)) λr=>r.1=fz [f,g,h]:=by
 refine Ok.iT (by decide) (Ok.Af (by decide) (IN h1 (Ok.ite (λk=>Ok.some (if_neg k).symm) λd=>Aca (by decide) ?_)));refine Ok.iT (by decide) (Ok.Af (by decide) (IN h2 (Ok.ite (λk=>Ok.some ((if_pos (GB d)).trans (if_neg k)).symm) λe=>Aca (by decide) ?_)));refine Ok.iT (by decide) (Ok.Af (by decide) (IN h3 (Ok.ite (λk=>Ok.some ((if_pos (GB d)).trans ((if_pos (GB e)).trans (if_neg k))).symm) λi=>Aca (by decide) ?_)));exact Ok.iF (by decide) (Ok.some ((if_pos (GB d)).trans ((if_pos (GB e)).trans (if_pos (GB i)))).symm)
theorem Xs{g4:α×α->Option (Int×α×α)}{i j l:Int}(h1:g1 (x,y)=Ac (h,x,y))(h2:g2 (x,y)=Ac (i,x,y))(h3:g3 (x,y)=Ac (j,x,y))(m:g4 (x,y)=Ac (l,x,y)):
  Ok (bif decide ((0:Int)<(↑4:Int))then Af ((0:Int)<=(0:Int)/\(0:Int)<(↑4:Int))<|Ab (g1 (x,y)) λa=>bif decide (a.1≠(0:Int))then Ac (a.1,a.2.1,a.2.2)else Aa (Kj.i64) ((0:Int)+(1:Int))<|bif decide ((0:Int)+(1:Int)<(↑4:Int))then Af ((0:Int)<=(0:Int)+(1:Int)/\(0:Int)+(1:Int)<(↑4:Int))<|Ab (g2 (a.2.1,a.2.2)) λb=>bif decide (b.1≠(0:Int))then Ac (b.1,b.2.1,b.2.2)else Aa (Kj.i64) ((0:Int)+(1:Int)+(1:Int))<|bif decide ((0:Int)+(1:Int)+(1:Int)<(↑4:Int))then Af ((0:Int)<=(0:Int)+(1:Int)+(1:Int)/\(0:Int)+(1:Int)+(1:Int)<(↑4:Int))<|Ab (g3 (b.2.1,b.2.2)) λc=>bif decide (c.1≠(0:Int))then Ac (c.1,c.2.1,c.2.2)else Aa (Kj.i64) ((0:Int)+(1:Int)+(1:Int)+(1:Int))<|bif decide ((0:Int)+(1:Int)+(1:Int)+(1:Int)<(↑4:Int))then Af ((0:Int)<=(0:Int)+(1:Int)+(1:Int)+(1:Int)/\(0:Int)+(1:Int)+(1:Int)+(1:Int)<(↑4:Int))<|Ab (g4 (c.2.1,c.2.2)) λd=>bif decide (d.1≠(0:Int))then Ac (d.1,d.2.1,d.2.2)else Aa (Kj.i64) ((0:Int)+(1:Int)+(1:Int)+(1:Int)+(1:Int))<|bif decide ((0:Int)+(1:Int)+(1:Int)+(1:Int)+(1:Int)<(↑4:Int))then Af ((0:Int)<=(0:Int)+(1:Int)+(1:Int)+(1:Int)+(1:Int)/\(0:Int)+(1:Int)+(1:Int)+(1:Int)+(1:Int)<(↑4:Int))<|none else Ac ((0:Int),d.2.1,d.2.2)else Ac ((0:Int),c.2.1,c.2.2)else Ac ((0:Int),b.2.1,b.2.2)else Ac ((0:Int),a.2.1,a.2.2)else Ac ((0:Int),x,y)) λr=>r.1=fz [h,i,j,l]:=by
 refine Ok.iT (by decide) (Ok.Af (by decide) (IN h1 (Ok.ite (λk=>Ok.some (if_neg k).symm) λe=>Aca (by decide) ?_)));refine Ok.iT (by decide) (Ok.Af (by decide) (IN h2 (Ok.ite (λk=>Ok.some ((if_pos (GB e)).trans (if_neg k)).symm) λf=>Aca (by decide) ?_)));refine Ok.iT (by decide) (Ok.Af (by decide) (IN h3 (Ok.ite (λk=>Ok.some ((if_pos (GB e)).trans ((if_pos (GB f)).trans (if_neg k))).symm) λg=>Aca (by decide) ?_)));refine Ok.iT (by decide) (Ok.Af (by decide) (IN m (Ok.ite (λk=>Ok.some ((if_pos (GB e)).trans ((if_pos (GB f)).trans ((if_pos (GB g)).trans (if_neg k)))).symm) λn=>Aca (by decide) ?_)));exact Ok.iF (by decide) (Ok.some ((if_pos (GB e)).trans ((if_pos (GB f)).trans ((if_pos (GB g)).trans (if_pos (GB n))))).symm)
theorem VQ{a b:Bool} :dv fu (a,b)=Ac (C_ a b):=by rw[dv];cases a<;>cases b<;>rfl
theorem XT{x:Option (Int×α)}(h:Ok x λr=>r.1=n):GK.Ab x (λr=>Ac r.1)=Ac n:=by obtain⟨r,rfl,h⟩:=h;rw[<-h];rfl
theorem IK:∀ {d fu:Nat} {a b:Vl},SV d a->SV d b->1000000000000+20*d<fu->du fu (a,b)=Ac (CW d a b)
 |0,_,_,_,h,_,_=>h.1.elim
 |d+1,fu,a,b,j,k,X=>by
  obtain⟨f,rfl⟩:∃f,fu=f+15:=⟨fu-15,by omega⟩;have c:∀ {g:Nat} {x y:A7},SW d x->SW d y->1000000000000+20*d+3<g->Ya g (x,y)=Ac (M4 (CW d) x y):=λ{g x y} z A Y=>by
   obtain⟨e,rfl⟩:∃e,g=e+3:=⟨g-3,by omega⟩;refine(d205 (e+2) x y).trans (XT ?_);rw[show s4 (e+2) (x,y)=_ from d204 (e+1) x y];unfold xD;refine Ku (g1:=s6 (e+1)) (g2:=s5 (e+1)) ?_ ?_;· refine(d202 e x y).trans (Ok.eq ?_);unfold xF;exact IN (IK z.1 A.1 (by omega)) (Ok.some rfl)
   ·refine(d203 e x y).trans (Ok.eq ?_);unfold xE;exact IN (IK z.2 A.2 (by omega)) (Ok.some rf)
  have O:=Fh j.1.1 j.2.1.sc;have sb:=Fh k.1.1 k.2.1.sc;obtain⟨R,⟨S,E⟩,⟨T,F⟩,_⟩:=id j.1;obtain⟨U,⟨V,G⟩,⟨W,H⟩,_⟩:=id k.1;refine(d227 (f+14) a b).trans (XT ?_);rw[show sB (f+14) (a,b)=_ from d226 (f+13) a b];unfold xk;refine Xs (g1:=jF (f+13)) (g2:=jE (f+13)) (g3:=sU (f+13)) (g4:=sC (f+13)) ?_ ?_ ?_ ?_;· refine(Ok.eq ?_);rw[jF];exact IN VQ (Ok.some rfl)
  ·refine(Ok.eq ?_);rw[jE];exact IN (Hy O sb (by decide) (by decide) (by omega)).1 (Ok.some rf)
  ·refine(d211 (f+12) a b).trans (Ok.eq ?_);unfold xy;refine Ok.Ab (Q:=λr=>r=BL (EI (CW d)) a.lists b.lists) ?_ λr i=>Ok.some (by rw[i]);rw[show sV (f+12) (a.lists,b.lists)=_ from d210 (f+11) _ _];unfold xz;refine EJ (f:=λx y=>sW (f+11) (x,y)) (by omega) λx l y m=>?_;have q:=E _ l;have B:=G _ m;have s:=j.lv l;have t:=k.lv m;refine(d209 (f+10) x y).trans (XT ?_);rw[show sX (f+10) (x,y)=_ from d208 (f+9) x y];unfold xA;refine ON (g1:=jD (f+9)) (g2:=jC (f+9)) (g3:=sY (f+9)) ?_ ?_ ?_;· refine(Ok.eq ?_);rw[jD];exact IN Qe (Ok.some rf)
   ·refine(Ok.eq ?_);rw[jC];refine IN VQ (Ok.some ?_);have e:∀n:Nat,decide ((0:Int)<(n:Int))=decide (0<n):=λn=>decide_eq_decide.2 (by omega);rw[e,e]
   ·refine(d207 (f+8) x y).trans (Ok.eq ?_);unfold xB;refine IN (Hc (by omega) (by omega)) (IN (Hc (by omega) (by omega)) (Ok.Ab (Q:=λr=>r=BL (M4 (CW d)) (A1 x) (A1 y)) ?_ λr i=>Ok.some (by rw[i])));rw[show sZ (f+8) (A1 x,A1 y)=_ from d206 (f+7) _ _];unfold xC;exact EJ (f:=λx y=>Ya (f+7) (x,y)) (by unfold A1;rw[Pd];omega) λu I v J=>c (s _ I) (t _ J) (by omega)
  ·refine(d225 (f+12) a b).trans (Ok.eq ?_);unfold xl;refine Ok.Ab (Q:=λr=>r=BL (FX (CW d)) a.structs b.structs) ?_ λr i=>Ok.some (by rw[i]);rw[show sD (f+12) (a.structs,b.structs)=_ from d224 (f+11) _ _];unfold xm;refine EJ (f:=λx y=>sE (f+11) (x,y)) (by omega) λx l y m=>?_;have q:=F _ l;have B:=H _ m;have C:=(j.2.1.st _ l).2.1;have D:=(k.2.1.st _ m).2.1;have s:=j.sv l;have t:=k.sv m;have Z:=q.nf;have l2:=q.nc;refine(d223 (f+10) x y).trans (XT ?_);rw[show sF (f+10) (x,y)=_ from d222 (f+9) x y];unfold xo;refine Ku (g1:=sN (f+9)) (g2:=sG (f+9)) ?_ ?_
   ·refine(d216 (f+8) x y).trans (Ok.eq ?_);unfold xu;refine Ok.Ab (Q:=λr=>r=BL (XI (CW d)) x.1 y.1) ?_ λr i=>Ok.some (by rw[i]);rw[show sO (f+8) (x.1,y.1)=_ from d215 (f+7) _ _];unfold xv;refine EJ (f:=λx y=>sR (f+7) (x,y)) (by omega) λu M v N=>?_;have w:=s _ (AT.2 (.inl (By.2 ⟨_,M,rf⟩)));have t2:=t _ (AT.2 (.inl (By.2 ⟨_,N,rf⟩)));refine(d214 (f+6) u v).trans (XT ?_);rw[show sS (f+6) (u,v)=_ from d213 (f+5) u v];unfold xw;refine ON (g1:=jB (f+5)) (g2:=jA (f+5)) (g3:=sT (f+5)) ?_ ?_ ?_;· refine(Ok.eq ?_);rw[jB];exact IN V6 (Ok.some rf)
    ·refine(Ok.eq ?_);rw[jA];exact IN Qe (Ok.some rf)
    ·refine(d212 (f+4) u v).trans (Ok.eq ?_);unfold xx;exact IN (c w t2 (by omega)) (Ok.some rf)
   ·refine(d221 (f+8) x y).trans (Ok.eq ?_);unfold xp;refine Ok.Ab (Q:=λr=>r=BL (XJ (CW d)) x.2 y.2) ?_ λr i=>Ok.some (by rw[i]);rw[show sH (f+8) (x.2,y.2)=_ from d220 (f+7) _ _];unfold xq;refine EJ (f:=λx y=>sK (f+7) (x,y)) (by omega) λu o v p=>?_;have w:=s _ (AT.2 (.inr (By.2 ⟨_,o,rf⟩)));have t2:=t _ (AT.2 (.inr (By.2 ⟨_,p,rf⟩)));have K:CZ u.1 (Aw u.1 0) 14641:=⟨(C _ o).2.1,(C _ o).2.2,rf,q.each _ o⟩;have L:CZ v.1 (Aw v.1 0) 14641:=⟨(D _ p).2.1,(D _ p).2.2,rf,B.each _ p⟩;refine(d219 (f+6) u v).trans (XT ?_);rw[show sL (f+6) (u,v)=_ from d218 (f+5) u v];unfold xr;refine Ku (g1:=jz (f+5)) (g2:=sM (f+5)) ?_ ?_;· refine(Ok.eq ?_);rw[jz];exact IN (E' K L (by decide) (by omega)) (Ok.some rf)
    ·refine(d217 (f+4) u v).trans (Ok.eq ?_);unfold xt;exact IN (c w t2 (by omega)) (Ok.some rf)
theorem fz1(x:Int):fz [x]=x:=by
 show(if x=0 then 0 else x)=x;split;· exact(by assumption:x=0).symm
 ·rfl
theorem FT{x:Int}{l:List Int}(h:x=0):fz (x::l)=fz l:=if_pos h
theorem aF{x:Int}{l:List Int}(h:x≠0):fz (x::l)=x:=if_neg h
def EN{α:Type}(R:α->α->Prop):List α->Prop
 | []=>True
 | [_]=>True
 |x::y::l=>R x y/\EN R (y::l)
theorem LP{α:Type}{R:α->α->Prop}{p:α}{B:List α} :∀ {A:List α},EN R (A++p::B)↔EN R (A++[p])/\EN R (p::B)
 | []=>⟨λh=>⟨trivial,h⟩,λh=>h.2⟩
 | [x]=>⟨λh=>⟨⟨h.1,trivial⟩,h.2⟩,λh=>⟨h.1.1,h.2⟩⟩
 |x::y::A=>by have a:=LP (R:=R) (p:=p) (B:=B) (A:=y::A);show(R x y/\EN R ((y::A)++p::B))↔(R x y/\EN R ((y::A)++[p]))/\_;rw[a];exact⟨λh=>⟨⟨h.1,h.2.1⟩,h.2.2⟩,λh=>⟨h.1.1,h.1.2,h.2⟩⟩
theorem cp{α:Type}{R:α->α->Prop} :∀ {l:List α},EN R l->∀i (h:i+1<l.length),R l[i] l[i+1]
 | [],_,i,h=>by simp at h
 | [_],_,i,h=>by simp at h
 |x::y::l,a,0,_=>a.1
 |x::y::l,a,i+1,h=>cp a.2 i (by simpa using h)
theorem gj(v:∀x∈l,∀y∈l,c x y<0->¬c y x<0)
  (hc:∀x∈l,∀y∈l,cmp x y=Ac (c x y))  (X:l.length<1099511627776) (W:l.length+1<fu):
  Ok (IH cmp fu 0 l.length l) λr=>r.Perm l/\EN (λp q=> ¬c q p<0) r:=by
 unfold IH;refine Aca (by omega) ?_;refine Ok.loop (λz:List α×Int=>z.1.Perm l/\1<=z.2/\∃A C,z.1=A++C/\EN (λp q=> ¬c q p<0) A/\((A.length:Int)=z.2\/(C=[]/\A.length<z.2))) (λz=>l.length+1-z.2.toNat) ?_ (by simp;omega) ?_;· refine⟨.refl _,by omega,?_⟩;cases l with
  |nil=>exact⟨[],[],rfl,trivial, .inr ⟨rfl,by simp⟩⟩
  |cons x l=>exact⟨[x],l,rfl,trivial, .inl (by simp)⟩
 ·rintro⟨
      m,i⟩ nx ⟨e,S,A,C,a,k,f⟩ R G;dsimp only at e S a f;have s:m.length=l.length:=e.length_eq;refine Ok.ite (λn=>?_) (λn=>?_)
  ·have Q:i<l.length:=n;have o:(A.length:Int)=i:=by
    rcases f with f|⟨f,F⟩;· exact f
    ·subst f;simp at a;subst a;omega
   obtain⟨q,C,rfl⟩:∃q N,C=q::N:=by
    cases C with
    |nil=>simp at a;subst a;omega
    |cons q C=>exact⟨q,C,rfl⟩
   refine Ok.loop (λz:List α×Int=>z.1.Perm l/\∃A q B C,z.1=A++q::(B++C)/\(A.length:Int)=z.2/\EN (λp q=> ¬c q p<0) (A++B)/\EN (λp q=> ¬c q p<0) (q::B)/\(A.length:Int)+B.length=i) (λz=>z.2.toNat) ⟨e,A,q,[],C,a,o,by simpa using k,trivial,by simpa using o⟩ (by show i.toNat<fu;omega) ?_;rintro⟨m,j⟩ V ⟨e,A,q,B,C,a,E,k,J,D⟩ _ t;dsimp only at e a E;have s:m.length=l.length:=e.length_eq;have out:EN (λp q=> ¬c q p<0) (A++q::B)->Ok (nx (m,i+1)) (λr=>r.Perm l/\EN (λp q=> ¬c q p<0) r):=λU=>
    G (m,i+1) ⟨e,by show 1<=i+1;omega,A++q::B,C,by simp[a],U, .inl (by simp only[Pd,Aav];omega)⟩ (by show l.length+1-(i+1).toNat<l.length+1-i.toNat;omega);refine Ok.ite (λn=>?_) (λn=>?_)
   ·have H:0<j:=n;obtain⟨A,p,rfl⟩:∃u p,A=u++[p]:=by
     rcases Afd A with h|⟨u,p,h⟩;· subst h;simp at E;omega
     ·exact⟨u,p,by simpa using h⟩
    have b:m=A++p::q::(B++C):=by simp[a]
    simp only[Pd,Aav,Ady]at E D;have w:idx m j=Ac q:=by unfold idx;rw[if_pos (by omega),b,Aab (by omega)];rw[show j.toNat-A.length=1 by omega];rfl
    have I:idx m (j-1)=Ac p:=by unfold idx;rw[if_pos (by omega),b,Aab (by omega)];rw[show(j-1).toNat-A.length=0 by omega];rfl
    have T:m.length=A.length+(1+1+(B.length+C.length)):=by rw[b];simp only[Pd,Aav];omega
    have K:=e.mem_iff.1 (by simp[a]:q∈m);have mp:=e.mem_iff.1 (by simp[a]:p∈m);refine IN w (Aaq (IN I (IN (hc q K p mp) ?_)));rw[Aam,Afw,LP]at k;refine Ok.ite (λd=>?_) (λd=>?_)
    ·have O:¬c p q<0:=v q K p mp d;refine Aaq (Aaq (IN I (IN w (IN w ?_))));have L:m.set j.toNat p=A++p::p::(B++C):=by
      rw[b,Adq _ _ (by omega),show j.toNat-A.length=1 by omega];rfl
     have M:(m.set j.toNat p).set (j-1).toNat q=A++q::p::(B++C):=by rw[L,Adq _ _ (by omega),show(j-1).toNat-A.length=0 by omega];rfl
     have P:idx (m.set j.toNat p) (j-1)=Ac p:=by unfold idx;rw[if_pos (by omega),L,Aab (by omega)];rw[show(j-1).toNat-A.length=0 by omega];rfl
     refine IN P (Aca (by omega) ?_);refine t _ ⟨?_,A,q,p::B,C,?_,?_,?_,?_,?_⟩ (by show(j-1).toNat<j.toNat;omega);· show((m.set j.toNat p).set (j-1).toNat q).Perm l;rw[M];refine List.Perm.trans ?_ e;rw[b];exact List.Perm.append_left _ (List.Perm.swap ..)
     ·show(m.set j.toNat p).set (j-1).toNat q=_;rw[M];simp
     ·show(A.length:Int)=j-1;omega
     ·exact(LP).2 k
     ·exact⟨O,k.2⟩
     ·simp only[Aav];omega
    ·refine Aaq (out ?_);rw[Aam,Afw,LP];exact⟨k.1,d,J⟩
   ·have H:¬0<j:=n;obtain rfl:A=[]:=Aae.1 (by omega);refine Aaq (out ?_);exact J
  ·refine Ok.some ⟨e,?_⟩;rcases f with f|⟨f,F⟩
   ·have H:¬i<l.length:=n;have:C=[]:=by
     have:m.length=A.length+C.length:=by rw[a];simp
     exact Aae.1 (by omega)
    subst this;simp at a;subst a;exact k
   ·subst f;simp at a;subst a;exact k
theorem gh(a:EN (λp q=> ¬c q p<0) l)
  (hc:∀x∈l,∀y∈l,cmp x y=Ac (c x y))  (u:l.length<1099511627776) (t:l.length+1<fu):
  Ok (IH cmp fu 0 l.length l) λr=>r=l:=by
 unfold IH;refine Aca (by omega) ?_;refine Ok.loop (λz:List α×Int=>z.1=l/\1<=z.2) (λz=>l.length+1-z.2.toNat) ⟨rfl,by omega⟩ (by simp;omega) ?_;rintro⟨m,i⟩ nx ⟨e,s⟩ o b;dsimp only at e s;subst e;refine Ok.ite (λg=>?_) (λ_=>Ok.some rfl);have n:i<m.length:=g;obtain⟨f,rfl⟩:∃f,fu=f+1:=⟨fu-1,by omega⟩;have out:Ok (nx (m,i+1)) (λr=>r=m):=b (m,i+1) ⟨rfl,by show 1<=i+1;omega⟩ (by show m.length+1-(i+1).toNat<m.length+1-i.toNat;omega);rw[Ad];refine Ok.iT (by dsimp only;omega) ?_;have h:idx m i=Ac (m[i.toNat]'(by omega)):=E4 (by omega) (by omega);have j:idx m (i-1)=Ac (m[(i-1).toNat]'(by omega)):=E4 (by omega) (by omega);have d:=cp a (i-1).toNat (by omega);have k:(i-1).toNat+1=i.toNat:=by omega
 simp only[k]at d;refine IN h (Aaq (IN j (IN (hc _ (AN _) _ (AN _)) ?_)));exact Ok.iF d (Aaq out)
theorem PN(a:∀x∈l,∀y∈l,c x y<0->¬c y x<0)
  (hc:∀x∈l,∀y∈l,cmp x y=Ac (c x y))  (g:l.length<1099511627776) (f:l.length+1<fu):
  Ok (IH cmp fu 0 l.length l) λr=>(r.Perm l/\EN (λp q=> ¬c q p<0) r)/\(EN (λp q=> ¬c q p<0) l->r=l):=by
 obtain⟨r,e,h⟩:=gj a hc g f;refine⟨r,e,h,λb=>?_⟩;obtain⟨j,d,i⟩:=gh b hc g f;rw[e]at d;exact(Abo d).trans i
theorem YT{l:List (Tb×A7)}(h:l.length<=12)(b:20<fu){c:_->_->Int}(a:∀x∈l,∀y∈l,c x y<0->¬c y x<0)(hc:∀x∈l,∀y∈l,dz fu (x,y)=Ac (c x y)):Ok (j6 fu l) λr=>(r.Perm l/\EN (λp q=> ¬c q p<0) r)/\(EN (λp q=> ¬c q p<0) l->r=l):=by
 rw[j6];have e:(Int.ofNat (l.length %Int.natAbs (18446744073709551616:Int)))=(l.length:Nat):=by show((l.length %18446744073709551616:Nat):Int)=_;rw[Aec (by omega)]
 rw[e];refine Ok.Ab (Gz h) λr _=>?_;rw[tf];obtain⟨f,rfl⟩:∃f,fu=f+1:=⟨fu-1,by omega⟩;refine Ok.Ab (Q:=λr:List (Tb×A7)=>(r.Perm l/\EN (λp q=> ¬c q p<0) r)/\(EN (λp q=> ¬c q p<0) l->r=l)) ?_ λr h=>Ok.some h;rw[Ad];refine Aaq (Ok.iT (by omega) ?_);refine Ok.Ab (Q:=λr:List (Tb×A7)=>(r.Perm l/\EN (λp q=> ¬c q p<0) r)/\(EN (λp q=> ¬c q p<0) l->r=l)) ?_ λr h=>Ok.some h;rw[show j7 (f+1) (0,(l.length:Int),l)=tB (f+1) 0 l.length l from d150 (f+1) 0 l.length l];show Ok (IH (λx y=>dz (f+1) (x,y)) (f+1) 0 l.length l) _;exact PN a hc (by omega) (by omega)
theorem YS{l:List (Ie)}(h:l.length<=12)(b:20<fu){c:_->_->Int}(a:∀x∈l,∀y∈l,c x y<0->¬c y x<0)(hc:∀x∈l,∀y∈l,X' fu (x,y)=Ac (c x y)):Ok (dr fu l) λr=>(r.Perm l/\EN (λp q=> ¬c q p<0) r)/\(EN (λp q=> ¬c q p<0) l->r=l):=by
 rw[dr];have e:(Int.ofNat (l.length %Int.natAbs (18446744073709551616:Int)))=(l.length:Nat):=by show((l.length %18446744073709551616:Nat):Int)=_;rw[Aec (by omega)]
 rw[e];refine Ok.Ab (Gz h) λr _=>?_;rw[su];obtain⟨f,rfl⟩:∃f,fu=f+1:=⟨fu-1,by omega⟩;refine Ok.Ab (Q:=λr:List (Ie)=>(r.Perm l/\EN (λp q=> ¬c q p<0) r)/\(EN (λp q=> ¬c q p<0) l->r=l)) ?_ λr h=>Ok.some h;rw[Ad];refine Aaq (Ok.iT (by omega) ?_);refine Ok.Ab (Q:=λr:List (Ie)=>(r.Perm l/\EN (λp q=> ¬c q p<0) r)/\(EN (λp q=> ¬c q p<0) l->r=l)) ?_ λr h=>Ok.some h;rw[show jy (f+1) (0,(l.length:Int),l)=tA (f+1) 0 l.length l from d230 (f+1) 0 l.length l];show Ok (IH (λx y=>X' (f+1) (x,y)) (f+1) 0 l.length l) _;exact PN a hc (by omega) (by omega)
theorem YR{l:List (Bx)}(h:l.length<=12)(b:20<fu){c:_->_->Int}(a:∀x∈l,∀y∈l,c x y<0->¬c y x<0)(hc:∀x∈l,∀y∈l,X_ fu (x,y)=Ac (c x y)):Ok (dq fu l) λr=>(r.Perm l/\EN (λp q=> ¬c q p<0) r)/\(EN (λp q=> ¬c q p<0) l->r=l):=by
 rw[dq];have e:(Int.ofNat (l.length %Int.natAbs (18446744073709551616:Int)))=(l.length:Nat):=by show((l.length %18446744073709551616:Nat):Int)=_;rw[Aec (by omega)]
 rw[e];refine Ok.Ab (Gz h) λr _=>?_;rw[sj];obtain⟨f,rfl⟩:∃f,fu=f+1:=⟨fu-1,by omega⟩;refine Ok.Ab (Q:=λr:List (Bx)=>(r.Perm l/\EN (λp q=> ¬c q p<0) r)/\(EN (λp q=> ¬c q p<0) l->r=l)) ?_ λr h=>Ok.some h;rw[Ad];refine Aaq (Ok.iT (by omega) ?_);refine Ok.Ab (Q:=λr:List (Bx)=>(r.Perm l/\EN (λp q=> ¬c q p<0) r)/\(EN (λp q=> ¬c q p<0) l->r=l)) ?_ λr h=>Ok.some h;rw[show jw (f+1) (0,(l.length:Int),l)=tz (f+1) 0 l.length l from d236 (f+1) 0 l.length l];show Ok (IH (λx y=>X_ (f+1) (x,y)) (f+1) 0 l.length l) _;exact PN a hc (by omega) (by omega)
theorem K5(c:SV d a)(e:SV d b)(f:d<=3)(k:1000000002000<fu):dt fu (a,b)=Ac (CW d a b):=by obtain⟨s,g,i⟩:=I9 (fu:=fu) c.1 f (by omega);obtain⟨t,h,j⟩:=I9 (fu:=fu) e.1 f (by omega);refine(Ok.eq ?_);rw[dt];refine IN g ?_;rw[i.2 c.2];refine Ok.F rfl (IN h ?_);rw[j.2 e.2];exact Ok.F rfl (IN (IK c e (by omega)) (Ok.some rfl))
def uz(x:Ie):Vl:=Vl.mk Ap Fw [x] []
def uy(x:Bx):Vl:=Vl.mk Ap Fw [] [x]
theorem V5:Hz Fw Fw=0:=by have h:Ld 5 12 Fw:=LR;obtain⟨_,s,_⟩:=Hy (fu:=2000000000000) h h (by decide) (by decide) (by decide);omega
theorem V4:BL c [x] [y]=c x y:=by
 show(if c x y=0 then 0 else c x y)=c x y;split;· exact(by assumption:c x y=0).symm
 ·rfl
theorem gZ{x y:Ie} :CW (d+1) (uz x) (uz y)=EI (CW d) x y:=by
 show fz [C_ Ap Ap,Hz Fw Fw,BL (EI (CW d)) [x] [y],BL (FX (CW d)) [] []]=_;rw[FT (rfl:C_ Ap Ap=0),FT V5,V4];by_cases h:EI (CW d) x y=0;· rw[FT h,h];exact fz1 _
 ·rw[aF h]
theorem gY{x y:Bx} :CW (d+1) (uy x) (uy y)=FX (CW d) x y:=by show fz [C_ Ap Ap,Hz Fw Fw,BL (EI (CW d)) [] [],BL (FX (CW d)) [x] [y]]=_;rw[FT (rfl:C_ Ap Ap=0),FT V5,FT (rfl:BL (EI (CW d)) [] []=0),V4,fz1]
theorem mZ:4294967296<=Ag:=by decide
theorem m_:4294967296<=Ag:=by decide
theorem wb:4294967296<=4294967296:=by decide
theorem wa:4294967296<=4294967296:=by decide
def AC(B:α->α->Prop)(l:List α):Prop:= ∀i j (a:i<l.length) (b:j<l.length),i≠j->¬B l[i] l[j]
theorem max_eq{P:List α->Prop}{g:α->α->Option Bool}{srt:List α->Option (List α)}{cap:Nat}(N:4294967296<=cap)(hl:l.length<=12)(hf:20<fu)(O:∀x∈l,∀y∈l,Ok (g x y) λr=>r=Br↔B x y)
  (X:∀m:List α,m.Sublist l->m.Pairwise (λx y=> ¬B x y/\¬B y x)->(AC B l->m=l)->Ok (srt m) P):
  Ok (Ad fu (λ(a:List α×Nat) t=>
  bif decide (
        (a.2:Int)<(l.length:Int))then
   Ab (idx l (a.2:Int)) λL=>
   Ad fu (
        λ(u:Nat) d=>
    bif decide ((u:Int)<(l.length:Int))then
     Ab (idx l (u:Int)) λU=>
     bif decide ((a.2:Int)≠(u:Int))then
      Ab (g L U) λY=>
      bif Y then
       bif decide ((u:Int)<(a.2:Int))then
        t ((a.1,a.2+1))
       else
        Ab (g U L) λZ=>
        bif !Z then
         t ((a.1,a.2+1))
        else
         d (u+1)
      else
       d (u+1)
     else
      d (u+1)
    else
     Af (List.length a.1+1<=cap)<|
     t (((a.1++[L]),a.2+1))) (0)
  else
   Ab (srt a.1) λr9=>
   Ac (r9)) (([],0))) P:=by
 refine Ok.range (λk (s:List α)=>s.Sublist (l.take k)/\s.Pairwise (λx y=> ¬B x y/\¬B y x)/\(∀x∈s,∃i,∃e:i<l.length,i<k/\l[i]=x/\∀j (o:j<l.length),j≠i->B l[i] l[j]->i<j/\B l[j] l[i])/\(AC B l->s=l.take k)) l.length ⟨by simp,by simp,by simp,λ_=>by simp⟩ (by omega) (λk s nx v G Q=>?_) (λs nx G=>?_)
 ·have m:=AN v;obtain⟨w,E,J,F⟩:=G;have M:l.take (k+1)=l.take k++[l[k]]:=IT v;have skip:(¬AC B l)->Ok (nx (s,k+1)) P:=λh=>Q _ ⟨by rw[M];exact w.trans (List.sublist_append_left ..),E,λx b=>by
   obtain⟨i,e,z,A⟩:=J x b;exact⟨i,e,by omega,A⟩,λq=>absurd q h⟩;refine Ok.iu (Aal v ?_);refine Ok.count (λn=> ∀j (o:j<l.length),j<n->j≠k->B l[k] l[j]->k<j/\B l[j] l[k]) l.length (λj _ h=>by omega) (by omega) (λj d o f p=>?_) (λd f=>?_)
  ·have S:=AN o;have c:(j≠k->B l[k] l[j]->k<j/\B l[j] l[k])->∀i (e:i<l.length),i<j+1->i≠k->B l[k] l[i]->k<i/\B l[i] l[k]:=λh i e W=>by
    rcases Aak i j with z|z;· exact f i e z
    ·obtain rfl:i=j:=by omega
     exact h
   refine Ok.iu (Aal o (Ok.ite (λne=>?_) λne=>p (c λh=>absurd h (by dsimp only at ne;omega))));have K:k≠j:=by dsimp only at ne;omega
   refine Ok.Ab (O _ m _ S) λr D=>Ok.bif (λh=>?_) λh=>p (c λ_ C=>by rw[D.2 C]at h;cases h);have na:¬AC B l:=λq=>q k j v o K (D.1 h);refine Ok.ite (λ_=>skip na) λH=>Ok.Ab (O _ S _ m) λr2 I=>Ok.bif (λ_=>skip na) λA=>p (c λ_ _=>⟨by dsimp only at H;omega,I.1 (by simpa using A)⟩)
  ·have sl:=w.length_le;rw[Aas]at sl;refine Ok.io (Aby (Q _ ⟨?_,?_,λx b=>?_,λq=>?_⟩));· dsimp only;rw[M];exact w.append (List.Sublist.refl _)
   ·dsimp only;refine Abg.2 ⟨E,Acl ..,λx b y R=>?_⟩;rw[Aaf]at R;subst R;obtain⟨i,e,z,rfl,V⟩:=J x b;have T:¬B l[k] l[i]:=λC=>by have:=(f i e e (by omega) C).1;omega
    exact⟨λC=>T (V k v (by omega) C).2,T⟩
   ·dsimp only at b;rcases AT.1 b with b|b;· obtain⟨i,e,z,A⟩:=J x b;exact⟨i,e,by omega,A⟩
    ·rw[Aaf]at b;exact⟨k,v,by omega,b.symm,λj o=>f j o o⟩
   ·dsimp only;rw[M,F q]
 ·obtain⟨w,E,_,F⟩:=G;rw[Aau]at w F;exact Ok.io (Ok.Ab (X s w E F) λr D=>Ok.some D)
structure LX(d:Nat)(c:Ie):Prop where
 n1:c.1.length<=3
 n2:c.2.length<=1
 vs:∀w∈A1 c,SW d w
structure CX(d:Nat)(c:Bx):Prop where
 bd:SS c
 fl:Qy c.1
 gd:D' c
 vs:∀w∈Bv c,SW d w
theorem YJ{s:Sc}{ls:List Ie}{ss:List Bx}(h1:cw 5 12 s)(g:uf s)(h2:ls.length<=3)(h3:ss.length<=3)(b:∀c∈ls,LX d c)(e:∀c∈ss,CX d c):SV (d+1) (.mk Ap s ls ss):=by
 have f:∀x∈kids (.mk Ap s ls ss),SW d x:=λx a=>by
  rcases AT.1 a with h|h;· obtain⟨c,hc,h⟩:=Aac.1 h;exact(b c hc).vs x h
  ·obtain⟨c,hc,h⟩:=Aac.1 h;exact(e c hc).vs x h
 exact⟨⟨h1,⟨h2,λc hc=>⟨(b c hc).n1,Aar (b c hc).n2 (by decide)⟩⟩,⟨h3,λc hc=>(e c hc).bd⟩,λx a=>⟨(f x a).1.1,(f x a).2.1⟩⟩,⟨λh=>(by cases h),g,λc hc=>(b c hc).n2,λc hc=>⟨(e c hc).fl,(e c hc).gd⟩⟩,λx a=>⟨(f x a).1.2,(f x a).2.2⟩⟩
theorem kE:cw 5 12 Fw:=(L1 0).1.1
theorem Tl{c:Ie}(h:LX d c):SV (d+1) (uz c):=YJ kE QJ (by simp) (by simp) (λx a=>by rw[Aaf]at a;rw[a];exact h) (λx a=>by cases a)
theorem Tk{c:Bx}(h:CX d c):SV (d+1) (uy c):=YJ kE QJ (by simp) (by simp) (λx a=>by cases a) (λx a=>by rw[Aaf]at a;rw[a];exact h)
theorem Z1{c:Ie}(h:LX d c):nn (Fz d) c c:=by
 rcases Fz.refl (Tl h).2 with k|k;· cases k
 ·obtain⟨b,a,f⟩:=k.2.2.1 c (Aaf.2 rfl);have e:b=c:=Aaf.1 a;rwa [e]at f
theorem Z0{c:Bx}(h:CX d c):dS (Fz d) c c:=by
 rcases Fz.refl (Tk h).2 with k|k;· cases k
 ·obtain⟨b,a,f⟩:=k.2.2.2 c (Aaf.2 rfl);have e:b=c:=Aaf.1 a;rwa [e]at f
theorem XH{x y:Ie}(c:LX d x)(e:LX d y)(f:d<=2)(b:1000000002000<fu):X' fu (x,y)=Ac (EI (CW d) x y):=by refine(Ok.eq ?_);rw[X'];refine IN (a:=uz x) (rf) (IN (a:=uz y) (rf) (IN (K5 (Tl c) (Tl e) (by omega) b) (Ok.some ?_)));exact gZ
theorem XG{x y:Bx}(c:CX d x)(e:CX d y)(f:d<=2)(b:1000000002000<fu):X_ fu (x,y)=Ac (FX (CW d) x y):=by refine(Ok.eq ?_);rw[X_];refine IN (a:=uy x) (rf) (IN (a:=uy y) (rf) (IN (K5 (Tk c) (Tk e) (by omega) b) (Ok.some ?_)));exact gY
theorem Nj{α:Type}{B:α->α->Prop}{c:α->α->Int} :∀ {l:List α},(∀x∈l,∀y∈l,c y x= -c x y/\(c x y=0->x=y))->(∀x∈l,B x x)->l.Pairwise (λx y=> ¬B x y/\¬B y x)->EN (λp q=> ¬c q p<0) l->EN (λp q=>c p q<0) l
 | [],_,_,_,_=>trivial
 | [_],_,_,_,_=>trivial
 |x::y::l,h,r,p,a=>by
  have d:x∈x::y::l:=Aaj ..;have i:y∈x::y::l:=Aag _ (Aaj ..);have k:=h x d y i;have f:=Abk.1 p;refine⟨?_,Nj (λu b v g=>h u (Aag _ b) v (Aag _ g)) (λu b=>r u (Aag _ b)) f.2 a.2⟩;have j:=a.1;have ne:c x y≠0:=λe=>by have e:=k.2 e;have:=(f.1 y (Aaj ..)).1;rw[<-e]at this;exact this (r x d)
  omega
theorem Ni{α:Type}{c:α->α->Int} :∀ {l:List α},(∀x∈l,∀y∈l,c y x= -c x y)->EN (λp q=>c p q<0) l->EN (λp q=> ¬c q p<0) l
 | [],_,_=>trivial
 | [_],_,_=>trivial
 |x::y::l,h,a=>by have k:=h x (Aaj ..) y (Aag _ (Aaj ..));have e:=a.1;exact⟨by omega,Ni (λu b v d=>h u (Aag _ b) v (Aag _ d)) a.2⟩
def Mx(B:α->α->Prop)(c:α->α->Int)(l r:List α):Prop:=(r.length<=l.length/\∀x∈r,x∈l)/\r.Pairwise (λx y=> ¬B x y/\¬B y x)/\EN (λp q=>c p q<0) r/\(AC B l->EN (λp q=>c p q<0) l->r=l)
theorem mH{m r:List α}(h:∀x∈l,∀y∈l,c y x= -c x y/\(c x y=0->x=y))(n:∀x∈l,B x x)(h1:m.Sublist l)(h2:m.Pairwise (λx y=> ¬B x y/\¬B y x))(h3:AC B l->m=l)(b:r.Perm m)(j:EN (λp q=> ¬c q p<0) r)(k:EN (λp q=> ¬c q p<0) m->r=m):Mx B c l r:=by have mem:∀x∈r,x∈l:=λx a=>h1.subset (b.mem_iff.1 a);have f:r.Pairwise (λx y=> ¬B x y/\¬B y x):=(b.pairwise_iff (λ{x y} q=>⟨q.2,q.1⟩)).2 h2;refine⟨⟨by rw[b.length_eq];exact h1.length_le,mem⟩,f,Nj (λx a y d=>h x (mem x a) y (mem y d)) (λx a=>n x (mem x a)) f j,λg i=>?_⟩;have e:=h3 g;subst e;exact k (Ni (λx a y d=>(h x a y d).1) i)
theorem fH{l:List Ie}(s:l.length<=12)(h:∀c∈l,LX d c)(p:d<=2)(t:1000000003000<fu):Ok (jx fu l) (Mx (nn (Fz d)) (EI (CW d)) l):=by have e:=λx (a:x∈l) y (b:y∈l)=>OS (R:=CW d) JL (h x a).vs (h y b).vs;rw[jx];refine max_eq (g:=λx y=>UD fu (x,y)) (srt:=λm=>dr fu m) mZ s (by omega) (λx a y b=>Jk JR (h x a).n1 (h x a).vs (h y b).vs (by omega)) λm i n o=>?_;have u:=i.length_le;have f:∀x∈m,x∈l:=λx a=>i.subset a;exact(YS (c:=EI (CW d)) (by omega) (by omega) (λx a y b q=>by have:=(e x (f x a) y (f y b)).1;omega) λx a y b=>XH (h x (f x a)) (h y (f y b)) p (by omega)).mono λr j=>mH e (λx a=>Z1 (h x a)) i n o j.1.1 j.1.2 j.2
theorem fG{l:List Bx}(u:l.length<=12)(h:∀c∈l,CX d c)(t:d<=2)(v:1000000003000<fu):Ok (jv fu l) (Mx (dS (Fz d)) (FX (CW d)) l):=by have e:=λx (a:x∈l) y (b:y∈l)=>OR (R:=CW d) JL (h x a).bd (h y b).bd (h x a).gd (h y b).gd (h x a).vs (h y b).vs;rw[jv];refine max_eq (g:=λx y=>UE fu (x,y)) (srt:=λm=>dq fu m) m_ u (by omega) (λx a y b=>GZ JR (h x a).bd (h y b).bd (h x a).gd (h y b).gd (h x a).vs (h y b).vs (by omega)) λm k p s=>?_;have w:=k.length_le;have f:∀x∈m,x∈l:=λx a=>k.subset a;exact(YR (c:=FX (CW d)) (by omega) (by omega) (λx a y b q=>by have:=(e x (f x a) y (f y b)).1;omega) λx a y b=>XG (h x (f x a)) (h y (f y b)) t (by omega)).mono λr n=>mH e (λx a=>Z0 (h x a)) k p s n.1.1 n.1.2 n.2
def Ur:List Sp×List Sp:=([(-100000000000,100000000000)],[(-999999999999999,999999999999999)])
def SN:Sc:=(Br,Br,Br,Ur,Ng)
theorem allI:A5 Ur n↔ -100000000000<=n/\n<=100000000000:=by show(AX [(-100000000000,100000000000)] n/\_)↔_;rw[AD];exact⟨λh=>h.2,λh=>⟨.inl h,h⟩⟩
theorem allF{y:Int} :A3 Ur y↔ -1000000000000000<=ur y/\ur y<=1000000000000000:=by show(AX [(-999999999999999,999999999999999)] (ur y)/\_)↔_;rw[AD];refine⟨λh=>h.2,λh=>⟨.inl ?_,h⟩⟩;dsimp only;unfold ur at h⊢;omega
theorem wu:DY Ur (A5 Ur) (A3 Ur):=by
 refine⟨[(rk (-999999999999999),rk 999999999999999)],?_,?_,?_,?_,?_,λn=>?_,λy=>?_⟩;· decide
 ·exact⟨λt b=>by rw[Aaf.1 b];decide,Acl ..⟩
 ·intro s a;rw[Aaf.1 a];unfold BO;decide
 ·exact⟨λt b=>by rw[Aaf.1 b];decide,Acl ..⟩
 ·intro s a;rw[Aaf.1 a];unfold BO;decide
 ·rw[allI];show AX [(-100000000000,100000000000)] n↔_;rw[AD];exact⟨λh=>h.resolve_right A8, .inl⟩
 ·rw[allF,AD];unfold ur rk;constructor;· intro h;have:=h.resolve_right A8;dsimp only at this;omega
  ·intro h;refine .inl ?_;dsimp only;omega
theorem b8:Ld 1 12 SN:=⟨wu,by decide,by decide,rJ,b7,rfl,by decide⟩
def EvL(c:Ie):Prop:=c.1=[]/\∃x,c.2=[x]/\x.1.any=Br/\x.2.any=Br
def EvS(c:Bx):Prop:=c.1=[]/\∃k,c.2=[k]/\k.2.1.any=Br/\k.2.2.any=Br
def EvX(v:Vl):Prop:=v.sc=SN/\∃c s,v.lists=[c]/\v.structs=[s]/\EvL c/\EvS s
theorem fP(h:l.length=1):∃x,l=[x]:=by
 match l,h with
 | [x],_=>exact⟨x,rfl⟩
theorem YF{x:A7} :Ok (dp fu x) λr=>r=Br↔x.1.any=Br/\x.2.any=Br:=by rw[dp];exact Ok.bif (λh=>Ok.some ⟨λk=>⟨h,k⟩,Afo⟩) λh=>BA λk=>by rw[k.1]at h;cases h
theorem qz{c:Ie} :Ok (jt fu c) λr=>r=Br↔EvL c:=by rw[jt];refine Ok.ite (λf=>Ok.ite (λg=>?_) λg=>BA λk=>g (by obtain⟨_,x,e,_⟩:=k;rw[e];rfl)) λf=>BA λk=>f (by rw[k.1];rfl);obtain⟨x,e⟩:=fP (l:=c.2) (by omega);have h:c.1=[]:=Aae.1 (by omega);refine IN (a:=x) (by rw[e];rfl) (Ok.Ab YF λb i=>Ok.some (i.trans ⟨λk=>⟨h,x,e,k⟩,λk=>?_⟩));obtain⟨_,y,d,k⟩:=k;rw[e]at d;obtain rfl:x=y:=Afm d;exact k
theorem qy{c:Bx} :Ok (jr fu c) λr=>r=Br↔EvS c:=by rw[jr];refine Ok.ite (λf=>Ok.ite (λg=>?_) λg=>BA λk=>g (by obtain⟨_,x,e,_⟩:=k;rw[e];rfl)) λf=>BA λk=>f (by rw[k.1];rfl);obtain⟨x,e⟩:=fP (l:=c.2) (by omega);have h:c.1=[]:=Aae.1 (by omega);refine IN (a:=x) (by rw[e];rfl) (Ok.Ab YF λb i=>Ok.some (i.trans ⟨λk=>⟨h,x,e,k⟩,λk=>?_⟩));obtain⟨_,y,d,k⟩:=k;rw[e]at d;obtain rfl:x=y:=Afm d;exact k
theorem aP{k m:Nat}{v:Vl}(h:Ld k m v.sc)(G:k<=10)(H:m<=100000)(F:1000000002000<fu):Ok (jq fu v) λr=>r=Br↔EvX v:=by
 rw[jq];refine Ok.ite (λt=>Ok.ite (λu=>?_) λu=>BA λk=>u (by obtain⟨_,c,s,_,e,_⟩:=k;rw[e];rfl)) λt=>BA λk=>t (by obtain⟨_,c,s,e,_⟩:=k;rw[e];rfl);have y:ju fu () =Ac SN:=by
  refine(Ok.eq ?_);rw[ju];have z:UG fu () =Ac Ur:=by refine(Ok.eq ?_);rw[UG];exact IN (rf) (Ok.some rf)
  exact IN z (IN (rf) (Ok.some rf))
 obtain⟨q,_,A⟩:=Hy (fu:=fu) h b8 (by omega) (by omega) (by omega);have D:v.sc=SN->Hz v.sc SN=0:=λe=>by rw[e];obtain⟨_,s,_⟩:=Hy (fu:=fu) b8 b8 (by decide) (by decide) (by omega);omega
 obtain⟨c,j⟩:=fP (l:=v.lists) (by omega);obtain⟨s,n⟩:=fP (l:=v.structs) (by omega);refine IN y (IN q (Ok.ite (λo=>?_) λo=>BA λk=>o (D k.1)));have C:=A o;have g:∀ {f},v.lists=[f]->c=f:=λe=>by rw[j]at e;exact Afm e
 have d:∀ {f},v.structs=[f]->s=f:=λe=>by rw[n]at e;exact Afm e
 refine IN (a:=c) (by rw[j];rfl) (Ok.Ab qz λb w=>Ok.bif (λi=>IN (a:=s) (by rw[n];rfl) (Ok.Ab qy λE p=>Ok.some (p.trans ⟨λk=>⟨C,c,s,j,n,w.1 i,k⟩,λk=>?_⟩))) λi=>BA λk=>?_);· obtain⟨_,f,B,e,x,_,k⟩:=k;rw[d x];exact k
 ·obtain⟨_,f,B,e,_,k,_⟩:=k;rw[<-g e]at k;rw[w.2 k]at i;cases i
theorem Jd(l:List α)(d:α)(p:α->Bool):((List.range l.length).filter λi=>p (l.getD i d)).length=(l.filter p).length:=by
 have e:l=(List.range l.length).map λi=>l.getD i d:=nP l d;conv=>rhs;rw[e]
 rw[Alq,Aah];rfl
theorem Xk{c:Bx}(w:Au):Lk c (Gn c w) c.2.length=(c.2.filter λk=>Aw k.1 0 w).length:=by rw[<-Jd c.2 dK];unfold Lk;congr 1;refine Ago λi b=>?_;rw[U3 (Abb.1 b) w];rfl
theorem eG{c:Bx}{j:Nat}(f:j<c.1.length)(w:Au):(Gn c w).getD (c.2.length+j) 0=runT (Bn (c.1.getD j dF).1) 0 w/\ -1<=runT (Bn (c.1.getD j dF).1) 0 w/\runT (Bn (c.1.getD j dF).1) 0 w<=(c.1.getD j dF).1.length:=by
 have:∀l:Au,(Gn c l.reverse).getD (c.2.length+j) 0=runT (Bn (c.1.getD j dF).1) 0 l.reverse/\ -1<=runT (Bn (c.1.getD j dF).1) 0 l.reverse/\runT (Bn (c.1.getD j dF).1) 0 l.reverse<=(c.1.getD j dF).1.length:=λl=>by
  induction l with
  |nil=>
   refine⟨?_,?_,?_⟩;· show(Co c).getD (c.2.length+j) 0=0;unfold Co;rw[IS,Afn];split<;>rfl
   ·show(-1:Int)<=0;decide
   ·show(0:Int)<=_;omega
  |cons x l d=>
   have e:runT (Bn (c.1.getD j dF).1) 0 (l.reverse++[x])=Yn (c.1.getD j dF).1 (runT (Bn (c.1.getD j dF).1) 0 l.reverse) x.toNat:=by rw[<-QK d.2];unfold runT;rw[Acb];rfl
   rw[Afs,e];refine⟨?_,Z3 d.2.2⟩;rw[FF,(Ha c _ _).fd j f];unfold TN;rw[d.1]
 have:=this w.reverse;rwa [Afh]at this
theorem Xl{c:Bx}(w:Au):PT c (Gn c w) c.1.length=(c.1.filter λf=>Aw (Bn f.1) 0 w).length:=by rw[<-Jd c.1 dF];unfold PT;congr 1;refine Ago λj b=>?_;have h:=eG (Abb.1 b) w;rw[h.1];unfold Aw;rw[NV h.2]
theorem RY(c:Bx)(w:Au):Lj c (Gn c w)=(c.2.filter λk=>Aw k.1 0 w).length+(c.1.filter λf=>Aw (Bn f.1) 0 w).length:=by unfold Lj;rw[Xk,Xl]
def Dk(l:List (Tb×A7))(w:Au):Nat:=(l.filter λk=>Aw k.1 0 w).length
theorem Db(a b:List (Tb×A7))(w:Au):Dk (a++b) w=Dk a w+Dk b w:=by unfold Dk;rw[Afa,Pd]
theorem EH(k:Tb×A7)(w:Au):Dk [k] w=if Aw k.1 0 w=Br then 1 else 0:=by unfold Dk;cases h:Aw k.1 0 w<;>simp[h]
theorem XC{a b:List (Tb×A7)}(h:a.Perm b)(w:Au):Dk a w=Dk b w:=(h.filter _).length_eq
theorem bp{z:List (Tb×A7)}{i:Nat}(hi:i<z.length){k x:Tb×A7}{w:Au}(ht:Aw x.1 0 w=(Aw z[i].1 0 w||Aw k.1 0 w))(f:¬(Aw z[i].1 0 w=Br/\Aw k.1 0 w=Br)):Dk (z.set i x) w=Dk z w+Dk [k] w:=by
 have c:z=z.take i++([z[i]]++z.drop (i+1)):=by rw[Afw,<-Aaw hi,Ace]
 have b:z.set i x=z.take i++([x]++z.drop (i+1)):=by rw[Afp,if_pos hi];rfl
 have a:Dk z w=Dk (z.take i) w+(Dk [z[i]] w+Dk (z.drop (i+1)) w):=by
  conv=>lhs;rw[c]
  rw[Db,Db]
 rw[b,Db,Db,a,EH,EH,EH,ht];cases d:Aw z[i].1 0 w<;>cases e:Aw k.1 0 w;· simp
 ·simp;omega
 ·simp
 ·exact absurd ⟨d,e⟩ f
theorem Le.of{c b:Bx}(h:Le c)(e:b.1.map (·.1)=c.1.map (·.1))(k:∀w,Dk b.2 w=Dk c.2 w):Le b:=λw=>by
 have lb:∀l:List (Au×Int×A7),(l.filter λf=>Aw (Bn f.1) 0 w).length=((l.map (·.1)).filter λs=>Aw (Bn s) 0 w).length:=λl=>by rw[Alq,Aah];rfl
 have:=h w;rw[RY,lb]at this⊢;rw[e];have k:=k w;unfold Dk at k;rw[k];exact this
theorem Zk{a b:List Nat}(h:a.Perm b):GC a=GC b:=by
 induction h with
 |nil=>rfl
 |cons x _ e=>rw[GC,GC,e]
 |swap x y l=>simp only[GC];rw[<-Aea,<-Aea,Acw y x]
 |trans _ _ c d=>exact c.trans d
theorem dI.of{l m:List (Au×Int×A7)}(h:dI l)(e:m.map (·.1)=l.map (·.1)):dI m:=by
 have f:m.length=l.length:=by simpa using congrArg List.length e
 have c:∀i (b:i<m.length),m[i].1=(l[i]'(by omega)).1:=λi b=>by have:=List.getElem_of_eq e (by simpa using b:i<(m.map (·.1)).length);simpa using this
 intro i d;rw[c i (by omega),c (i+1) d];exact h i (by omega)
end
section
variable {d : Nat} (hd : d <= 2) (ih : ∀ {fu : Nat} {x : A7}, SX d x -> 1000000003000 + 10 * d + 1 < fu -> Ok (Lu fu x) λr => r.2 = Br -> SX d r.1)
include hd ih
structure COk(d:Nat)(k:Tb×A7):Prop where
 wf:Be k.1
 cn:BS k.1=k.1
 vs:SX d k.2
def J2(l:List (Tb×A7)):Nat:=GC (l.map λk=>k.1.length+3)
omit hd ih in
theorem HI(a b:List (Tb×A7)):J2 (a++b)=J2 a*J2 b:=by unfold J2;rw[Aan,Vc]
omit hd ih in
theorem O_(a:List (Tb×A7)):0<J2 a:=Va λn b=>by obtain⟨k,_,rfl⟩:=By.1 b;omega
omit hd ih in
theorem Lx(k:Tb×A7):J2 [k]=k.1.length+3:=by simp[J2,GC]
omit hd ih in
theorem UP{l:List (Tb×A7)}{k:Tb×A7}(h:k∈l):k.1.length+3<=J2 l:=
 Vb (λn b=>by obtain⟨k,_,rfl⟩:=By.1 b;omega) (By.2 ⟨k,h,rfl⟩)
omit hd ih in
theorem SO{fu j:Nat}{c z:List (Tb×A7)}(s:j<c.length)(f:J2 z*J2 (c.drop j)<=14641)(D:∀k∈z,COk d k)(hc:COk d c[j])(I:1000000003000<fu):
  S7 fu (c[j].1,[])=Ac c[j].1/\(∀v,J2 (z++[(c[j].1,v)])*J2 (c.drop (j+1))<=14641)/\∀i (hi:i<z.length),Ok (S7 fu (z[i].1,c[j].1)) λt=>(Be t/\BS t=t/\Aw t 0=λw=>Aw z[i].1 0 w||Aw c[j].1 0 w)/\∀v,J2 (z.set i (t,v))*J2 (c.drop (j+1))<=14641:=by
 have l:J2 (c.drop j)=(c[j].1.length+3)*J2 (c.drop (j+1)):=by rw[Aaw s,show c[j]::c.drop (j+1)=[c[j]]++c.drop (j+1)from rfl,HI,Lx]
 have E:=O_ (c.drop (j+1));have F:=O_ z;have G:c[j].1.length+3<=14641:=Aar (by rw[l];exact Afl _ E) (Aar (Nat.le_mul_of_pos_left _ F) f);have h:CZ c[j].1 (Aw c[j].1 0) 14641:=⟨hc.wf,hc.cn,rfl,by omega⟩;refine⟨?_,λv=>?_,λi hi=>?_⟩;· obtain⟨t,p,b⟩:=TH (IE (fu:=fu) h (CZ.nil (m:=0)) (by decide) (by omega));have:c[j].1=t:=h.unique (b.congr (funext λw=>by rw[h.gL,Hn,Aly]));rw[p,<-this]
 ·rw[HI,Lx,Aea];rw[l]at f;exact f
 ·have g:=D _ (AN hi);have H:z[i].1.length+3<=14641:=Aar (UP (AN hi)) (Aar (Afl _ (O_ _)) f);have ii:CZ z[i].1 (Aw z[i].1 0) 14641:=⟨g.wf,g.cn,rfl,by omega⟩;refine(TH (IE (fu:=fu) ii h (by decide) (by omega))).mono λt b=>⟨⟨b.wf,b.can,b.lg.trans (by rw[ii.gL,h.gL])⟩,λv=>?_⟩;have u:t.length+3<=(z[i].1.length+3)*(c[j].1.length+3):=by
   have:=b.len;unfold H_ at this;have e:(z[i].1.length+3)*(c[j].1.length+3)=(z[i].1.length+2)*(c[j].1.length+2)+(z[i].1.length+2)+(c[j].1.length+2)+1:=by show((z[i].1.length+2)+1)*((c[j].1.length+2)+1)=_;generalize z[i].1.length+2=x,c[j].1.length+2=y;rw[Adm,Nat.mul_add];omega
   omega
  have q:z=z.take i++([z[i]]++z.drop (i+1)):=by rw[Afw,<-Aaw hi,Ace]
  have o:z.set i (t,v)=z.take i++([(t,v)]++z.drop (i+1)):=by rw[Afp,if_pos hi];rfl
  rw[o,HI,HI,Lx];have n:J2 (z.take i)*((z[i].1.length+3)*J2 (z.drop (i+1)))*((c[j].1.length+3)*J2 (c.drop (j+1)))<=14641:=by rw[q,HI,HI,Lx,l]at f;exact f
  refine Aar ?_ n;generalize J2 (z.take i)=A,J2 (z.drop (i+1))=B,J2 (c.drop (j+1))=C at*;calc A*((t.length+3)*B)*C<=A*(((z[i].1.length+3)*(c[j].1.length+3))*B)*C:=Abj _ (Nat.mul_le_mul_left _ (Abj _ u))
   _=A*((z[i].1.length+3)*B)*((c[j].1.length+3)*C):=by generalize z[i].1.length+3=x,c[j].1.length+3=y;rw[Aea,Aea,Aea A];congr 1;rw[Aea,Aea,Nat.mul_left_comm y]
end
theorem SV.sb:∀ {d:Nat} {v:Vl},SV d v->SB d v
 |0,_,h=>h.1.elim
 |d+1,v,h=>⟨h.1,Fh h.1.1 h.2.1.sc,h.2.1.rs,λc hc=>⟨(h.2.1.st c hc).1.2,λk b=>((h.2.1.st c hc).2.1 k b).2⟩,λx a=>⟨(h.pW x a).1.sb.2,(h.pW x a).2.sb.2⟩⟩
def iL(G:A7->Prop)(c:Ie):Prop:=(∀x∈c.1,NB x.1/\G x)/\∀x∈c.2,NB x.1/\G x
section
variable {d : Nat} {G : A7 -> Prop} (hd : d <= 2) (ih : ∀ {fu : Nat} {x : A7}, SW d x -> 1000000003000 + 10 * d + 1 < fu -> Ok (Lu fu x) λr => (r.2 = Br -> SW d r.1 /\ G r.1) /\ (G x -> r = (x, Br)))
include hd ih
theorem ig{fu:Nat}{c:Ie}(h:LX d c)(T:1000000003000+10*d+2<fu):Ok (jo fu c) λr=>(r.2.2=Br->r.2.1=Br->LX d r.1/\iL G r.1)/\(iL G c->r=(c,Br,Br)):=by
 have O:=K_;obtain⟨f,rfl⟩:∃f,fu=f+1:=⟨fu-1,by omega⟩;rw[show jo (f+1) c=_ from d246 f c];unfold xj;have U:=h.n1;have V:=h.n2;refine Ok.Ev (λk (s:List A7) (t:Bool)=>s.length=k/\(∀w∈s,SW d w/\G w)/\(t=Br->∀w∈s,NB w.1)/\(iL G c->s=c.1.take k/\t=Br)) c.1.length ⟨rfl,by simp,by simp,λ_=>by simp⟩ (by omega) (λk s t nx v I E=>?_) (λs t nx I=>?_)
 ·have j:=AN v;have m:=h.vs _ (AT.2 (.inl j));obtain⟨N,F,M,z⟩:=I;refine Ok.iu (Aal v (Ok.Ab (ih m (by omega)) λr n=>Ok.bif (λg=>Ok.some ⟨λq=>(by cases q),λq=>?_⟩) λg=>?_));· rw[n.2 (q.1 _ j).2]at g;cases g
  have g:r.2=Br:=by simpa using g
  have i:=n.1 g;have add:∀b,(b=Br->NB r.1.1/\t=Br)->(iL G c->b=Br)->Ok (nx (s++[r.1],b,k+1)) λr=>(r.2.2=Br->r.2.1=Br->LX d r.1/\iL G r.1)/\(iL G c->r=(c,Br,Br)):=λb p J=>E _ _ ⟨by rw[Pd,Acp,N],λw a=>by
   rcases AT.1 a with a|a;· exact F w a
   ·rw[Aaf.1 a];exact i,λq w a=>by
   rcases AT.1 a with a|a;· exact M (p q).2 w a
   ·rw[Aaf.1 a];exact(p q).1,λq=>⟨by
    have e:r=(c.1[k],Br):=n.2 (q.1 _ j).2;rw[(z q).1,e,IT v],J q⟩⟩;refine Ok.bif (λB=>Ok.Ab (D6 i.1.1.sb (by omega)) λb p=>Aby (add _ (λq=>⟨?_,B⟩) λq=>?_)) λB=>Aby (add _ (λq=>by cases q) λq=>?_);· refine GB λy=>?_;rw[p.2 y]at q;cases q
  ·have e:r=(c.1[k],Br):=n.2 (q.1 _ j).2;have y:=(q.1 _ j).1;cases K:b with
   |false=>rfl
   |true=>exact absurd (by rw[e];exact y) (p.1 K)
  ·have:=(z q).2;rw[show t=Ap from B]at this;cases this
 ·obtain⟨N,F,M,z⟩:=I;rw[Aau]at z;refine Ok.iF (by dsimp only;omega) ?_;refine Ok.range (λk (C:List A7)=>C.length<=k/\(∀w∈C,SW d w/\NB w.1/\G w)/\(iL G c->C=c.2.take k)) c.2.length ⟨by simp,by simp,λ_=>by simp⟩ (by omega) (λk C nx v u E=>?_) (λC nx u=>?_)
  ·have j:=AN v;have m:=h.vs _ (AT.2 (.inr j));obtain⟨S,A,H⟩:=u;refine Ok.iu (Aal v (Ok.Ab (ih m (by omega)) λr n=>Ok.bif (λg=>Ok.some ⟨λq=>(by cases q),λq=>?_⟩) λg=>?_));· rw[n.2 (q.2 _ j).2]at g;cases g
   have g:r.2=Br:=by simpa using g
   have i:=n.1 g;refine Ok.Ab (D6 i.1.1.sb (by omega)) λb p=>Ok.bif (λl=>Aby (E _ ⟨by dsimp only;rw[Pd,Acp];omega,λw a=>?_,λq=>?_⟩)) λl=>E _ ⟨by dsimp only;omega,A,λq=>?_⟩
   ·rcases AT.1 a with a|a;· exact A w a
    ·rw[Aaf.1 a];refine⟨i.1,GB λy=>?_,i.2⟩;rw[p.2 y]at l;cases l
   ·have e:r=(c.2[k],Br):=n.2 (q.2 _ j).2;dsimp only;rw[H q,e,IT v]
   ·have e:r=(c.2[k],Br):=n.2 (q.2 _ j).2;have y:=(q.2 _ j).1;have L:b=Br:=by simpa using l
    exact absurd (by rw[e];exact y) (p.1 L)
  ·obtain⟨S,A,H⟩:=u;rw[Aau]at H;refine Ok.io (Ok.some ⟨λ_ B=>⟨⟨by dsimp only;omega,by dsimp only;omega,λw a=>?_⟩,λw a=>⟨M B w a,(F w a).2⟩,λw a=>⟨(A w a).2.1,(A w a).2.2⟩⟩,λq=>?_⟩)
   ·rcases AT.1 a with a|a;· exact(F w a).1
    ·exact(A w a).1
   ·have P:=(z q).1;have Q:=(z q).2;have R:=H q;dsimp only;rw[P,Q,R]
end
section
variable{d fu:Nat}{v:A7}{k:Tb×A7}{α:Type}{c:Bx}{G:A7->Prop}{x:A7}{l:List (Tb×A7)}{B:α->α->Prop}{n:Nat}
theorem aq(h:∀k∈l,SW d k.2)(j:SW d v)(p:l.length<=12)(o:1000000003000+10*d<fu):
  Ok (j9 fu (l,v)) λr=>r.2=(l,v)/\((∃i,∃hi:i<l.length,r.1=(i:Int)/\l[i].2=v)\/r.1= -1/\∀k∈l,k.2≠v):=by
 rw[j9];refine Ok.range (λk s=>s=v/\∀x∈l.take k,x.2≠v) l.length ⟨rfl,by simp⟩ (by omega) (λk s nx f a n=>?_) (λs nx a=>?_)
 ·obtain⟨rfl,a⟩:=a;have m:=h _ (AN f);have e:Ok (j_ fu (l[k],s)) λr=>r.2=s/\(r.1=Br↔l[k].2=s):=by
   rw[j_];exact Ok.Ab (Mb (d:=d) ⟨m.1.1,m.2.1⟩ ⟨j.1.1,j.2.1⟩ (by omega)) λr b=>Ok.some ⟨rfl,b⟩
  refine Ok.iu (Aal f (Ok.Ab e λr b=>Ok.bif (λc=>Ok.some ⟨by rw[b.1], .inl ⟨k,f,rfl,b.2.1 c⟩⟩) λc=>n _ ⟨b.1,λx g=>?_⟩));rcases(Ai f).1 g with g|rfl;· exact a x g
  ·intro q;rw[b.2.2 q]at c;cases c
 ·obtain⟨rfl,a⟩:=a;rw[An]at a;exact Ok.io (Ok.some ⟨rfl, .inr ⟨rfl,a⟩⟩)
def cG(G:A7->Prop)(c:Bx):Prop:=(∀f∈c.1,NB f.2.2.1/\G f.2.2)/\(∀k∈c.2,G k.2)/\EN (λk b=>HA k.1 b.1<0) c.2/\c.2.Pairwise (λk b=>k.2≠b.2)
theorem Lc{α:Type}{B:α->α->Prop}{c:α->α->Int} :∀ {l:List α},(∀x∈l,∀y∈l,c y x= -c x y/\(c x y=0->B x y))->l.Pairwise (λx y=> ¬B x y)->EN (λp q=> ¬c q p<0) l->EN (λp q=>c p q<0) l
 | [],_,_,_=>trivial
 | [_],_,_,_=>trivial
 |x::y::l,h,p,a=>by have k:=h x (Aaj ..) y (Aag _ (Aaj ..));have b:=Abk.1 p;refine⟨?_,Lc (λu d v f=>h u (Aag _ d) v (Aag _ f)) b.2 a.2⟩;have g:=a.1;have ne:c x y≠0:=λe=>(b.1 y (Aaj ..)) (k.2 e);omega
structure KX(d:Nat)(G:A7->Prop)(k:Tb×A7):Prop where
 ne:k.1≠ []
 wf:Be k.1
 cn:BS k.1=k.1
 vs:SW d k.2
 gd:G k.2
theorem KX.cok(h:KX d G k):COk d k:=⟨h.wf,h.cn,h.vs.1.sb,h.vs.2.sb⟩
theorem CX.cok(h:CX d c):∀k∈c.2,COk d k:=λk a=>by have g:=h.gd.1 k a;have v:=h.vs _ (AT.2 (.inr (By.2 ⟨k,a,rfl⟩)));exact⟨g.2.1,g.2.2,v.1.sb,v.2.sb⟩
theorem V1(a:k∈l){w:Au}(h:Aw k.1 0 w=Br):0<Dk l w:=
 Aev (Aax.2 ⟨a,h⟩)
theorem V3(h:Le c)(w:Au):Dk c.2 w<=1:=by have:=h w;rw[RY]at this;unfold Dk;omega
theorem cq(h0:k.1≠ [])(h1:Be k.1)(h2:BS k.1=k.1):∃w,Aw k.1 0 w=Br:=GB λb=>by
 refine h0 ((CZ.Gr (⟨h1,h2,rfl,Aad _⟩:CZ k.1 (Aw k.1 0) k.1.length)).2 (funext λw=>?_));cases e:Aw k.1 0 w with
 |false=>rfl
 |true=>exact absurd ⟨w,e⟩ b
theorem V2:∀ {l:List (Tb×A7)},(∀k∈l,∃w,Aw k.1 0 w=Br)->(∀w,Dk l w<=1)->l.Pairwise λx y=>x.1≠y.1
 | [],_,_=> .nil
 |x::l,h,hc=>by
  have e:∀w,Dk (x::l) w=Dk [x] w+Dk l w:=λw=>Db [x] l w;refine Abk.2 ⟨λy c q=>?_,V2 (λk b=>h k (Aag _ b)) λw=>?_⟩;· obtain⟨w,a⟩:=h x (Aaj ..);have:=hc w;rw[e,EH,if_pos a]at this;have:=V1 c (q▸a);omega
  ·have:=hc w;rw[e]at this;omega
theorem KX.is(h:KX d G k){m:Nat}(b:k.1.length<=m):CZ k.1 (Aw k.1 0) m:=⟨h.wf,h.cn,rfl,b⟩
theorem ie(hd:d<=2)(ih:∀ {fu:Nat} {x:A7},SW d x->1000000003000+10*d+1<fu->Ok (Lu fu x) λr=>(r.2=Br->SW d r.1/\G r.1)/\(G x->r=(x,Br)))(h:CX d c)(hF:1000000003000+10*d+2<fu):
  Ok (jm fu c) λr=>(r.2.2=Br->r.2.1=Br->CX d r.1/\cG G r.1)/\(cG G c->r=(c,Br,Br)):=by
 have c71:=wb;have c94:=wa;obtain⟨f,rfl⟩:∃f,fu=f+1:=⟨fu-1,by omega⟩;rw[show jm (f+1) c=_ from d247 f c];unfold xi;have n1:=h.bd.nf;have n2:=h.bd.nc;refine Ok.Ev (λk (s:List (Au×Int×A7)) (t:Bool)=>(s.map (λf=>(f.1,f.2.1))=(c.1.take k).map λf=>(f.1,f.2.1))/\(∀f∈s,SW d f.2.2/\G f.2.2)/\(t=Br->∀f∈s,NB f.2.2.1)/\(cG G c->s=c.1.take k/\t=Br)) c.1.length ⟨rfl,by simp,by simp,λ_=>by simp⟩ (by omega) (λk s t nx o hJ hn=>?_) (λs t nx hJ=>?_)
 ·have L:=AN o;have m:=h.vs _ (AT.2 (.inl (By.2 ⟨_,L,rfl⟩)));obtain⟨O,j2,j3,j4⟩:=hJ;have hsl:s.length<=4:=by have:=congrArg List.length O;simp only[Aah,Aas]at this;omega
  refine Ok.iu (Aal o (Ok.Ab (ih m (by omega)) λr Q=>Ok.bif (λM=>Ok.some ⟨λq=>(by cases q),λq=>?_⟩) λM=>?_));· rw[Q.2 (q.1 _ L).2]at M;cases M
  have H:=Q.1 (by simpa using M);have ef:cG G c->s++[(c.1[k].1,c.1[k].2.1,r.1)]=c.1.take (k+1):=λq=>by have e:r=(c.1[k].2.2,Br):=Q.2 (q.1 _ L).2;rw[(j4 q).1,e,IT o]
  have add:∀b:Bool,(b=Br->t=Br/\NB r.1.1)->(cG G c->b=Br)->Ok (nx (s++[(c.1[k].1,c.1[k].2.1,r.1)],b,k+1)) λr=>(r.2.2=Br->r.2.1=Br->CX d r.1/\cG G r.1)/\(cG G c->r=(c,Br,Br)):=λb U N=>by
   refine hn _ _ ⟨by rw[Aan,O,IT o,Aan];rfl,λw D=>?_,λhbt w D=>?_,λq=>⟨ef q,N q⟩⟩
   ·rcases AT.1 D with D|D;· exact j2 w D
    ·rw[Aaf.1 D];exact H
   ·obtain⟨h3,h4⟩:=U hbt;rcases AT.1 D with D|D;· exact j3 h3 w D
    ·rw[Aaf.1 D];exact h4
  refine Ok.bif (λI=>Ok.Ab (D6 H.1.1.sb (by omega)) λb U=>Aby (add _ (λN=>⟨I,?_⟩) λq=>?_)) λI=>Aby (add Ap (λh=>by cases h) λq=>?_);· refine GB λhnb=>?_;rw[U.2 hnb]at N;cases N
  ·have e:r=(c.1[k].2.2,Br):=Q.2 (q.1 _ L).2;have nb:=(q.1 _ L).1;cases hbb:b with
   |false=>rfl
   |true=>exact absurd (by rw[e];exact nb) (U.1 hbb)
  ·have:=(j4 q).2;rw[show t=Ap from I]at this;cases this
 ·obtain⟨
      O,j2,j3,j4⟩:=hJ;refine Ok.iF (by dsimp only;omega) ?_;rw[An]at O j4;refine Ok.range (λj (z:List (Tb×A7))=>z.length<=j/\(∀k∈z,KX d G k)/\J2 z*J2 (c.2.drop j)<=14641/\(∀w,Dk z w=Dk (c.2.take j) w)/\(z.Pairwise λk W=>k.2≠W.2)/\(cG G c->z=c.2.take j)) c.2.length ⟨by simp,by simp,by simpa [J2,GC]using h.bd.st,λw=>by simp,by simp,λ_=>by simp⟩ (by omega) (λj z nx hj T hn=>?_) (λz nx T=>?_)
  ·have L:=AN hj;have m:=h.vs _ (AT.2 (.inr (By.2 ⟨_,L,rfl⟩)));obtain⟨z1,F,z3,Z,z5,z6⟩:=T;obtain⟨a1,a2,a3⟩:=SO (fu:=f) (d:=d) hj z3 (λk o=>(F k o).cok) (h.cok _ L) (by omega);have g:=h.gd.1 _ L;have tk:c.2.take (j+1)=c.2.take j++[c.2[j]]:=IT hj;refine Ok.iu (Aal hj (Ok.Ab (ih m (by omega)) λr Q=>Ok.bif (λM=>Ok.some ⟨λq=>(by cases q),λq=>?_⟩) λM=>?_));· rw[Q.2 (q.2.1 _ L)]at M;cases M
   have H:=Q.1 (by simpa using M);have rq:cG G c->r.1=c.2[j].2:=λq=>by rw[Q.2 (q.2.1 _ L)]
   refine Ok.Ab (aq (l:=z) (λk o=>(F k o).vs) H.1 (by omega) (by omega)) λr10 R=>?_;obtain⟨i,q1,q2⟩:=r10;obtain⟨R,S⟩:=R;cases R;dsimp only at S⊢;refine Ok.ite (λhi=>IN a1 (Aby (hn _ ⟨by rw[Pd,Acp];omega,λk o=>?_,a2 _,λw=>?_,?_,λq=>?_⟩))) λhi=>?_
   ·rcases AT.1 o with o|o;· exact F k o
    ·rw[Aaf.1 o];exact⟨g.1,g.2.1,g.2.2,H.1,H.2⟩
   ·rw[tk,Db,Db,Z,EH,EH]
   ·refine Abg.2 ⟨z5,Acl ..,λx J y K=>?_⟩;rw[Aaf.1 K];rcases S with⟨n,E,e,_⟩|⟨_,e⟩;· omega
    ·exact e x J
   ·rw[tk,<-z6 q,rq q]
   ·obtain⟨n,E,rfl,e⟩:=S.resolve_right λe=>hi (by rw[e.1];decide);have kz:=F _ (AN E);have sum:∀w,Dk c.2 w=Dk z w+Dk [c.2[j]] w+Dk (c.2.drop (j+1)) w:=λw=>by
     rw[Z,<-Db,<-tk,<-Db,Ace]
    refine Aal E (Ok.Ab (a3 n E) λt I=>Aal E (hn _ ⟨by rw[Acn];omega,λk o=>?_,by rw[Abq];exact I.2 _,λw=>?_,?_,λq=>?_⟩))
    ·rcases List.mem_or_eq_of_mem_set o with o|o;· exact F k o
     ·rw[o];refine⟨λe0=>?_,I.1.1,I.1.2.1,kz.vs,kz.gd⟩;obtain⟨w,D⟩:=cq kz.ne kz.wf kz.cn;have e1:=congrFun I.1.2.2 w;dsimp only at e0;rw[e0,Ek,D]at e1;cases e1
    ·have tw:Aw t 0 w=(Aw z[n].1 0 w||Aw c.2[j].1 0 w):=congrFun I.1.2.2 w;have e5:=bp E (k:=c.2[j]) (x:=(t,z[n].2)) tw λU=>by
      have le:=V3 h.gd.2 w;have p1:=V1 (AN E) U.1;rw[sum w,EH,if_pos U.2]at le;omega
     rw[Abq,e5,Z,tk,Db]
    ·rw[Abq];have ez:(z.set n (t,z[n].2)).map (·.2)=z.map (·.2):=by
      rw[List.map_set];dsimp only;have:(z.map (·.2)).set n ((z.map (·.2))[n]'(by simpa using E))=z.map (·.2):=List.set_getElem_self ..;rw[Adf]at this;exact this
     have p:(z.map (·.2)).Pairwise (· ≠ ·):=Adv.2 z5;rw[<-ez]at p;exact Adv.1 p
    ·exfalso;have e6:=z6 q;have pw:=q.2.2.2;have l6:=congrArg List.length e6;rw[Aas]at l6;have nj:n<j:=by omega
     refine Abd.1 pw n j (by omega) hj nj ?_;rw[<-rq q,<-e];have:z[n]=c.2[n]'(by omega):=by simp only[e6,List.getElem_take]
     rw[this]
  ·refine Ok.iF (by dsimp only;omega) ?_;obtain⟨z1,F,z3,Z,z5,z6⟩:=T;rw[An]at Z z6;have z3:J2 z<=14641:=by simpa [J2,GC]using z3
   have il:∀k∈z,CZ k.1 (Aw k.1 0) 14641:=λk o=>(F k o).is (by have:=UP o;omega);have Y:∀x∈z,∀y∈z,HA y.1 x.1= -HA x.1 y.1/\(HA x.1 y.1=0->x.1=y.1):=λx J y K=>⟨JM _ _,(KD (fu:=f) (il x J) (il y K) (by decide) (by omega)).1⟩;refine Ok.Ab (YT (fu:=f) (l:=z) (by omega) (by omega) (c:=λk W=>HA k.1 W.1) (λx J y K q=>by have:=(Y x J y K).1;omega) λx J y K=>?_) λr15 v=>Ok.some ⟨λ_ I=>⟨⟨⟨?_,?_,λg hg=>?_,?_,λk o=>?_,λk o s hs=>?_⟩,⟨λg hg=>?_,h.fl.2.of ?_⟩,⟨λk o=>?_,h.gd.2.of ?_ λw=>?_⟩,λw D=>?_⟩,⟨λf hf=>⟨j3 I f hf,(j2 f hf).2⟩,λk o=>?_,?_,?_⟩⟩,λq=>?_⟩;· refine(Ok.eq ?_);rw[dz];exact IN (E' (il x J) (il y K) (by decide) (by omega)) (Ok.some rfl)
   ·have:=congrArg List.length O;simp only[Aah]at this;dsimp only;omega
   ·dsimp only;rw[v.1.1.length_eq];omega
   ·have:(g.1,g.2.1)∈s.map (λf=>(f.1,f.2.1)):=By.2 ⟨g,hg,rfl⟩;rw[O]at this;obtain⟨g',V,e⟩:=By.1 this;rw[show g.1=g'.1 from(congrArg Prod.fst e).symm];exact h.bd.lb g' V
   ·dsimp only;rw[Zk (v.1.1.map _)];exact z3
   ·exact(F k (v.1.1.mem_iff.1 o)).wf.by
   ·exact((F k (v.1.1.mem_iff.1 o)).wf s hs).len
   ·have:(g.1,g.2.1)∈s.map (λf=>(f.1,f.2.1)):=By.2 ⟨g,hg,rfl⟩;rw[O]at this;obtain⟨g',V,e⟩:=By.1 this;rw[show g.2.1=g'.2.1 from(congrArg Prod.snd e).symm];exact h.fl.1 g' V
   ·have:=congrArg (List.map Prod.fst) O;simpa [Aao,Function.comp_def]using this
   ·have W:=F k (v.1.1.mem_iff.1 o);exact⟨W.ne,W.wf,W.cn⟩
   ·have:=congrArg (List.map Prod.fst) O;simpa [Aao,Function.comp_def]using this
   ·rw[XC v.1.1,Z]
   ·rcases AT.1 D with D|D;· obtain⟨g,hg,rfl⟩:=By.1 D;exact(j2 g hg).1
    ·obtain⟨k,o,rfl⟩:=By.1 D;exact(F k (v.1.1.mem_iff.1 o)).vs
   ·exact(F k (v.1.1.mem_iff.1 o)).gd
   ·have mem:=λx=>(v.1.1.mem_iff (a:=x)).1;refine Lc (B:=λx y=>x.1=y.1) (λx J y K=>Y x (mem x J) y (mem y K)) ?_ v.1.2;exact(v.1.1.pairwise_iff (λ{x y} q e=>q e.symm)).2 (V2 (λk o=>cq (F k o).ne (F k o).wf (F k o).cn) λw=>by rw[Z];exact V3 h.gd.2 w)
   ·exact(v.1.1.pairwise_iff (λ{x y} q e=>q e.symm)).2 z5
   ·have e:=v.2 (Ni (λx J y K=>(Y x J y K).1) (by rw[z6 q];exact q.2.2.1));dsimp only;rw[e,z6 q,(j4 q).1,(j4 q).2]
structure GdV(d:Nat)(G:A7->Prop)(v:Vl):Prop where
 ls:∀c∈v.lists,iL G c
 ss:∀c∈v.structs,cG G c
 la:AC (nn (Fz d)) v.lists
 lo:EN (λp q=>EI (CW d) p q<0) v.lists
 sa:AC (dS (Fz d)) v.structs
 so:EN (λp q=>FX (CW d) p q<0) v.structs
 ev:¬EvX v
def Gb:Nat->Vl->Prop
 |0,_=>True
 |d+1,v=>v.any=Ap->GdV d (λx=>(Gb d x.1/\Gb d x.2)/\Fz d x.2 x.1) v
def JW(d:Nat)(x:A7):Prop:=(Gb d x.1/\Gb d x.2)/\Fz d x.2 x.1
theorem ni{l:List α}(h:l.Pairwise λx y=> ¬B x y/\¬B y x):AC B l:=λi j a b ne=>by
 rcases Aak i j with q|q;· exact(Abd.1 h i j a b q).1
 ·exact(Abd.1 h j i b a (by omega)).2
theorem nN(d:Nat):SV (d+1) (.mk Br Fw [] []):=⟨⟨(L1 d).1.1,⟨Abh _,λc hc=>by cases hc⟩,⟨Abh _,λc hc=>by cases hc⟩,λx a=>by cases a⟩,⟨λ_=>⟨rfl,rfl,rfl⟩,QJ,λc hc=>(by cases hc),λc hc=>by cases hc⟩,λx a=>by cases a⟩
theorem SV.lx{v:Vl}(h:SV (d+1) v):∀c∈v.lists,LX d c:=λc hc=>⟨(h.1.2.1.2 c hc).1,h.2.1.rs c hc,h.lv hc⟩
theorem SV.cx{v:Vl}(h:SV (d+1) v):∀c∈v.structs,CX d c:=λc hc=>⟨h.1.2.2.1.2 c hc,(h.2.1.st c hc).1,(h.2.1.st c hc).2,h.sv hc⟩
theorem OV(k:∀ {fu:Nat} {v:Vl},SV d v->1000000003000+10*d<fu->Ok (X9 fu v) λr=>(r.2=Br->SV d r.1/\Gb d r.1)/\(Gb d v->r=(v,Br)))(o:d<=3)(j:SW d x)(n:1000000003000+10*d+1<fu):
  Ok (Lu fu x) λr=>(r.2=Br->SW d r.1/\JW d r.1)/\(JW d x->r=(x,Br)):=by
 obtain⟨e,rfl⟩:∃e,fu=e+1:=⟨fu-1,by omega⟩;rw[show Lu (e+1) x=_ from d249 e x];unfold xg;refine Ok.Ab (k j.1 (by omega)) λr f=>Ok.Ab (k j.2 (by omega)) λs g=>?_;refine Ok.bif (λa=>Ok.bif (λc=>?_) λc=>Ok.some ⟨λh=>(by cases h),λq=>?_⟩) λa=>Ok.some ⟨λh=>(by cases h),λq=>?_⟩;· refine Ok.Ab (JR (g.1 c).1 (f.1 a).1 (by omega)) λb i=>Ok.some ⟨λq=>⟨⟨(f.1 a).1,(g.1 c).1⟩,⟨(f.1 a).2,(g.1 c).2⟩,i.1 q⟩,λq=>?_⟩;have l:=f.2 q.1.1;have m:=g.2 q.1.2;subst l m;rw[i.2 q.2]
 ·rw[g.2 q.1.2]at c;cases c
 ·rw[f.2 q.1.1]at a;cases a
theorem SC:∀ {d fu:Nat} {v:Vl},d<=3->SV d v->1000000003000+10*d<fu->Ok (X9 fu v) λr=>(r.2=Br->SV d r.1/\Gb d r.1)/\(Gb d v->r=(v,Br))
 |0,_,_,_,h,_=>h.1.elim
 |d+1,fu,v,Y,w,J=>by
  have Q:=mZ;have P:=m_;obtain⟨f,rfl⟩:∃f,fu=f+3:=⟨fu-3,by omega⟩;have L:∀ {fu:Nat} {x:A7},SW d x->1000000003000+10*d+1<fu->Ok (Lu fu x) λr=>(r.2=Br->SW d r.1/\JW d r.1)/\(JW d x->r=(x,Br)):=
   OV (λh J=>SC (by omega) h J) (by omega);have sb:=w.sb;obtain⟨I,⟨W,_⟩,⟨X,_⟩,_⟩:=id w.1;have O:=sb.2.1;rw[show X9 (f+3) v=_ from d248 (f+2) v];unfold xh;refine Ok.bif (λG=>Ok.some ⟨λ_=>⟨w,λh=>by rw[G]at h;cases h⟩,λ_=>rfl⟩) λG=>IN (Sm O (by omega) (by decide) (by omega)) ?_;have p:Gb (d+1) v->GdV d (JW d) v:=λq=>q G;refine Ok.range (λk (s:List Ie)=>s.length<=k/\(∀c∈s,LX d c/\iL (JW d) c)/\(Gb (d+1) v->s=v.lists.take k)) v.lists.length ⟨by simp,by simp,λ_=>by simp⟩ (by omega) (λk s nx u H F=>?_) (λs nx H=>?_)
  ·have o:=AN u;obtain⟨T,B,C⟩:=H;refine Ok.iu (Aal u (Ok.Ab (ig (by omega) L (w.lx _ o) (by omega)) λr n=>Ok.bif (λj=>Ok.some ⟨λq=>(by cases q),λq=>?_⟩) λj=>Ok.bif (λm=>Aby (F _ ⟨by dsimp only;rw[Pd,Acp];omega,λc hc=>?_,λq=>?_⟩)) λm=>F _ ⟨by dsimp only;omega,B,λq=>?_⟩));· rw[n.2 ((p q).ls _ o)]at j;cases j
   ·rcases AT.1 hc with hc|hc;· exact B c hc
    ·rw[Aaf.1 hc];exact n.1 (by simpa using j) m
   ·dsimp only;rw[C q,n.2 ((p q).ls _ o),IT u]
   ·rw[n.2 ((p q).ls _ o)]at m;cases m
  obtain⟨T,B,C⟩:=H;rw[Aau]at C;refine Ok.iF (by dsimp only;omega) ?_;refine Ok.range (λk (z:List Bx)=>z.length<=k/\(∀c∈z,CX d c/\cG (JW d) c)/\(Gb (d+1) v->z=v.structs.take k)) v.structs.length ⟨by simp,by simp,λ_=>by simp⟩ (by omega) (λk z nx u t F=>?_) (λz nx t=>?_)
  ·have o:=AN u;obtain⟨U,D,E⟩:=t;refine Ok.iu (Aal u (Ok.Ab (ie (by omega) L (w.cx _ o) (by omega)) λr n=>Ok.bif (λj=>Ok.some ⟨λq=>(by cases q),λq=>?_⟩) λj=>Ok.bif (λm=>Aby (F _ ⟨by dsimp only;rw[Pd,Acp];omega,λc hc=>?_,λq=>?_⟩)) λm=>F _ ⟨by dsimp only;omega,D,λq=>?_⟩));· rw[n.2 ((p q).ss _ o)]at j;cases j
   ·rcases AT.1 hc with hc|hc;· exact D c hc
    ·rw[Aaf.1 hc];exact n.1 (by simpa using j) m
   ·dsimp only;rw[E q,n.2 ((p q).ss _ o),IT u]
   ·rw[n.2 ((p q).ss _ o)]at m;cases m
  obtain⟨U,D,E⟩:=t;rw[Aau]at E;refine Ok.io (Ok.Ab (fH (l:=s) (by omega) (λc hc=>(B c hc).1) (by omega) (by omega)) λy a=>Ok.Ab (fG (l:=z) (by omega) (λc hc=>(D c hc).1) (by omega) (by omega)) λA i=>?_);have sv:SV (d+1) (Vl.mk Ap v.sc y A):=YJ I w.2.1.sc (by have:=a.1.1;omega) (by have:=i.1.1;omega) (λc hc=>(B c (a.1.2 c hc)).1) λc hc=>(D c (i.1.2 c hc)).1;have whole:Gb (d+1) v->Vl.mk Ap v.sc y A=v:=λq=>by have g:=p q;have R:=a.2.2.2 (by rw[C q];exact g.la) (by rw[C q];exact g.lo);have S:=i.2.2.2 (by rw[E q];exact g.sa) (by rw[E q];exact g.so);rw[R,S,C q,E q];exact Ajj (show Ap=v.any from G.symm) rfl rfl rfl
  refine Ok.Ab (aP (v:=Vl.mk Ap v.sc y A) (Fh I w.2.1.sc) (by decide) (by decide) (by omega)) λb K=>Ok.bif (λh=>Ok.some ⟨λ_=>⟨nN d,λq=>by cases q⟩,λq=>?_⟩) λh=>Ok.some ⟨λ_=>⟨sv,λ_=>⟨λc hc=>(B c (a.1.2 c hc)).2,λc hc=>(D c (i.1.2 c hc)).2,ni a.2.1,a.2.2.1,ni i.2.1,i.2.2.1,λq=>?_⟩⟩,λq=>?_⟩;· have e:=K.1 h;rw[whole q]at e;exact absurd e (p q).ev
  ·rw[K.2 q]at h;cases h
  ·rw[whole q]
def Ic(d:Nat)(x:A7):Prop:=SW d x/\JW d x
theorem RB(c:JZ d x)(g:d<=3)(j:1000000005000<fu):Ok (QE fu x) λr=>(r.2=0->Ic d r.1)/\(JZ d r.1)/\(Ic d x->r=(x,0)):=by
 have m:d≠0:=by rintro rfl;exact c.1.elim
 obtain⟨d,rfl⟩:∃e,d=e+1:=⟨d-1,by omega⟩;have no:(¬Ic (d+1) x)->Ok (Ac ((v0,v0),(11:Int))) λr=>(r.2=0->Ic (d+1) r.1)/\(JZ (d+1) r.1)/\(Ic (d+1) x->r=(x,0)):=λn=>Ok.some ⟨λh=>(by cases h),⟨(L1 d).1,(L1 d).1⟩,λh=>absurd h n⟩;rw[QE];refine Ok.Ab (WR c g (by omega)) λb k=>Ok.bif (λh=>no λq=>?_) λh=>?_;· rw[k.2 ⟨q.1.1.2,q.1.2.2⟩]at h;cases h
 have l:=k.1 (by simpa using h);have o:SW (d+1) x:=⟨⟨c.1,l.1⟩,c.2,l.2⟩;refine Ok.Ab (OV (λh j=>SC g h j) g o (by omega)) λr i=>Ok.bif (λa=>no λq=>?_) λa=>?_;· rw[i.2 q.2]at a;cases a
 ·have f:=i.1 (by simpa using a);exact Ok.some ⟨λ_=>f,⟨f.1.1.1,f.1.2.1⟩,λq=>by rw[i.2 q.2]⟩
theorem WB(c:JZ d x)(j:d<=3)(g:1000000005000<fu):Ok (NR fu x) λr=>r=Br↔Ic d x:=by
 rw[NR];obtain⟨⟨y,e⟩,k,l,i,b⟩:=RB (fu:=fu) c j g;refine IN k (Ok.ite (λh=>Ok.Ab (Mb i c (by omega)) λr a=>Ok.some ⟨λf=>?_,λq=>?_⟩) λh=>Ok.some ⟨λq=>(by cases q),λq=>?_⟩);· have h:e=0:=h;obtain rfl:y=x:=a.1 f;exact l h
 ·exact a.2 (congrArg Prod.fst (b q))
 ·exact absurd (congrArg Prod.snd (b q)) h
open Classical in
noncomputable def GS(v:A7):Vl:=if NB v.2 then v.2 else v.1
open Classical in
noncomputable def alt(D:Vl):Nat:=D.lists.length+D.structs.length+if D.sc=Fw then 0 else 1
open Classical in
noncomputable def err(d:Nat)(v:A7)(n:Nat):Int:=if¬Ic d v then 11 else if¬NB v.1 then 12 else if(GS v).any=Br\/0<n/\1<alt (GS v)then 14 else if n=0 then 11 else 0
theorem RZ{l:List α}{d:α}(h:0<l.length):l[0]=l.headD d:=by
 cases l with
 |nil=>cases h
 |cons c l=>rfl
theorem SV.n3{v:Vl}(h:SV d v):v.lists.length<=3/\v.structs.length<=3:=by
 cases d with
 |zero=>exact h.1.elim
 |succ d=>exact⟨h.1.2.1.1,h.1.2.2.1.1⟩
theorem SV.scv{v:Vl}(h:SV d v):Ld 5 12 v.sc:=by
 cases d with
 |zero=>exact h.1.elim
 |succ d=>exact Fh h.1.1 h.2.1.sc
theorem Mg(h:Ic d v):SV d (GS v):=by
 unfold GS;split;· exact h.1.2
 ·exact h.1.1
theorem Y4(h:Ic d v):Gb d (GS v):=by
 unfold GS;split;· exact h.2.1.2
 ·exact h.2.1.1
theorem Og(b:d<=3)(f:JZ d v)(h:Ic d v)(a:1000000005000<fu):QE fu v=Ac (v,0):=by obtain⟨r,e,_,_,c⟩:=RB (fu:=fu) f b a;rw[e,c h]
theorem Ly(f:d<=3)(g:JZ d v)(c:1000000005000<fu):(Ic d v/\NR fu v=Ac Br)\/(¬Ic d v/\NR fu v=Ac Ap):=by
 obtain⟨b,e,a⟩:=WB (fu:=fu) g f c;cases b with
 |true=>exact .inl ⟨a.1 rfl,e⟩
 |false=>exact .inr ⟨λh=>(by cases a.2 h),e⟩
theorem TC(g:d<=3)(i:JZ d v)(h:Ic d v)(c:1000000005000<fu):jl fu v=Ac (GS v):=by
 have e:NR fu v=Ac Br:=((Ly g i c).resolve_right λk=>k.1 h).2;refine(Ok.eq ?_);rw[jl];refine IN (Og g i h c) (Ok.iF (by simp) (IN e (Ok.F rfl (Ok.Ab (D6 h.1.2.sb (by omega)) λb f=>Ok.bif (λq=>Ok.some ?_) λq=>Ok.some ?_))));· unfold GS;rw[if_neg (f.1 q)]
 ·unfold GS;rw[if_pos (GB λn=>by rw[f.2 n]at q;cases q)]
theorem of_eq(f:d<=3)(i:JZ d v)(a:1000000005000<fu):Ok (dm fu v) λr=>(¬Ic d v/\r.2=11)\/(Ic d v/\¬NB v.1/\r.2=12)\/(Ic d v/\NB v.1/\r.2=0/\r.1.1=GS v/\(r.1.2=Br↔(GS v).sc≠Fw)):=by
 rw[dm];rcases Ly f i a with⟨h,e⟩|⟨h,e⟩
 ·refine IN e (Ok.F rfl (Ok.Ab (D6 h.1.1.sb (by omega)) λb c=>Ok.bif (λq=>Ok.some (.inr (.inl ⟨h,c.1 q,rfl⟩))) λq=>IN (TC f i h a) ?_));have j:NB v.1:=GB λn=>by rw[c.2 n]at q;cases q
  have s:=Mg h;refine Ok.Ab (II (s.scv) (by decide) (by decide) (by omega)) λr g=>Ok.some (.inr (.inr ⟨h,j,rfl,rfl,?_⟩));cases r with
  |true=>exact⟨λk=>(by cases k),λk=>absurd (g.1 rfl) k⟩
  |false=>exact⟨λ_ k=>(by cases g.2 k),λ_=>rfl⟩
 ·exact IN e (Ok.T rf (Ok.some (.inl ⟨h,rf⟩)))
theorem Q0{s:Bool}(h:Ic d v)(nb:NB v.1)(b:s=Br↔(GS v).sc≠Fw)(g:n<=3):dk fu ((GS v,s),(n:Int))=Ac (err d v n):=by
 have sv:=Mg h;have i:=sv.n3.1;have j:=sv.n3.2;have e:jk fu (GS v,s)=Ac (alt (GS v):Int):=by
  refine(Ok.eq ?_);rw[jk];refine Aaq (Ok.bif (λq=>Aaq (Ok.some ?_)) λq=>Ok.some ?_);· unfold alt;rw[if_neg (b.1 q)];dsimp only;omega
  ·unfold alt;rw[if_pos (GB λk=>by rw[b.2 k]at q;cases q)];dsimp only;omega
 have c:err d v n=if(GS v).any=Br\/0<n/\1<alt (GS v)then 14 else if n=0 then 11 else 0:=by unfold err;rw[if_neg (λk=>k h),if_neg (λk=>k nb)]
 rw[c];refine(Ok.eq ?_);rw[dk];refine Ok.bif (λa=>Ok.some (if_pos (.inl a)).symm) λa=>Ok.ite (λf=>IN e (Ok.ite (λq=>Ok.some (if_pos (.inr ⟨by omega,by omega⟩)).symm) λq=>Ok.io (Ok.some ?_))) λf=>Ok.iu (Ok.some ?_)
 ·rw[if_neg (λk=>by
    rcases k with k|k; · rw[k]at a;cases a
    ·omega),if_neg (by omega)]
 ·rw[if_neg (λk=>by
    rcases k with k|k; · rw[k]at a;cases a
    ·omega),if_pos (by omega)]
theorem P5(h:err d v n=0):Ic d v/\NB v.1/\0<n/\(GS v).any=Ap:=by
 unfold err at h;split at h;· cases h
 split at h;· cases h
 split at h;· cases h
 split at h;· cases h
 rename_i a b c e;exact⟨GB a,GB b,by omega,by simpa using λk=>c (.inl k)⟩
noncomputable def GY(d:Nat)(v:A7):Bx×Int:=if err d v (GS v).structs.length=0 then((GS v).structs.headD ([],[]),0)else(([],[]),err d v (GS v).structs.length)
noncomputable def I6(d:Nat)(v:A7):Ie×Int:=if err d v (GS v).lists.length=0 then((GS v).lists.headD ([],[]),0)else(([],[]),err d v (GS v).lists.length)
theorem Ph(j:d<=3)(m:JZ d v)(i:1000000005000<fu):jj fu v=Ac (GY d v):=by
 refine(Ok.eq ?_);rw[jj];refine Ok.Ab (of_eq j m i) λr l=>?_;rcases l with⟨h,e⟩|⟨h,c,e⟩|⟨h,c,e,f,g⟩;· have b:∀n,err d v n=11:=λn=>if_pos h;refine Ok.io (Ok.iu (Ok.some ?_));unfold GY;rw[b,e,if_neg (by decide)]
 ·have b:∀n,err d v n=12:=λn=>(if_neg (λk=>k h)).trans (if_pos c);refine Ok.io (Ok.iu (Ok.some ?_));unfold GY;rw[b,e,if_neg (by decide)]
 ·obtain⟨⟨D,s⟩,z⟩:=r;dsimp only at e f g⊢;subst f;have o:=(Mg h).n3.2;refine Ok.iT e (IN (Q0 h c g o) (Ok.ite (λk=>Ok.some ?_) λk=>?_));· unfold GY;rw[if_neg k]
  ·have k:err d v (GS v).structs.length=0:=GB k;have p:=(P5 k).2.2.1;refine Aeb (by decide) (by omega) (Ok.some ?_);unfold GY;rw[if_pos k];exact congrArg (·,(0:Int)) (RZ p)
theorem Tj(j:d<=3)(m:JZ d v)(i:1000000005000<fu):ji fu v=Ac (I6 d v):=by
 refine(Ok.eq ?_);rw[ji];refine Ok.Ab (of_eq j m i) λr l=>?_;rcases l with⟨h,e⟩|⟨h,c,e⟩|⟨h,c,e,f,g⟩;· have a:∀n,err d v n=11:=λn=>if_pos h;refine Ok.io (Ok.iu (Ok.some ?_));unfold I6;rw[a,e,if_neg (by decide)]
 ·have a:∀n,err d v n=12:=λn=>(if_neg (λk=>k h)).trans (if_pos c);refine Ok.io (Ok.iu (Ok.some ?_));unfold I6;rw[a,e,if_neg (by decide)]
 ·obtain⟨⟨D,s⟩,z⟩:=r;dsimp only at e f g⊢;subst f;have o:=(Mg h).n3.1;refine Ok.iT e (IN (Q0 h c g o) (Ok.ite (λk=>Ok.some ?_) λk=>?_));· unfold I6;rw[if_neg k]
  ·have k:err d v (GS v).lists.length=0:=GB k;have p:=(P5 k).2.2.1;refine Aeb (by decide) (by omega) (Ok.some ?_);unfold I6;rw[if_pos k];exact congrArg (·,(0:Int)) (RZ p)
noncomputable def Yl(d:Nat)(v:A7)(s:Au):A7×Int:=if(GY d v).2=0 then match(GY d v).1.1.find? (λf=>decide (f.1=s))with
 |some f=>(f.2.2,0)
 |none=>((v0,v0),13)else((v0,v0),(GY d v).2)
noncomputable def ind(d:Nat)(v:A7)(i:Int):A7×Int:=if(I6 d v).2=0 then if i<0 then((v0,v0),1)else if h:i.toNat<(I6 d v).1.1.length then((I6 d v).1.1[i.toNat],0)else if 0<(I6 d v).1.2.length then((v0,v0),14)else((v0,v0),13)else((v0,v0),(I6 d v).2)
end
section
variable {d : Nat} (hd : d <= 3) {v : A7} {fu : Nat} (hx : JZ d v) (hF : 1000000005000 < fu)
section
variable{e:Int}
theorem QR{c:Bx}(h:GY d v=(c,e)):(e≠0->c=([],[]))/\(e=0->Ic d v/\NB v.1/\(GS v).any=Ap/\c∈(GS v).structs):=by
 unfold GY at h;split at h;· rename_i k;obtain⟨f,g,b,i⟩:=P5 k;cases h;refine⟨λq=>absurd rfl q,λ_=>⟨f,g,i,?_⟩⟩;cases j:(GS v).structs with
  |nil=>rw[j]at b;cases b
  |cons c l=>exact Aaj ..
 ·cases h;exact⟨λ_=>rfl,λq=>absurd q (by assumption)⟩
theorem YH{c:Ie}(h:I6 d v=(c,e)):(e≠0->c=([],[]))/\(e=0->Ic d v/\NB v.1/\(GS v).any=Ap/\c∈(GS v).lists):=by
 unfold I6 at h;split at h;· rename_i k;obtain⟨f,g,b,i⟩:=P5 k;cases h;refine⟨λq=>absurd rfl q,λ_=>⟨f,g,i,?_⟩⟩;cases j:(GS v).lists with
  |nil=>rw[j]at b;cases b
  |cons c l=>exact Aaj ..
 ·cases h;exact⟨λ_=>rfl,λq=>absurd q (by assumption)⟩
theorem TY(h:Ic (d+1) v)(j:(GS v).any=Ap):(∀c∈(GS v).structs,c.1.length<=4/\(∀f∈c.1,Ic d f.2.2/\NB f.2.2.1))/\∀c∈(GS v).lists,c.1.length<=3/\c.2.length<=1/\∀x∈A1 c,Ic d x/\NB x.1:=by
 have sv:=Mg h;have g:GdV d (JW d) (GS v):=Y4 h j;refine⟨λc hc=>⟨(sv.cx c hc).bd.nf,λf i=>?_⟩,λc hc=>⟨(sv.lx c hc).n1,(sv.lx c hc).n2,λx hx=>?_⟩⟩;· have k:=(g.ss c hc).1 f i;exact⟨⟨(sv.cx c hc).vs _ (AT.2 (.inl (By.2 ⟨f,i,rfl⟩))),k.2⟩,k.1⟩
 ·have s:=(sv.lx c hc).vs x hx;rcases AT.1 hx with q|q;· have k:=(g.ls c hc).1 x q;exact⟨⟨s,k.2⟩,k.1⟩
  ·have k:=(g.ls c hc).2 x q;exact⟨⟨s,k.2⟩,k.1⟩
include hd hx hF
theorem WU{s:Au} :SZ fu (v,s)=Ac (Yl d v s):=by
 refine Ok.eq ?_;rw[SZ];refine IN (Ph hd hx hF) (Ok.ite (λh=>Ok.some (if_neg h).symm) λh=>?_);have h:(GY d v).2=0:=GB h;have o:(GY d v).1.1.length<=4:=by
  have k:=(QR (d:=d) (v:=v) rfl).2 h;exact match d,k with
  |0,k=>k.1.1.1.1.elim
  |d+1,k=>((TY k.1 k.2.2.1).1 _ k.2.2.2).1
 refine Ok.count (λk=> ∀f∈(GY d v).1.1.take k,f.1≠s) (GY d v).1.1.length (by simp) (by omega) (λk nx i c m=>?_) (λnx c=>?_)
 ·refine Ok.iu (Aal i (Ok.ite (λq=>Ok.some ?_) λq=>m λf g=>?_))
  ·unfold Yl;rw[if_pos h];have e:(GY d v).1.1.find? (λf=>decide (f.1=s))=Ac (GY d v).1.1[k]:=by
    rw[Aeq];exact⟨by simpa using q,k,i,rfl,λj n=>by have:=c _ (Adp.2 ⟨j,by omega,rfl⟩);simpa using this⟩
   rw[e]
  ·rcases(Ai i).1 g with g|rfl;· exact c f g
   ·exact q
 ·rw[Aau]at c;refine Ok.io (Ok.some ?_);unfold Yl;rw[if_pos h];have e:(GY d v).1.1.find? (λf=>decide (f.1=s))=C7:=by
   rw[Adr];intro f g;simpa using c f g
  rw[e];rfl
theorem Xi{i:Int} :dj fu (v,i)=Ac (ind d v i):=by refine Ok.eq ?_;rw[dj];refine IN (Tj hd hx hF) (Ok.ite (λh=>Ok.some (if_neg h).symm) λh=>?_);have h:(I6 d v).2=0:=GB h;unfold ind;rw[if_pos h];refine Ok.ite (λq=>Ok.some (if_pos q).symm) λq=>?_;rw[if_neg q];refine Ok.ite (λk=>Aeb (by omega) k (Ok.some (by rw[dif_pos (by omega:i.toNat<(I6 d v).1.1.length)]))) λk=>?_;rw[dif_neg (by omega)];exact Ok.ite (λm=>Ok.some (if_pos (by omega)).symm) λm=>Ok.some (if_neg (by omega)).symm
end
end
section
variable{fu d:Nat}{v:A7}{α:Type}{l:List α}{f:α->α->Option Int}{E:Option Int}{P:Int->Prop}
theorem n6{s:Au} :((Yl (d+1) v s).2=0->Ic d (Yl (d+1) v s).1/\NB (Yl (d+1) v s).1.1)/\((Yl (d+1) v s).2≠0->(Yl (d+1) v s).1=(v0,v0)):=by
 unfold Yl;split
 ·rename_i h;have k:=(QR (d:=d+1) (v:=v) rfl).2 h;split;· rename_i f e;exact⟨λ_=>((TY k.1 k.2.2.1).1 _ k.2.2.2).2 f (Abv e),λq=>absurd rfl q⟩
  ·exact⟨λq=>(by cases q),λ_=>rfl⟩
 ·rename_i h;exact⟨λq=>absurd q h,λ_=>rfl⟩
theorem qg{i:Int} :((ind (d+1) v i).2=0->Ic d (ind (d+1) v i).1/\NB (ind (d+1) v i).1.1)/\((ind (d+1) v i).2≠0->(ind (d+1) v i).1=(v0,v0)):=by
 unfold ind;split
 ·rename_i h;have k:=(YH (d:=d+1) (v:=v) rfl).2 h;split;· exact⟨λq=>(by cases q),λ_=>rfl⟩
  split;· exact⟨λ_=>((TY k.1 k.2.2.1).2 _ k.2.2.2).2.2 _ (AT.2 (.inl (AN _))),λq=>absurd rfl q⟩
  split;· exact⟨λq=>(by cases q),λ_=>rfl⟩
  ·exact⟨λq=>(by cases q),λ_=>rfl⟩
 ·rename_i h;exact⟨λq=>absurd q h,λ_=>rfl⟩
def Wr(s:Au×Int):Prop:=(s.1≠ []->s.2=0)/\(s.1=[]->0<=s.2/\s.2<=1000000)
open Classical in
noncomputable def one(d:Nat)(v:A7)(s:Au×Int):A7×Int:=if¬Wr s then((v0,v0),1)else if s.1≠ []then Yl d v s.1 else ind d v s.2
noncomputable def Lb:Nat->A7->List (Au×Int)->A7×Int
 |_,v,[]=>(v,0)
 |d,v,s::l=>if(one d v s).2≠0 then((v0,v0),(one d v s).2)else Lb (d-1) (one d v s).1 l
theorem Zo{s:Au×Int} :(one (d+1) v s).2=0->Ic d (one (d+1) v s).1/\NB (one (d+1) v s).1.1:=by
 unfold one
 split
 ·intro h;cases h
 split
 ·exact n6.1
 ·exact qg.1
theorem Wj:∀ {l:List (Au×Int)} {d:Nat} {v:A7},(Lb d v l).2≠0->(Lb d v l).1=(v0,v0)
 | [],_,_,h=>absurd rfl h
 |s::l,d,v,h=>by
  unfold Lb at h⊢
  split
  ·rfl
  ·rename_i k
   rw[if_neg k]at h
   exact Wj h
theorem Ul:∀ {l:List (Au×Int)} {d:Nat} {v:A7},Ic d v->(Lb d v l).2=0->∃e,e<=d/\e=d-l.length/\Ic e (Lb d v l).1
 | [],d,v,h,_=>⟨d,Aad _,rfl,h⟩
 |s::l,0,v,h,_=>h.1.1.1.elim
 |s::l,d+1,v,h,k=>by
  unfold Lb at k⊢
  by_cases q:(one (d+1) v s).2=0
  ·rw[if_neg (λn=>n q)]at k⊢
   obtain⟨e,h1,h2,h3⟩:=Ul (l:=l) (d:=d) (Zo q).1 k
   exact⟨e,by omega,by rw[Aav];omega,h3⟩
  ·rw[if_pos q]at k
   exact absurd k q
theorem Wk:∀ {a b:List (Au×Int)} {d:Nat} {v:A7},Lb d v (a++b)=if(Lb d v a).2≠0 then Lb d v a else Lb (d-a.length) (Lb d v a).1 b
 | [],b,d,v=>by rw[if_neg (λh=>h rfl)];rfl
 |s::a,b,d,v=>by
  rw[Adt]
  show(if(one d v s).2≠0 then((v0,v0),(one d v s).2)else Lb (d-1) (one d v s).1 (a++b))=_
  have e:Lb d v (s::a)=if(one d v s).2≠0 then((v0,v0),(one d v s).2)else Lb (d-1) (one d v s).1 a:=rfl
  rw[e]
  by_cases q:(one d v s).2=0
  ·have c:∀x:A7×Int,(if(one d v s).2≠0 then((v0,v0),(one d v s).2)else x)=x:=λx=>if_neg λn=>n q
   rw[c,c,Wk,Aav,Nat.sub_sub,Nat.add_comm 1]
  ·have c:∀x:A7×Int,(if(one d v s).2≠0 then((v0,v0),(one d v s).2)else x)=((v0,v0),(one d v s).2):=λx=>if_pos q
   rw[c,c];exact(if_pos q).symm
theorem Mz{x:Int} :GR fu (x,x)=Ac 0:=by
 refine Ok.eq ?_;rw[GR]
 exact Ok.io (Ok.io (Ok.some rf))
theorem YM{x:Au} :iU fu (x,x)=Ac 0:=by
 rw[iU]
 rw[Qk];simp
theorem Oh(hf:l.length<fu)(h:∀x∈l,f x x=Ac 0)(hE:Ok E P):
  Ok (Ad fu (λ(z1:Nat) nx2=>bif decide ((z1:Int)<(l.length:Int))then Ab (idx l (z1:Int)) λr3=>Ab (idx l (z1:Int)) λr4=>Ab (f r3 r4) λr5=>bif decide (r5≠(0:Int))then Ac r5 else nx2 (z1+1)else E) 0) P:=
 Ok.count (λ_=>True) l.length trivial hf (λk nx hk _ hn=>Ok.iu (Aal hk (Aal hk (IN (h _ (AN hk)) (Ok.iF (by decide) (hn trivial)))))) λnx _=>Ok.io hE
theorem Gq(hf:l.length<fu)(h:∀x∈l,f x x=Ac 0)(hE:Ok E P):
  Ok (Ad fu (λ(z1:Nat) nx2=>bif decide ((z1:Int)<(l.length:Int))then bif decide ((z1:Int)<(l.length:Int))then Ab (idx l (z1:Int)) λr3=>Ab (idx l (z1:Int)) λr4=>Ab (f r3 r4) λr5=>bif decide (r5≠(0:Int))then Ac r5 else nx2 (z1+1)else E else E) 0) P:=
 Ok.count (λ_=>True) l.length trivial hf (λk nx hk _ hn=>Ok.iu (Ok.iu (Aal hk (Aal hk (IN (h _ (AN hk)) (Ok.iF (by decide) (hn trivial))))))) λnx _=>Ok.io hE
theorem Om(hF:1000000000000<fu):cT fu []=Ac ([],Ap):=by
 have h:CZ [] (λ_=>Ap) 0:=CZ.nil
 refine Ok.eq ?_;rw[cT]
 have key:iW fu ([],1)=Ac []:=by
  refine Ok.eq ?_;rw[iW]
  refine IN (MS (n:=256) h.wf.by (h.wf.sh (by simp) (by decide)) (by omega) (by omega) (by omega)) ?_
  rw[h.Ju];exact Ok.iT rfl (Ok.some rfl)
 exact IN key (Ok.iT rf (Ok.some rf))
theorem Ox{a:Tb}{L:Lg}{m:Nat}(ha:CZ a L m)(hm:(m+2)*(m+2)<=1000000000)(hF:1000000000000<fu):cR fu (a,a)=Ac 0:=by
 obtain⟨h1,_,_,e⟩:=IJ ha ha hm hF
 have n:S' a a=[]:=h1.Gr.2 (funext λw=>by cases L w<;>rfl)
 rw[n]at e
 refine Ok.eq ?_;rw[cR]
 exact IN e (IN (Om hF) (IN e (IN (Om hF) (Ok.T rf (Ok.T rf (Ok.some rf))))))
theorem eD{x:Sc}(hx:Ld 5 12 x)(hF:1000000000000<fu):iV fu (x,x)=Ac 0:=by
 have w:=hx.sc (by decide:5<=12)
 have n1:=hx.n1;have n2:=hx.n2
 have t:SY fu x=Ac Br:=by obtain⟨b,e,j⟩:=YC (fu:=fu) w (by decide) hF;rw[e,j.2 ⟨hx.nu,hx.ln.wf,hx.ln.can⟩]
 obtain⟨n,k,b,_⟩:=JJ (fu:=fu) w.sm w.sm (by omega) (by omega)
 obtain⟨c,e,g⟩:=K6 (fu:=fu) (gu:=fu) w.sm w.sm (by omega) (by omega) (by omega)
 have z:c=0:=by have:=k.symm.trans b;have:=k.symm.trans g;simp at*;omega
 rw[z]at e
 have s:∀b,UB fu (b,b)=Ac 0:=λb=>by rw[hH,FY.2 rfl]
 refine Ok.eq ?_;rw[iV]
 exact IN t (Ok.F rf (IN t (Ok.F rf (IN (s _) (IN (s _) (IN (s _) (IN e (IN (Ox hx.ln (by decide) hF) (R3 (l:=[0,0,0,0,0]) (by simp;omega) rf)))))))))
end
section
variable {d : Nat} (ih : ∀ {fu : Nat} {a : Vl}, SV d a -> 1000000000000 + 20 * d < fu -> X3 fu (a, a) = Ac 0)
section
variable{fu:Nat}
include ih
theorem FZ{x:A7}(hx:SW d x)(hF:1000000000000+20*d+1<fu):Qz fu (x,x)=Ac 0:=by
 obtain⟨f,rfl⟩:∃f,fu=f+1:=⟨fu-1,by omega⟩
 refine(d330 f x x).trans (Ok.eq ?_);unfold xe
 exact IN (ih hx.1 (by omega)) (Ok.iF (by decide) (IN (ih hx.2 (by omega)) (Ok.some rf)))
theorem Xe{x:Ie}(h1:x.1.length<=3)(r1:x.2.length<=1)(hx:∀w∈A1 x,SW d w)(hF:1000000000000+20*d+2<fu):iS fu (x,x)=Ac 0:=by
 obtain⟨f,rfl⟩:∃f,fu=f+1:=⟨fu-1,by omega⟩
 refine(d331 f x x).trans (Ok.eq ?_);unfold xd
 exact Ok.iF (λh=>h rf) (Ok.iF (λh=>h rf) (Oh (f:=λu v=>Qz f (u,v)) (by omega) (λu hu=>FZ ih (hx _ (AT.2 (.inl hu))) (by omega)) (Oh (f:=λu v=>Qz f (u,v)) (by omega) (λu hu=>FZ ih (hx _ (AT.2 (.inr hu))) (by omega)) (Ok.some rf))))
theorem QT{x:Bx}(bx:SS x)(gx:D' x)(hx:∀w∈Bv x,SW d w)(hF:1000000000000+20*d+3<fu):cQ fu (x,x)=Ac 0:=by
 obtain⟨f,rfl⟩:∃f,fu=f+2:=⟨fu-2,by omega⟩
 have n1:=bx.nf;have n2:=bx.nc
 refine(d334 (f+1) x x).trans (Ok.eq ?_);unfold xa
 refine Gq (f:=λu v=>rX (f+1) (u,v)) (by omega) (λu hu=>?_) (Ok.iF (λh=>h rf) (Gq (f:=λu v=>iR (f+1) (u,v)) (by omega) (λu hu=>?_) (IN Mz (Ok.some rf))))
 ·refine(d332 f u u).trans (Ok.eq ?_);unfold xc
  exact IN YM (Ok.iF (by decide) (IN Mz (Ok.iF (by decide) (IN (FZ ih (hx _ (AT.2 (.inl (By.2 ⟨u,hu,rf⟩)))) (by omega)) (Ok.some rf)))))
 ·refine(d333 f u u).trans (Ok.eq ?_);unfold xb
  exact IN (Ox ⟨(gx.1 u hu).2.1,(gx.1 u hu).2.2,rf,bx.each u hu⟩ (by decide) (by omega)) (Ok.iF (by decide) (IN (FZ ih (hx _ (AT.2 (.inr (By.2 ⟨u,hu,rf⟩)))) (by omega)) (Ok.some rf)))
end
end
section
variable{fu:Nat}
theorem LZ:∀ {d fu:Nat} {a:Vl},SV d a->1000000000000+20*d<fu->X3 fu (a,a)=Ac 0
 |0,_,_,h,_=>h.1.elim
 |d+1,fu,a,ha,hF=>by
  obtain⟨f,rfl⟩:∃f,fu=f+1:=⟨fu-1,by omega⟩
  have ih:∀ {fu:Nat} {a:Vl},SV d a->1000000000000+20*d<fu->X3 fu (a,a)=Ac 0:=LZ
  have al:=ha.1.2.1;have ast:=ha.1.2.2.1
  refine(d335 f a a).trans (Ok.eq ?_);unfold w_
  refine Ok.F (by cases a.any<;>rfl) (IN (eD (Fh ha.1.1 ha.2.1.sc) (by omega)) (Ok.iF (by decide) ?_))
  refine Gq (f:=λu v=>iS f (u,v)) (by omega) (λu hu=>Xe ih (al.2 u hu).1 (ha.2.1.rs u hu) (ha.lv hu) (by omega)) (Ok.iF (λh=>h rf) ?_)
  exact Gq (f:=λu v=>cQ f (u,v)) (by omega) (λu hu=>QT ih (ast.2 u hu) (ha.2.1.st u hu).2 (ha.sv hu) (by omega)) (IN Mz (Ok.some rf))
theorem Ua{d:Nat}{x:A7}(hx:SW d x)(hd:d<=3)(hF:1000000003000<fu):iQ fu (x,x)=Ac Br:=by
 have s:X5 fu x=Ac Br:=by
  obtain⟨b,e,h⟩:=Tp (fu:=fu) (d:=d) (x:=x) ⟨hx.1.1,hx.2.1⟩ hd (by omega)
  rw[e,h.2 ⟨hx.1.2,hx.2.2⟩]
 refine Ok.eq ?_;rw[iQ]
 exact IN s (Ok.T rf (IN s (Ok.T rf (IN (FZ LZ hx (by omega)) (Ok.some rf)))))
def Ls(fu:Nat):Nat->Vl->Prop
 |0,_=>True
 |d+1,v=>((∀s∈v.sc.2.2.2.1.1,D7 s)/\∀s∈v.sc.2.2.2.1.2,D7 s)/\(O8 v.sc.2.2.2.2/\v.sc.2.2.2.2.length<fu)/\(∀c∈v.structs,∀k∈c.2,O8 k.1/\k.1.length<fu)/\∀x∈kids v,Ls fu d x.1/\Ls fu d x.2
theorem Vz{l:Tb}(h:l.length<fu):Ok (F0 fu l) λr=>r=Br->l.length<=8/\∀s∈l,s.2.length<=12:=by
 rw[F0];refine Ok.count (λk=> ∀s∈l.take k,s.2.length<=12) l.length (by simp) h (λk nx d b e=>?_) (λnx b=>?_)
 ·refine Ok.iu (Aal d (Ok.ite (λ_=>Ok.some λh=>by cases h) λh=>e λs c=>?_));rcases(Ai d).1 c with c|rfl;· exact b s c
  ·omega
 ·rw[An]at b;exact Ok.io (Ok.some λh=>⟨by have:=of_decide_eq_true h;omega,b⟩)
theorem Tv{s:Sc}(h1:(∀t∈s.2.2.2.1.1,D7 t)/\∀t∈s.2.2.2.1.2,D7 t)(h2:O8 s.2.2.2.2/\s.2.2.2.2.length<fu):Ok (F1 fu s) λr=>r=Br->cw 5 12 s:=by
 have no:Ok (Ac Ap) λr=>r=Br->cw 5 12 s:=Ok.some λh=>by cases h
 rw[F1];refine Ok.ite (λa=>Ok.ite (λb=>Ok.Ab (Vz h2.2) λr d=>Ok.some λh=>?_) λ_=>no) λ_=>no;have:=d h;exact⟨⟨h1.1,h1.2,by omega,by omega⟩,by omega,by omega,h2.1,by omega,this.2⟩
def mB:Nat->Nat
 |0=>61
 |d+1=>1+6*(60+2*mB d)
theorem mK:∀ {d:Nat},d<=3->61<=mB d/\mB d<=1000000
 |0,_=>by decide
 |1,_=>by decide
 |2,_=>by decide
 |3,_=>by decide
 |n+4,h=>by omega
end
section
variable {d : Nat} (hd : d <= 3) (ih : ∀ {fu gu : Nat} {v : Vl} {m : Int}, Ls gu d v -> gu + 10 * d <= fu -> 1000000000000 + 10 * d < fu -> (0 <= m /\ m <= 60) -> Ok (F3 fu (v, (d : Int), m)) λr => (1 <= r /\ r <= mB d) /\ (r <= m -> Bd d v))
include hd ih
theorem Ij{fu gu:Nat}{l:List A7}{m:Int}(h:∀x∈l,Ls gu d x.1/\Ls gu d x.2)(H:gu+10*d+1<=fu)(G:1000000000000+10*d+1<fu)(I:l.length<=1000)(J: -100000000<=m/\m<=60):
  Ok (F2 fu (l,(d:Int),m)) λr=>(0<=r/\r<=60+2*mB d)/\(r<=m->∀x∈l,JZ d x):=by
 have F:=mK (d:=d) (by omega);obtain⟨f,rfl⟩:∃f,fu=f+1:=⟨fu-1,by omega⟩;rw[show F2 (f+1) (l,(d:Int),m)=_ from d2 f l d m];unfold D2;refine Ok.range (λk (n:Int)=>(0<=n/\n<=60+2*mB d)/\(n<=m->∀x∈l.take k,JZ d x)) l.length ⟨⟨by decide,by omega⟩,λ_=>by simp⟩ (by omega) (λk n nx g j q=>?_) (λn nx j=>?_)
 ·obtain⟨⟨o,z⟩,i⟩:=j;have s:=h _ (AN g);refine Ok.iu (Ok.ite (λc=>?_) λc=>Ok.some ⟨⟨o,z⟩,λb=>absurd b c⟩);have c:n<=m:=c;refine Aal g (Aaq (Ok.Ab (ih (m:=m-n) s.1 (by omega) (by omega) (by omega)) λp w=>?_));obtain⟨⟨B,C⟩,t⟩:=w;refine Aaq (Ok.ite (λb=>?_) λb=>q _ ⟨⟨by dsimp only;omega,by dsimp only;omega⟩,λe=>absurd e b⟩);have b:n+p<=m:=b;refine Aal g (Aaq (Ok.Ab (ih (m:=m-(n+p)) s.2 (by omega) (by omega) (by omega)) λA y=>?_));obtain⟨⟨D,E⟩,u⟩:=y;refine Aaq (q _ ⟨⟨by dsimp only;omega,by dsimp only;omega⟩,λe x a=>?_⟩);have e:n+p+A<=m:=e;rcases(Ai g).1 a with a|rfl;· exact i c x a
  ·exact⟨t (by omega),u (by omega)⟩
 ·obtain⟨o,i⟩:=j;rw[An]at i;exact Ok.io (Ok.some ⟨o,i⟩)
end
section
variable{fu gu:Nat}{v:A7}{d:Nat}{l:List (Au×Int)}
theorem Ls.lv{v:Vl}(h:Ls gu (d+1) v){c:Ie}(hc:c∈v.lists):∀x∈A1 c,Ls gu d x.1/\Ls gu d x.2:=λx a=>
 h.2.2.2 x (AT.2 (.inl (Aac.2 ⟨c,hc,a⟩)))
theorem Ls.sv{v:Vl}(h:Ls gu (d+1) v){c:Bx}(hc:c∈v.structs):∀x∈Bv c,Ls gu d x.1/\Ls gu d x.2:=λx a=>
 h.2.2.2 x (AT.2 (.inr (Aac.2 ⟨c,hc,a⟩)))
theorem MF:∀ {d fu gu:Nat} {v:Vl} {m:Int},d<=3->Ls gu d v->gu+10*d<=fu->1000000000000+10*d<fu->(0<=m/\m<=60)->Ok (F3 fu (v,(d:Int),m)) λr=>(1<=r/\r<=mB d)/\(r<=m->Bd d v)
 |0,fu,gu,v,m,_,_,_,O,S=>by obtain⟨f,rfl⟩:∃f,fu=f+1:=⟨fu-1,by omega⟩;rw[show F3 (f+1) (v,((0:Nat):Int),m)=_ from d3 f v _ m];unfold D3;exact Ok.iT (by decide) (Aaq (Ok.some ⟨⟨by omega,by have:mB 0=61:=rfl;omega⟩,λh=>by omega⟩))
 |d+1,fu,gu,v,m,hd,h,hg,O,S=>by
  have c35:=K_;obtain⟨f,rfl⟩:∃f,fu=f+1:=⟨fu-1,by omega⟩;have ih:∀ {fu gu:Nat} {v:Vl} {m:Int},Ls gu d v->gu+10*d<=fu->1000000000000+10*d<fu->(0<=m/\m<=60)->Ok (F3 fu (v,(d:Int),m)) λr=>(1<=r/\r<=mB d)/\(r<=m->Bd d v):=λh hg O S=>MF (by omega) h hg O S;have all:∀ {l:List A7} {q:Int},(∀x∈l,Ls gu d x.1/\Ls gu d x.2)->l.length<=1000-> -100000000<=q/\q<=60->Ok (F2 f (l,((d+1:Nat):Int)-1,q)) λr=>(0<=r/\r<=60+2*mB d)/\(r<=q->∀x∈l,JZ d x):=λu hl F=>by rw[show((d+1:Nat):Int)-1=(d:Int) by omega];exact Ij (by omega) ih u (by omega) (by omega) hl F
  have hB:=mK (d:=d) (by omega);have hB1:mB (d+1)=1+6*(60+2*mB d):=rfl;rw[show F3 (f+1) (v,((d+1:Nat):Int),m)=_ from d3 f v _ m];unfold D3;have j:Ok (Aa Kj.i64 (m+1) (Ac (m+1))) λr=>(1<=r/\r<=mB (d+1))/\(r<=m->Bd (d+1) v):=Aaq (Ok.some ⟨⟨by omega,by omega⟩,λh=>by omega⟩);refine Ok.io (Ok.ite (λ_=>j) λhm1=>Ok.Ab (Tv h.1 ⟨h.2.1.1,by have:=h.2.1.2;omega⟩) λr1 W=>Ok.bif (λ_=>j) λh1=>Ok.ite (λ_=>j) λh2=>Ok.ite (λ_=>j) λG=>?_);have sc:=W (by simpa using h1);refine Ok.range (λk (n:Int)=>(1<=n/\n<=1+k*(60+2*mB d))/\(n<=m->∀c∈v.lists.take k,(c.1.length<=3/\c.2.length<=2)/\∀x∈A1 c,JZ d x)) v.lists.length ⟨⟨by decide,by omega⟩,λ_=>by simp⟩ (by omega) (λk n nx A B T=>?_) (λn nx B=>?_)
  ·obtain⟨⟨j1,j2⟩,J⟩:=B;have hc:=h.lv (AN A);have Q:(k:Int)*(60+2*mB d)<=3*(60+2*mB d):=Aes (by omega) (by omega);refine Ok.iu (Aal A (Ok.ite (λ_=>j) λK=>Aal A (Ok.ite (λ_=>j) λL=>Aal A ?_)));dsimp only at K L⊢;refine Aby (Aal A (Ok.Af (by rw[Abp];omega) (Aaq (Aca (by(try dsimp only);omega) ?_))));rw[Abp];refine Ok.Ab (all (l:=v.lists[k].1++v.lists[k].2) (q:=m-n) hc (by rw[Pd];omega) (by omega)) λr8 h8=>Aca (by(try dsimp only);omega) (T _ ⟨⟨by(try dsimp only);omega,?_⟩,λG c p=>?_⟩)
   ·have:((k+1:Nat):Int)*(60+2*mB d)=k*(60+2*mB d)+(60+2*mB d):=by rw[Int.natCast_add,Int.add_mul];omega
    (try dsimp only);omega
   ·have G:n+r8<=m:=G;rcases(Ai A).1 p with p|rfl;· exact J (by omega) c p
    ·exact⟨⟨by omega,by omega⟩,h8.2 (by omega)⟩
  obtain⟨⟨j1,j2⟩,J⟩:=B;rw[An]at J;have Q:(v.lists.length:Int)*(60+2*mB d)<=3*(60+2*mB d):=Aes (by omega) (by omega);refine Ok.iF (by dsimp only;omega) ?_;refine Ok.range (λk (q:Int)=>(1<=q/\q<=1+3*(60+2*mB d)+k*(60+2*mB d))/\(q<=m->n<=m/\∀c∈v.structs.take k,SS c/\∀x∈Bv c,JZ d x)) v.structs.length ⟨⟨j1,by omega⟩,λh=>⟨h,by simp⟩⟩ (by omega) (λk q nx A B T=>?_) (λq nx B=>?_)
  ·obtain⟨⟨i1,i2⟩,I⟩:=B;have E:=AN A;have hc:=h.sv E;have D:=h.2.2.1 _ E;have R:(k:Int)*(60+2*mB d)<=3*(60+2*mB d):=Aes (by omega) (by omega);refine Ok.iu (Ok.ite (λF=>?_) λF=>Ok.some ⟨⟨by dsimp only;omega,by dsimp only;omega⟩,λh=>absurd h F⟩);refine Aal A ?_;dsimp only at F⊢;have go:(SS v.structs[k])->(∀w:Int,(0<=w/\w<=60+2*mB d)/\(w<=m-q->∀x∈Bv v.structs[k],JZ d x)->Ok (nx (q+w,k+1)) λr=>(1<=r/\r<=mB (d+1))/\(r<=m->Bd (d+1) v)):=λP w hw=>by
    refine T _ ⟨⟨by(try dsimp only);omega,?_⟩,λG=>?_⟩
    ·have:((k+1:Nat):Int)*(60+2*mB d)=k*(60+2*mB d)+(60+2*mB d):=by rw[Int.natCast_add,Int.add_mul];omega
     (try dsimp only);omega
    ·have G:q+w<=m:=G;obtain⟨a1,a2⟩:=I (by omega);refine⟨a1,λc p=>?_⟩;rcases(Ai A).1 p with p|rfl;· exact a2 c p
     ·exact⟨P,hw.2 (by omega)⟩
   generalize v.structs[k]=c at E hc D go;refine Ok.ite (λ_=>j) λK=>Ok.ite (λ_=>j) λL=>?_;have K:¬(4:Int)<c.1.length:=K;have L:¬(4:Int)<c.2.length:=L;refine Ok.range (λi (s:List A7)=>s=(c.1.take i).map (·.2.2)/\∀g∈c.1.take i,g.1.length<=60) c.1.length ⟨rfl,by simp⟩ (by omega) (λi s X z C U=>?_) (λs X C=>?_)
   ·refine Ok.iu (Aal z (Ok.ite (λ_=>j) λk3=>Aal z (Ok.Af (by dsimp only;rw[C.1,Aah,Aas];omega) (U _ ⟨by dsimp only;rw[C.1,IT z,Aan];rfl,λg b=>?_⟩))));rcases(Ai z).1 b with b|rfl;· exact C.2 g b
    ·have k3:¬(60:Int)<(c.1[i]).1.length:=k3;omega
   rw[An]at C;refine Ok.iF (by dsimp only;omega) ?_;refine Ok.range (λi (s:List A7)=>s=c.1.map (·.2.2)++(c.2.take i).map (·.2)/\∀g∈c.2.take i,g.1.length<=8/\∀t∈g.1,t.2.length<=12) c.2.length ⟨by rw[C.1];simp,by simp⟩ (by omega) (λi s Y z o V=>?_) (λs Y o=>?_)
   ·have H:=D _ (AN z);refine Ok.iu (Aal z (Ok.Ab (Vz (Abs H.2 (by omega))) λr19 M=>Ok.bif (λ_=>j) λk4=>Aal z (Ok.Af (by dsimp only;rw[o.1,Pd,Aah,Aah,Aas];omega) (V _ ⟨by dsimp only;rw[o.1,IT z,Aan,<-Aam];rfl,λg b=>?_⟩))));rcases(Ai z).1 b with b|rfl;· exact o.2 g b
    ·exact M (by simpa using k4)
   rw[An]at o;have e:s=Bv c:=o.1;have P:SS c:=⟨by omega,by omega,C.2,?_,λg b=>(D g b).1,λg b t ht=>Aar ((o.2 g b).2 t ht) (by decide)⟩;· refine Ok.io (Aaq (Aca (by omega) ?_));dsimp only;rw[e];refine Ok.Ab (all (l:=Bv c) (q:=m-q) hc (by unfold Bv;rw[Pd,Aah,Aah];omega) (by omega)) λZ N=>Aaq (go P Z N)
   ·refine Aar (TF (g:=λ_=>11) λg b=>by have:=(o.2 g b).1;omega) ?_;rw[N7];exact Aar (Ahh (by decide) (by omega:c.2.length<=4)) (by decide)
  ·obtain⟨⟨i1,i2⟩,I⟩:=B;rw[An]at I;refine Ok.io (Ok.some ⟨⟨i1,?_⟩,λF=>?_⟩);· have R:(v.structs.length:Int)*(60+2*mB d)<=3*(60+2*mB d):=Aes (by omega) (by omega);dsimp only;omega
   ·obtain⟨h4,h5⟩:=I F;have h6:=J h4;refine⟨sc,⟨by omega,λc hc=>(h6 c hc).1⟩,⟨by omega,λc hc=>(h5 c hc).1⟩,λx u=>?_⟩;rcases AT.1 u with u|u;· obtain⟨c,hc,u⟩:=Aac.1 u;exact(h6 c hc).2 x u
    ·obtain⟨c,hc,u⟩:=Aac.1 u;exact(h5 c hc).2 x u
theorem step_eq{s:Au×Int} :Ok (zo fu s) λr=>r=Br↔Wr s:=by
 rw[zo]
 unfold Wr
 by_cases h:s.1=[]
 ·rw[decide_eq_true h]
  refine Ok.F rf (Ok.ite (λa=>Ok.some ?_) λa=>Ok.some ?_)
  ·rw[decide_eq_true_iff];exact⟨λb=>⟨λn=>absurd h n,λ_=>⟨a,b⟩⟩,λb=>(b.2 h).2⟩
  ·exact⟨λb=>(by cases b),λb=>absurd (b.2 h).1 a⟩
 ·rw[decide_eq_false h]
  refine Ok.T rf (Ok.some ?_)
  rw[decide_eq_true_iff];exact⟨λb=>⟨λ_=>b,λn=>absurd n h⟩,λb=>b.1 h⟩
theorem bW(hd:d<=3)(h:Ic d v)(hl:l.length<=100)(hF:1000000005000<fu):nA fu (v,l)=Ac (Lb d v l):=by
 refine Ok.eq ?_;rw[nA]
 have bx:∀ {e:Nat} {w:A7},Ic e w->JZ e w:=λk=>⟨k.1.1.1,k.1.2.1⟩
 refine IN ((Ly hd (bx h) hF).resolve_right λk=>k.1 h).2 (Ok.F rf ?_)
 refine Ok.Ev (λk (z:A7) (c:Int)=>c=0/\k<=d/\Ic (d-k) z/\Lb d v l=Lb (d-k) z (l.drop k)) l.length ⟨rf,Abh _,h,rf⟩ (by omega) (λk z c nx hk hJ hn=>?_) (λz c nx hJ=>?_)
 ·obtain⟨_,j1,j2,j3⟩:=hJ
  obtain⟨m,hm⟩:∃m,d-k=m+1:=⟨d-k-1,by
   have:d-k≠0:=λq=>by rw[q]at j2;exact j2.1.1.1.elim
   omega⟩
  have hm2:d-(k+1)=m:=by omega
  rw[hm,Aaw hk]at j3
  rw[hm]at j2
  have e:Lb (m+1) z (l[k]::l.drop (k+1))=if(one (m+1) z l[k]).2≠0 then((v0,v0),(one (m+1) z l[k]).2)else Lb m (one (m+1) z l[k]).1 (l.drop (k+1)):=rfl
  have bad:(one (m+1) z l[k]).2≠0->Lb d v l=((v0,v0),(one (m+1) z l[k]).2):=λq=>by rw[j3,e,if_pos q]
  have Ju:∀x,one (m+1) z l[k]=x->x.2=0->Ok (nx (x.1,x.2,k+1)) λr=>r=Lb d v l:=λx hx q=>by
   subst hx
   refine hn _ _ ⟨q,by omega,?_,?_⟩
   ·rw[hm2];exact(Zo q).1
   ·rw[j3,e,if_neg (λn=>n q),hm2]
  have b2:=bx j2
  refine Ok.iu (Aal hk (Ok.Ab step_eq λr hr=>Ok.bif (λq=>Ok.some ?_) λq=>?_))
  ·have n:¬Wr l[k]:=λy=>by rw[hr.2 y]at q;cases q
   have o:one (m+1) z l[k]=((v0,v0),1):=if_pos n
   rw[bad (by rw[o];decide),o];rfl
  have y:=hr.1 (by simpa using q)
  by_cases n:l[k].1=[]
  ·rw[decide_eq_true n]
   have o:one (m+1) z l[k]=ind (m+1) z l[k].2:=(if_neg (λw=>w y)).trans (if_neg λw=>w n)
   refine Ok.F rf (IN (Xi (by omega) b2 hF) (Ok.ite (λq=>Ok.iT q (Ok.some ?_)) λq=>?_))
   ·rw[bad (by rw[o];exact q),o];rfl
   ·exact Ju _ o (GB q)
  ·rw[decide_eq_false n]
   have o:one (m+1) z l[k]=Yl (m+1) z l[k].1:=(if_neg (λw=>w y)).trans (if_pos n)
   refine Ok.T rf (IN (WU (by omega) b2 hF) (Ok.ite (λq=>Ok.iT q (Ok.some ?_)) λq=>?_))
   ·rw[bad (by rw[o];exact q),o];rfl
   ·exact Ju _ o (GB q)
 ·obtain⟨j0,j1,j2,j3⟩:=hJ
  rw[Afz]at j3
  refine Ok.io (Ok.iF (λq=>q j0) (IN (Og (by omega) (bx j2) j2 hF) (Ok.some ?_)))
  rw[j3];rfl
theorem bX(hv:JZ 3 v)(h:¬Ic 3 v)(hF:1000000005000<fu):nA fu (v,l)=Ac ((v0,v0),11):=by
 refine Ok.eq ?_;rw[nA]
 exact IN ((Ly (Aad _) hv hF).resolve_left λk=>h k.1).2 (Ok.T rf (Ok.some rf))
theorem kN(hl:l.length<fu):Ok (wI fu l) λ_=>True:=by
 rw[wI]
 exact Ok.count (λ_=>True) l.length trivial hl (λk nx hk _ hn=>Ok.iu (Aal hk (Ok.ite (λ_=>Ok.some trivial) λ_=>hn trivial))) λnx _=>Ok.io (Ok.some trivial)
theorem WS(h:Ls gu 3 v.1/\Ls gu 3 v.2)(hg:gu+100<=fu)(hF:1000000010000<fu):Ok (zq fu v) λr=>r=Br->JZ 3 v:=by
 rw[zq]
 have ih:∀ {fu gu:Nat} {v:Vl} {m:Int},Ls gu 3 v->gu+10*3<=fu->1000000000000+10*3<fu->(0<=m/\m<=60)->Ok (F3 fu (v,((3:Nat):Int),m)) λr=>(1<=r/\r<=mB 3)/\(r<=m->Bd 3 v):=λh hg hF hm=>MF (by omega) h hg hF hm
 exact Ok.Ab (Ij (d:=3) (l:=[v]) (by decide) ih (λy hy=>by rw[Aaf.1 hy];exact h) (by omega) (by omega) (by simp) (by decide)) λr hr=>Ok.some λh2=>hr.2 (of_decide_eq_true h2) v (Aaf.2 rf)
theorem XK{a b:List (Au×Int)}(hx:QD fu () =Ac Br)(h:Ls gu 3 v.1/\Ls gu 3 v.2)(hg:gu+100<=fu)(hF:1000000010000<fu):zr fu (v,a,b)=Ac Br:=by
 refine Ok.eq ?_;rw[zr]
 have c9:=Eh
 have ex:Ok (Ab (QD fu ()) λr2=>Ac r2) λr=>r=Br:=IN hx (Ok.some rfl)
 refine Ok.Ab (WS h hg hF) λr hr=>Ok.bif (λ_=>ex) λq=>Ok.ite (λ_=>ex) λha=>Ok.ite (λ_=>ex) λhb=>?_
 have bx:=hr (by simpa using q)
 refine Ok.Ab (kN (by omega)) λr _=>Ok.bif (λ_=>ex) λ_=>Ok.Ab (kN (by omega)) λr _=>Ok.bif (λ_=>ex) λ_=>Aby (Aby ?_)
 by_cases va:Ic 3 v
 ·have na:a.length<=4:=by omega
  have nb:b.length<=4:=by omega
  refine IN (bW (Aad _) va (by rw[Pd];omega) (by omega)) (IN (bW (Aad _) va (by omega) (by omega)) ?_)
  rw[Wk]
  refine Ok.ite (λe=>?_) λe=>?_
  ·rw[if_pos e];exact Ok.iT rfl ex
  ·have e:=GB e
   rw[if_neg (λn=>n e)]
   obtain⟨m,hm,em,hv⟩:=Ul va e
   rw[em]at hv hm
   refine IN (bW hm hv (by omega) (by omega)) (Ok.iT rf ?_)
   have sw:SW 3 (v0,v0):=⟨UR 2,UR 2⟩
   have:∃d x,d<=3/\SW d x/\x=(Lb (3-a.length) (Lb 3 v a).1 b).1:=by
    by_cases g:(Lb (3-a.length) (Lb 3 v a).1 b).2=0
    ·obtain⟨k,h1,_,h2⟩:=Ul hv g
     exact⟨k,_,by omega,h2.1,rf⟩
    ·exact⟨3,_,Aad _,sw,(Wj g).symm⟩
   obtain⟨k,x,hk,hs,rfl⟩:=this
   exact IN (Ua hs hk (by omega)) (Ok.T rf ex)
 ·refine IN (bX bx va (by omega)) (IN (bX bx va (by omega)) (Ok.iT (by decide) (Ok.iT rf ex)))
end
end Go.GL
namespace Go.GV
open Go Go.GK Go.RowKit Go.Deep
section
variable {H : Type} {enc : Ee × BU -> H} {P : Ge} {w : GD} {base : Nat} {spare : Nat -> Bool} {held : Bool} {α β : Type}
section
variable{N:Nat}{t:Ee}{c:Cd α}{q:α->Prop}{off:Nat}{f:Field}{fs:Array Field}
def Gc(enc:Ee×BU->H)(P:Ge)(w:GD)(base:Nat)(spare:Nat->Bool)(held:Bool)(N:Nat)(c:Cd α)(q:α->Prop)(t:Ee):Prop:= ∀n,n<N->∀cs y,cs.length=c.sz->DataW.trod enc P w base spare held n t cs=Ac y->∃a,c.BI (Hp.of w) a cs/\q a
theorem Gc.le{M:Nat}(h:Gc enc P w base spare held N c q t)(e:M<=N):Gc enc P w base spare held M c q t:=
 λn f a y b d=>h n (by omega) a y b d
theorem Gc.imp{b:α->Prop}(h:Gc enc P w base spare held N c q t)(k:∀a,q a->b a):Gc enc P w base spare held N c b t:=
 λn i d y g j=>by obtain⟨a,e,f⟩:=h n i d y g j;grind
theorem Gc.i64(ht:P.underlying t=Ac (.int .i64)):Gc enc P w base spare held N qY GK.Dn t:=λn _ d y _ c=>by
 obtain⟨m,a,_,b⟩:=DataW.trod_int ht c;have e: -9223372036854775808<=m/\m<=9223372036854775807:=by grind[Lit.wf,Kj.min,Kj.max,Kj.signed,Kj.bits]
 exact⟨m,a,by omega⟩
theorem Gc.u8(ht:P.underlying t=Ac (.int .u8)):Gc enc P w base spare held N cU8 (λm=>0<=m/\m<=255) t:=λn _ e y _ d=>by
 obtain⟨m,b,_,c⟩:=DataW.trod_int ht d;have a:0<=m/\m<=255:=by grind[Lit.wf,Kj.min,Kj.max,Kj.signed,Kj.bits]
 exact⟨m,⟨b,a⟩,a⟩
theorem Gc.b(ht:P.underlying t=Ac .bool):Gc enc P w base spare held N cB (λ_=>True) t:=λn _ d y _ c=>by obtain⟨b,a,_⟩:=DataW.trod_bool ht c;exact⟨b,a,trivial⟩
theorem Gc.s(ht:P.underlying t=Ac .string):Gc enc P w base spare held N cS (λ_=>True) t:=λn _ c y _ b=>by obtain⟨s,a,_⟩:=DataW.trod_string ht b;exact⟨s.data.toList,a,trivial⟩
theorem Gc.sl{e:Ee}(ht:P.underlying t=Ac (.slice e))(G:P.cellsOf e=c.sz)(h:Gc enc P w base spare held N c q e):Gc enc P w base spare held (N+1) (cL c) (λl=> ∀x∈l,q x) t:=λn hn X y _ R=>by
 have A:∃v,X=[v]/\∃l:List α,GI c (Hp.of w) l v/\∀x∈l,q x:=by
  rcases DataW.trod_slice ht R with⟨E,_⟩|⟨a,len,cap,f,W,n',hfu,E,_,hb,hl,hm,V,K,_,_⟩;· exact⟨_,E,[],GI.nil,by simp⟩
  ·obtain⟨l,z,C⟩:=K9 (Q:=λi (b:α×List BU)=>(c.BI (Hp.of w) b.1 b.2/\q b.1)/\∀j u,b.2[j]?=Ac u->w.cell? (a.add (i*c.sz+j))=Ac u) len λi r=>by
    have J:=K i r;rw[show f[i]?=Ac f[i] by simp]at J;simp only[Agt]at J;obtain⟨s,I,O⟩:=J;obtain⟨hbl,d,g⟩:=GD.cells?_some I;rw[G]at d;obtain⟨b,Z⟩:=h n' (by omega) s _ d O;refine⟨(b,s),Z,λj u T=>?_⟩;grind[List.getElem?_eq_some_iff,C5]
   have F:∀x∈l,c.BI (Hp.of w) x.1 x.2/\q x.1:=λx p=>by obtain⟨i,r,rfl⟩:=Aat p;exact(C i _ (BY r)).1
   have o:∀x∈l,x.2.length=c.sz:=λx p=>c.len (F x p).1;refine⟨_,E,l.map (·.1),⟨⟨l.flatMap (·.2),⟨by grind[Ks], .inr ⟨a,cap,by rw[Aah,z],by rw[Aah,z];exact hl⟩,λk u U=>?_⟩,Wt λx p=>(F x p).1⟩,by rw[Aah,z];unfold maxLen at hm;omega⟩,λx p=>?_⟩
   ·have m:k<l.length*c.sz:=by rw[<-Ks o];exact(No.1 U).1
    have M:0<c.sz:=Nat.pos_of_ne_zero λh=>by rw[h]at m;simp at m
    have r:k/c.sz<l.length:=Nat.div_lt_of_lt_mul (by rw[Acw];exact m);have B:k=k/c.sz*c.sz+k %c.sz:=by rw[Acw];exact(Ahc k c.sz).symm
    have S:=OM o (k/c.sz) (k %c.sz) l[k/c.sz] (BY r) (Nat.mod_lt _ M);rw[<-B,U]at S;have:=(C (k/c.sz) l[k/c.sz] (BY r)).2 (k %c.sz) u S.symm;rw[<-B]at this;exact Ake this
   grind
 obtain⟨v,z,l,C,Y⟩:=A;exact⟨l,⟨v,z,C⟩,Y⟩
def dQ(enc:Ee×BU->H)(P:Ge)(w:GD)(base:Nat)(spare:Nat->Bool)(held:Bool)(N:Nat)(c:Cd α)(q:α->Prop)(off:Nat)(fs:List Field):Prop:= ∀n,n<N->∀cs:List BU,(∀f∈fs,∃y,DataW.trod enc P w base spare held n f.type ((cs.drop f.offset).take (P.cellsOf f.type))=Ac y)->off+c.sz<=cs.length->∃a,c.BI (Hp.of w) a ((cs.drop off).take c.sz)/\q a
theorem dQ.one(h:Gc enc P w base spare held N c q f.type)(b:P.cellsOf f.type=c.sz)(g:f.offset=off):dQ enc P w base spare held N c q off [f]:=λn e i d j=>by obtain⟨y,a⟩:=d f (by simp);rw[b,g]at a;exact h n e _ y (by grind) a
theorem dQ.cons{d:Cd β}{m:β->Prop}{fs:List Field}(h:Gc enc P w base spare held N c q f.type)(s:P.cellsOf f.type=c.sz)(t:f.offset=off)(u:dQ enc P w base spare held N d m (off+c.sz) fs):
  dQ enc P w base spare held N (cP c d) (λx=>q x.1/\m x.2) off (f::fs):=λn l e j k=>by
 have k:off+(c.sz+d.sz)<=e.length:=k;obtain⟨a,p,v⟩:=dQ.one h s t n l e (λg i=>j g (by grind)) (by omega);obtain⟨b,r,y⟩:=u n l e (λg i=>j g (by grind)) (by omega);refine⟨(a,b),⟨_,_,?_,p,r⟩,v,y⟩;show(e.drop off).take (c.sz+d.sz)=_;rw[List.take_add,Adi]
theorem Gc.st(ht:P.underlying t=Ac (.struct fs))(h:dQ enc P w base spare held N c q 0 fs.toList):Gc enc P w base spare held (N+1) c q t:=λn x l y v r=>by
 obtain⟨k,s,o,_,j,d,p⟩:=DataW.trod_struct ht r;obtain⟨a,e,u⟩:=h s (by omega) l (λf m=>by obtain⟨i,g,rfl⟩:=Aat m;have:=p i fs.toList[i] (by simp);grind) (by omega);grind
theorem Gc.wy{r:Reach}{b:Nat}{v:BU}{d:DataW H}{p:List MemPlace}(ht:P.underlying t=Ac (.struct fs))(e:P.cellsOf t=c.sz)(h:∀N,Gc enc P w base spare held N c q t)
  (k:BU.okWide P w r b t v) (f:DataW.Trod enc P w base spare held t v d p):∃cs:Array BU,∃l,v= .agg cs/\c.BI (Hp.of w) l cs.toList/\q l:=by
 obtain⟨cs,rfl,j⟩:=Go.WideShapes.okWide_struct ht k;obtain⟨a,g⟩:=f;obtain⟨l,i⟩:=h (a+1) a (by omega) cs.toList _ (by grind) g;grind
end
end
def XZ(q:Vl->Prop):(t:Ty)->(t.den λ_=>Vl)->Prop
 | .int .i64,n=>GK.Dn n
 | .int .u8,n=>(0:Int)<=(show Int from n)/\(show Int from n)<=255
 | .sl t,l=> ∀x∈(show List (t.den λ_=>Vl)from l),XZ q t x
 | .st t,x=>XZ q t x
 | .pr a b,x=>XZ q a x.1/\XZ q b x.2
 | .nm 0,x=>q x
 |_,_=>True
def QV:Nat->Vl->Prop
 |0,_=>True
 |d+1,v=>XZ (QV d) tW (uC v)
mutual
def Li(P:Ge)(tn:Ee):Nat->Ty->Ee->Bool
 |0,_,_=>Ap
 |k+1, .int .i64,u=>match P.underlying u with|some (.int .i64)=>Br|_=>Ap
 |k+1, .int .u8,u=>match P.underlying u with|some (.int .u8)=>Br|_=>Ap
 |k+1, .bool,u=>match P.underlying u with|some .bool=>Br|_=>Ap
 |k+1, .str,u=>match P.underlying u with|some .string=>Br|_=>Ap
 |k+1, .sl t,u=>match P.underlying u with|some (.slice e)=>Nat.beq (P.cellsOf e) (Yk 9 t)&&Li P tn k t e|_=>Ap
 |k+1, .st t,u=>match P.underlying u with|some (.struct fs)=>vb P tn k t 0 fs.toList|_=>Ap
 |k+1, .nm 0,u=>Nat.beq u tn
 |_,_,_=>Ap
def vb(P:Ge)(tn:Ee):Nat->Ty->Nat->List Field->Bool
 |0,_,_,_=>Ap
 |k+1,t,off,[f]=>Li P tn k t f.type&&(Nat.beq (P.cellsOf f.type) (Yk 9 t)&&Nat.beq f.offset off)
 |k+1, .pr a b,off,f::fs=>Li P tn k a f.type&&(Nat.beq (P.cellsOf f.type) (Yk 9 a)&&(Nat.beq f.offset off&&vb P tn k b (off+Yk 9 a) fs))
 |_,_,_,_=>Ap
end
section
variable {H : Type} {enc : Ee × BU -> H} {P : Ge} {w : GD} {base : Nat} {spare : Nat -> Bool} {held : Bool}
theorem Uh(t:Ty):(JP QI t).sz=Yk 9 t:=Fq (s:=9) rfl t
mutual
theorem HP{tn:Ee}{q:Vl->Prop}{N:Nat}(h:Gc enc P w base spare held N QI q tn):∀ {k:Nat} {t:Ty} {u:Ee},Li P tn k t u=Br->Gc enc P w base spare held N (JP QI t) (XZ q t) u
 |0,_,_,e=>by cases e
 |k+1, .int .i64,u,e=>by
  unfold Li at e;split at e
  ·rename_i hu;exact Gc.i64 hu
  grind
 |k+1, .int .u8,u,e=>by
  unfold Li at e;split at e
  ·rename_i hu;exact Gc.u8 hu
  grind
 |k+1, .bool,u,e=>by
  unfold Li at e;split at e
  ·rename_i hu;exact Gc.b hu
  grind
 |k+1, .str,u,e=>by
  unfold Li at e;split at e
  ·rename_i hu;exact Gc.s hu
  grind
 |k+1, .sl t,u,e=>by
  unfold Li at e;split at e
  ·rename_i x hu
   rw[AS]at e
   exact(Gc.sl hu (by grind[Uh,Nat.eq_of_beq_eq_true]) (HP h e.2)).le (Akb _)
  grind
 |k+1, .st t,u,e=>by
  unfold Li at e;split at e
  ·rename_i fs hu
   exact(Gc.st (c:=JP QI t) (q:=XZ q t) hu (TL h e)).le (Akb _)
  trivial
 |k+1, .nm 0,u,e=>by
  have:=AI e
  subst this;exact h
 |k+1, .nm (n+1),u,e=>by cases e
 |k+1, .pr _ _,u,e=>by cases e
 |k+1, .un,u,e=>by cases e
 |k+1, .bs,u,e=>by cases e
 |k+1, .ar _ _,u,e=>by cases e
 |k+1, .int .i8,u,e=>by cases e
 |k+1, .int .i16,u,e=>by cases e
 |k+1, .int .i32,u,e=>by cases e
 |k+1, .int .u16,u,e=>by cases e
 |k+1, .int .u32,u,e=>by cases e
 |k+1, .int .u64,u,e=>by cases e
theorem TL{tn:Ee}{q:Vl->Prop}{N:Nat}(h:Gc enc P w base spare held N QI q tn):∀ {k:Nat} {t:Ty} {off:Nat} {fs:List Field},vb P tn k t off fs=Br->dQ enc P w base spare held N (JP QI t) (XZ q t) off fs
 |0,_,_,_,e=>by cases e
 |k+1,t,off,[],e=>by cases t<;>(cases e)
 |k+1,t,off,[f],e=>by
  unfold vb at e
  simp only[AS]at e
  exact dQ.one (HP h e.1) (by rw[Uh];exact AI e.2.1) (AI e.2.2)
 |k+1, .pr a b,off,f::g::fs,e=>by
  unfold vb at e
  simp only[AS]at e
  have hs:Yk 9 a=(JP QI a).sz:=(Uh a).symm
  exact dQ.cons (HP h e.1) (by rw[<-hs];exact AI e.2.1) (AI e.2.2.1) (hs▸TL h e.2.2.2)
 |k+1, .int _,off,f::g::fs,e=>by cases e
 |k+1, .bool,off,f::g::fs,e=>by cases e
 |k+1, .str,off,f::g::fs,e=>by cases e
 |k+1, .sl _,off,f::g::fs,e=>by cases e
 |k+1, .st _,off,f::g::fs,e=>by cases e
 |k+1, .nm _,off,f::g::fs,e=>by cases e
 |k+1, .un,off,f::g::fs,e=>by cases e
 |k+1, .bs,off,f::g::fs,e=>by cases e
 |k+1, .ar _ _,off,f::g::fs,e=>by cases e
end
theorem U9{tn:Ee}{k:Nat}(e:Li P tn (k+1) tW tn=Br):∀(N d:Nat),Gc enc P w base spare held N QI (QV d) tn
 |0,_=>λn f=>by omega
 |N+1,d=>by
  have step:∀d,Gc enc P w base spare held (N+1) QI (QV (d+1)) tn:=λd=>by
   have b:=e;unfold Li at b;split at b;· rename_i o l;have:=Gc.st (c:=JP QI (.pr .bool (.pr scB (.pr (.sl lcB) (.sl nR))))) (q:=XZ (QV d) (.pr .bool (.pr scB (.pr (.sl lcB) (.sl nR))))) l (TL (U9 e N d) b);intro n f g y j m;obtain⟨a,h,i⟩:=this n f g y j m;exact⟨vlI a,YB.2 h,i⟩
   grind
  cases d with
  |zero=>exact(step 0).imp λ_ _=>trivial
  |succ d=>grind
end
end Go.GV
namespace Go.GL
open Go Go.GV Go.GK Go.Proofs
theorem P4{α:Type}{P:Nat->α->Prop} :∀ {l:List α},(∀x∈l,∃n,∀g,n<=g->P g x)->∃n,∀g,n<=g->∀x∈l,P g x
 | [],_=>⟨0,λ_ _ x hx=>by cases hx⟩
 |x::l,h=>by
  obtain⟨n,hn⟩:=h x (Aaj ..)
  obtain⟨m,hm⟩:=P4 λy hy=>h y (Aag _ hy)
  refine⟨max n m,λg hg y hy=>?_⟩
  rcases Aay.1 hy with rfl|hy
  ·exact hn g (by omega)
  ·exact hm g (by omega) y hy
theorem Pp:∀ {d:Nat} {v:Vl},QV d v->∃n,∀g,n<=g->Ls g d v
 |0,_,_=>⟨0,λ_ _=>trivial⟩
 |d+1,v,h=>by
  obtain⟨_,⟨_,_,_,⟨hi,hf⟩,hs⟩,hl,ht⟩:=h
  have pW:∀x∈kids v,QV d x.1/\QV d x.2:=λx hx=>by
   rcases AT.1 hx with hx|hx
   ·obtain⟨c,hc,hx⟩:=Aac.1 hx
    rcases AT.1 hx with hx|hx
    ·exact(hl c hc).1 x hx
    ·exact(hl c hc).2 x hx
   ·obtain⟨c,hc,hx⟩:=Aac.1 hx
    rcases AT.1 hx with hx|hx
    ·obtain⟨f,hf,rfl⟩:=By.1 hx
     exact((ht c hc).1 f hf).2.2
    ·obtain⟨f,hf,rfl⟩:=By.1 hx
     exact((ht c hc).2 f hf).2
  obtain⟨n1,k1⟩:=P4 (P:=λg x=>Ls g d x.1/\Ls g d x.2) (l:=kids v) λx hx=>by
   obtain⟨n,hn⟩:=Pp (pW x hx).1
   obtain⟨m,hm⟩:=Pp (pW x hx).2
   exact⟨max n m,λg hg=>⟨hn g (by omega),hm g (by omega)⟩⟩
  obtain⟨n2,k2⟩:=P4 (P:=λg (c:Bx)=> ∀k∈c.2,k.1.length<g) (l:=v.structs) λc _=>by
   obtain⟨n,hn⟩:=P4 (P:=λg (k:Tb×A7)=>k.1.length<g) (l:=c.2) λk _=>⟨k.1.length+1,λg hg=>by omega⟩
   exact⟨n,hn⟩
  have bt:∀(l:Tb),XZ (QV d) Z9 l->O8 l:=λl h s hs e he=>by
   have:=(h s hs).2 e he
   exact⟨this.1,this.2.1⟩
  refine⟨max (max n1 n2) (v.sc.2.2.2.2.length+1),λg hg=>⟨⟨λs hs=>hi s hs,λs hs=>hf s hs⟩,⟨bt _ hs,by omega⟩,λc hc k hk=>⟨bt _ ((ht c hc).2 k hk).1,k2 g (by omega) c hc k hk⟩,k1 g (by omega)⟩⟩
end Go.GL
namespace Go.GV
open Go Go.GK Go.RowKit Go.Deep
abbrev WK:Ty:= .sl (.st (.pr .str (.int .i64)))
theorem Ajm{H:Type}{enc:Ee×BU->H}{P:Ge}{w:GD}{base:Nat}{spare:Nat->Bool}{held:Bool}{α:Type}{r:Reach}{b0:Nat}{c:Cd α}{q:α->Prop}{t e:Ee}{v:BU}{d:DataW H}{p:List MemPlace}(ht:P.underlying t=Ac (.slice e))(hc:c.sz=1)(h:∀N,Gc enc P w base spare held N c q t)
  (hv:BU.okWide P w r b0 t v) (hd:DataW.Trod enc P w base spare held t v d p):∃l,c.BI (Hp.of w) l [v]/\q l:=by
 obtain⟨a,len,cap,rfl⟩:=Go.WideShapes.okWide_slice ht hv
 obtain⟨fuel,hf⟩:=hd
 exact h (fuel+1) fuel (by omega) _ _ hc.symm hf
end Go.GV
namespace Go.GL
open Go Go.GV Go.GK Go.Proofs
theorem walk(W:GD)(hG:HE Tryz.prog (Hp.of W)){c:Array BU}{x:Vl×Vl}(hl:(JP QI WC).BI (Hp.of W) x c.toList)(hq:XZ (QV 3) WC x){a b:List (Au×Int)}{u v:BU}(ha:(JP QI WK).BI (Hp.of W) a [u])(_:XZ (QV 3) WK a)(hb:(JP QI WK).BI (Hp.of W) b [v])(_:XZ (QV 3) WK b):
  O5 Tryz.prog 3 [.agg c,u,v] (Hp.of W) [] (λv H' O'=>O'=[]/\v= .bool Br):=by
 have hq:QV 3 x.1/\QV 3 x.2:=hq
 obtain⟨n,hn⟩:=Pp hq.1
 obtain⟨m,hm⟩:=Pp hq.2
 obtain⟨fu,h⟩:∃fu,zr fu (x,a,b)=Ac Br:=⟨max n m+1000000010100,XK (gu:=max n m) rfl ⟨hn _ (by omega),hm _ (by omega)⟩ (by omega) (by omega)⟩
 refine((okAg fu).ok (x,a,b) Br h (Hp.of W) [] [.agg c,u,v] hG ⟨_,_,rf,⟨c.toList,hl,by simp[Cu,Ty.agg]⟩,_,_,rf,⟨[u],ha,rf⟩,_,rf,⟨[v],hb,rf⟩⟩).mono λv H' O' _ h=>?_
 obtain⟨h1,cs,h2,h3⟩:=h
 have h4:cs=[.bool Br]:=h2
 have h5:cs=[v]:=h3
 rw[h4]at h5
 cases h5
 exact⟨h1,rf⟩
end Go.GL
namespace Go.Proofs.YtbeogcbmdbnkiaaGreatDoor
open Go
theorem vg:(Tryz.prog.funcs.toList.all λf=> !f.goes)=Br:=by kernel_rfl
theorem fx(g:Nat):(Tryz.prog.funcs[g]?).any Func.goes=Ap:=by
 cases h:Tryz.prog.funcs[g]? with
 |none=>rfl
 |some fn=>
  have:=OF.1 vg fn (Array.mem_toList_iff.2 (Array.mem_of_getElem? h))
  simpa using this
theorem ZB:Tryz.prog.funcs.any Func.goes=Ap:=by
 rw[<-Array.any_toList]
 cases h:Tryz.prog.funcs.toList.any Func.goes with
 |false=>rfl
 |true=>
  obtain⟨fn,h1,h2⟩:=Acd.1 h
  have:=OF.1 vg fn h1
  rw[h2]at this
  cases this
theorem pc(f:FuncId):Tryz.prog.goes f=Ap:=by
 unfold Ge.goes
 rw[ZB,Bool.and_false,Aly]
 cases h:((Tryz.prog.closure f).any λg=>(Tryz.prog.funcs[g]?).any Func.goes)with
 |false=>rfl
 |true=>
  simp only[fx]at h
  simp at h
theorem pe:Ap=Rows.lookupChainsRow.goesBy Tryz.pinned.checked.prog:=by
 have e:Rows.lookupChainsRow.goesBy Tryz.prog=((Tryz.prog.funcNamed Rows.lookupChainsRow.func).any Tryz.prog.goes||false):=rfl
 refine Eq.trans ?_ e.symm
 generalize Tryz.prog.funcNamed Rows.lookupChainsRow.func=o
 cases o with
 |none=>rfl
 |some f=>rw[Option.any_some,pc];rfl
end Go.Proofs.YtbeogcbmdbnkiaaGreatDoor
