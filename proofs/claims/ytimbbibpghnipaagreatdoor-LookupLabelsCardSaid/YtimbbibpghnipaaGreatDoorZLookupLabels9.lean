/- Part 9 of the texts of this claim: what its theorem leans on. -/
import Derived.Test.YtimbbibpghnipaaGreatDoorZLookupLabels8
import Derived.Test.YtimbbibpghnipaaGreatDoorZLookupLabels7
import Derived.Test.YtimbbibpghnipaaGreatDoorZLookupLabels4
import Derived.LaidMore
import Derived.Test.YtimbbibpghnipaaGreatDoorRows
import Derived.KernelRfl
import GoSem.ClaimGoes
set_option linter.all false
open Option renaming some→Ac,none→C7
open Bool renaming false→Aj,true→Bp
open Go renaming Value→BZ,Operand→DQ,TypeId→Gq,Program→GN,World→IU,execOp→Kt,Oper→K7,IntKind→Lo
open Decidable renaming decide→Dl
open List renaming length→FD,replicate→T8,range→aT,set→lj
open Nat renaming beq→Hh
open Int renaming toNat→ao,natAbs→wL
open Go.Op renaming bytesLess→gh
namespace Go.GL
open Go Go.GV Go.GK Go.Proofs
section
variable{d:Nat}{v:Vl}{c:Bu}{fu:Nat}
theorem L6{s:Aq}(h:NV c)(C:s.length<=1000)(B:1000000000000<fu):Yz fu (c,s)=Ac (vw c s):=by
 have D:=h.nf;have E:=h.nc;refine(Ok.eq ?_);rw[Yz];refine VD (λk=> ∀i (d:i<c.1.length),i<k->Dl (c.1[i].1=s)=Aj) c.1.length (λi _ h=>by omega) (by omega) (λk nx l q x=>?_) (λnx q=>?_)
 ·refine P4 (Aah l (N_ (λo=>Aah l (Aah l (MN ?_))) λo=>x λi d v=>?_));· have e:c.1.find? (λf=>Dl (f.1=s))=Ac c.1[k]:=Adk.2 ⟨decide_eq_true o,k,l,rf,λj w=>by simp only[q j (by omega) w];rfl⟩;unfold vw;rw[e]
  ·rcases Aan i k with p|p;· exact q i d p
   ·obtain rfl:i=k:=by omega
    exact decide_eq_false o
 ·have e:c.1.find? (λf=>Dl (f.1=s))=C7:=Adl.2 λf u=>by
   obtain⟨i,d,rfl⟩:=Aat u;rw[q i d d];decide
  refine Qd (by omega) ?_;refine VD (λk=> ∀i (d:i<c.2.length),i<k->I5 c.2[i].1 s=Aj) c.2.length (λi _ h=>by omega) (by omega) (λk nx l g x=>?_) (λnx g=>?_)
  ·have m:=AN l;have A:=h.each _ m;have y:eb fu (c.2[k].1,s)=Ac (I5 c.2[k].1 s):=(Tq (n:=14641) (h.bt _ m) ⟨A,λt z=>by have:=h.ed _ m t z;omega⟩ (by omega) (by omega) (by omega) (by omega)).eq;refine P4 (Aah l (BY y (P0 (λo=>Aah l (MN ?_)) λo=>x λi d v=>?_)));· have r:c.2.find? (λk=>I5 k.1 s)=Ac c.2[k]:=Adk.2 ⟨o,k,l,rfl,λj w=>by simp only[g j (by omega) w];rfl⟩;unfold vw;rw[e,r]
   ·rcases Aan i k with p|p;· exact g i d p
    ·obtain rfl:i=k:=by omega
     exact o
  ·have r:c.2.find? (λk=>I5 k.1 s)=C7:=Adl.2 λf u=>by
    obtain⟨i,d,rfl⟩:=Aat u;rw[g i d d];decide
   refine P5 (MN ?_);unfold vw;rw[e,r];rfl
theorem bn{c:HQ}{i:Nat} :Ok (YA fu (c,(i:Int))) λr=>r.1=XQ c i:=by
 rw[YA];unfold XQ;refine P5 (N_ (λh=>Aah (by omega) (MN ?_)) λh=>?_);· rw[GB (by omega)]
 ·rw[Aco (by omega)];cases hc:c.2 with
  |nil=>exact Qd (by simp) (MN rfl)
  |cons x l=>exact TT (by simp) (BY (a:=x) rfl (MN rfl))
def SV(d:Nat)(v:Vl):Prop:=Bd d v/\D_ d v
def SW(d:Nat)(x:Bb):Prop:=SV d x.1/\SV d x.2
theorem Dr{k m:Nat}{s:Sc}(h:dE k m s)(a:vd s):Ii k m s:=⟨a.1,h.n1,h.n2,⟨a.2.1,a.2.2,rfl,h.sh.1⟩⟩
theorem Zj(d:Nat):SV (d+1) v0:=⟨(L9 d).1,⟨λh=>(by cases h),Q1,λc hc=>(by cases hc),λc hc=>(by cases hc)⟩,λx a=>by cases a⟩
theorem SV.qx(h:SV (d+1) v):∀x∈kids v,SW d x:=λx a=>⟨⟨(h.1.2.2.2 x a).1,(h.2.2 x a).1⟩,⟨(h.1.2.2.2 x a).2,(h.2.2 x a).2⟩⟩
theorem SV.lv(h:SV (d+1) v){c:HQ}(hc:c∈v.lists):∀x∈AY c,SW d x:=λx a=>h.qx x (AS.2 (.inl (Aad.2 ⟨c,hc,a⟩)))
theorem SV.sv(h:SV (d+1) v)(hc:c∈v.structs):∀x∈Bq c,SW d x:=λx a=>h.qx x (AS.2 (.inr (Aad.2 ⟨c,hc,a⟩)))
theorem SW.v0{x:Bb}(h:SW d x):SW d (v0,v0):=by
 cases d with
 |zero=>trivial
 |succ d=>exact⟨Zj d,Zj d⟩
end
section
variable {d : Nat} (ih : ∀ {fu : Nat} {a b : Vl}, SV d a -> SV d b -> 1000000000000 + 20 * d < fu -> Ok (TA fu (a, b)) λr => r = Bp ↔ De d a b)
section
variable{fu:Nat}
include ih
theorem J0{x y:Bb}(e:SW d x)(g:SW d y)(j:1000000000000+20*d+1<fu):Ok (NA fu (x,y)) λr=>r=Bp↔KT (De d) x y:=by
 obtain⟨f,rfl⟩:∃f,fu=f+1:=⟨fu-1,by omega⟩;rw[show NA (f+1) (x,y)=_ from d309 f x y];unfold yw;refine OC (ih e.1 g.1 (by omega)) λr c=>P0 (λh=>OC (ih e.2 g.2 (by omega)) λs i=>MN ?_) λh=>AR λk=>?_;· exact i.trans ⟨λk=>⟨c.1 h,k⟩,λk=>k.2⟩
 ·rw[c.2 k.1]at h;cases h
theorem RZ{x y:HQ}(h1:x.1.length<=3)(G:∀w∈AY x,SW d w)(H:∀w∈AY y,SW d w)(Q:1000000000000+20*d+2<fu):Ok (TC fu (x,y)) λr=>r=Bp↔WW (De d) x y:=by
 obtain⟨
     f,rfl⟩:∃f,fu=f+1:=⟨fu-1,by omega⟩;rw[show TC (f+1) (x,y)=_ from d310 f x y];unfold yu;have loop:(y.1.length<=x.1.length)->(y.2=[]->x.1.length<=y.1.length/\x.2=[])->Ok (Ad f (λ(n:Nat) j=>
    bif Dl ((n:Int)<(x.1.length:Int))then
     Ab (YA f (y,(n:Int))) λz=>
     Ab (idx x.1 (n:Int)) λv=>
     Ab (NA f (v,z.1)) λA=>
     bif !A then
      Ac Aj
     else
      j (n+1)
    else
     bif Dl ((x.2.length:Int)=0)then
      Ac Bp
     else
      Ab (idx x.2 0) λB=>
      Ab (idx y.2 0) λC=>
      Ab (NA f (B,C)) λD=>
      Ac D) 0) λr=>r=Bp↔WW (De d) x y:=λF s=>by
  refine VD (λk=> ∀i (h:i<x.1.length),i<k->KT (De d) x.1[i] (XQ y i)) x.1.length (λi h k=>by omega) (by omega) (λk nx q p M=>?_) (λnx p=>?_)
  ·have m:=G _ (AS.2 (.inl (AN q)));refine P4 (OC bn λr t=>Aah q ?_);rw[t];refine OC (J0 ih m (bm m.v0 H) (by omega)) λb l=>P0 (λh=>AR λN=>?_) λh=>M λi K L=>?_;· rw[l.2 (N.it k q)]at h;cases h
   ·rcases Aan i k with o|o;· exact p i K o
    ·obtain rfl:i=k:=by omega
     exact l.1 (by simpa using h)
  ·have I:∀i (h:i<x.1.length),KT (De d) x.1[i] (XQ y i):=λi h=>p i h h;refine P5 (N_ (λO=>MN ⟨λ_=>⟨F,s,I,λh=>by omega⟩,λ_=>rfl⟩) λh=>?_);have u:0<x.2.length:=by omega
   have J:0<y.2.length:=by
    rcases Afu y.2.length with e|e;· have:=(s (OF.1 e)).2;rw[this]at u;exact absurd u (by decide)
    ·exact e
   refine Adq (by decide) (by omega) (Adq (by decide) (by omega) (OC (J0 ih (G _ (AS.2 (.inr (AN _)))) (H _ (AS.2 (.inr (AN _)))) (by omega)) λb l=>MN (l.trans ⟨λk=>⟨F,s,I,λ_=>?_⟩,λk=>?_⟩)));· rw[show y.2.getD 0 (v0,v0)=y.2[0]from AO J];exact k
   ·have:=k.rs u;rwa [show y.2.getD 0 (v0,v0)=y.2[0]from AO J]at this
 refine N_ (λh=>AR λk=>by have:=k.ln;omega) λo=>N_ (λe=>?_) λe=>loop (by omega) λE=>absurd (by rw[E];rfl) e;have e:y.2=[]:=OF.1 (by omega);refine N_ (λh=>AR λk=>by have:=(k.cl e).1;omega) λE=>N_ (λh=>AR λk=>by have:=(k.cl e).2;rw[this]at h;exact absurd h (by decide)) λP=>loop (by omega) λ_=>⟨by omega,OF.1 (by omega)⟩
theorem Mg{x y:Bu}(B:NV x)(o:NV y)(V:Dz x)(W:Dz y)(M:∀w∈Bq x,SW d w)(N:∀w∈Bq y,SW d w)(Y:1000000000000+20*d+3<fu):Ok (TB fu (x,y)) λr=>r=Bp↔U5 (De d) x y:=by
 obtain⟨f,rfl⟩:∃f,fu=f+1:=⟨fu-1,by omega⟩;rw[show TB (f+1) (x,y)=_ from d312 f x y];unfold yr;have n1:=B.nf;have n2:=B.nc;have n3:=o.nf;have n4:=o.nc;have A:∀s:Aq,s.length<=60->SW d (v0,v0)->Ok (d_ f (x,y,s)) λr=>r=Bp↔(vw x s).2<=(vw y s).2/\KT (De d) (vw x s).1 (vw y s).1:=λs Z R=>by obtain⟨g,rfl⟩:∃g,f=g+1:=⟨f-1,by omega⟩;rw[show d_ (g+1) (x,y,s)=_ from d311 g x y s];unfold yt;refine BY (L6 B (by omega) (by omega)) (BY (L6 o (by omega) (by omega)) (N_ (λh=>OC (J0 ih (Q5 R M) (Q5 R N) (by omega)) λb i=>MN (i.trans ⟨λk=>⟨h,k⟩,λk=>k.2⟩)) λh=>AR λk=>h k.1))
 refine VD (λk=> ∀g∈x.1.take k,(vw x g.1).2<=(vw y g.1).2/\KT (De d) (vw x g.1).1 (vw y g.1).1) x.1.length (by simp) (by omega) (λk nx n H E=>?_) (λnx H=>?_)
 ·have m:=AN n;refine P4 (Aah n (OC (A _ (B.lb _ m) (M _ (AS.2 (.inl (By.2 ⟨_,m,rfl⟩)))).v0) λb i=>P0 (λh=>AR λG=>?_) λh=>E λg z=>?_));· rw[i.2 (G.fa _ m)]at h;cases h
  ·rcases(Af n).1 z with z|rfl;· exact H g z
   ·exact i.1 (by simpa using h)
 rw[Al]at H;refine Qd (by omega) ?_;refine VD (λk=> ∀g∈y.1.take k,(vw x g.1).2<=(vw y g.1).2/\KT (De d) (vw x g.1).1 (vw y g.1).1) y.1.length (by simp) (by omega) (λk nx n p E=>?_) (λnx p=>?_)
 ·have m:=AN n;refine P4 (Aah n (OC (A _ (o.lb _ m) (N _ (AS.2 (.inl (By.2 ⟨_,m,rfl⟩)))).v0) λb i=>P0 (λh=>AR λG=>?_) λh=>E λg z=>?_));· rw[i.2 (G.fb _ m)]at h;cases h
  ·rcases(Af n).1 z with z|rfl;· exact p g z
   ·exact i.1 (by simpa using h)
 rw[Al]at p;refine Qd (by omega) ?_;refine VD (λk=> ∀a∈x.2.take k,∀b∈y.2,KT (De d) a.2 b.2\/∀w,¬(Av a.1 0 w=Bp/\Av b.1 0 w=Bp)) x.2.length (by simp) (by omega) (λk nx n q E=>?_) (λnx q=>?_)
 ·have m:=AN n;refine TT (by omega) ?_;refine VD (λj=> ∀b∈y.2.take j,KT (De d) (x.2[k]).2 b.2\/∀w,¬(Av (x.2[k]).1 0 w=Bp/\Av b.1 0 w=Bp)) y.2.length (by simp) (by omega) (λj O I u F=>?_) (λO u=>?_)
  ·have J:=AN I;have P:=V.1 _ m;have Q:=W.1 _ J;have U:CD (x.2[k]).1 (Av (x.2[k]).1 0) 14641:=⟨P.2.1,P.2.2,rfl,B.each _ m⟩;have lb:CD (y.2[j]).1 (Av (y.2[j]).1 0) 14641:=⟨Q.2.1,Q.2.2,rfl,o.each _ J⟩;refine P4 (Aah n (Aah I (OC (dt (GA (fu:=f) U lb (by decide) (by omega))) λt S=>?_)));rw[U.gL,lb.gL]at S;have C:sS f t=Ac (Dl ((t.length:Int)=0)):=(rfl);refine BY C ?_;have v:(KT (De d) (x.2[k]).2 (y.2[j]).2\/∀w,¬(Av (x.2[k]).1 0 w=Bp/\Av (y.2[j]).1 0 w=Bp))->∀b∈y.2.take (j+1),KT (De d) (x.2[k]).2 b.2\/∀w,¬(Av (x.2[k]).1 0 w=Bp/\Av b.1 0 w=Bp):=λh b i=>by
    rcases(Af I).1 i with i|rfl;· exact u b i
    ·exact h
   have emp:t=[]↔∀w,¬(Av (x.2[k]).1 0 w=Bp/\Av (y.2[j]).1 0 w=Bp):=by
    rw[S.Gz];constructor;· intro e w T;have:=congrFun e w;rw[T.1,T.2]at this;cases this
    ·intro e;funext w;have:=e w;cases X:Av (x.2[k]).1 0 w<;>cases D:Av (y.2[j]).1 0 w<;>simp_all
   refine P0 (λh=>Aah n (Aah I (OC (J0 ih (M _ (AS.2 (.inr (By.2 ⟨_,m,rf⟩)))) (N _ (AS.2 (.inr (By.2 ⟨_,J,rf⟩)))) (by omega)) λb i=>P0 (λD=>AR λG=>?_) λD=>F (v (.inl (i.1 (by simpa using D))))))) λh=>F (v (.inr (emp.1 ?_)))
   ·rcases G.cl _ m _ J with K|K;· rw[i.2 K]at D;cases D
    ·rw[emp.2 K]at h;cases h
   ·have h:Dl ((t.length:Int)=0)=Bp:=by simpa using h
    have:=of_decide_eq_true h;exact OF.1 (by omega)
  ·rw[Al]at u;refine P5 (E λa L=>?_);rcases(Af n).1 L with L|rfl;· exact q a L
   ·exact u
 ·rw[Al]at q;exact P5 (MN ⟨λ_=>⟨H,p,q⟩,λ_=>rfl⟩)
end
end
section
variable{α:Type}{P:α->Prop}{fu:Nat}
theorem SA{n bs:List α}{g:α->α->Option Bool}{k:Nat}{Q:Bool->Prop}{nx:Option Bool}(v:k<n.length)(t:bs.length<fu)(u:∀b∈bs,Ok (g n[k] b) λr=>r=Bp↔P b)(a:(∃b∈bs,P b)->Ok nx Q)(o:(¬ ∃b∈bs,P b)->Q Aj):
  Ok (
    Ad fu (λ(f:Bool×Nat) c=>
   bif Dl ((f.2:Int)<(bs.length:Int))then
    bif !f.1 then
     Ab (idx n (k:Int)) λy=>
     Ab (idx bs (f.2:Int)) λz=>
     Ab (g y z) λA=>
     c (A,f.2+1)
    else
     bif !f.1 then Ac Aj else nx
   else
    bif !f.1 then Ac Aj else nx) (Aj,0)) Q:=by
 refine Sw (λj (s:Bool)=>s=Bp↔∃b∈bs.take j,P b) bs.length ⟨λh=>(by cases h),λh=>by simp at h⟩ t (λj s c l d w=>?_) (λs c d=>?_)
 ·have m:=AN l;refine P4 (P0 (λh=>Aah v (Aah l (OC (u _ m) λr x=>w _ ?_))) λh=>P0 (λq=>absurd q (by dsimp only at h⊢;rw[h];decide)) λ_=>a ?_)
  ·have p:s=Aj:=by simpa using h
   rw[x];constructor;· intro e;exact⟨_,(Af l).2 (.inr rfl),e⟩
   ·rintro⟨b,i,e⟩;rcases(Af l).1 i with i|rfl;· have:=d.2 ⟨b,i,e⟩;rw[p]at this;cases this
    ·exact e
  ·have p:s=Bp:=by simpa using h
   obtain⟨b,i,e⟩:=d.1 p;exact⟨b,Acl i,e⟩
 ·rw[Al]at d;refine P5 (P0 (λh=>MN (o λk=>?_)) λh=>a (d.1 (by simpa using h)));rw[d.2 k]at h;cases h
theorem H4:∀ {d fu:Nat} {a b:Vl},SV d a->SV d b->1000000000000+20*d<fu->Ok (TA fu (a,b)) λr=>r=Bp↔De d a b
 |0,_,_,_,h,_,_=>h.1.elim
 |d+1,0,_,_,_,_,h=>by omega
 |d+1,f+1,a,b,n,o,G=>by
  have A:∀ {fu:Nat} {a b:Vl},SV d a->SV d b->1000000000000+20*d<fu->Ok (TA fu (a,b)) λr=>r=Bp↔De d a b:=H4;have D:=Dr n.1.1 n.2.1.sc;have sb:=Dr o.1.1 o.2.1.sc;have B:=n.1.2.1;have F:=o.1.2.1;have u:=n.1.2.2.1;have v:=o.1.2.2.1;rw[show TA (f+1) (a,b)=_ from d313 f a b];unfold yq;refine P0 (λh=>MN ⟨λk=> .inl k,λk=>?_⟩) λh=>P0 (λq=>MN ⟨λk=> .inl k,λ_=>q⟩) λq=>OC (Mf D sb (by decide) (by decide) (by omega)) λr z=>P0 (λs=>AR λk=>?_) λs=>?_
  ·rcases k with k|k;· exact k
   ·rw[h]at k;exact absurd k.1 (by decide)
  ·rcases k with k|k;· rw[q]at k;cases k
   ·rw[z.2 k.2.1]at s;cases s
  have C:=z.1 (by simpa using s);refine VD (λk=> ∀c∈a.lists.take k,∃l∈b.lists,WW (De d) c l) a.lists.length (by simp) (by omega) (λk nx p t w=>?_) (λnx t=>?_)
  ·have m:=AN p;refine P4 (SA (g:=λx y=>TC f (x,y)) (P:=λl=>WW (De d) a.lists[k] l) p (by omega) (λc hc=>RZ A (B.2 _ m).1 (n.lv m) (o.lv hc) (by omega)) (λh=>w λc hc=>?_) λh=>⟨λe=>(by cases e),λi=>?_⟩)
   ·rcases(Af p).1 hc with hc|rfl;· exact t c hc
    ·exact h
   ·rcases i with i|i;· rw[q]at i;cases i
    ·exact absurd (i.2.2.1 _ m) h
  rw[Al]at t;refine Qd (by omega) ?_;refine VD (λk=> ∀c∈a.structs.take k,∃l∈b.structs,U5 (De d) c l) a.structs.length (by simp) (by omega) (λk nx p j w=>?_) (λnx j=>?_)
  ·have m:=AN p;refine P4 (SA (g:=λx y=>TB f (x,y)) (P:=λl=>U5 (De d) a.structs[k] l) p (by omega) (λc hc=>Mg A (u.2 _ m) (v.2 _ hc) (n.2.1.st _ m).2 (o.2.1.st _ hc).2 (n.sv m) (o.sv hc) (by omega)) (λh=>w λc hc=>?_) λh=>⟨λe=>(by cases e),λi=>?_⟩)
   ·rcases(Af p).1 hc with hc|rfl;· exact j c hc
    ·exact h
   ·rcases i with i|i;· rw[q]at i;cases i
    ·exact absurd (i.2.2.2 _ m) h
  ·rw[Al]at j;exact P5 (MN ⟨λ_=> .inr ⟨h,C,t,j⟩,λ_=>rfl⟩)
theorem contains_eq{l:List α}{x:α}{g:α->α->Option (Bool×α)}(n:l.length<fu)(o:∀y∈l,Ok (g y x) λr=>r.2=x/\(r.1=Bp↔P y)):
  Ok (Ad fu (λ(b:α×Nat) i=>bif Dl ((b.2:Int)<(l.length:Int))then Ab (idx l (b.2:Int)) λq=>Ab (g q b.1) λj=>bif j.1 then Ac ((b.2:Int),j.2)else i (j.2,b.2+1)else Ac ((-1:Int),b.1)) (x,0)) λr=>r.2=x/\(0<=r.1↔∃y∈l,P y):=by
 refine Sw (λk s=>s=x/\∀y∈l.take k,¬P y) l.length ⟨rf,by simp⟩ n (λk s nx e a p=>?_) (λs nx a=>?_)
 ·obtain⟨rfl,a⟩:=a;have m:=AN e;refine P4 (Aah e (OC (o _ m) λr d=>P0 (λh=>MN ⟨d.1,λ_=>⟨_,m,d.2.1 h⟩,λ_=>by omega⟩) λh=>p _ ⟨d.1,λy c=>?_⟩));rcases(Af e).1 c with c|rfl;all_goals grind
 ·obtain⟨rfl,a⟩:=a;rw[Al]at a;exact P5 (MN ⟨rfl,λh=>by omega,λ⟨y,c,f⟩=>absurd f (a y c)⟩)
theorem M_{a:List α}{g:α->Option (Bool×α)}(j:a.length<fu)(l:∀x∈a,Ok (g x) λr=>r.1=Bp↔P x):
  Ok (Ad fu (λ(f:Nat) e=>bif Dl ((f:Int)<(a.length:Int))then Ab (idx a (f:Int)) λo=>Ab (g o) λp=>bif !p.1 then Ac Aj else e (f+1)else Ac Bp) 0) λr=>r=Bp↔∀x∈a,P x:=by
 refine VD (λk=> ∀x∈a.take k,P x) a.length (by simp) j (λk nx c b n=>?_) (λnx b=>?_)
 ·have m:=AN c;refine P4 (Aah c (OC (l _ m) λr i=>P0 (λh=>AR λk=>?_) λh=>n λx d=>?_));· grind
  ·rcases(Af c).1 d with d|rfl;all_goals grind
 ·rw[Al]at b;exact P5 (MN ⟨λ_=>b,λ_=>rfl⟩)
end
section
variable {d : Nat} (ih : ∀ {fu : Nat} {a b : Vl}, SV d a -> SV d b -> 1000000000000 + 20 * d < fu -> Ok (TG fu (a, b)) λr => r = Bp ↔ De d a b)
section
variable{fu:Nat}
include ih
theorem P2{x y:Bb}(e:SW d x)(g:SW d y)(j:1000000000000+20*d+1<fu):Ok (LC fu (x,y)) λr=>r=Bp↔KT (De d) x y:=by
 obtain⟨f,rfl⟩:∃f,fu=f+1:=⟨fu-1,by omega⟩;rw[show LC (f+1) (x,y)=_ from d189 f x y];refine OC (ih e.1 g.1 (by omega)) λr c=>P0 (λh=>OC (ih e.2 g.2 (by omega)) λs i=>MN ?_) λh=>AR λk=>?_;· exact i.trans ⟨λk=>⟨c.1 h,k⟩,λk=>k.2⟩
 ·rw[c.2 k.1]at h;grind
theorem Jw{x y:HQ}(h1:x.1.length<=3)(G:∀w∈AY x,SW d w)(H:∀w∈AY y,SW d w)(Q:1000000000000+20*d+2<fu):Ok (Vc fu (x,y)) λr=>r=Bp↔WW (De d) x y:=by
 obtain⟨
     f,rfl⟩:∃f,fu=f+1:=⟨fu-1,by omega⟩;rw[show Vc (f+1) (x,y)=_ from d190 f x y];have loop:(y.1.length<=x.1.length)->(y.2=[]->x.1.length<=y.1.length/\x.2=[])->Ok (Ad f (λ(n:Nat) j=>
    bif Dl ((n:Int)<(x.1.length:Int))then
     Ab (idx x.1 (n:Int)) λv=>
     Ab (YK f (y,(n:Int))) λz=>
     Ab (LC f (v,z.1)) λA=>
     bif !A then
      Ac Aj
     else
      j (n+1)
    else
     bif Dl ((x.2.length:Int)=0)then
      Ac Bp
     else
      Ab (idx x.2 0) λB=>
      Ab (idx y.2 0) λC=>
      Ab (LC f (B,C)) λD=>
      Ac D) 0) λr=>r=Bp↔WW (De d) x y:=λF s=>by
  refine VD (λk=> ∀i (h:i<x.1.length),i<k->KT (De d) x.1[i] (XQ y i)) x.1.length (λi h k=>by omega) (by omega) (λk nx q p M=>?_) (λnx p=>?_)
  ·have m:=G _ (AS.2 (.inl (AN q)));refine P4 (Aah q (OC gZ λr t=>?_));rw[t];refine OC (P2 ih m (bm m.v0 H) (by omega)) λb l=>P0 (λh=>AR λN=>?_) λh=>M λi K L=>?_;· rw[l.2 (N.it k q)]at h;grind
   ·rcases Aan i k with o|o;· simp_all
    grind
  ·have I:∀i (h:i<x.1.length),KT (De d) x.1[i] (XQ y i):=λi h=>p i h h;refine P5 (N_ (λO=>MN ⟨λ_=>⟨F,s,I,λh=>by omega⟩,λ_=>rfl⟩) λh=>?_);have u:0<x.2.length:=by omega
   have J:0<y.2.length:=by grind
   refine Adq (by decide) (by omega) (Adq (by decide) (by omega) (OC (P2 ih (G _ (AS.2 (.inr (AN _)))) (H _ (AS.2 (.inr (AN _)))) (by omega)) λb l=>MN (l.trans ⟨λk=>⟨F,s,I,λ_=>?_⟩,λk=>?_⟩)));· rw[show y.2.getD 0 (v0,v0)=y.2[0]from AO J];exact k
   ·have:=k.rs u;rwa [show y.2.getD 0 (v0,v0)=y.2[0]from AO J]at this
 refine N_ (λh=>AR λk=>by have:=k.ln;omega) λo=>P0 (λh=>?_) λh=>loop (by omega) λE=>absurd h (by rw[E];decide);have e:y.2=[]:=by
  rcases Afu y.2.length with e|e;· exact OF.1 e
  ·rw[show Dl ((0:Int)<(y.2.length:Int))=Bp from decide_eq_true (by omega)]at h;cases h
 exact N_ (λh=>AR λk=>by have:=(k.cl e).1;omega) λE=>N_ (λh=>AR λk=>by have:=(k.cl e).2;rw[this]at h;exact absurd h (by decide)) λP=>loop (by omega) λ_=>⟨by omega,OF.1 (by omega)⟩
theorem G8{x y:Bu}(C:NV x)(i:NV y)(M:Dz x)(N:Dz y)(V:∀w∈Bq x,SW d w)(W:∀w∈Bq y,SW d w)(hF:1000000000000+20*d+2<fu):Ok (Vd fu (x,y)) λr=>r=Bp↔U5 (De d) x y:=by
 obtain⟨f,rfl⟩:∃f,fu=f+1:=⟨fu-1,by omega⟩;rw[show Vd (f+1) (x,y)=_ from d183 f x y];have n1:=C.nf;have n2:=C.nc;have n3:=i.nf;have n4:=i.nc;refine PH ⟨rfl,rfl⟩ ?_;let P:=λg:Aq×Int×Bb=>(vw x g.1).2<=(vw y g.1).2/\KT (De d) (vw x g.1).1 (vw y g.1).1;refine VD (λk=>(1<=k->∀g∈x.1,P g)/\(2<=k->∀g∈y.1,P g)) 2 ⟨λh=>by omega,λh=>by omega⟩ (by omega) (λk nx I H J=>?_) (λnx H=>?_)
 ·have inner:∀(l:List (Aq×Int×Bb)),l.length<=4->(∀g∈l,g.1.length<=60/\SW d (v0,v0))->(U5 (De d) x y->∀g∈l,P g)->((∀g∈l,P g)->Ok (nx (k+1)) λr=>r=Bp↔U5 (De d) x y)->
    Ok (
      Ad f (λ(Y:Nat) B=>
     bif Dl ((Y:Int)<(l.length:Int))then
      Ab (idx l (Y:Int)) λr6=>
      Ab (Ve f (x,r6.1)) λr7=>
      Ab (Ve f (y,r6.1)) λr8=>
      bif Dl (r8.2<r7.2)then
       Ac Aj
      else
       Ab (LC f (r7.1,r8.1)) λr9=>
       bif !r9 then
        Ac Aj
       else
        B (Y+1)
     else
      nx (k+1)) 0) λr=>r=Bp↔U5 (De d) x y:=λl hl v hP U=>by
   refine VD (λj=> ∀g∈l.take j,P g) l.length (by simp) (by omega) (λj B A u T=>?_) (λB u=>?_)
   ·have m:=AN A;obtain⟨q1,q2⟩:=v _ m;refine P4 (Aah A (BY (Po C (by omega) (by omega)) (BY (Po i (by omega) (by omega)) (N_ (λh=>AR λp=>by have:=(hP p _ m).1;omega) λD=>OC (P2 ih (Q5 q2 V) (Q5 q2 W) (by omega)) λr G=>P0 (λh=>AR λp=>?_) λh=>T λg z=>?_))));· rw[G.2 (hP p _ m).2]at h;cases h
    rcases(Af A).1 z with E|rfl;· exact u g E
    ·exact⟨by omega,G.1 (by simpa using h)⟩
   ·exact P5 (U λg z=>u g (by rw[Al];omega))
  have M:∀g∈x.1,g.1.length<=60/\SW d (v0,v0):=λg v=>⟨C.lb g v,(V _ (AS.2 (.inl (By.2 ⟨g,v,rfl⟩)))).v0⟩;have N:∀g∈y.1,g.1.length<=60/\SW d (v0,v0):=λg v=>⟨i.lb g v,(W _ (AS.2 (.inl (By.2 ⟨g,v,rfl⟩)))).v0⟩;refine TT (by omega) ?_;rcases(by omega:k=0\/k=1)with rfl|rfl;· exact BY (a:=x.1) rfl (inner x.1 n1 M (λp=>p.fa) λh=>J ⟨λ_=>h,λh=>by omega⟩)
  ·exact BY (a:=y.1) rf (inner y.1 n3 N (λp=>p.fb) λh=>J ⟨λ_=>H.1 (by omega),λ_=>h⟩)
 ·have O:=H.1 (by omega);have Q:=H.2 (by omega);refine VD (λk=> ∀a∈x.2.take k,∀b∈y.2,KT (De d) a.2 b.2\/∀w,¬(Av a.1 0 w=Bp/\Av b.1 0 w=Bp)) x.2.length (by simp) (by omega) (λk nx I n J=>?_) (λnx n=>?_)
  ·have K:=AN I;refine P4 (Aah I ?_);refine VD (λj=> ∀b∈y.2.take j,KT (De d) (x.2[k]).2 b.2\/∀w,¬(Av (x.2[k]).1 0 w=Bp/\Av b.1 0 w=Bp)) y.2.length (by simp) (by omega) (λj X A o F=>?_) (λX o=>?_)
   ·have L:=AN A;have s1:=V _ (AS.2 (.inr (By.2 ⟨_,K,rfl⟩)));have s2:=W _ (AS.2 (.inr (By.2 ⟨_,L,rfl⟩)));have Z:=M.1 _ K;have gb:=N.1 _ L;have la:CD (x.2[k]).1 (Av (x.2[k]).1 0) 14641:=⟨Z.2.1,Z.2.2,rfl,C.each _ K⟩;have lb:CD (y.2[j]).1 (Av (y.2[j]).1 0) 14641:=⟨gb.2.1,gb.2.2,rfl,i.each _ L⟩;have q:(KT (De d) (x.2[k]).2 (y.2[j]).2\/∀w,¬(Av (x.2[k]).1 0 w=Bp/\Av (y.2[j]).1 0 w=Bp))->∀b∈y.2.take (j+1),KT (De d) (x.2[k]).2 b.2\/∀w,¬(Av (x.2[k]).1 0 w=Bp/\Av b.1 0 w=Bp):=λh b S=>by
     rcases(Af A).1 S with S|rfl;· exact o b S
     trivial
    refine P4 (Aah A (OC (P2 ih s1 s2 (by omega)) λr G=>P0 (λh=>OC (ju (GA la lb (by decide) (by omega))) λt ht=>?_) λh=>F (q (.inl (G.1 (by simpa using h))))));rw[la.gL,lb.gL]at ht;have emp:t=[]↔∀w,¬(Av (x.2[k]).1 0 w=Bp/\Av (y.2[j]).1 0 w=Bp):=by
     rw[ht.Gz];constructor;· intro e w hw;have:=congrFun e w;rw[hw.1,hw.2]at this;cases this
     ·intro e;funext w;have:=e w;cases h1:Av (x.2[k]).1 0 w<;>cases D:Av (y.2[j]).1 0 w<;>simp_all
    refine N_ (λD=>AR λp=>?_) λD=>F (q (.inr (emp.1 (OF.1 (by omega)))));rcases p.cl _ K _ L with E|E;· rw[G.2 E]at h;cases h
    ·rw[emp.2 E]at D;exact absurd D (by decide)
   ·rw[Al]at o;refine P5 (J λa R=>?_);rcases(Af I).1 R with R|rfl;· exact n a R
    ·exact o
  ·rw[Al]at n;exact P5 (MN ⟨λ_=>⟨O,Q,n⟩,λ_=>rfl⟩)
end
end
section
variable{n fu N:Nat}{r:Tb}{L:Nat}{g:Nat->Nat->Bool}{l:Tb}{w:Aq}{m:Nat}{x y:Int}{i:Nat}
theorem J1:∀ {d fu:Nat} {a b:Vl},SV d a->SV d b->1000000000000+20*d<fu->Ok (TG fu (a,b)) λr=>r=Bp↔De d a b
 |0,_,_,_,h,_,_=>h.1.elim
 |d+1,fu,a,b,j,l,C=>by
  obtain⟨f,rfl⟩:∃f,fu=f+7:=⟨fu-7,by omega⟩;have u:∀ {fu:Nat} {a b:Vl},SV d a->SV d b->1000000000000+20*d<fu->Ok (TG fu (a,b)) λr=>r=Bp↔De d a b:=J1;have z:=Dr j.1.1 j.2.1.sc;have sb:=Dr l.1.1 l.2.1.sc;rw[show TG (f+7) (a,b)=_ from d188 (f+6) a b];refine P0 (λh=>MN ⟨λk=> .inl k,λk=>?_⟩) λh=>P0 (λn=>MN ⟨λk=> .inl k,λ_=>n⟩) λn=>?_
  ·rcases k with k|k;all_goals grind
  refine OC (Mo (d:=d+1) (x:=(a,v0)) (y:=(b,v0)) ⟨j.1,(L9 d).1⟩ ⟨l.1,(L9 d).1⟩ (by omega)) λr c=>P0 (λh=>MN ⟨λ_=>?_,λ_=>rfl⟩) λ_=>?_;· have e:a=b:=congrArg Prod.fst (c.1 h);subst e;exact De.refl j.2
  have v:=j.1.2.1;have B:=l.1.2.1;have q:=j.1.2.2.1;have s:=l.1.2.2.1;refine OC (Xe z sb (by simp) (by simp) (by omega)) λr c=>P0 (λi=>AR λk=>?_) λi=>?_
  ·rcases k with k|k;· rw[n]at k;cases k
   ·rw[c.2 k.2.1]at i;cases i
  have w:=c.1 (by simpa using i);have L:Ok (kD (f+6) (a.lists,b.lists)) λr=>r=Bp↔∀x∈a.lists,∃y∈b.lists,WW (De d) x y:=by
   rw[show kD (f+6) (a.lists,b.lists)=_ from d182 (f+5) _ _];refine M_ (g:=λx=>kE (f+5) (b.lists,x)) (by omega) λx m=>?_;rw[show kE (f+5) (b.lists,x)=_ from d181 (f+4) _ _];have:Ok (kF (f+4) (b.lists,x)) λr=>r.2=x/\(0<=r.1↔∃y∈b.lists,WW (De d) x y):=by rw[show kF (f+4) (b.lists,x)=_ from d180 (f+3) _ _];refine contains_eq (g:=λy x=>kG (f+3) (y,x)) (by omega) λy p=>?_;rw[show kG (f+3) (y,x)=_ from d179 (f+2) _ _];exact OC (Jw u (v.2 x m).1 (j.lv m) (l.lv p) (by omega)) λr c=>MN ⟨rfl,c⟩
   exact OC this λr c=>MN (decide_eq_true_iff.trans c.2)
  have S:Ok (kx (f+6) (a.structs,b.structs)) λr=>r=Bp↔∀x∈a.structs,∃y∈b.structs,U5 (De d) x y:=by
   rw[show kx (f+6) (a.structs,b.structs)=_ from d187 (f+5) _ _];refine M_ (g:=λx=>kA (f+5) (b.structs,x)) (by omega) λx m=>?_;rw[show kA (f+5) (b.structs,x)=_ from d186 (f+4) _ _];have:Ok (kB (f+4) (b.structs,x)) λr=>r.2=x/\(0<=r.1↔∃y∈b.structs,U5 (De d) x y):=by rw[show kB (f+4) (b.structs,x)=_ from d185 (f+3) _ _];refine contains_eq (g:=λy x=>kC (f+3) (y,x)) (by omega) λy p=>?_;rw[show kC (f+3) (y,x)=_ from d184 (f+2) _ _];exact OC (G8 u (q.2 x m) (s.2 y p) (j.2.1.st x m).2 (l.2.1.st y p).2 (j.sv m) (l.sv p) (by omega)) λr c=>MN ⟨rfl,c⟩
   exact OC this λr c=>MN (decide_eq_true_iff.trans c.2)
  refine OC L λD o=>P0 (λi=>OC S λE t=>MN (t.trans ⟨λk=> .inr ⟨h,w,o.1 i,k⟩,λk=>?_⟩)) λi=>AR λk=>?_
  ·rcases k with k|k;· rw[n]at k;cases k
   ·exact k.2.2.2
  ·rcases k with k|k;· rw[n]at k;cases k
   ·rw[o.2 k.2.2.1]at i;cases i
def Ck(L N:Nat)(g:Nat->Nat->Bool):List (Bool×List Bool):=Bh L λi=>(Bp,Bh (N+1) (g i))
theorem iz:(Ck L N g).length=L:=Az _ _
theorem Wi(h:i<L):idx (Ck L N g) (i:Int)=Ac (Bp,Bh (N+1) (g i)):=by unfold Ck;rw[Bk (by rw[Az];exact h),Bm]
theorem EN{a:Nat->Nat->Bool}(h:∀i,i<L->∀j,j<N+1->g i j=a i j):Ck L N g=Ck L N a:=
 AP λi b=>by rw[AP (h i b)]
theorem iy:(Ck L N g).set i (Bp,(Bh (N+1) (g i)).set n Bp)=Ck L N λa j=>if a=i then if j=n then Bp else g i j else g a j:=by
 unfold Ck;rw[A',A'];refine AP λa _=>?_;by_cases h:a=i;· simp only[if_pos h]
 ·simp only[if_neg h]
theorem oj{α:Type}{f:Nat->α}(h:n<N):idx (Bh N f) (n:Int)=Ac (f n):=by rw[Bk (by rw[Az];exact h),Bm]
theorem jc(hw:Bf l)(L:DT l n)(hn:n<4294967295)(hN:N<4294967295)(hf:n<fu)(S:N+1<fu):
  jL fu (l,(N:Int))=Ac (Bh l.length λi=>Bh (N+1) λk=>Em l k i):=by
 have W:=L.1;refine(Ok.eq ?_);rw[jL];refine PH (by unfold Ah;omega) ?_;have O:ao ((N:Int)+1)=N+1:=by omega
 rw[O];refine Sw (λk (s:List (Bool×List Bool))=>s=Bh l.length λi=>if i<k then(Bp,Bh (N+1) λj=>Dl (j<1)&&Em l j i)else(Aj,[])) l.length ?_ (by omega) (λk s nx D r I=>?_) (λs nx r=>?_);· rw[Afj,DA];exact AP λi _=>by simp
 ·have sl:s.length=l.length:=by rw[r,Az]
  have J:lj s k (Bp,T8 (N+1) Aj)=Bh l.length λi=>if i=k then(Bp,Bh (N+1) λ_=>Aj)else if i<k then(Bp,Bh (N+1) λj=>Dl (j<1)&&Em l j i)else(Aj,[]):=by rw[r,A',DA]
  have F:idx (lj s k (Bp,T8 (N+1) Aj)) (k:Int)=Ac (Bp,Bh (N+1) λ_=>Aj):=by rw[J,Bk (by rw[Az];exact D),Bm,if_pos rfl]
  refine P4 (Aap (Abw (PH (by unfold Ah;omega) (PH ⟨by omega,by dsimp only;omega⟩ (Abw (PH ⟨by omega,by rw[Abq];dsimp only;omega⟩ (BY F (PH rf (Aah D (BY F (PH ⟨rf,by decide,by dsimp only;rw[Az];omega⟩ (BY F (PH ⟨rf,by dsimp only;rw[Az];simp⟩ (I _ ?_))))))))))))));dsimp only;rw[J,A',A'];refine AP λi _=>?_;by_cases h:i=k
  ·subst h;rw[if_pos rfl,if_pos (by omega)];refine congrArg (Prod.mk Bp) (AP λj _=>?_);by_cases C:j=0;· subst C;refine(if_pos rfl).trans ?_;rw[Hf,Ef (by omega) (by omega)];rfl
   ·rw[if_neg (by exact C),decide_eq_false (by omega)];rfl
  ·rw[if_neg h,if_neg h];by_cases d:i<k;· rw[if_pos d,if_pos (by omega)]
   ·rw[if_neg d,if_neg (by omega)]
 have r:s=Ck l.length N λi j=>Dl (j<1)&&Em l j i:=by rw[r];exact AP λi f=>by rw[if_pos f]
 refine Qd (by dsimp only;omega) ?_;refine Xp (X:=List (Bool×List Bool)×Int) (λx=> ∃k:Nat,x.2=(k:Int)/\1<=k/\k<=N+1/\x.1=Ck l.length N λi j=>Dl (j<k)&&Em l j i) (λx=>N+1-x.2.toNat) ⟨1,rfl,by omega,by omega,r⟩ (by dsimp only;omega) λx nx8 Q _ u=>?_;obtain⟨s,z⟩:=x;obtain⟨k,M,U,V,B⟩:=Q;dsimp only at M B u;subst M;dsimp only;refine N_ (λD=>?_) λD=>?_
 ·refine Sw (λi (s:List (Bool×List Bool))=>s=Ck l.length N λa j=>(Dl (j<k)||(Dl (j=k)&&Dl (a<i)))&&Em l j a) l.length ?_ (by omega) (λi s w f p t=>?_) (λs w p=>?_);· rw[B];exact EN λa _ j _=>by simp
  ·have Y:(l[i]).2.length<=n:=L.2 _ (AN f);have T:=hw _ (AN f);have v:Im l i=(l[i]).2:=Hd f;refine TT (by dsimp only;omega) ?_;refine Sw (λm (s:List (Bool×List Bool))=>s=Ck l.length N λa j=>if a=i/\j=k then((l[i]).2.take m).any (λe=>Em l (k-1) e.2.2.toNat)else(Dl (j<k)||(Dl (j=k)&&Dl (a<i)))&&Em l j a) (l[i]).2.length ?_ (by omega) (λm s y E c o=>?_) (λs y c=>?_)
   ·rw[p];exact EN λa _ j _=>by
     by_cases h:a=i/\j=k;· rw[if_pos h,h.1,h.2];simp
     ·rw[if_neg h]
   ·have K:=T.rg _ (AN E);have sl:s.length=l.length:=by rw[c,iz]
    have Z:((l[i]).2[m]).2.2.toNat<l.length:=by omega
    have H:=(congrArg (λs=>idx s ((((l[i]).2[m]).2.2.toNat:Nat):Int)) c).trans (Wi Z);have G:=(congrArg (λs=>idx s (i:Int)) c).trans (Wi f);have P:ao ((k:Int)-1)=k-1:=by omega
    refine Aah f (P4 (Aah f (Aah E (PH ⟨K.2.2.2.1,by dsimp only;rw[sl];exact K.2.2.2.2⟩ (BY H (PH rf (Aap (BY H (PH ⟨rf,by omega,by dsimp only;rw[Az];omega⟩ (BY H (PH rf ?_)))))))))));rw[P];have ev:(if((l[i]).2[m]).2.2.toNat=i/\k-1=k then((l[i]).2.take m).any (λe=>Em l (k-1) e.2.2.toNat)else(Dl (k-1<k)||(Dl (k-1=k)&&Dl (((l[i]).2[m]).2.2.toNat<i)))&&Em l (k-1) ((l[i]).2[m]).2.2.toNat)=Em l (k-1) ((l[i]).2[m]).2.2.toNat:=by rw[if_neg (by omega),decide_eq_true (by omega:k-1<k)];simp
    refine BY ((oj (by omega)).trans (congrArg Ac ev)) ?_;refine P0 (λh=>PH ⟨by omega,by dsimp only;omega⟩ (BY G (PH rf (BY G (PH ⟨rf,by omega,by dsimp only;rw[Az];omega⟩ (BY G (PH ⟨rf,by dsimp only;rw[Az];omega⟩ (o _ ?_)))))))) λh=>o _ ?_
    ·dsimp only;rw[show ao (k:Int)=k by omega];conv=>lhs;rw[c]
     rw[iy];refine EN λa _ j _=>?_;by_cases b:a=i
     ·by_cases d:j=k;· rw[if_pos b,if_pos d,if_pos ⟨b,d⟩,IN E,Aeu];simp[h]
      ·rw[if_pos b,if_neg d,if_neg (λh=>d h.2),if_neg (λh=>d h.2),b]
     ·rw[if_neg b,if_neg (λh=>b h.1),if_neg (λh=>b h.1)]
    ·dsimp only;rw[c];refine EN λa _ j _=>?_;by_cases b:a=i/\j=k;· rw[if_pos b,if_pos b,IN E,Aeu];simp[h]
     ·rw[if_neg b,if_neg b]
   ·refine Aah f (P5 (t _ ?_));rw[c,Al];refine EN λa _ j _=>?_;by_cases b:a=i/\j=k;· obtain⟨rfl,rfl⟩:=b;rw[if_pos ⟨rfl,rfl⟩,decide_eq_true (by omega:a<a+1)];obtain⟨q,rfl⟩:∃q,j=q+1:=⟨j-1,by omega⟩;rw[Hg,v];simp
    ·rw[if_neg b];by_cases d:j=k;· have:a≠i:=λh=>b ⟨h,d⟩;rw[show Dl (a<i+1)=Dl (a<i) by simp;omega]
     ·rw[decide_eq_false d];simp
  ·refine P5 (Aap (u _ ⟨k+1,by dsimp only;omega,by omega,by omega,?_⟩ (by dsimp only;omega)));dsimp only;rw[p];refine EN λa R j _=>?_;rw[decide_eq_true R,Bool.and_true,show Dl (j<k+1)=(Dl (j<k)||decide (j=k)) by
    rcases Acx j k with h|h|h;· rw[decide_eq_true h,decide_eq_true (by omega)];rfl
    ·rw[decide_eq_true h,decide_eq_true (by omega),Bool.or_true]
    ·rw[decide_eq_false (by omega),decide_eq_false (by omega),decide_eq_false (by omega)];rfl]
 ·obtain rfl:k=N+1:=by omega
  refine PH ?_ (MN ?_);· rw[B];refine No.2 λx hx=>?_;obtain⟨i,_,rfl⟩:=EG.1 hx;rfl
  ·rw[B];unfold Ck Bh;rw[Aam];refine Abs λi _=>?_;show(aT (N+1)).map _=_;refine Abs λj C=>?_;show(Dl (j<N+1)&&Em l j i)=_;rw[decide_eq_true (Abg.1 C),Ahi]
def wl(pre:Aq)(o:Option Aq):List Aq:=match o with
 |some w=>[pre++w]
 |none=>[]
theorem Zh{pre:Aq}{o:Option Aq} :(wl pre o).length<=1:=by cases o<;>simp[wl]
theorem N5{l:Tb}{n N:Nat}(V:Bf l)(U:DT l n)(hn:n<4294967295):∀ {k fu i:Nat} {pre:Aq},k<=N->n+300+k<fu->pre.length+k<4294967296->i<l.length->
  Yy fu (l,Bh l.length (λi=>Bh (N+1) λk=>Em l k i),(i:Int),(k:Int),1,pre)=Ac (wl pre (lw l k i))
 |_,0,_,_,_,h,_,_=>by omega
 |k,fu+1,i,pre,hk,hf,hp,A=>by
  refine(d322 fu _ _ _ _ _ _).trans (Ok.eq ?_);unfold yp;refine BY (oj A) ?_;refine BY (oj (by omega)) (P0 (λh=>MN ?_) λh=>Qd (by decide) ?_)
  ·have h:(lw l k i).isSome=Aj:=by
    have:Em l k i=Aj:=by simpa using h
    exact this
   rw[Alg.1 h |> Alj.1];rfl
  cases k with
  |zero=>
   have h:Em l 0 i=Bp:=by simpa using h
   obtain⟨w,e⟩:=Abk.1 h;have:w=[]:=OF.1 (Uk e);subst this;refine TT rfl (MN ?_);rw[e];show [pre]=[pre++[]];rw[Adi]
  |succ k=>
   refine Qd (by omega) ?_;have hs2:(l[i]).2.length<=n:=U.2 _ (AN A);have K:=V _ (AN A);have G:Im l i=(l[i]).2:=Hd A;let f:=λe:Cm=>(lw l k e.2.2.toNat).map λw=>UInt8.ofNat e.1.toNat::w;have hl:lw l (k+1) i=(l[i]).2.findSome? f:=by rw[<-G];rfl
   rw[hl];refine Sw (λm (s:List Aq)=>s=wl pre (((l[i]).2.take m).findSome? f)) (l[i]).2.length rfl (by omega) (λm s nx Q B R=>?_) (λs nx B=>?_)
   ·have D:=K.rg _ (AN Q);have P:=D.1;have O:=D.2.1;have L:=D.2.2.1;have H:=D.2.2.2.1;have I:=D.2.2.2.2;have W:(l[i]).2.findSome? f=(((l[i]).2.take m).findSome? f).or (((l[i]).2.drop m).findSome? f):=by
     rw[<-Agu,Acf]
    have st:((l[i]).2.take (m+1)).findSome? f=(((l[i]).2.take m).findSome? f).or (f (l[i]).2[m]):=by rw[IN Q,Agu,List.findSome?_singleton]
    refine Aah A (TT (by dsimp only;omega) ?_);cases T:((l[i]).2.take m).findSome? f with
    |some w=>
     rw[T]at B W;subst B;refine Qd (by show¬((([pre++w]:List Aq).length:Int)<1);simp) (MN ?_);rw[W];rfl
    |none=>
     rw[T]at B st;subst B;refine TT (by show(0:Int)<1;decide) (Aah A (Aah Q ?_));generalize hE:(l[i]).2[m]=e at*;obtain⟨C,q,t⟩:=e;dsimp only at P O L H I⊢;have y:=λ{g:Nat} (c:Int) (K:n+300+k<g)=>N5 V U hn (N:=N) (k:=k) (fu:=g) (i:=t.toNat) (pre:=pre++[UInt8.ofNat c.toNat]) (by omega) K (by rw[Aac,Acn];omega) (by omega);rw[Abe H]at y;have Y:((k+1:Nat):Int)-1=(k:Int):=by omega
     have u:Ok (nx (wl pre (f (C,q,t)),m+1)) λr=>r=wl pre ((l[i]).2.findSome? f):=R _ (by rw[st];rfl);have fe:f (C,q,t)=(lw l k t.toNat).map λw=>UInt8.ofNat C.toNat::w:=rfl;refine Xp (X:=List Aq×Int) (λx=>C<=x.2/\x.2<=q+1/\(x.1=wl pre (f (C,q,t))\/x.1=[]/\x.2=C)) (λx=>(q+1-x.2).toNat) ⟨Abo _,by dsimp only;omega, .inr ⟨rfl,rfl⟩⟩ (by dsimp only;omega) λx nx9 hI _ F=>?_;obtain⟨s,z⟩:=x;obtain⟨Z,h2,d⟩:=hI;dsimp only at Z h2 d F⊢;refine N_ (λhz=>N_ (λhlt=>?_) λE=>?_) λhz=>?_
     ·have S:s=[]:=OF.1 (by omega);subst S;have hr:Yy fu (l,Bh l.length (λi=>Bh (N+1) λk=>Em l k i),t,((k+1:Nat):Int)-1,1-((([]:List Aq).length:Nat):Int),pre++UInt8.ofNat z.toNat::[])=Ac (wl (pre++[UInt8.ofNat z.toNat]) (lw l k t.toNat)):=by
       rw[Y];exact y z (by omega)
      refine Aap (Abx (by decide) (PH (p:=GK.F8 _) (by unfold GK.F8;omega) (PH (by simp;omega) (BY hr (PH (by have:=Zh (pre:=pre++[UInt8.ofNat z.toNat]) (o:=lw l k t.toNat);simp[Ah];omega) (Aap (F _ ⟨by dsimp only;omega,by dsimp only;omega, .inl ?_⟩ (by dsimp only;omega))))))));dsimp only;rw[Acd];rcases d with d|d;· rw[fe]at d⊢;cases M:lw l k t.toNat with
       |none=>rfl
       |some v=>rw[M]at d;cases d
      ·rw[d.2,fe];cases lw l k t.toNat with
       |none=>rfl
       |some v=>show [_]=[_];rw[Aaj];rfl
     ·rcases d with d|d;· rw[d];exact u
      ·rw[d.1]at E;exact absurd (by decide) E
     ·rcases d with d|d;· rw[d];exact u
      ·omega
   ·refine Aah A (P5 (MN ?_));rw[B,Al]
def LN(r:Tb):Option Aq:=(aT r.length).findSome? λk=>lw r k 0
def lsO(o:Option Aq):Aq×Bool:=match o with
 |some w=>(w,Bp)
 |none=>([],Aj)
theorem M4{f:Nat->Option Aq}{k:Nat}(c:k<n)(h:f k=Ac w)(d:∀j,j<k->f j=C7):(aT n).findSome? f=Ac w:=by
 have:(aT n)=(aT n).take k++k::(aT n).drop (k+1):=by
  conv=>lhs;rw[<-Acf k (aT n)]
  simp_all[Aaq,Ais,List.getElem_range]
 grind
theorem Ul{r:Tb}{k:Nat}{w:Aq}(b:k<r.length)(h:lw r k 0=Ac w)(c:∀j,j<k->Em r j 0=Aj):LN r=Ac w:=M4 b h λj a=>by simp_all[Em]
theorem IX{L:Lg}(h:CD r L m)(g:DT r n)(I:n<1500000000)(H:3*n+600<fu):Yx fu r=Ac (lsO (LN r)):=by
 have G:=g.1;refine(Ok.eq ?_);rw[Yx];have key:jK fu (r,1)=Ac (wl [] (LN r)):=by
  refine(Ok.eq ?_);rw[jK];refine BY (M0 h.wf.by g (by omega) (by omega) (by omega)) ?_;rw[h.JI];refine N_ (λq=>MN ?_) λq=>?_;· have:r=[]:=OF.1 (by omega);rw[this];rfl
  have y:(if(1000:Int)<1 then(1000:Int)else 1)=1:=rfl;have A:(if(0:Int)>1 then(0:Int)else 1)=1:=rfl;have B:((r.length:Int)+1)*(1+1)=((2*r.length+2:Nat):Int):=by omega
  rw[y,A,B];refine Aap (Aap (Aap (Aap (Aap (BY (jc h.wf g (by omega) (by omega) (by omega) (by omega)) ?_)))));have F:r≠ []:=λe=>q (by rw[e];rfl);obtain⟨k,E,l,c⟩:=H8 (Jz h F);obtain⟨w,u⟩:=Abk.1 l;have C:=Ul E u c;rw[C];refine Xp (X:=List Aq×Int) (λx=> ∃j:Nat,x.2=(j:Int)/\(j<=k/\x.1=[]\/j=k+1/\x.1=wl [] (Ac w))) (λx=>k+2-x.2.toNat) ⟨0,rfl, .inl ⟨by omega,rfl⟩⟩ (by dsimp only;omega) λx nx f _ d=>?_;obtain⟨s,z⟩:=x;obtain⟨j,v,f⟩:=f;dsimp only at v f d;subst v;dsimp only;rcases f with⟨D,rfl⟩|⟨D,rfl⟩
  ·have p:Yy fu (r,Bh r.length (λi=>Bh (2*r.length+2+1) λk=>Em r k i),(0:Int),(j:Int),1-((([]:List Aq).length:Nat):Int),[])=Ac (wl [] (lw r j 0)):=
    N5 h.wf g (by omega) (N:=2*r.length+2) (k:=j) (fu:=fu) (i:=0) (pre:=[]) (by omega) (by omega) (by simp;omega) (by omega);refine P4 (TT (by decide) (Abx (by decide) (BY p (PH (by have:=Zh (pre:=[]) (o:=lw r j 0);simp[Ah];omega) (Aap (d _ ⟨j+1,by dsimp only;omega,?_⟩ (by dsimp only;omega)))))));dsimp only;rw[Acd];rcases Aan j k with t|t;· left;have:=c j t;unfold Em at this;rw[Alj.1 (Alg.1 this)];exact⟨by omega,rfl⟩
   ·obtain rfl:j=k:=by omega
    right;rw[u];exact⟨rfl,rfl⟩
  ·refine N_ (λ_=>Qd (by show¬((([[]++w]:List Aq).length:Int)<1);simp) (MN rf)) λ_=>MN rf
 refine BY key ?_;cases LN r with
 |none=>exact TT rfl (MN rfl)
 |some w=>exact Qd (by show¬((([[]++w]:List Aq).length:Int)=0);simp) (BY (a:=w) rfl (MN rfl))
theorem Ze{f:Nat}(J:Bf l)(I:DT l n)(hn:n<4294967295)(h0:0<l.length)(C:f<l.length)(M:Em l f 0=Bp)(v:∀j,j<f->Em l j 0=Aj)(hf:2*n+400<fu):
  Ok (TJ fu l) λr=>r.1.head?=lw l f 0:=by
 have O:=WD;obtain⟨Z,y⟩:=Abk.1 M;have V:=I.1;refine Sw (λk (s:List Bool)=>s=(Bh k λi=>fin l (i:Int))) l.length rfl (by omega) (λk s nx C B H=>?_) (λs nx B=>?_);· refine P4 (Aah C (PH (by grind[Az]) (H _ ?_)));grind[Df,Ef]
 refine P5 (PH (by omega) ?_);have t:s=Cn l 0:=by rw[B];exact AP λi _=>(Hf l i).symm
 refine Xp (X:=List (List Bool)×Int) (λx=> ∃k:Nat,x.2=k/\k<=f/\x.1=Bh (max k 1) (Cn l)) (λx=>f+1-x.2.toNat) ⟨0,rfl,by omega,by rw[t];rfl⟩ (by omega) λx Y P _ m=>?_;obtain⟨e,z⟩:=x;obtain⟨k,N,T,c⟩:=P;dsimp only at N c m;subst N;have q:((Cn l k).any λb=>b)=Bp:=by obtain⟨j,S,E⟩:=MA J (k:=k) (d:=f-k) (i:=0) (by rw[show k+(f-k)=f by omega];exact M);exact VA S E
 have u:(Cn l k).length<fu:=by unfold Cn;rw[Az];omega
 have p:∀ {R:List (List Bool)} {kb:Bool->Option (List (List UInt8)×Bool)},R=Bh (k+1) (Cn l)->
   (k<f->Ok (kb Bp) λr=>r.1.head?=lw l f 0)->
   Ok (Ab (YR fu (l,ao (k:Int),ao ((k:Int)+1-(k:Int)),(k:Int),R)) λA=>ri kb A.1 A.2) λr=>r.1.head?=lw l f 0:=λ{R kb} Q F=>by
  rw[Q,show ao (k:Int)=k by omega,show ao ((k:Int)+1-(k:Int))=1 by omega];refine OC (Rn J I (by omega) h0 (by omega) (by omega)) λr w=>?_;rcases Aan k f with h|h;· rw[w.1 (v k h)];have:=F h;exact this
  ·obtain rfl:k=f:=by omega
   exact(Wl (w.2 Z y)).mono λo U=>U.trans y.symm
 dsimp only;refine P4 (N_ (λC=>?_) λC=>?_)
 ·have W:idx e ((k:Int)-1)=Ac (Cn l (k-1)):=by
   rw[show((k:Int)-1)=((k-1:Nat):Int) by omega,c,Bk (by rw[Az];omega),Bm]
  have hc:=cY (l:=l) (k:=k-1) (fu:=fu) J I (by omega) (by omega);rw[show k-1+1=k by omega]at hc;have a:e++[Cn l k]=Bh (k+1) (Cn l):=by rw[c,show max k 1=k by omega,Df]
  have L:e.length=k:=by rw[c,Az];omega
  have K:idx (e++[Cn l k]) (k:Int)=Ac (Cn l k):=by rw[a,Bk (by rw[Az];omega),Bm]
  refine Aap (BY W (BY hc (Abw (BY K (BY (LR u) ?_)))));rw[q];refine P8 rf (Aap (Aap (PH ⟨⟨by omega,by omega⟩,rf,by rw[a,Az];omega⟩ ?_)));refine p a λG=>P8 rf (Aap (m _ ⟨k+1,by dsimp only;omega,by omega,by dsimp only;rw[a,show max (k+1) 1=k+1 by omega]⟩ (by dsimp only;omega)))
 ·obtain rfl:k=0:=by omega
  have a:e=Bh (0+1) (Cn l):=c;have K:idx e ((0:Nat):Int)=Ac (Cn l 0):=by rw[a,Bk (by rw[Az];omega),Bm]
  refine BY K (BY (LR u) ?_);rw[q];refine P8 rf (Aap (Aap (PH ⟨⟨by omega,by omega⟩,rf,by rw[a,Az];omega⟩ ?_)));refine p a λG=>P8 rf (Aap (m _ ⟨1,by dsimp only;omega,by omega,by dsimp only;rw[a];rfl⟩ (by dsimp only;omega)))
theorem OB{L:Lg}(h:CD r L m)(j:DT r n)(u:n<4294967295)(s:2*n+400<fu):Vh fu r=Ac (lsO (LN r)):=by
 have key:YQ fu (r,1)=Ac (wl [] (LN r)):=by
  refine(Ok.eq ?_);rw[YQ];refine Qd (by simp) (BY (Ge h.wf.by j (by omega) (by omega) (by omega)) ?_);rw[h.JI];refine BY (rf) ?_;by_cases g:r=[]
  ·subst g;have:TJ fu []=Ac ([],Bp):=by
    refine(Ok.eq ?_);have q:=WD;rw[TJ];obtain⟨f,rfl⟩:∃f,fu=f+1:=⟨fu-1,by omega⟩;rw[Ad];exact Qd (by simp) (MN rfl)
   refine BY this ?_;exact MN rf
  ·have t:0<r.length:=Aed.2 g;obtain⟨k,i,c,d⟩:=H8 (Jz h g);obtain⟨w,p⟩:=Abk.1 c;rw[Ul i p d];refine OC (Ze h.wf j u t i c d s) λo e=>?_;rw[p]at e;obtain⟨l,b⟩:=o;cases l with
   |nil=>grind
   |cons y l=>
    cases e;exact PH (by trivial) (Abx (by decide) (TT (by simp) (MN rfl)))
 refine(Ok.eq ?_);refine BY key ?_;cases LN r with
 |none=>exact TT rfl (MN rfl)
 |some w=>exact Qd (by simp[wl]) (BY (a:=w) rfl (MN rfl))
theorem nh{l:Tb}(h:Bf l):∀ {k i:Nat} {w:Aq},lw l k i=Ac w->Av l (i:Int) w=Bp
 |0,i,w,e=>by
  unfold lw at e;split at e;· cases e;trivial
  grind
 |k+1,i,w,e=>by
  obtain⟨d,c,e⟩:=Afe e;obtain⟨v,g,rfl⟩:=Pd.1 e;have a:=(PD h i).rg d c;show Av l (Bl l i (UInt8.ofNat d.1.toNat).toNat) v=Bp;have b:Bl l i (UInt8.ofNat d.1.toNat).toNat=d.2.2:=by rw[show(UInt8.ofNat d.1.toNat).toNat=d.1.toNat by grind[UInt8.toNat_ofNat']];rw[show Bl l i d.1.toNat=AQ (Im l i) d.1.toNat by rfl];grind[Oe,PD]
  rw[b];have:=nh h g;grind
theorem aB(h:Bf r)(e:LN r=Ac w):Av r 0 w=Bp:=by obtain⟨k,_,e⟩:=Afe e;grind[nh]
theorem MO{L:Lg}(h:CD r L m)(e:LN r=C7):r=[]:=IS λd=>by obtain⟨k,c,a,b⟩:=H8 (Jz h d);obtain⟨w,f⟩:=Abk.1 a;grind[Ul]
theorem UO:∀ {w:Aq},gh w w=Aj
 | []=>rfl
 |a::w=>by unfold gh;rw[UO];simp
theorem df:∀ {w v:Aq},gh w v=Bp->gh v w=Aj
 |_,[],h=>by grind[gh]
 | [],_::_,_=>by rfl
 |a::w,b::v,h=>by
  unfold gh at h⊢;simp only[Adj,AT,decide_eq_true_eq,beq_iff_eq,Bool.or_eq_false_iff,Agv,decide_eq_false_iff_not]at h⊢;rcases h with h|⟨rfl,h⟩
  ·grind
  ·exact⟨λk=>by grind, .inr (df h)⟩
theorem UN:∀ {w v:Aq},gh w v=Aj->gh v w=Aj->w=v
 | [],[],_,_=>rfl
 |a::_,[],_,h=>by trivial
 | [],_::_,h,_=>by trivial
 |a::w,b::v,h,k=>by
  unfold gh at h k;simp only[Bool.or_eq_false_iff,Agv,decide_eq_false_iff_not,beq_eq_false_iff_ne]at h k;have e:a=b:=by grind
  subst e;rw[UN (h.2.resolve_left λq=>q rfl) (k.2.resolve_left λq=>q rfl)]
def D8(x y:Int):Int:=if x<y then-1 else if y<x then 1 else 0
def FJ(x y:Aq):Int:=if gh x y=Bp then-1 else if gh y x=Bp then 1 else 0
def EJ(x y:Aq):Int:=if D8 x.length y.length=0 then FJ x y else D8 x.length y.length
def ry(p q:Option Aq):Int:=match p,q with
 |none,C7=>0
 |none,Ac _=>1
 |some _,C7=> -1
 |some w,Ac v=>EJ w v
theorem Nb(x y:Int):D8 y x= -D8 x y:=by grind[D8]
theorem BE:D8 x y=0↔x=y:=by grind[D8]
theorem S1(x y:Aq):FJ y x= -FJ x y:=by
 unfold FJ;by_cases h:gh x y=Bp;· simp_all[if_neg,df,if_pos]
 grind
theorem KJ{x y:Aq} :FJ x y=0↔x=y:=by
 unfold FJ;constructor
 ·grind[gh,UN]
 ·grind[UO]
theorem cM(x y:Aq):EJ y x= -EJ x y:=by
 unfold EJ;rw[Nb x.length y.length];by_cases h:D8 x.length y.length=0;· rw[if_pos h,if_pos (by omega),S1]
 omega
theorem O3{x y:Aq} :EJ x y=0↔x=y:=by
 unfold EJ;constructor
 ·grind[KJ]
 ·rintro rfl;rw[if_pos (BE.2 rfl),KJ.2 rfl]
theorem cQ(p q:Option Aq):ry q p= -ry p q:=by
 cases p<;>cases q;· rfl
 ·rfl
 ·rfl
 ·exact cM _ _
theorem QA:Vg fu (x,y)=Ac (D8 x y):=by refine(Ok.eq ?_);rw[Vg];unfold D8;have e:∀z,eK fu z=Ac Aj:=λz=>(by simp[eK]);refine BY (e x) (BY (e y) (P8 rf (P8 rf ?_)));exact N_ (λh=>MN (by omega)) λh=>N_ (λk=>MN (by omega)) λk=>MN (by omega)
theorem KK{x y:Aq}{P:Int->Prop}(h:P (FJ x y)):Ok (bif gh x y then Ac (-1:Int)else bif !(gh x y||decide (x=y))then Ac (1:Int)else Ac (0:Int)) P:=by
 unfold FJ at h;refine P0 (λk=>MN (by grind)) λk=>?_;rw[k]at h;by_cases e:x=y;· simp_all[UO,P8,MN]
 ·refine VY (by grind) (MN ?_);grind[gh,absurd,UN]
theorem WA{x y:Aq} :YN fu (x,y)=Ac (FJ x y):=by refine(Ok.eq ?_);rw[YN];refine BY (rf) (BY (rf) ?_);rw[decide_eq_true (rf:x=x),decide_eq_true (rf:y=y)];exact P8 rf (P8 rf (KK rf))
theorem ZB{v:Aq} :dY fu (w,v)=Ac (EJ w v):=by
 refine(Ok.eq ?_);rw[dY];refine N_ (λh=>N_ (λk=>MN ?_) λk=>MN ?_) λh=>KK ?_;· have e:D8 w.length v.length= -1:=if_pos k;unfold EJ;rw[e];rfl
 ·have e:D8 w.length v.length=1:=(if_neg k).trans (if_pos (by omega));unfold EJ;rw[e];rfl
 ·unfold EJ;rw[if_pos (BE.2 (by omega))]
open Classical in
noncomputable def OY(a b:Tb):Tb:=if h:∃t m,CD t (λw=>gL a w&& !gL b w) m then h.choose else []
theorem Qt{a b:Tb}{q:Nat}(h:CD r (λw=>gL a w&& !gL b w) q):OY a b=r:=by have e:∃t m,CD t (λw=>gL a w&& !gL b w) m:=⟨r,q,h⟩;unfold OY;rw[dif_pos e];obtain⟨m,c⟩:=e.choose_spec;exact c.unique h
noncomputable def Fb(a b:Tb):Int:=ry (LN (OY a b)) (LN (OY b a))
theorem JY(a b:Tb):Fb b a= -Fb a b:=cQ _ _
theorem cR(x y:Int):D8 x y= -1\/D8 x y=0\/D8 x y=1:=by
 unfold D8;split;· exact .inl rfl
 ·split;· exact .inr (.inr rfl)
  ·exact .inr (.inl rf)
theorem cO(x y:Aq):FJ x y= -1\/FJ x y=0\/FJ x y=1:=by
 unfold FJ;split;· exact .inl rfl
 ·split;· exact .inr (.inr rfl)
  ·exact .inr (.inl rf)
theorem cN(w v:Aq):EJ w v= -1\/EJ w v=0\/EJ w v=1:=by
 unfold EJ;split;· exact cO _ _
 ·exact cR _ _
theorem iv(c:2<fu):eJ fu [x,y]=Ac (if x=0 then y else x):=by
 refine(Ok.eq ?_);rw[eJ];obtain⟨f,rfl⟩:∃f,fu=f+3:=⟨fu-3,by omega⟩;rw[Ad];refine TT (by simp) (Aah (by simp) (N_ (λh=>MN ?_) λh=>?_));· grind
 have a:x=0:=IS h;rw[Ad];refine TT (by simp) (Aah (by simp) (N_ (λh=>MN ?_) λh=>?_));· simp_all
 have b:y=0:=IS h;simp_all[Ad,Qd,MN,if_pos]
end
section
variable {a b : Tb} {L M : Lg} {m p fu : Nat} (ha : CD a L m) (hb : CD b M p) (hm : (m + 2) * (p + 2) <= 1000000000) (hF : 1000000000000 < fu)
include ha hb hm hF
theorem HF:CD (OY a b) (λw=>L w&& !M w) (GW a b)/\GW a b<=1000000000/\YO fu (a,b)=Ac (OY a b)/\W0 fu (a,b)=Ac (OY a b):=by
 have e:=GA (fu:=fu) ha hb (by omega) hF;have j:GW a b<=(m+2)*(p+2):=Abv (by have:=ha.len;omega) (by have:=hb.len;omega);obtain⟨r,g,c⟩:=Ou e;obtain⟨t,h,i⟩:=MH e;have d:=Qt c;have f:=Qt i;rw[d];refine⟨?_,by omega,g,?_⟩;· rw[ha.gL,hb.gL]at c;omega
 grind
theorem Ft:YM fu (a,b)=Ac (Fb a b):=by
 have c:=GA (fu:=fu) ha hb (by omega) hF;have f:(p+2)*(m+2)<=1000000000:=by grind
 obtain⟨d,k,h,_⟩:=HF ha hb hm hF;obtain⟨e,o,i,_⟩:=HF hb ha f hF;have g:∀ {l:Tb} {K:Lg} {q:Nat},CD l K q->N3 l->DT l (max (max m p) 256)->Q0 fu l=Ac l:=λ{l K q} d e j=>by rw[Ge e j c.hn c.hf (by omega),d.JI]
 refine(Ok.eq ?_);refine BY (g ha c.ha c.sa) (BY (g hb c.hb c.sb) (BY h (BY (OB (n:=max (GW a b) 256) d (d.wf.sh (Aao d.len (by omega)) (by omega)) (by omega) (by omega)) (BY i (BY (OB (n:=max (GW b a) 256) e (e.wf.sh (Aao e.len (by omega)) (by omega)) (by omega) (by omega)) ?_)))));unfold Fb;cases LN (OY a b)with
 |none=>cases LN (OY b a)with
  |none=>exact VY rfl (VY rfl (MN rfl))
  |some v=>exact VY rfl (P8 rfl (P8 rfl (VY rfl (MN rfl))))
 |some w=>cases LN (OY b a)with
  |none=>exact P8 rfl (VY rfl (MN rfl))
  |some v=>exact P8 rfl (P8 rfl (P8 rfl (BY QA (BY WA (BY (iv (by omega)) (MN rfl))))))
theorem cf{w v:Aq}(h1:LN (OY a b)=Ac w)(h2:LN (OY b a)=Ac v):w≠v:=λe=>by
 have c:(p+2)*(m+2)<=1000000000:=by grind
 obtain⟨d,_⟩:=HF ha hb hm hF;obtain⟨f,_⟩:=HF hb ha c hF;have g:=aB d.wf h1;have h:=aB f.wf h2;rw[d.lg]at g;rw[f.lg]at h;grind
theorem JW:dX fu (a,b)=Ac (Fb a b):=by
 have e:(p+2)*(m+2)<=1000000000:=by rw[Ada];exact hm
 obtain⟨c,o,_,g⟩:=HF ha hb hm hF;obtain⟨d,q,_,i⟩:=HF hb ha e hF;have ne:=λw v=>cf ha hb hm hF (w:=w) (v:=v);refine(Ok.eq ?_);rw[dX];refine BY g (BY (IX (n:=max (GW a b) 256) c (c.wf.sh (Aao c.len (by omega)) (by omega)) (by omega) (by omega)) (BY i (BY (IX (n:=max (GW b a) 256) d (d.wf.sh (Aao d.len (by omega)) (by omega)) (by omega) (by omega)) ?_)));unfold Fb;cases j:LN (OY a b)with
 |none=>cases f:LN (OY b a)with
  |none=>exact VY rfl (VY rfl (MN rfl))
  |some v=>exact VY rfl (P8 rfl (P8 rfl (MN rfl)))
 |some w=>cases f:LN (OY b a)with
  |none=>exact P8 rfl (VY rfl (VY rfl (MN rfl)))
  |some v=>
   have k:EJ w v≠0:=λh=>ne w v j f (O3.1 h);have l:=cN w v;refine P8 rfl (VY rfl (P8 rfl (BY ZB (N_ (λh=>MN ?_) λh=>MN ?_))));· have h:EJ w v<0:=h;show-1=EJ w v;omega
   ·have h:¬EJ w v<0:=h;show 1=EJ w v;omega
theorem KL:Fb a b=0↔a=b:=by
 have c:(p+2)*(m+2)<=1000000000:=by grind
 obtain⟨e,_⟩:=HF ha hb hm hF;obtain⟨f,_⟩:=HF hb ha c hF;have ne:=λw v=>cf ha hb hm hF (w:=w) (v:=v);constructor;· unfold Fb;cases g:LN (OY a b)with
  |none=>cases d:LN (OY b a)with
   |none=>
    intro _;have i:=e.Gz.1 (MO e g);have j:=f.Gz.1 (MO f d);refine ha.unique (hb.congr (funext λw=>?_));have n:=congrFun i w;have o:=congrFun j w;cases k:L w<;>cases l:M w<;>simp_all
   |some v=>intro h;cases h
  |some w=>cases d:LN (OY b a)with
   |none=>intro h;cases h
   |some v=>intro h;exact absurd (O3.1 h) (ne w v g d)
 ·grind[JY]
end
section
variable{fu:Nat}{a b:Bool}{x y:Sc}{l:List Int}{P:Int->Prop}{k m p:Nat}
theorem Qx{x y:List Sp×List Sp}(N:Ly x)(O:Ly y)(S:x.1.length+y.1.length<=11/\x.2.length+y.2.length<=11)(F:20<fu):
  ∃c,LB fu (x,y)=Ac c/\LB fu (y,x)=Ac (-c)/\(c=0->(∀n,A8 x n↔A8 y n)/\∀n,A6 x n↔A6 y n):=by
 obtain⟨p,_,i,t,V,W⟩:=Gc (fu:=fu) (gu:=200) N O S F (by omega);obtain⟨q,_,j,B,X,Y⟩:=Gc (fu:=fu) (gu:=200) O N (by omega) F (by omega);have T:=t.sm (by omega) (by omega);have U:=B.sm (by omega) (by omega);obtain⟨Q,v,f,z,_,ev,P⟩:=H9 (fu:=fu) (gu:=200) T F (by omega);obtain⟨R,w,g,C,_,o,lw⟩:=H9 (fu:=fu) (gu:=200) U F (by omega);have A:∀u,C0 Q u->C0 x u/\ -1000000000000000<=u/\u<=1000000000000000:=λu k=>by
  rcases(E1 z u).1 k with⟨a,b⟩|⟨a,b⟩;· have b:=(t.A8 _).1 b;exact⟨.inl ⟨a,b.1.1.1⟩,by omega⟩
  ·have b:=(t.A6 _).1 b;have c:=b.1.1.1;rw[Iq a]at c b;exact⟨.inr ⟨a,c⟩,b.2⟩
 have D:∀u,C0 R u->¬C0 x u/\ -1000000000000000<=u/\u<=1000000000000000:=λu k=>by
  rcases(E1 C u).1 k with⟨a,b⟩|⟨a,b⟩
  ·have b:=(B.A8 _).1 b;refine⟨λk=>?_,by omega⟩;rcases k with⟨_,k⟩|⟨k,_⟩;· exact b.1.2 ⟨k,b.2⟩
   omega
  ·have b:=(B.A6 _).1 b;have K:=b.2;rw[Iq a]at K;refine⟨λk=>?_,K⟩;rcases k with⟨k,_⟩|⟨_,k⟩;· omega
   ·exact b.1.2 ⟨by grind[Iq],b.2⟩
 have E:∀u,C0 Q u\/C0 R u-> -2000000000000000<=u/\u<=2000000000000000:=λu k=>k.elim (λk=>by have:=(A u k).2;omega) (λk=>by have:=(D u k).2;omega);have m:∀c,Ok (LB fu (x,y)) (λr=>r=c)->LB fu (x,y)=Ac c:=λc k=>k.eq;have d:∀c,Ok (LB fu (y,x)) (λr=>r=c)->LB fu (y,x)=Ac c:=λc k=>k.eq;have nil:∀ {r H:List Sp×List Sp},Eh r (A8 r) (A6 r)->Eh H (A8 r) (A6 r)->(∀u,¬C0 H u)->r=([],[]):=λ{r H} h M no=>(h.unique M).trans ((Agl M).1 no);cases f with
 |false=>
  cases g with
  |false=>
   refine⟨0,m _ ?_,d _ ?_,λ_=>?_⟩;· exact BY i (BY ev (BY j (BY o (VY rf (VY rf (MN rf))))))
   ·exact BY j (BY o (BY i (BY ev (VY rf (VY rf (MN rf))))))
   ·have a:=(Kp t).1 (nil (t.self (λn h=>h.1.2) (λn h=>h.1.2)) z (P.no rfl).2);have b:=(Kp B).1 (nil (B.self (λn h=>h.1.2) (λn h=>h.1.2)) C (lw.no rfl).2);exact⟨λn=>⟨a.1 n,b.1 n⟩,λn=>⟨a.2 n,b.2 n⟩⟩
  |true=>
   refine⟨1,m _ ?_,d _ ?_,λh=>by omega⟩;· exact BY i (BY ev (BY j (BY o (VY rf (P8 rf (P8 rf (P8 rf (MN rf))))))))
   ·exact BY j (BY o (BY i (BY ev (P8 rf (VY rf (MN rf))))))
 |true=>
  have I:=P.yes rfl;cases g with
  |false=>
   refine⟨-1,m _ ?_,d _ ?_,λh=>by omega⟩;· exact BY i (BY ev (BY j (BY o (P8 rf (VY rf (MN rf))))))
   ·exact BY j (BY o (BY i (BY ev (VY rf (P8 rf (P8 rf (P8 rf (MN rf))))))))
  |true=>
   have J:=lw.yes rfl;have L:=VS (fu:=fu) (E v (.inl I.1)) (E w (.inr J.1));have s:=VS (fu:=fu) (E w (.inr J.1)) (E v (.inl I.1));have ne:v≠w:=λe=>(D w J.1).1 (e▸(A v I.1).1);by_cases c:Co v w
   ·have G:¬Co w v:=λk=>by unfold Co ab at c k;omega
    refine⟨-1,m _ ?_,d _ ?_,λh=>by omega⟩;· exact BY i (BY ev (BY j (BY o (P8 rf (P8 rf (VY rf (BY L (VY (decide_eq_true c) (MN rf)))))))))
    ·exact BY j (BY o (BY i (BY ev (P8 rf (P8 rf (VY rf (BY s (P8 (decide_eq_false G) (MN rf)))))))))
   ·have G:Co w v:=IS λk=>ne (MG c k);refine⟨1,m _ ?_,d _ ?_,λh=>by omega⟩;· exact BY i (BY ev (BY j (BY o (P8 rfl (P8 rfl (VY rfl (BY L (P8 (decide_eq_false c) (MN rfl)))))))))
    ·exact BY j (BY o (BY i (BY ev (P8 rf (P8 rf (VY rf (BY s (VY (decide_eq_true G) (MN rf)))))))))
def Dc(a b:Bool):Int:=if a=b then 0 else if a=Bp then-1 else 1
theorem HM(a b:Bool):Dc b a= -Dc a b:=by cases a<;>cases b<;>rfl
theorem EO:Dc a b=0↔a=b:=by cases a<;>cases b<;>decide
theorem QB:dZ fu (a,b)=Ac (Dc a b):=by cases a<;>cases b<;>rfl
def fz:List Int->Int
 | []=>0
 |x::l=>if x=0 then fz l else x
theorem Uy:∀l:List Int,fz (l.map λx=> -x)= -fz l
 | []=>rfl
 |x::l=>by
  show(if-x=0 then fz (l.map λx=> -x)else-x)= -(if x=0 then fz l else x);by_cases h:x=0;· rw[if_pos (by omega),if_pos h,Uy l]
  omega
theorem Fp:∀ {l:List Int},fz l=0->∀x∈l,x=0
 | [],_,x,a=>by grind
 |y::l,h,x,a=>by
  have h:(if y=0 then fz l else y)=0:=h;by_cases k:y=0
  ·rw[if_pos k]at h;rcases Aav.1 a with rfl|a;· omega
   ·exact Fp h x a
  omega
theorem Sv(i:l.length<fu)(h:P (fz l)):
  Ok (Ad fu (λ(d:Nat) c=>bif Dl ((d:Int)<(l.length:Int))then Ab (idx l (d:Int)) λg=>bif Dl (g≠(0:Int))then Ac g else c (d+1)else Ac (0:Int)) 0) P:=by
 refine VD (λk=>fz (l.drop k)=fz l) l.length rf i (λk nx f a j=>?_) (λnx a=>?_)
 ·have e:fz (l.drop k)=if l[k]=0 then fz (l.drop (k+1))else l[k]:=by rw[Aaq f];rfl
  refine P4 (Aah f (N_ (λb=>MN ?_) λb=>j ?_));all_goals grind
 simp_all[fz,Aef,P5,MN]
theorem bK{K:Option Int}(h1:Dc a b≠0->P (Dc a b))(h2:Dc a b=0->Ok K P):
  Ok (bif Dl ((a::[b])=(Bp::[Aj]))then Ac (-1:Int)else bif Dl ((a::[b])=(Aj::[Bp]))then Ac (1:Int)else K) P:=by
 cases a<;>cases b;· exact P8 rfl (P8 rfl (h2 rfl))
 ·exact P8 rf (VY rf (MN (h1 (by decide))))
 ·exact VY rf (MN (h1 (by decide)))
 ·exact P8 rf (P8 rf (h2 rf))
theorem GI{gu H:Nat}(d:Ii k m x)(g:Ii H p y)(hk:k+H<=11)(t:(m+2)*(p+2)<=100000000)(r:1000000000000<fu)(F:1000000000000<gu):
  ∃c,TF fu (x,y)=Ac c/\Yw gu (x,y)=Ac c/\TF fu (y,x)=Ac (-c)/\(c=0->x=y):=by
 have q1:m<=(m+2)*(p+2):=Aao (by omega:m<=(m+2)*1) (Abv (Aae _) (by omega));have q2:p<=(m+2)*(p+2):=Aao (by omega:p<=1*(p+2)) (Abv (by omega) (Aae _));have G:(p+2)*(m+2)<=100000000:=by rw[Ada];exact t
 have x1:=d.n1;have x2:=d.n2;have y1:=g.n1;have y2:=g.n2;have w:=d.sc (by omega:k<=12);have A:=g.sc (by omega:H<=12);have L:dQ fu x=Ac Bp:=by obtain⟨b,e,j⟩:=HX (fu:=fu) w (by omega) r;rw[e,j.2 ⟨d.nu,d.ln.wf,d.ln.can⟩]
 have M:dQ fu y=Ac Bp:=by obtain⟨b,e,j⟩:=HX (fu:=fu) A (by omega) r;rw[e,j.2 ⟨g.nu,g.ln.wf,g.ln.can⟩]
 have T:NZ gu x=Ac Bp:=by obtain⟨b,e,j⟩:=N8 (fu:=gu) w (by omega) F;rw[e,j.2 ⟨d.nu,d.ln.wf,d.ln.can⟩]
 have U:NZ gu y=Ac Bp:=by obtain⟨b,e,j⟩:=N8 (fu:=gu) A (by omega) F;rw[e,j.2 ⟨g.nu,g.ln.wf,g.ln.can⟩]
 obtain⟨n,K,B,zn⟩:=Qx (fu:=fu) w.sm A.sm (by omega) (by omega);obtain⟨S,P,C⟩:=SS (fu:=fu) (gu:=gu) w.sm A.sm (by omega) (by omega) (by omega);obtain rfl:n=S:=Abp (K.symm.trans C);have J:=Ft d.ln g.ln (Aao t (by decide)) r;have o:=Ft g.ln d.ln (Aao G (by decide)) r;have q:=JW d.ln g.ln (Aao t (by decide)) F;have O:=KL d.ln g.ln (Aao t (by decide)) r;have sl:=JY x.2.2.2.2 y.2.2.2.2;generalize Fb x.2.2.2.2 y.2.2.2.2=l at J q O sl;generalize Fb y.2.2.2.2 x.2.2.2.2=l' at o sl;subst sl;have i:∀ {u v:Sc} {n l:Int},dQ fu u=Ac Bp->dQ fu v=Ac Bp->LB fu (u.2.2.2.1,v.2.2.2.1)=Ac n->YM fu (u.2.2.2.2,v.2.2.2.2)=Ac l->TF fu (u,v)=Ac (fz [Dc u.1 v.1,Dc u.2.1 v.2.1,Dc u.2.2.1 v.2.2.1,n,l]):=λ{u v n l} s E Q R=>by
  refine(Ok.eq ?_);rw[TF];refine BY s (P8 rfl (BY E (P8 rfl ?_)));obtain⟨f,rfl⟩:∃f,fu=f+4:=⟨fu-4,by omega⟩;rw[Ad];refine TT (by decide) (PH (by decide) (BY (a:=(u.1,v.1)) rfl (bK (λh=>(if_neg h).symm) λD=>Abx (by decide) ?_)));rw[Ad];refine TT (by decide) (PH (by decide) (BY (a:=(u.2.1,v.2.1)) rfl (bK (λh=>((if_pos D).trans (if_neg h)).symm) λs=>Abx (by decide) ?_)));rw[Ad];refine TT (by decide) (PH (by decide) (BY (a:=(u.2.2.1,v.2.2.1)) rfl (bK (λh=>((if_pos D).trans ((if_pos s).trans (if_neg h))).symm) λE=>Abx (by decide) ?_)));rw[Ad];have I:fz [Dc u.1 v.1,Dc u.2.1 v.2.1,Dc u.2.2.1 v.2.2.1,n,l]=fz [n,l]:=(if_pos D).trans ((if_pos s).trans (if_pos E));refine Qd (by decide) (BY Q (N_ (λh=>MN ?_) λh=>BY R (MN ?_)));· rw[I];exact(if_neg h).symm
  ·rw[I];refine Eq.trans ?_ (if_pos (IS h)).symm;show l=if l=0 then 0 else l;split;· assumption
   ·rfl
 refine⟨fz [Dc x.1 y.1,Dc x.2.1 y.2.1,Dc x.2.2.1 y.2.2.1,n,l],i L M K J,?_,?_,λh=>?_⟩;· refine(Ok.eq ?_);rw[Yw];exact BY T (P8 rf (BY U (P8 rf (BY QB (BY QB (BY QB (BY P (BY q (Sv (l:=[Dc x.1 y.1,Dc x.2.1 y.2.1,Dc x.2.2.1 y.2.2.1,n,l]) (by simp;omega) rf)))))))))
 ·rw[i M L B o,<-Uy];simp only[Aas,Aei];rw[HM x.1,HM x.2.1,HM x.2.2.1]
 ·have z:=Fp h;have V:=EO.1 (z (Dc x.1 y.1) (by simp));have W:=EO.1 (z (Dc x.2.1 y.2.1) (by simp));have X:=EO.1 (z (Dc x.2.2.1 y.2.2.1) (by simp));have N:=zn (z n (by simp));have Y:=O.1 (z l (by simp));have Z:=d.nu.unique (g.nu.congr (λn=>(N.1 n).symm) λn=>(N.2 n).symm);exact Acu V (Acu W (Acu X (Acu Z Y)))
noncomputable def E7(x y:Sc):Int:=(Yw 2000000000000 (x,y)).getD 0
theorem Gk{j:Nat}(e:Ii k m x)(f:Ii j p y)(i:k+j<=11)(b:(m+2)*(p+2)<=100000000)(a:1000000000000<fu):
  TF fu (x,y)=Ac (E7 x y)/\Yw fu (x,y)=Ac (E7 x y)/\E7 y x= -E7 x y/\(E7 x y=0->x=y):=by
 have d:(p+2)*(m+2)<=100000000:=by rw[Ada];exact b
 obtain⟨c,g,n,o,q⟩:=GI (fu:=fu) (gu:=2000000000000) e f i b a (by decide);obtain⟨w,r,s,_⟩:=GI (fu:=fu) (gu:=fu) e f i b a a;obtain⟨l,t,u,_⟩:=GI (fu:=fu) (gu:=2000000000000) f e (by omega) d a (by decide);have h:E7 x y=c:=by unfold E7;rw[n];rfl
 have v:E7 y x=l:=by unfold E7;rw[u];rfl
 rw[h,v];exact⟨g,by rw[s,<-r,g],Abp (t.symm.trans o),q⟩
def A7{α:Type}(c:α->α->Int):List α->List α->Int
 | [],[]=>0
 | [],_::_=> -1
 |_::_,[]=>1
 |x::a,y::b=>if c x y=0 then A7 c a b else c x y
theorem Gl{α:Type}{c:α->α->Int} :∀ {a b:List α},(∀x∈a,∀y∈b,c y x= -c x y)->A7 c b a= -A7 c a b
 | [],[],_=>rfl
 | [],_::_,_=>rfl
 |_::_,[],_=>rfl
 |x::a,y::b,h=>by have g:=Gl (a:=a) (b:=b) λu d v f=>h u (Aag _ d) v (Aag _ f);grind[A7]
theorem D7{α:Type}{c:α->α->Int} :∀ {a b:List α},(∀x∈a,∀y∈b,c x y=0->x=y)->A7 c a b=0->a=b
 | [],[],_,_=>rfl
 | [],_::_,_,h=>by cases h
 |_::_,[],_,h=>by cases h
 |x::a,y::b,h,e=>by have i:=D7 (a:=a) (b:=b) λu f v g=>h u (Aag _ f) v (Aag _ g);grind[A7,absurd]
def JX(R:Vl->Vl->Int)(x y:Bb):Int:=fz [R x.1 y.1,R x.2 y.2]
def DH(R:Vl->Vl->Int)(c b:HQ):Int:=fz [D8 c.1.length b.1.length,Dc (Dl (0<c.2.length)) (Dl (0<b.2.length)),A7 (JX R) (AY c) (AY b)]
def S2(R:Vl->Vl->Int)(f a:Aq×Int×Bb):Int:=fz [FJ f.1 a.1,D8 f.2.1 a.2.1,JX R f.2.2 a.2.2]
noncomputable def S3(R:Vl->Vl->Int)(k a:Tb×Bb):Int:=fz [Fb k.1 a.1,JX R k.2 a.2]
noncomputable def Es(R:Vl->Vl->Int)(c a:Bu):Int:=fz [A7 (S2 R) c.1 a.1,A7 (S3 R) c.2 a.2]
noncomputable def Bz:Nat->Vl->Vl->Int
 |0,_,_=>0
 |d+1,a,b=>fz [Dc a.any b.any,E7 a.sc b.sc,A7 (DH (Bz d)) a.lists b.lists,A7 (Es (Bz d)) a.structs b.structs]
theorem Ky{a:List Int}(h:a=l.map λx=> -x):fz a= -fz l:=by rw[h,Uy]
end
section
variable {R : Vl -> Vl -> Int} {d : Nat} (hs : ∀ {a b : Vl}, SV d a -> SV d b -> R b a = - R a b /\ (R a b = 0 -> a = b))
include hs
theorem HK{x y:Bb}(f:SW d x)(g:SW d y):JX R y x= -JX R x y/\(JX R x y=0->x=y):=by have c:=hs f.1 g.1;have e:=hs f.2 g.2;refine⟨Ky (by simp_all),λh=>?_⟩;have z:=Fp h;exact Acu (c.2 (z _ (by simp))) (e.2 (z _ (by simp)))
theorem O6{c f:HQ}(hc:∀x∈AY c,SW d x)(g:∀x∈AY f,SW d x):DH R f c= -DH R c f/\(DH R c f=0->c=f):=by
 refine⟨Ky ?_,λh=>?_⟩;· simp only[Aas,Aei];grind[Nb,HM,Gl,HK]
 ·have z:=Fp h;have l:=BE.1 (z (D8 c.1.length f.1.length) (by simp));have k:=D7 (λx i y j=>(HK hs (hc x i) (g y j)).2) (z (A7 (JX R) (AY c) (AY f)) (by simp));have:=Alf k (by omega);grind
theorem cT{f c:Aq×Int×Bb}(h:SW d f.2.2)(e:SW d c.2.2):S2 R c f= -S2 R f c/\(S2 R f c=0->f=c):=by
 have k:=HK hs h e;refine⟨Ky ?_,λh=>?_⟩;· grind[S1,Nb]
 ·have z:=Fp h;have g:=KJ.1 (z (FJ f.1 c.1) (by simp));have i:=BE.1 (z (D8 f.2.1 c.2.1) (by simp));have j:=k.2 (z (JX R f.2.2 c.2.2) (by simp));grind
theorem cU{k c:Tb×Bb}(l:CD k.1 (Av k.1 0) 14641)(f:CD c.1 (Av c.1 0) 14641)(h:SW d k.2)(e:SW d c.2):S3 R c k= -S3 R k c/\(S3 R k c=0->k=c):=by
 have q:=HK hs h e;refine⟨Ky ?_,λh=>?_⟩;· grind[JY]
 ·have z:=Fp h;have g:=(KL (fu:=2000000000000) l f (by simp) (by decide)).1 (z (Fb k.1 c.1) (by simp));exact Acu g (q.2 (z (JX R k.2 c.2) (by simp)))
theorem O4{c j:Bu}(b:NV c)(b':NV j)(g:Dz c)(m:Dz j)(hc:∀x∈Bq c,SW d x)(l:∀x∈Bq j,SW d x):Es R j c= -Es R c j/\(Es R c j=0->c=j):=by
 have f:=λx (e:x∈c.1) y (i:y∈j.1)=>cT hs (hc _ (AS.2 (.inl (By.2 ⟨x,e,rfl⟩)))) (l _ (AS.2 (.inl (By.2 ⟨y,i,rfl⟩))));have k:=λx (e:x∈c.2) y (i:y∈j.2)=>cU hs ⟨(g.1 x e).2.1,(g.1 x e).2.2,rfl,b.each x e⟩ ⟨(m.1 y i).2.1,(m.1 y i).2.2,rfl,b'.each y i⟩ (hc _ (AS.2 (.inr (By.2 ⟨x,e,rfl⟩)))) (l _ (AS.2 (.inr (By.2 ⟨y,i,rfl⟩))));refine⟨Ky ?_,λh=>?_⟩;· simp only[Aas,Aei];grind[Gl]
 ·have z:=Fp h;exact Acu (D7 (λx e y i=>(f x e y i).2) (z (A7 (S2 R) c.1 j.1) (by simp))) (D7 (λx e y i=>(k x e y i).2) (z (A7 (S3 R) c.2 j.2) (by simp)))
end
section
variable{α:Type}{fu:Nat}{b:List α}{c:α->α->Int}{a:List α}{f:α->α->Option Int}{g1 g2:α×α->Option (Int×α×α)}{x y:α}{g3:α×α->Option (Int×α×α)}{h:Int}{E:Option Int}{P:Int->Prop}
theorem Aiw{a b:Vl}(h1:a.any=b.any)(h2:a.sc=b.sc)(h3:a.lists=b.lists)(c:a.structs=b.structs):a=b:=by cases a;cases b;grind[Vl.any,Vl.sc,Vl.lists,Vl.structs]
theorem HL:∀ {d:Nat} {a b:Vl},SV d a->SV d b->Bz d b a= -Bz d a b/\(Bz d a b=0->a=b)
 |0,_,_,h,_=>h.1.elim
 |d+1,a,b,f,g=>by
  have k:=Dr f.1.1 f.2.1.sc;have sb:=Dr g.1.1 g.2.1.sc;obtain⟨_,_,i,j⟩:=Gk (fu:=2000000000000) k sb (by decide) (by decide) (by decide);have l:=λx (c:x∈a.lists) y (e:y∈b.lists)=>O6 HL (f.lv c) (g.lv e);have s:=λx (c:x∈a.structs) y (e:y∈b.structs)=>O4 HL (f.1.2.2.1.2 x c) (g.1.2.2.1.2 y e) (f.2.1.st x c).2 (g.2.1.st y e).2 (f.sv c) (g.sv e);refine⟨Ky ?_,λh=>?_⟩;· simp only[Aas,Aei];rw[<-HM,i,<-Gl λx c y e=>(l x c y e).1,<-Gl λx c y e=>(s x c y e).1]
  ·have z:=Fp h;exact Aiw (EO.1 (z (Dc a.any b.any) (by simp))) (j (z (E7 a.sc b.sc) (by simp))) (D7 (λx c y e=>(l x c y e).2) (z (A7 (DH (Bz d)) a.lists b.lists) (by simp))) (D7 (λx c y e=>(s x c y e).2) (z (A7 (Es (Bz d)) a.structs b.structs) (by simp)))
theorem E8(o:a.length<fu)(h:∀x∈a,∀y∈b,f x y=Ac (c x y)):
  Ok (Ad fu (λ(g:Nat) l=>bif Dl ((g:Int)<(a.length:Int))then Ab (idx a (g:Int)) λq=>bif Dl ((b.length:Int)<=(g:Int))then Ac (1:Int)else Ab (idx b (g:Int)) λs=>Ab (f q s) λm=>bif Dl (m≠(0:Int))then Ac m else l (g+1)else bif Dl ((a.length:Int)<(b.length:Int))then Ac (-1:Int)else Ac (0:Int)) 0) λr=>r=A7 c a b:=by
 refine VD (λk=>k<=b.length/\A7 c (a.drop k) (b.drop k)=A7 c a b) a.length ⟨Abh _,rf⟩ o (λk nx j d p=>?_) (λnx d=>?_)
 ·obtain⟨n,d⟩:=d;rw[Aaq j]at d;refine P4 (Aah j (N_ (λe=>MN ?_) λe=>?_));· rw[Afg (by omega:b.length<=k)]at d;exact d
  ·have e:k<b.length:=by omega
   rw[Aaq e]at d;refine Aah e (BY (h _ (AN j) _ (AN e)) (N_ (λi=>MN ?_) λi=>p ⟨by omega,?_⟩));· rw[<-d];exact(if_neg i).symm
   ·rw[<-d];exact(if_pos (IS i)).symm
 ·obtain⟨n,d⟩:=d;rw[Aef]at d;refine P5 (N_ (λe=>MN ?_) λe=>MN ?_);· rw[Aaq (by omega:a.length<b.length)]at d;exact d
  ·rw[Afg (by omega:b.length<=a.length)]at d;exact d
theorem KB{d e:Int}(h1:g1 (x,y)=Ac (d,x,y))(h2:g2 (x,y)=Ac (e,x,y)):
  Ok (bif Dl ((0:Int)<(↑2:Int))then Ag ((0:Int)<=(0:Int)/\(0:Int)<(↑2:Int))<|Ab (g1 (x,y)) λa=>bif Dl (a.1≠(0:Int))then Ac (a.1,a.2.1,a.2.2)else Aa (Lo.i64) ((0:Int)+(1:Int))<|bif Dl ((0:Int)+(1:Int)<(↑2:Int))then Ag ((0:Int)<=(0:Int)+(1:Int)/\(0:Int)+(1:Int)<(↑2:Int))<|Ab (g2 (a.2.1,a.2.2)) λb=>bif Dl (b.1≠(0:Int))then Ac (b.1,b.2.1,b.2.2)else Aa (Lo.i64) ((0:Int)+(1:Int)+(1:Int))<|bif Dl ((0:Int)+(1:Int)+(1:Int)<(↑2:Int))then Ag ((0:Int)<=(0:Int)+(1:Int)+(1:Int)/\(0:Int)+(1:Int)+(1:Int)<(↑2:Int))<|none else Ac ((0:Int),b.2.1,b.2.2)else Ac ((0:Int),a.2.1,a.2.2)else Ac ((0:Int),x,y)) λr=>r.1=fz [d,e]:=by
 refine TT (by simp) (PH (by simp) (BY h1 (N_ (λk=>MN (if_neg k).symm) λc=>Abx (by simp) ?_)));refine TT (by simp) (PH (by simp) (BY h2 (N_ (λk=>MN ((if_pos (IS c)).trans (if_neg k)).symm) λf=>Abx (by simp) ?_)));exact Qd (by simp) (MN ((if_pos (IS c)).trans (if_pos (IS f))).symm)
theorem OV{f g:Int}(h1:g1 (x,y)=Ac (f,x,y))(h2:g2 (x,y)=Ac (g,x,y))(h3:g3 (x,y)=Ac (h,x,y)):
  Ok (bif Dl ((0:Int)<(↑3:Int))then Ag ((0:Int)<=(0:Int)/\(0:Int)<(↑3:Int))<|Ab (g1 (x,y)) λa=>bif Dl (a.1≠(0:Int))then Ac (a.1,a.2.1,a.2.2)else Aa (Lo.i64) ((0:Int)+(1:Int))<|bif Dl ((0:Int)+(1:Int)<(↑3:Int))then Ag ((0:Int)<=(0:Int)+(1:Int)/\(0:Int)+(1:Int)<(↑3:Int))<|Ab (g2 (a.2.1,a.2.2)) λb=>bif Dl (b.1≠(0:Int))then Ac (b.1,b.2.1,b.2.2)else Aa (Lo.i64) ((0:Int)+(1:Int)+(1:Int))<|bif Dl ((0:Int)+(1:Int)+(1:Int)<(↑3:Int))then Ag ((0:Int)<=(0:Int)+(1:Int)+(1:Int)/\(0:Int)+(1:Int)+(1:Int)<(↑3:Int))<|Ab (g3 (b.2.1,b.2.2)) λc=>bif Dl (c.1≠(0:Int))then Ac (c.1,c.2.1,c.2.2)else Aa (Lo.i64) ((0:Int)+(1:Int)+(1:Int)+(1:Int))<|bif Dl ((0:Int)+(1:Int)+(1:Int)+(1:Int)<(↑3:Int))then Ag ((0:Int)<=(0:Int)+(1:Int)+(1:Int)+(1:Int)/\(0:Int)+(1:Int)+(1:Int)+(1:Int)<(↑3:Int))<|none else Ac ((0:Int),c.2.1,c.2.2)else Ac ((0:Int),b.2.1,b.2.2)else Ac ((0:Int),a.2.1,a.2.2)else Ac ((0:Int),x,y)) λr=>r.1=fz [f,g,h]:=by
 refine TT (by simp) (PH (by simp) (BY h1 (N_ (λk=>MN (if_neg k).symm) λd=>Abx (by simp) ?_)));refine TT (by simp) (PH (by simp) (BY h2 (N_ (λk=>MN ((if_pos (IS d)).trans (if_neg k)).symm) λe=>Abx (by simp) ?_)));refine TT (by simp) (PH (by simp) (BY h3 (N_ (λk=>MN ((if_pos (IS d)).trans ((if_pos (IS e)).trans (if_neg k))).symm) λi=>Abx (by simp) ?_)));exact Qd (by simp) (MN ((if_pos (IS d)).trans ((if_pos (IS e)).trans (if_pos (IS i)))).symm)
theorem XZ{g4:α×α->Option (Int×α×α)}{i j l:Int}(h1:g1 (x,y)=Ac (h,x,y))(h2:g2 (x,y)=Ac (i,x,y))(h3:g3 (x,y)=Ac (j,x,y))(m:g4 (x,y)=Ac (l,x,y)):
  Ok (bif Dl ((0:Int)<(↑4:Int))then Ag ((0:Int)<=(0:Int)/\(0:Int)<(↑4:Int))<|Ab (g1 (x,y)) λa=>bif Dl (a.1≠(0:Int))then Ac (a.1,a.2.1,a.2.2)else Aa (Lo.i64) ((0:Int)+(1:Int))<|bif Dl ((0:Int)+(1:Int)<(↑4:Int))then Ag ((0:Int)<=(0:Int)+(1:Int)/\(0:Int)+(1:Int)<(↑4:Int))<|Ab (g2 (a.2.1,a.2.2)) λb=>bif Dl (b.1≠(0:Int))then Ac (b.1,b.2.1,b.2.2)else Aa (Lo.i64) ((0:Int)+(1:Int)+(1:Int))<|bif Dl ((0:Int)+(1:Int)+(1:Int)<(↑4:Int))then Ag ((0:Int)<=(0:Int)+(1:Int)+(1:Int)/\(0:Int)+(1:Int)+(1:Int)<(↑4:Int))<|Ab (g3 (b.2.1,b.2.2)) λc=>bif Dl (c.1≠(0:Int))then Ac (c.1,c.2.1,c.2.2)else Aa (Lo.i64) ((0:Int)+(1:Int)+(1:Int)+(1:Int))<|bif Dl ((0:Int)+(1:Int)+(1:Int)+(1:Int)<(↑4:Int))then Ag ((0:Int)<=(0:Int)+(1:Int)+(1:Int)+(1:Int)/\(0:Int)+(1:Int)+(1:Int)+(1:Int)<(↑4:Int))<|Ab (g4 (c.2.1,c.2.2)) λd=>bif Dl (d.1≠(0:Int))then Ac (d.1,d.2.1,d.2.2)else Aa (Lo.i64) ((0:Int)+(1:Int)+(1:Int)+(1:Int)+(1:Int))<|bif Dl ((0:Int)+(1:Int)+(1:Int)+(1:Int)+(1:Int)<(↑4:Int))then Ag ((0:Int)<=(0:Int)+(1:Int)+(1:Int)+(1:Int)+(1:Int)/\(0:Int)+(1:Int)+(1:Int)+(1:Int)+(1:Int)<(↑4:Int))<|none else Ac ((0:Int),d.2.1,d.2.2)else Ac ((0:Int),c.2.1,c.2.2)else Ac ((0:Int),b.2.1,b.2.2)else Ac ((0:Int),a.2.1,a.2.2)else Ac ((0:Int),x,y)) λr=>r.1=fz [h,i,j,l]:=by
 refine TT (by simp) (PH (by simp) (BY h1 (N_ (λk=>MN (if_neg k).symm) λe=>Abx (by simp) ?_)));refine TT (by simp) (PH (by simp) (BY h2 (N_ (λk=>MN ((if_pos (IS e)).trans (if_neg k)).symm) λf=>Abx (by simp) ?_)));refine TT (by simp) (PH (by simp) (BY h3 (N_ (λk=>MN ((if_pos (IS e)).trans ((if_pos (IS f)).trans (if_neg k))).symm) λg=>Abx (by simp) ?_)));refine TT (by simp) (PH (by simp) (BY m (N_ (λk=>MN ((if_pos (IS e)).trans ((if_pos (IS f)).trans ((if_pos (IS g)).trans (if_neg k)))).symm) λn=>Abx (by simp) ?_)));exact Qd (by simp) (MN ((if_pos (IS e)).trans ((if_pos (IS f)).trans ((if_pos (IS g)).trans (if_pos (IS n))))).symm)
theorem We{a b:Bool} :kv fu (a,b)=Ac (Dc a b):=by cases a<;>cases b<;>rfl
theorem Yp{x:Option (Int×α)}{n:Int}(h:Ok x λr=>r.1=n):GK.Ab x (λr=>Ac r.1)=Ac n:=by obtain⟨r,rfl,h⟩:=h;rw[<-h];rfl
theorem I0:∀ {d fu:Nat} {a b:Vl},SV d a->SV d b->1000000000000+20*d<fu->eI fu (a,b)=Ac (Bz d a b)
 |0,_,_,_,h,_,_=>h.1.elim
 |d+1,fu,a,b,j,k,X=>by
  obtain⟨f,rfl⟩:∃f,fu=f+15:=⟨fu-15,by omega⟩;have c:∀ {g:Nat} {x y:Bb},SW d x->SW d y->1000000000000+20*d+3<g->YG g (x,y)=Ac (JX (Bz d) x y):=λ{g x y} z A Y=>by
   obtain⟨e,rfl⟩:∃e,g=e+3:=⟨g-3,by omega⟩;refine(d205 (e+2) x y).trans (Yp ?_);rw[show tM (e+2) (x,y)=_ from d204 (e+1) x y];refine KB (g1:=tO (e+1)) (g2:=tN (e+1)) ?_ ?_;· refine(d202 e x y).trans (Ok.eq ?_);exact BY (I0 z.1 A.1 (by omega)) (MN rfl)
   ·refine(d203 e x y).trans (Ok.eq ?_);exact BY (I0 z.2 A.2 (by omega)) (MN rf)
  have O:=Dr j.1.1 j.2.1.sc;have sb:=Dr k.1.1 k.2.1.sc;obtain⟨R,⟨S,E⟩,⟨T,F⟩,_⟩:=id j.1;obtain⟨U,⟨V,G⟩,⟨W,H⟩,_⟩:=id k.1;refine(d227 (f+14) a b).trans (Yp ?_);rw[show tf (f+14) (a,b)=_ from d226 (f+13) a b];refine XZ (g1:=tU (f+13)) (g2:=tT (f+13)) (g3:=tF (f+13)) (g4:=tg (f+13)) ?_ ?_ ?_ ?_;· refine(Ok.eq ?_);exact BY We (MN rfl)
  ·refine(Ok.eq ?_);exact BY (Gk O sb (by simp) (by simp) (by omega)).1 (MN rf)
  ·refine(d211 (f+12) a b).trans (Ok.eq ?_);refine OC (Q:=λr=>r=A7 (DH (Bz d)) a.lists b.lists) ?_ λr i=>MN (by rw[i]);rw[show tG (f+12) (a.lists,b.lists)=_ from d210 (f+11) _ _];refine E8 (f:=λx y=>tH (f+11) (x,y)) (by omega) λx l y m=>?_;have q:=E _ l;have B:=G _ m;have s:=j.lv l;have t:=k.lv m;refine(d209 (f+10) x y).trans (Yp ?_);rw[show tI (f+10) (x,y)=_ from d208 (f+9) x y];refine OV (g1:=tS (f+9)) (g2:=tR (f+9)) (g3:=tK (f+9)) ?_ ?_ ?_;· refine(Ok.eq ?_);exact BY QA (MN rf)
   ·refine(Ok.eq ?_);refine BY We (MN ?_);simp
   ·refine(d207 (f+8) x y).trans (Ok.eq ?_);refine BY (Hm (by omega) (by omega)) (BY (Hm (by omega) (by omega)) (OC (Q:=λr=>r=A7 (JX (Bz d)) (AY x) (AY y)) ?_ λr i=>MN (by rw[i])));rw[show tL (f+8) (AY x,AY y)=_ from d206 (f+7) _ _];exact E8 (f:=λx y=>YG (f+7) (x,y)) (by unfold AY;rw[Aac];omega) λu I v J=>c (s _ I) (t _ J) (by omega)
  ·refine(d225 (f+12) a b).trans (Ok.eq ?_);unfold yx;refine OC (Q:=λr=>r=A7 (Es (Bz d)) a.structs b.structs) ?_ λr i=>MN (by rw[i]);rw[show ti (f+12) (a.structs,b.structs)=_ from d224 (f+11) _ _];unfold yy;refine E8 (f:=λx y=>tj (f+11) (x,y)) (by omega) λx l y m=>?_;have q:=F _ l;have B:=H _ m;have C:=(j.2.1.st _ l).2.1;have D:=(k.2.1.st _ m).2.1;have s:=j.sv l;have t:=k.sv m;have Z:=q.nf;have l2:=q.nc;refine(d223 (f+10) x y).trans (Yp ?_);rw[show tq (f+10) (x,y)=_ from d222 (f+9) x y];unfold yz;refine KB (g1:=tA (f+9)) (g2:=tt (f+9)) ?_ ?_
   ·refine(d216 (f+8) x y).trans (Ok.eq ?_);unfold yE;refine OC (Q:=λr=>r=A7 (S2 (Bz d)) x.1 y.1) ?_ λr i=>MN (by rw[i]);rw[show tB (f+8) (x.1,y.1)=_ from d215 (f+7) _ _];unfold yF;refine E8 (f:=λx y=>tC (f+7) (x,y)) (by omega) λu M v N=>?_;have w:=s _ (AS.2 (.inl (By.2 ⟨_,M,rf⟩)));have t2:=t _ (AS.2 (.inl (By.2 ⟨_,N,rf⟩)));refine(d214 (f+6) u v).trans (Yp ?_);rw[show tD (f+6) (u,v)=_ from d213 (f+5) u v];unfold yG;refine OV (g1:=ku (f+5)) (g2:=kq (f+5)) (g3:=tE (f+5)) ?_ ?_ ?_;· refine(Ok.eq ?_);rw[ku];exact BY WA (MN rf)
    ·refine(Ok.eq ?_);rw[kq];exact BY QA (MN rf)
    ·refine(d212 (f+4) u v).trans (Ok.eq ?_);unfold yH;exact BY (c w t2 (by omega)) (MN rf)
   ·refine(d221 (f+8) x y).trans (Ok.eq ?_);unfold yA;refine OC (Q:=λr=>r=A7 (S3 (Bz d)) x.2 y.2) ?_ λr i=>MN (by rw[i]);rw[show tu (f+8) (x.2,y.2)=_ from d220 (f+7) _ _];unfold yB;refine E8 (f:=λx y=>tv (f+7) (x,y)) (by omega) λu o v p=>?_;have w:=s _ (AS.2 (.inr (By.2 ⟨_,o,rf⟩)));have t2:=t _ (AS.2 (.inr (By.2 ⟨_,p,rf⟩)));have K:CD u.1 (Av u.1 0) 14641:=⟨(C _ o).2.1,(C _ o).2.2,rf,q.each _ o⟩;have L:CD v.1 (Av v.1 0) 14641:=⟨(D _ p).2.1,(D _ p).2.2,rf,B.each _ p⟩;refine(d219 (f+6) u v).trans (Yp ?_);rw[show tx (f+6) (u,v)=_ from d218 (f+5) u v];unfold yC;refine KB (g1:=ko (f+5)) (g2:=tz (f+5)) ?_ ?_;· refine(Ok.eq ?_);rw[ko];exact BY (Ft K L (by decide) (by omega)) (MN rf)
    ·refine(d217 (f+4) u v).trans (Ok.eq ?_);unfold yD;exact BY (c w t2 (by omega)) (MN rf)
theorem Nc{x y:Int} :G1 fu (x,y)=Ac (D8 x y):=by refine(Ok.eq ?_);rw[G1];unfold D8;exact N_ (λh=>MN (by rw[if_pos h])) λh=>N_ (λk=>MN (by rw[if_neg h,if_pos k])) λk=>MN (by rw[if_neg h,if_neg k])
theorem xb{x y:Aq} :jJ fu (x,y)=Ac (FJ x y):=by refine(Ok.eq ?_);rw[jJ];exact KK rf
theorem O5{α:Type}{c:α->α->Int}{b b':List α} :∀ {a a':List α},a.length=a'.length->A7 c (a++b) (a'++b')=if A7 c a a'=0 then A7 c b b' else A7 c a a'
 | [],[],_=>rfl
 |x::a,y::a',h=>by
  have d:=O5 (c:=c) (b:=b) (b':=b') (a:=a) (a':=a') (by simpa using h);show(if c x y=0 then A7 c (a++b) (a'++b')else c x y)=if(if c x y=0 then A7 c a a' else c x y)=0 then A7 c b b' else if c x y=0 then A7 c a a' else c x y;by_cases k:c x y=0;· simp only[if_pos k];exact d
  ·simp only[if_neg k]
theorem Jp(q:a.length<fu)(h:∀x∈a,∀y∈b,f x y=Ac (c x y))
  (h1:A7 c a b≠0->P (A7 c a b)) (n:A7 c a b=D8 a.length b.length->Ok E P):
  Ok (Ad fu (λ(i:Nat) m=>bif Dl ((i:Int)<(a.length:Int))then bif Dl ((i:Int)<(b.length:Int))then Ab (idx a (i:Int)) λs=>Ab (idx b (i:Int)) λt=>Ab (f s t) λo=>bif Dl (o≠(0:Int))then Ac o else m (i+1)else E else E) 0) P:=by
 refine VD (λk=>k<=b.length/\A7 c (a.drop k) (b.drop k)=A7 c a b) a.length ⟨Abh _,rf⟩ q (λk nx l d r=>?_) (λnx d=>?_)
 ·obtain⟨p,d⟩:=d;rw[Aaq l]at d;refine P4 (N_ (λg=>?_) λg=>n ?_)
  ·have g:k<b.length:=by omega
   rw[Aaq g]at d;refine Aah l (Aah g (BY (h _ (AN l) _ (AN g)) (N_ (λj=>MN ?_) λj=>r ⟨by omega,?_⟩)));· have e:A7 c a b=c a[k] b[k]:=d.symm.trans (if_neg j);rw[<-e];exact h1 (by rw[e];exact j)
   ·rw[<-d];exact(if_pos (IS j)).symm
  ·rw[Afg (by omega:b.length<=k)]at d;rw[<-d];exact((if_neg (by omega)).trans (if_pos (by omega))).symm
 ·obtain⟨p,d⟩:=d;rw[Aef]at d;refine P5 (n ?_);rw[<-d];rcases Aan a.length b.length with g|g;· rw[Aaq g];exact(if_pos (by omega)).symm
  ·rw[Afg g];exact(BE.2 (by omega)).symm
theorem Vy(p:a.length<fu)(q:a.length=b.length)(h:∀x∈a,∀y∈b,f x y=Ac (c x y))
  (h1:A7 c a b≠0->P (A7 c a b)) (o:A7 c a b=0->Ok E P):
  Ok (Ad fu (λ(i:Nat) m=>bif Dl ((i:Int)<(a.length:Int))then Ab (idx a (i:Int)) λs=>Ab (idx b (i:Int)) λt=>Ab (f s t) λn=>bif Dl (n≠(0:Int))then Ac n else m (i+1)else E) 0) P:=by
 refine VD (λk=>A7 c (a.drop k) (b.drop k)=A7 c a b) a.length rf p (λk nx l d r=>?_) (λnx d=>?_)
 ·have j:k<b.length:=by omega
  rw[Aaq l,Aaq j]at d;refine P4 (Aah l (Aah j (BY (h _ (AN l) _ (AN j)) (N_ (λg=>MN ?_) λg=>r ?_))));· have e:A7 c a b=c a[k] b[k]:=d.symm.trans (if_neg g);rw[<-e];exact h1 (by rw[e];exact g)
  ·rw[<-d];exact(if_pos (IS g)).symm
 ·rw[Aef,q,Aef]at d;exact P5 (o d.symm)
end
section
variable {d : Nat} (ih : ∀ {fu : Nat} {a b : Vl}, SV d a -> SV d b -> 1000000000000 + 20 * d < fu -> Tz fu (a, b) = Ac (Bz d a b))
section
variable{fu:Nat}
include ih
theorem HO{x y:Bb}(c:SW d x)(e:SW d y)(g:1000000000000+20*d+1<fu):QU fu (x,y)=Ac (JX (Bz d) x y):=by
 obtain⟨f,rfl⟩:∃f,fu=f+1:=⟨fu-1,by omega⟩;refine(d330 f x y).trans (Ok.eq ?_);unfold yo;refine BY (ih c.1 e.1 (by omega)) (N_ (λh=>MN (if_neg h).symm) λh=>BY (ih c.2 e.2 (by omega)) (MN ?_));refine Eq.trans ?_ (if_pos (IS h)).symm;show _=if _=0 then 0 else _;split;· assumption
 ·rfl
theorem aF{x y:HQ}(h1:x.1.length<=3)(z:x.2.length<=1)(A:y.2.length<=1)(o:∀w∈AY x,SW d w)(p:∀w∈AY y,SW d w)(t:1000000000000+20*d+2<fu):jI fu (x,y)=Ac (DH (Bz d) x y):=by
 obtain⟨f,rfl⟩:∃f,fu=f+1:=⟨fu-1,by omega⟩;refine(d331 f x y).trans (Ok.eq ?_);unfold yn;refine N_ (λh=>BY Nc (MN (if_neg λk=>h (BE.1 k)).symm)) λh=>?_;have n:x.1.length=y.1.length:=by omega
 have q:D8 x.1.length y.1.length=0:=BE.2 (by omega);have j:D8 y.2.length x.2.length=Dc (Dl (0<x.2.length)) (Dl (0<y.2.length)):=by rcases(by omega:x.2.length=0\/x.2.length=1)with e|e<;>rcases(by omega:y.2.length=0\/y.2.length=1)with l|l<;>rw[e,l]<;>rfl
 refine N_ (λm=>BY Nc (MN ?_)) λm=>?_;· rw[j];exact((if_pos q).trans (if_neg (by rw[<-j];exact λk=>m (BE.1 k).symm))).symm
 have s:Dc (Dl (0<x.2.length)) (Dl (0<y.2.length))=0:=by rw[<-j];exact BE.2 (by omega)
 have e:DH (Bz d) x y=A7 (JX (Bz d)) (AY x) (AY y):=by
  refine(if_pos q).trans ((if_pos s).trans ?_);show(if _=0 then 0 else _)=_;split;· exact(by assumption:_=(0:Int)).symm
  ·rfl
 have r:A7 (JX (Bz d)) (AY x) (AY y)=_:=O5 n;rw[e,r];refine Vy (f:=λu v=>QU f (u,v)) (by omega) n (λu g v i=>HO ih (o _ (AS.2 (.inl g))) (p _ (AS.2 (.inl i))) (by omega)) (λk=>(if_neg k).symm) λk=>?_;rw[if_pos k];exact Vy (f:=λu v=>QU f (u,v)) (by omega) (by omega) (λu g v i=>HO ih (o _ (AS.2 (.inr g))) (p _ (AS.2 (.inr i))) (by omega)) (λk=>rfl) λk=>MN k.symm
end
end
theorem wP(x:Int):fz [x]=x:=by show(if x=0 then 0 else x)=x;omega
theorem BU{x:Int}{l:List Int}(h:x=0):fz (x::l)=fz l:=if_pos h
theorem Dh{x:Int}{l:List Int}(h:x≠0):fz (x::l)=x:=if_neg h
section
variable {d : Nat} (ih : ∀ {fu : Nat} {a b : Vl}, SV d a -> SV d b -> 1000000000000 + 20 * d < fu -> Tz fu (a, b) = Ac (Bz d a b))
section
variable{fu:Nat}
include ih
theorem X3{x y:Aq×Int×Bb}(c:SW d x.2.2)(e:SW d y.2.2)(g:1000000000000+20*d+2<fu):jH fu (x,y)=Ac (S2 (Bz d) x y):=by
 obtain⟨f,rfl⟩:∃f,fu=f+1:=⟨fu-1,by omega⟩;refine(d332 f x y).trans (Ok.eq ?_);unfold ym S2;refine BY xb (N_ (λh=>MN (Dh h).symm) λh=>BY Nc (N_ (λk=>MN ?_) λk=>BY (HO ih c e (by omega)) (MN ?_)));· rw[BU (IS h),Dh k]
 ·rw[BU (IS h),BU (IS k),wP]
theorem Yf{x y:Tb×Bb}(g:CD x.1 (Av x.1 0) 14641)(i:CD y.1 (Av y.1 0) 14641)(c:SW d x.2)(e:SW d y.2)(j:1000000000000+20*d+2<fu):dW fu (x,y)=Ac (S3 (Bz d) x y):=by obtain⟨f,rfl⟩:∃f,fu=f+1:=⟨fu-1,by omega⟩;refine(d333 f x y).trans (Ok.eq ?_);unfold yk S3;refine BY (JW g i (by decide) (by omega)) (N_ (λh=>MN (Dh h).symm) λh=>BY (HO ih c e (by omega)) (MN ?_));rw[BU (IS h),wP]
theorem TU{x y:Bu}(i:NV x)(j:NV y)(l:Dz x)(m:Dz y)(n:∀w∈Bq x,SW d w)(o:∀w∈Bq y,SW d w)(r:1000000000000+20*d+3<fu):dV fu (x,y)=Ac (Es (Bz d) x y):=by
 obtain⟨f,rfl⟩:∃f,fu=f+1:=⟨fu-1,by omega⟩;have s:=i.nf;have t:=i.nc;have p:=λu (c:u∈x.1) v (g:v∈y.1)=>X3 ih (fu:=f) (n _ (AS.2 (.inl (By.2 ⟨u,c,rfl⟩)))) (o _ (AS.2 (.inl (By.2 ⟨v,g,rfl⟩)))) (by omega);have q:=λu (c:u∈x.2) v (g:v∈y.2)=>Yf ih (fu:=f) ⟨(l.1 u c).2.1,(l.1 u c).2.2,rfl,i.each u c⟩ ⟨(m.1 v g).2.1,(m.1 v g).2.2,rfl,j.each v g⟩ (n _ (AS.2 (.inr (By.2 ⟨u,c,rfl⟩)))) (o _ (AS.2 (.inr (By.2 ⟨v,g,rfl⟩)))) (by omega);refine(d334 f x y).trans (Ok.eq ?_);unfold yj Es;refine Jp (f:=λu v=>jH f (u,v)) (by omega) p (λk=>(Dh k).symm) λe=>?_;refine N_ (λh=>BY Nc (MN ?_)) λh=>?_;· rw[Dh (by rw[e];exact λk=>h (BE.1 k)),e]
 rw[BU (by rw[e];exact BE.2 (by omega)),wP];exact Jp (f:=λu v=>dW f (u,v)) (by omega) q (λk=>rfl) λe=>BY Nc (MN e.symm)
end
end
section
variable{fu:Nat}{α:Type}{d:Nat}{c:α->α->Int}{l:List α}{B:α->α->Prop}{cmp:α->α->Option Int}{m k:Nat}{a b:Vl}{x y:HQ}{s:Sc}{v:Vl}
theorem HJ:∀ {d fu:Nat} {a b:Vl},SV d a->SV d b->1000000000000+20*d<fu->Tz fu (a,b)=Ac (Bz d a b)
 |0,_,_,_,h,_,_=>h.1.elim
 |d+1,fu,a,b,c,g,y=>by
  obtain⟨f,rfl⟩:∃f,fu=f+1:=⟨fu-1,by omega⟩;have o:∀ {fu:Nat} {a b:Vl},SV d a->SV d b->1000000000000+20*d<fu->Tz fu (a,b)=Ac (Bz d a b):=HJ;have w:=Dr c.1.1 c.2.1.sc;have sb:=Dr g.1.1 g.2.1.sc;have p:=c.1.2.1;have l:=c.1.2.2.1;have m:=g.1.2.2.1;refine(d335 f a b).trans (Ok.eq ?_);unfold yh Bz;have r:=λu (i:u∈a.lists) v (j:v∈b.lists)=>aF o (fu:=f) (p.2 u i).1 (c.2.1.rs u i) (g.2.1.rs v j) (c.lv i) (g.lv j) (by omega);have s:=λu (i:u∈a.structs) v (j:v∈b.structs)=>TU o (fu:=f) (l.2 u i) (m.2 v j) (c.2.1.st u i).2 (g.2.1.st v j).2 (c.sv i) (g.sv j) (by omega);refine P0 (λh=>?_) λh=>?_
  ·have n:a.any≠b.any:=λe=>by rw[e]at h;revert h;cases b.any<;>decide
   rw[Dh (λk=>n (EO.1 k))];unfold Dc;rw[if_neg n];exact P0 (λk=>MN (by rw[if_pos k])) λk=>MN (by rw[if_neg (by rw[k];decide)])
  have q:a.any=b.any:=by revert h;cases a.any<;>cases b.any<;>decide
  rw[BU (EO.2 q)];refine BY (Gk w sb (by decide) (by decide) (by omega)).2.1 (N_ (λk=>MN (Dh k).symm) λk=>?_);rw[BU (IS k)];refine Jp (f:=λu v=>jI f (u,v)) (by omega) r (λk=>(Dh k).symm) λe=>?_;refine N_ (λh=>BY Nc (MN ?_)) λh=>?_;· rw[Dh (by rw[e];exact λk=>h (BE.1 k)),e]
  rw[BU (by rw[e];exact BE.2 (by omega)),wP];exact Jp (f:=λu v=>dV f (u,v)) (by omega) s (λk=>rfl) λe=>BY Nc (MN e.symm)
def EP{α:Type}(R:α->α->Prop):List α->Prop
 | []=>True
 | [_]=>True
 |x::y::l=>R x y/\EP R (y::l)
theorem LZ{α:Type}{R:α->α->Prop}{p:α}{B:List α} :∀ {A:List α},EP R (A++p::B)↔EP R (A++[p])/\EP R (p::B)
 | []=>⟨λh=>⟨trivial,h⟩,λh=>h.2⟩
 | [x]=>⟨λh=>⟨⟨h.1,trivial⟩,h.2⟩,λh=>⟨h.1.1,h.2⟩⟩
 |x::y::A=>by have a:=LZ (R:=R) (p:=p) (B:=B) (A:=y::A);grind[EP]
theorem QM{α:Type}{R:α->α->Prop} :∀ {l:List α},EP R l->∀i (h:i+1<l.length),R l[i] l[i+1]
 | [],_,i,h=>by grind
 | [_],_,i,h=>by grind
 |x::y::l,a,0,_=>a.1
 |x::y::l,a,i+1,h=>QM a.2 i (by grind)
theorem hQ(v:∀x∈l,∀y∈l,c x y<0->¬c y x<0)
  (hc:∀x∈l,∀y∈l,cmp x y=Ac (c x y))  (X:l.length<1099511627776) (W:l.length+1<fu):
  Ok (Si cmp fu 0 l.length l) λr=>r.Perm l/\EP (λp q=> ¬c q p<0) r:=by
 refine Xp (λz:List α×Int=>z.1.Perm l/\1<=z.2/\∃A C,z.1=A++C/\EP (λp q=> ¬c q p<0) A/\((A.length:Int)=z.2\/(C=[]/\A.length<z.2))) (λz=>l.length+1-z.2.toNat) ?_ (by omega) ?_;· refine⟨.refl _,by omega,?_⟩;cases l with
  |nil=>exact⟨[],[],rfl,trivial, .inr ⟨rfl,by simp⟩⟩
  |cons x l=>exact⟨[x],l,rfl,trivial, .inl (by simp)⟩
 ·rintro⟨
      m,i⟩ nx ⟨e,S,A,C,a,k,f⟩ R G;have s:m.length=l.length:=e.length_eq;refine N_ (λn=>?_) (λn=>?_)
  ·have o:(A.length:Int)=i:=by
    grind
   obtain⟨q,C,rfl⟩:∃q N,C=q::N:=by
    cases C with
    |nil=>grind
    |cons q C=>simp
   refine Xp (λz:List α×Int=>z.1.Perm l/\∃A q B C,z.1=A++q::(B++C)/\(A.length:Int)=z.2/\EP (λp q=> ¬c q p<0) (A++B)/\EP (λp q=> ¬c q p<0) (q::B)/\(A.length:Int)+B.length=i) (λz=>z.2.toNat) ⟨e,A,q,[],C,a,o,by grind,trivial,by simpa using o⟩ (by omega) ?_;rintro⟨m,j⟩ V ⟨e,A,q,B,C,a,E,k,J,D⟩ _ t;dsimp only at e a E;have out:EP (λp q=> ¬c q p<0) (A++q::B)->Ok (nx (m,i+1)) (λr=>r.Perm l/\EP (λp q=> ¬c q p<0) r):=λU=>
    G (m,i+1) ⟨e,by omega,A++q::B,C,by simp[a],U, .inl (by simp only[Aac,Abn];omega)⟩ (by omega);refine N_ (λn=>?_) (λn=>?_)
   ·obtain⟨A,p,rfl⟩:∃u p,A=u++[p]:=by
     rcases Aep A with h|⟨u,p,h⟩;· subst h;simp at E;omega
     ·exact⟨u,p,by simpa using h⟩
    have b:m=A++p::q::(B++C):=by simp[a]
    simp only[Aac,Abn,Adu]at E D;have w:idx m j=Ac q:=by unfold idx;rw[if_pos (by omega),b,Aab (by omega)];rw[show j.toNat-A.length=1 by omega];rfl
    have I:idx m (j-1)=Ac p:=by unfold idx;rw[if_pos (by omega),b,Aab (by omega)];rw[show(j-1).toNat-A.length=0 by omega];rfl
    have K:=e.mem_iff.1 (by simp[a]:q∈m);have mp:=e.mem_iff.1 (by simp[a]:p∈m);refine BY w (Aap (BY I (BY (hc q K p mp) ?_)));rw[Aaj,List.singleton_append,LZ]at k;refine N_ (λd=>?_) (λd=>?_)
    ·have O:¬c p q<0:=v q K p mp d;refine Aap (Aap (BY I (BY w (BY w ?_))));have L:m.set j.toNat p=A++p::p::(B++C):=by
      rw[b,Acy _ _ (by omega),show j.toNat-A.length=1 by omega];rfl
     have M:(m.set j.toNat p).set (j-1).toNat q=A++q::p::(B++C):=by rw[L,Acy _ _ (by omega),show(j-1).toNat-A.length=0 by omega];rfl
     have P:idx (m.set j.toNat p) (j-1)=Ac p:=by unfold idx;rw[if_pos (by omega),L,Aab (by omega)];rw[show(j-1).toNat-A.length=0 by omega];rfl
     refine BY P (Abx (by omega) ?_);refine t _ ⟨?_,A,q,p::B,C,?_,?_,?_,?_,?_⟩ (by show(j-1).toNat<j.toNat;omega);· show((m.set j.toNat p).set (j-1).toNat q).Perm l;rw[M];refine List.Perm.trans ?_ e;rw[b];exact List.Perm.append_left _ (List.Perm.swap ..)
     ·show(m.set j.toNat p).set (j-1).toNat q=_;rw[M];simp
     ·show(A.length:Int)=j-1;omega
     ·exact(LZ).2 k
     ·exact⟨O,k.2⟩
     ·simp only[Abn];omega
    ·refine Aap (out ?_);rw[Aaj,List.singleton_append,LZ];exact⟨k.1,d,J⟩
   ·have H:¬0<j:=n;obtain rfl:A=[]:=OF.1 (by omega);refine Aap (out ?_);exact J
  grind[MN,List.length_eq_zero_iff]
theorem hH(a:EP (λp q=> ¬c q p<0) l)
  (hc:∀x∈l,∀y∈l,cmp x y=Ac (c x y))  (u:l.length<1099511627776) (t:l.length+1<fu):
  Ok (Si cmp fu 0 l.length l) λr=>r=l:=by
 refine Xp (λz:List α×Int=>z.1=l/\1<=z.2) (λz=>l.length+1-z.2.toNat) ⟨rfl,by omega⟩ (by omega) ?_;rintro⟨m,i⟩ nx ⟨e,s⟩ o b;subst e;refine N_ (λg=>?_) (λ_=>MN rfl);have n:i<m.length:=g;obtain⟨f,rfl⟩:∃f,fu=f+1:=⟨fu-1,by omega⟩;have out:Ok (nx (m,i+1)) (λr=>r=m):=b (m,i+1) ⟨rfl,by omega⟩ (by omega);refine TT (by omega) ?_;have h:idx m i=Ac (m[i.toNat]'(by omega)):=Fo (by omega) (by omega);have j:idx m (i-1)=Ac (m[(i-1).toNat]'(by omega)):=Fo (by omega) (by omega);have d:=QM a (i-1).toNat (by omega);have k:(i-1).toNat+1=i.toNat:=by omega
 simp only[k]at d;refine BY h (Aap (BY j (BY (hc _ (AN _) _ (AN _)) ?_)));exact Qd d (Aap out)
theorem P9(a:∀x∈l,∀y∈l,c x y<0->¬c y x<0)
  (hc:∀x∈l,∀y∈l,cmp x y=Ac (c x y))  (g:l.length<1099511627776) (f:l.length+1<fu):
  Ok (Si cmp fu 0 l.length l) λr=>(r.Perm l/\EP (λp q=> ¬c q p<0) r)/\(EP (λp q=> ¬c q p<0) l->r=l):=by
 obtain⟨r,e,h⟩:=hQ a hc g f;refine⟨r,e,h,λb=>?_⟩;obtain⟨j,d,i⟩:=hH b hc g f;grind
theorem ZA{l:List (Tb×Bb)}(h:l.length<=12)(b:20<fu){c:_->_->Int}(a:∀x∈l,∀y∈l,c x y<0->¬c y x<0)(hc:∀x∈l,∀y∈l,kM fu (x,y)=Ac (c x y)):Ok (kL fu l) λr=>(r.Perm l/\EP (λp q=> ¬c q p<0) r)/\(EP (λp q=> ¬c q p<0) l->r=l):=by
 rw[kL];have e:(Int.ofNat (l.length %wL (18446744073709551616:Int)))=(l.length:Nat):=by grind
 rw[e];refine OC (GJ h) λr _=>?_;rw[uo];obtain⟨f,rfl⟩:∃f,fu=f+1:=⟨fu-1,by omega⟩;refine OC (Q:=λr:List (Tb×Bb)=>(r.Perm l/\EP (λp q=> ¬c q p<0) r)/\(EP (λp q=> ¬c q p<0) l->r=l)) ?_ λr h=>MN h;refine Aap (TT (by omega) ?_);refine OC (Q:=λr:List (Tb×Bb)=>(r.Perm l/\EP (λp q=> ¬c q p<0) r)/\(EP (λp q=> ¬c q p<0) l->r=l)) ?_ λr h=>MN h;exact P9 a hc (by omega) (by omega)
theorem Zz{l:List (HQ)}(h:l.length<=12)(b:20<fu){c:_->_->Int}(a:∀x∈l,∀y∈l,c x y<0->¬c y x<0)(hc:∀x∈l,∀y∈l,eH fu (x,y)=Ac (c x y)):Ok (eG fu l) λr=>(r.Perm l/\EP (λp q=> ¬c q p<0) r)/\(EP (λp q=> ¬c q p<0) l->r=l):=by
 rw[eG];have e:(Int.ofNat (l.length %wL (18446744073709551616:Int)))=(l.length:Nat):=by grind
 rw[e];refine OC (GJ h) λr _=>?_;rw[td];obtain⟨f,rfl⟩:∃f,fu=f+1:=⟨fu-1,by omega⟩;refine OC (Q:=λr:List (HQ)=>(r.Perm l/\EP (λp q=> ¬c q p<0) r)/\(EP (λp q=> ¬c q p<0) l->r=l)) ?_ λr h=>MN h;refine Aap (TT (by omega) ?_);refine OC (Q:=λr:List (HQ)=>(r.Perm l/\EP (λp q=> ¬c q p<0) r)/\(EP (λp q=> ¬c q p<0) l->r=l)) ?_ λr h=>MN h;exact P9 a hc (by omega) (by omega)
theorem Zy{l:List (Bu)}(h:l.length<=12)(b:20<fu){c:_->_->Int}(a:∀x∈l,∀y∈l,c x y<0->¬c y x<0)(hc:∀x∈l,∀y∈l,eF fu (x,y)=Ac (c x y)):Ok (eE fu l) λr=>(r.Perm l/\EP (λp q=> ¬c q p<0) r)/\(EP (λp q=> ¬c q p<0) l->r=l):=by
 rw[eE];have e:(Int.ofNat (l.length %wL (18446744073709551616:Int)))=(l.length:Nat):=by grind
 rw[e];refine OC (GJ h) λr _=>?_;rw[s_];obtain⟨f,rfl⟩:∃f,fu=f+1:=⟨fu-1,by omega⟩;refine OC (Q:=λr:List (Bu)=>(r.Perm l/\EP (λp q=> ¬c q p<0) r)/\(EP (λp q=> ¬c q p<0) l->r=l)) ?_ λr h=>MN h;refine Aap (TT (by omega) ?_);refine OC (Q:=λr:List (Bu)=>(r.Perm l/\EP (λp q=> ¬c q p<0) r)/\(EP (λp q=> ¬c q p<0) l->r=l)) ?_ λr h=>MN h;exact P9 a hc (by omega) (by omega)
theorem Le(c:SV d a)(e:SV d b)(f:d<=3)(k:1000000002000<fu):kj fu (a,b)=Ac (Bz d a b):=by obtain⟨s,g,i⟩:=Jh (fu:=fu) c.1 f (by omega);obtain⟨t,h,j⟩:=Jh (fu:=fu) e.1 f (by omega);refine(Ok.eq ?_);refine BY g ?_;rw[i.2 c.2];refine P8 rfl (BY h ?_);rw[j.2 e.2];exact P8 rfl (BY (I0 c e (by omega)) (MN rfl))
theorem JU(c:SV d a)(e:SV d b)(j:d<=3)(i:1000000002000<fu):U9 fu (a,b)=Ac (Bz d a b):=by
 have one:∀ {v:Vl},SV d v->TE fu v=Ac Bp:=λ{v} f=>by obtain⟨s,g,h⟩:=HW (fu:=fu) (lv:=1) f.1 (by omega) (by omega);refine(Ok.eq ?_);rw[TE];exact BY g (MN (h.2 f.2))
 refine(Ok.eq ?_);rw[U9];exact BY (one c) (P8 rf (BY (one e) (P8 rf (BY (HJ c e (by omega)) (MN rf)))))
def n7(x:HQ):Vl:=Vl.mk Aj E_ [x] []
def n6(x:Bu):Vl:=Vl.mk Aj E_ [] [x]
theorem Wz:E7 E_ E_=0:=by have h:Ii 5 12 E_:=L2;obtain⟨_,_,s,_⟩:=Gk (fu:=2000000000000) h h (by decide) (by decide) (by decide);omega
theorem Wy{x y:α} :A7 c [x] [y]=c x y:=by show(if c x y=0 then 0 else c x y)=c x y;omega
theorem Wx:Bz (d+1) (n7 x) (n7 y)=DH (Bz d) x y:=by
 show fz [Dc Aj Aj,E7 E_ E_,A7 (DH (Bz d)) [x] [y],A7 (Es (Bz d)) [] []]=_;rw[BU (rfl:Dc Aj Aj=0),BU Wz,Wy];by_cases h:DH (Bz d) x y=0;· rw[BU h,h];rfl
 grind[Dh]
theorem Ww{x y:Bu} :Bz (d+1) (n6 x) (n6 y)=Es (Bz d) x y:=by show fz [Dc Aj Aj,E7 E_ E_,A7 (DH (Bz d)) [] [],A7 (Es (Bz d)) [x] [y]]=_;rw[BU (rfl:Dc Aj Aj=0),BU Wz,BU (rfl:A7 (DH (Bz d)) [] []=0),Wy,wP]
theorem xc:4294967296<=Ah:=by decide
theorem nD:4294967296<=Ah:=by decide
def AC(B:α->α->Prop)(l:List α):Prop:= ∀i j (a:i<l.length) (b:j<l.length),i≠j->¬B l[i] l[j]
theorem max_eq{P:List α->Prop}{g:α->α->Option Bool}{srt:List α->Option (List α)}{cap:Nat}(N:4294967296<=cap)(hl:l.length<=12)(hf:20<fu)(O:∀x∈l,∀y∈l,Ok (g x y) λr=>r=Bp↔B x y)
  (X:∀m:List α,m.Sublist l->m.Pairwise (λx y=> ¬B x y/\¬B y x)->(AC B l->m=l)->Ok (srt m) P):
  Ok (Ad fu (λ(a:List α×Nat) t=>
  bif Dl (
        (a.2:Int)<(l.length:Int))then
   Ab (idx l (a.2:Int)) λL=>
   Ad fu (
        λ(u:Nat) d=>
    bif Dl ((u:Int)<(l.length:Int))then
     Ab (idx l (u:Int)) λU=>
     bif Dl ((a.2:Int)≠(u:Int))then
      Ab (g L U) λY=>
      bif Y then
       bif Dl ((u:Int)<(a.2:Int))then
        t ((a.1,a.2+1))
       else
        Ab (g U L) λZ=>
        bif !Z then
         t ((a.1,a.2+1))
        else
         d (u+1)
      else
       d (u+1)
     else
      d (u+1)
    else
     Ag (FD a.1+1<=cap)<|
     t (((a.1++[L]),a.2+1))) (0)
  else
   Ab (srt a.1) λr9=>
   Ac (r9)) (([],0))) P:=by
 refine Sw (λk (s:List α)=>s.Sublist (l.take k)/\s.Pairwise (λx y=> ¬B x y/\¬B y x)/\(∀x∈s,∃i,∃e:i<l.length,i<k/\l[i]=x/\∀j (o:j<l.length),j≠i->B l[i] l[j]->i<j/\B l[j] l[i])/\(AC B l->s=l.take k)) l.length ⟨by simp,by simp,by simp,λ_=>by simp⟩ (by omega) (λk s nx v G Q=>?_) (λs nx G=>?_)
 ·have m:=AN v;obtain⟨w,E,J,F⟩:=G;have M:l.take (k+1)=l.take k++[l[k]]:=IN v;have skip:(¬AC B l)->Ok (nx (s,k+1)) P:=λh=>Q _ ⟨by grind,E,λx b=>by
   obtain⟨i,e,z,A⟩:=J x b;exact⟨i,e,by omega,A⟩,λq=>absurd q h⟩;refine P4 (Aah v ?_);refine VD (λn=> ∀j (o:j<l.length),j<n->j≠k->B l[k] l[j]->k<j/\B l[j] l[k]) l.length (λj _ h=>by omega) (by omega) (λj d o f p=>?_) (λd f=>?_)
  ·have S:=AN o;have c:(j≠k->B l[k] l[j]->k<j/\B l[j] l[k])->∀i (e:i<l.length),i<j+1->i≠k->B l[k] l[i]->k<i/\B l[i] l[k]:=λh i e W=>by
    rcases Aan i j with z|z;· exact f i e z
    ·obtain rfl:i=j:=by omega
     omega
   refine P4 (Aah o (N_ (λne=>?_) λne=>p (c λh=>absurd h (by omega))));have K:k≠j:=by omega
   refine OC (O _ m _ S) λr D=>P0 (λh=>?_) λh=>p (c λ_ C=>by rw[D.2 C]at h;cases h);have na:¬AC B l:=λq=>q k j v o K (D.1 h);refine N_ (λ_=>skip na) λH=>OC (O _ S _ m) λr2 I=>P0 (λ_=>skip na) λA=>p (c λ_ _=>⟨by omega,I.1 (by simpa using A)⟩)
  ·have sl:=w.length_le;rw[Aba]at sl;refine P5 (Abw (Q _ ⟨?_,?_,λx b=>?_,λq=>?_⟩));· rw[M];exact w.append (List.Sublist.refl _)
   ·refine Abc.2 ⟨E,Aci ..,λx b y R=>?_⟩;rw[Aaf]at R;subst R;obtain⟨i,e,z,rfl,V⟩:=J x b;have T:¬B l[k] l[i]:=λC=>by have:=(f i e e (by omega) C).1;omega
    exact⟨λC=>T (V k v (by omega) C).2,T⟩
   ·rcases AS.1 b with b|b;· obtain⟨i,e,z,A⟩:=J x b;exact⟨i,e,by omega,A⟩
    ·rw[Aaf]at b;exact⟨k,v,by omega,b.symm,λj o=>f j o o⟩
   ·rw[M,F q]
 ·obtain⟨w,E,_,F⟩:=G;rw[Aar]at w F;exact P5 (OC (X s w E F) λr D=>MN D)
structure LX(d:Nat)(c:HQ):Prop where
 n1:c.1.length<=3
 n2:c.2.length<=1
 vs:∀w∈AY c,SW d w
structure CX(d:Nat)(c:Bu):Prop where
 bd:NV c
 fl:QS c.1
 gd:Dz c
 vs:∀w∈Bq c,SW d w
theorem Zq{ls:List HQ}{ss:List Bu}(h1:dE 5 12 s)(g:vd s)(h2:ls.length<=3)(h3:ss.length<=3)(b:∀c∈ls,LX d c)(e:∀c∈ss,CX d c):SV (d+1) (.mk Aj s ls ss):=by
 have f:∀x∈kids (.mk Aj s ls ss),SW d x:=λx a=>by
  rcases AS.1 a with h|h;· obtain⟨c,hc,h⟩:=Aad.1 h;exact(b c hc).vs x h
  ·obtain⟨c,hc,h⟩:=Aad.1 h;exact(e c hc).vs x h
 exact⟨⟨h1,⟨h2,λc hc=>⟨(b c hc).n1,Aao (b c hc).n2 (by simp)⟩⟩,⟨h3,λc hc=>(e c hc).bd⟩,λx a=>⟨(f x a).1.1,(f x a).2.1⟩⟩,⟨λh=>(by cases h),g,λc hc=>(b c hc).n2,λc hc=>⟨(e c hc).fl,(e c hc).gd⟩⟩,λx a=>⟨(f x a).1.2,(f x a).2.2⟩⟩
theorem kV:dE 5 12 E_:=(L9 0).1.1
theorem Me{c:HQ}(h:LX d c):SV (d+1) (n7 c):=Zq kV Q1 (by simp) (by simp) (λx a=>by grind) (λx a=>by grind)
theorem Md{c:Bu}(h:CX d c):SV (d+1) (n6 c):=Zq kV Q1 (by simp) (by simp) (λx a=>by grind) (λx a=>by grind)
theorem aR{c:HQ}(h:LX d c):WW (De d) c c:=by
 rcases De.refl (Me h).2 with k|k;· cases k
 ·obtain⟨b,a,f⟩:=k.2.2.1 c (Aaf.2 rfl);have e:b=c:=Aaf.1 a;grind
theorem aQ{c:Bu}(h:CX d c):U5 (De d) c c:=by
 rcases De.refl (Md h).2 with k|k;· cases k
 ·obtain⟨b,a,f⟩:=k.2.2.2 c (Aaf.2 rfl);have e:b=c:=Aaf.1 a;grind
theorem Ye(c:LX d x)(e:LX d y)(f:d<=2)(b:1000000002000<fu):eH fu (x,y)=Ac (DH (Bz d) x y):=by refine(Ok.eq ?_);rw[eH];refine BY (a:=n7 x) (rf) (BY (a:=n7 y) (rf) (BY (Le (Me c) (Me e) (by omega) b) (MN ?_)));exact Wx
theorem Yd{x y:Bu}(c:CX d x)(e:CX d y)(f:d<=2)(b:1000000002000<fu):eF fu (x,y)=Ac (Es (Bz d) x y):=by refine(Ok.eq ?_);rw[eF];refine BY (a:=n6 x) (rf) (BY (a:=n6 y) (rf) (BY (Le (Md c) (Md e) (by omega) b) (MN ?_)));exact Ww
theorem Nt{α:Type}{B:α->α->Prop}{c:α->α->Int} :∀ {l:List α},(∀x∈l,∀y∈l,c y x= -c x y/\(c x y=0->x=y))->(∀x∈l,B x x)->l.Pairwise (λx y=> ¬B x y/\¬B y x)->EP (λp q=> ¬c q p<0) l->EP (λp q=>c p q<0) l
 | [],_,_,_,_=>trivial
 | [_],_,_,_,_=>trivial
 |x::y::l,h,r,p,a=>by have d:x∈x::y::l:=Aau ..;have i:y∈x::y::l:=Aag _ (Aau ..);have f:=Abj.1 p;refine⟨?_,Nt (λu b v g=>h u (Aag _ b) v (Aag _ g)) (λu b=>r u (Aag _ b)) f.2 a.2⟩;have j:=a.1;grind
theorem Ns{α:Type}{c:α->α->Int} :∀ {l:List α},(∀x∈l,∀y∈l,c y x= -c x y)->EP (λp q=>c p q<0) l->EP (λp q=> ¬c q p<0) l
 | [],_,_=>trivial
 | [_],_,_=>trivial
 |x::y::l,h,a=>by have k:=h x (Aau ..) y (Aag _ (Aau ..));have e:=a.1;exact⟨by omega,Ns (λu b v d=>h u (Aag _ b) v (Aag _ d)) a.2⟩
def Mx(B:α->α->Prop)(c:α->α->Int)(l r:List α):Prop:=(r.length<=l.length/\∀x∈r,x∈l)/\r.Pairwise (λx y=> ¬B x y/\¬B y x)/\EP (λp q=>c p q<0) r/\(AC B l->EP (λp q=>c p q<0) l->r=l)
theorem m_{m r:List α}(h:∀x∈l,∀y∈l,c y x= -c x y/\(c x y=0->x=y))(n:∀x∈l,B x x)(h1:m.Sublist l)(h2:m.Pairwise (λx y=> ¬B x y/\¬B y x))(h3:AC B l->m=l)(b:r.Perm m)(j:EP (λp q=> ¬c q p<0) r)(k:EP (λp q=> ¬c q p<0) m->r=m):Mx B c l r:=by have mem:∀x∈r,x∈l:=λx a=>h1.subset (b.mem_iff.1 a);have f:r.Pairwise (λx y=> ¬B x y/\¬B y x):=(b.pairwise_iff (λ{x y} q=>⟨q.2,q.1⟩)).2 h2;refine⟨⟨by rw[b.length_eq];grind,mem⟩,f,Nt (λx a y d=>h x (mem x a) y (mem y d)) (λx a=>n x (mem x a)) f j,λg i=>?_⟩;have e:=h3 g;subst e;exact k (Ns (λx a y d=>(h x a y d).1) i)
theorem gI{l:List HQ}(s:l.length<=12)(h:∀c∈l,LX d c)(p:d<=2)(t:1000000003000<fu):Ok (tc fu l) (Mx (WW (De d)) (DH (Bz d)) l):=by have e:=λx (a:x∈l) y (b:y∈l)=>O6 (R:=Bz d) HL (h x a).vs (h y b).vs;refine max_eq (g:=λx y=>Vc fu (x,y)) (srt:=λm=>eG fu m) xc s (by omega) (λx a y b=>Jw J1 (h x a).n1 (h x a).vs (h y b).vs (by omega)) λm i n o=>?_;have u:=i.length_le;have f:∀x∈m,x∈l:=λx a=>i.subset a;exact(Zz (c:=DH (Bz d)) (by omega) (by omega) (λx a y b q=>by grind) λx a y b=>Ye (h x (f x a)) (h y (f y b)) p (by omega)).mono λr j=>m_ e (λx a=>aR (h x a)) i n o j.1.1 j.1.2 j.2
theorem gH{l:List Bu}(u:l.length<=12)(h:∀c∈l,CX d c)(t:d<=2)(v:1000000003000<fu):Ok (s9 fu l) (Mx (U5 (De d)) (Es (Bz d)) l):=by have e:=λx (a:x∈l) y (b:y∈l)=>O4 (R:=Bz d) HL (h x a).bd (h y b).bd (h x a).gd (h y b).gd (h x a).vs (h y b).vs;refine max_eq (g:=λx y=>Vd fu (x,y)) (srt:=λm=>eE fu m) nD u (by omega) (λx a y b=>G8 J1 (h x a).bd (h y b).bd (h x a).gd (h y b).gd (h x a).vs (h y b).vs (by omega)) λm k p s=>?_;have w:=k.length_le;have f:∀x∈m,x∈l:=λx a=>k.subset a;exact(Zy (c:=Es (Bz d)) (by omega) (by omega) (λx a y b q=>by grind) λx a y b=>Yd (h x (f x a)) (h y (f y b)) t (by omega)).mono λr n=>m_ e (λx a=>aQ (h x a)) k p s n.1.1 n.1.2 n.2
def To:List Sp×List Sp:=([(-100000000000,100000000000)],[(-999999999999999,999999999999999)])
def J4:Sc:=(Bp,Bp,Bp,To,KQ)
theorem allI{n:Int} :A8 To n↔ -100000000000<=n/\n<=100000000000:=by show(A0 [(-100000000000,100000000000)] n/\_)↔_;grind[AG]
theorem xo{y:Int} :A6 To y↔ -1000000000000000<=ur y/\ur y<=1000000000000000:=by show(A0 [(-999999999999999,999999999999999)] (ur y)/\_)↔_;grind[ur,AG]
theorem nH:Eh To (A8 To) (A6 To):=by
 refine⟨[(rk (-999999999999999),rk 999999999999999)],?_,?_,?_,?_,?_,λn=>?_,λy=>?_⟩;· rfl
 ·exact⟨λt b=>by rw[Aaf.1 b];simp,Aci ..⟩
 ·intro s a;rw[Aaf.1 a];trivial
 ·exact⟨λt b=>by rw[Aaf.1 b];decide,Aci ..⟩
 ·intro s a;rw[Aaf.1 a];trivial
 ·rw[allI];show A0 [(-100000000000,100000000000)] n↔_;grind[AG,Ba]
 grind[ur,rk,xo,AG,Ba]
theorem Tn:Ii 1 12 J4:=⟨nH,by decide,by decide,su,dv,rfl,by decide⟩
theorem WS(h:Ii k m s):Re J4 s↔s=J4:=by
 constructor;· rintro⟨e,f,g,i,j,l⟩;have c:s.2.2.2.1=To:=h.nu.unique (nH.congr (λn=>⟨i n,λq=>allI.2 ((h.nu.A8 n).1 q).2⟩) λy=>⟨j y,λq=>xo.2 ((h.nu.A6 y).1 q).2⟩);have d:s.2.2.2.2=KQ:=h.ln.unique (Tn.ln.congr (funext λw=>by
   have a:Av KQ 0 w=Bp:=by rw[du]
   have b:=l w a;rw[b];exact a));exact Acu (e rfl) (Acu (f rfl) (Acu (g rfl) (Acu c d)))
 ·rintro rfl;exact Od _
def EvL(c:HQ):Prop:=c.1=[]/\∃x,c.2=[x]/\x.1.any=Bp/\x.2.any=Bp
def EvS(c:Bu):Prop:=c.1=[]/\∃k,c.2=[k]/\k.2.1.any=Bp/\k.2.2.any=Bp
def EvX(v:Vl):Prop:=v.sc=J4/\∃c s,v.lists=[c]/\v.structs=[s]/\EvL c/\EvS s
theorem P3(h:l.length=1):∃x,l=[x]:=by
 match l,h with
 | [x],_=>simp
theorem Zm{x:Bb} :Ok (eD fu x) λr=>r=Bp↔x.1.any=Bp/\x.2.any=Bp:=by simp_all[eD,P0,MN,And.right,AR]
theorem Vp{x:Bb} :Ok (dT fu x) λr=>r=Bp↔x.1.any=Bp/\x.2.any=Bp:=by rw[dT];exact P0 (λh=>MN ⟨λk=>⟨h,k⟩,And.right⟩) λh=>AR λk=>by rw[k.1]at h;cases h
theorem qX{c:HQ} :Ok (s7 fu c) λr=>r=Bp↔EvL c:=by refine N_ (λf=>N_ (λg=>?_) λg=>AR λk=>g (by obtain⟨_,x,e,_⟩:=k;grind)) λf=>AR λk=>f (by rw[k.1];rfl);obtain⟨x,e⟩:=P3 (l:=c.2) (by omega);have h:c.1=[]:=OF.1 (by omega);refine BY (a:=x) (by rw[e];rfl) (OC Zm λb i=>MN (i.trans ⟨λk=>⟨h,x,e,k⟩,λk=>?_⟩));obtain⟨_,y,d,k⟩:=k;grind
theorem qW{c:Bu} :Ok (s6 fu c) λr=>r=Bp↔EvS c:=by refine N_ (λf=>N_ (λg=>?_) λg=>AR λk=>g (by obtain⟨_,x,e,_⟩:=k;grind)) λf=>AR λk=>f (by rw[k.1];rfl);obtain⟨x,e⟩:=P3 (l:=c.2) (by omega);have h:c.1=[]:=OF.1 (by omega);refine BY (a:=x) (by rw[e];rfl) (OC Zm λb i=>MN (i.trans ⟨λk=>⟨h,x,e,k⟩,λk=>?_⟩));obtain⟨_,y,d,k⟩:=k;grind
theorem bV(h:Ii k m v.sc)(G:k<=10)(H:m<=100000)(F:1000000002000<fu):Ok (kf fu v) λr=>r=Bp↔EvX v:=by
 rw[kf];refine N_ (λt=>N_ (λu=>?_) λu=>AR λk=>u (by obtain⟨_,c,s,_,e,_⟩:=k;rw[e];rfl)) λt=>AR λk=>t (by obtain⟨_,c,s,e,_⟩:=k;rw[e];rfl);have y:kg fu () =Ac J4:=by
  refine(Ok.eq ?_);rw[kg];have z:Vf fu () =Ac To:=by refine(Ok.eq ?_);rw[Vf];exact BY (rf) (MN rf)
  exact BY z (BY (rf) (MN rf))
 obtain⟨q,_,_,A⟩:=Gk (fu:=fu) h Tn (by omega) (by omega) (by omega);have D:v.sc=J4->E7 v.sc J4=0:=λe=>by rw[e];obtain⟨_,_,s,_⟩:=Gk (fu:=fu) Tn Tn (by decide) (by decide) (by omega);omega
 obtain⟨c,j⟩:=P3 (l:=v.lists) (by omega);obtain⟨s,n⟩:=P3 (l:=v.structs) (by omega);refine BY y (BY q (N_ (λo=>?_) λo=>AR λk=>o (D k.1)));have C:=A o;have g:∀ {f},v.lists=[f]->c=f:=λe=>by rw[j]at e;exact Ads e
 have d:∀ {f},v.structs=[f]->s=f:=λe=>by rw[n]at e;exact Ads e
 refine BY (a:=c) (by rw[j];rfl) (OC qX λb w=>P0 (λi=>BY (a:=s) (by rw[n];rfl) (OC qW λE p=>MN (p.trans ⟨λk=>⟨C,c,s,j,n,w.1 i,k⟩,λk=>?_⟩))) λi=>AR λk=>?_);· obtain⟨_,f,B,e,x,_,k⟩:=k;rw[d x];exact k
 ·obtain⟨_,f,B,e,_,k,_⟩:=k;rw[<-g e]at k;rw[w.2 k]at i;cases i
theorem X5(h:Ii k m v.sc)(O:k<=10)(P:m<=100000)(N:1000000002000<fu):Ok (jE fu v) λr=>r=Bp↔v.any=Aj/\EvX v:=by
 rw[jE];refine P0 (λd=>AR λk=>by rw[k.1]at d;cases d) λd=>N_ (λA=>AR λk=>A (by obtain⟨_,_,c,s,e,_⟩:=k;rw[e];rfl)) λA=>N_ (λB=>AR λk=>B (by obtain⟨_,_,c,s,_,e,_⟩:=k;rw[e];rfl)) λB=>?_;have H:jF fu () =Ac J4:=by refine(Ok.eq ?_);rw[jF];exact BY (rf) (BY (jv fu) (MN rf))
 obtain⟨c,i⟩:=P3 (l:=v.lists) (by omega);obtain⟨s,j⟩:=P3 (l:=v.structs) (by omega);have ab:EvX v->v.sc=J4/\EvL c/\EvS s:=λk=>by obtain⟨u,M,Q,e,w,I,J⟩:=k;rw[i]at e;rw[j]at w;rw[Ads e,Ads w];exact⟨u,I,J⟩
 refine BY H (OC (Mf Tn h (by omega) (by omega) (by omega)) λr F=>P0 (λf=>AR λk=>?_) λf=>?_);· rw[F.2 ((WS h).2 (ab k.2).1)]at f;cases f
 have u:=(WS h).1 (F.1 (by simpa using f));refine BY (a:=c) (by rw[i];rfl) (BY (a:=s) (by rw[j];rfl) ?_);refine N_ (λp=>AR λk=>by rw[(ab k.2).2.1.1]at p;exact absurd p (by decide)) λp=>N_ (λC=>AR λk=>?_) λC=>N_ (λq=>AR λk=>by rw[(ab k.2).2.2.1]at q;exact absurd q (by decide)) λq=>N_ (λD=>AR λk=>?_) λD=>?_;· obtain⟨_,x,e,_⟩:=(ab k.2).2.1;exact C (by rw[e];rfl)
 ·obtain⟨_,x,e,_⟩:=(ab k.2).2.2;exact D (by rw[e];rfl)
 obtain⟨x,n⟩:=P3 (l:=c.2) (by omega);obtain⟨y,o⟩:=P3 (l:=s.2) (by omega);have G:c.1=[]:=OF.1 (by omega);have K:s.1=[]:=OF.1 (by omega);refine BY (a:=x) (by rw[n];rfl) (OC Vp λb E=>P0 (λg=>BY (a:=y) (by rw[o];rfl) (OC Vp λL t=>MN (t.trans ⟨λk=>⟨d,u,c,s,i,j,⟨G,x,n,E.1 g⟩,K,y,o,k⟩,λk=>?_⟩))) λg=>AR λk=>?_);· obtain⟨_,z,e,k⟩:=(ab k.2).2.2;rw[o]at e;rw[Ads e];exact k
 ·obtain⟨_,z,e,k⟩:=(ab k.2).2.1;rw[n]at e;rw[<-Ads e]at k;rw[E.2 k]at g;cases g
theorem Jm(l:List α)(d:α)(p:α->Bool):((aT l.length).filter λi=>p (l.getD i d)).length=(l.filter p).length:=by
 have e:l=(aT l.length).map λi=>l.getD i d:=oh l d;conv=>rhs;rw[e]
 rw[Ald,Aal];rfl
theorem XR{c:Bu}(w:Aq):Lr c (Gx c w) c.2.length=(c.2.filter λk=>Av k.1 0 w).length:=by rw[<-Jm c.2 dK];unfold Lr;congr 1;refine Agb λi b=>?_;rw[Vz (Abg.1 b) w];rfl
theorem fN{c:Bu}{j:Nat}(f:j<c.1.length)(w:Aq):(Gx c w).getD (c.2.length+j) 0=runT (Bv (c.1.getD j dF).1) 0 w/\ -1<=runT (Bv (c.1.getD j dF).1) 0 w/\runT (Bv (c.1.getD j dF).1) 0 w<=(c.1.getD j dF).1.length:=by
 have:∀l:Aq,(Gx c l.reverse).getD (c.2.length+j) 0=runT (Bv (c.1.getD j dF).1) 0 l.reverse/\ -1<=runT (Bv (c.1.getD j dF).1) 0 l.reverse/\runT (Bv (c.1.getD j dF).1) 0 l.reverse<=(c.1.getD j dF).1.length:=λl=>by
  induction l with
  |nil=>
   refine⟨?_,?_,?_⟩;· show(CJ c).getD (c.2.length+j) 0=0;grind[CJ]
   ·show(-1:Int)<=0;simp
   ·show(0:Int)<=_;omega
  |cons x l d=>
   have e:runT (Bv (c.1.getD j dF).1) 0 (l.reverse++[x])=YX (c.1.getD j dF).1 (runT (Bv (c.1.getD j dF).1) 0 l.reverse) x.toNat:=by rw[<-Q3 d.2];unfold runT;rw[Adc];rfl
   rw[Afb,e];refine⟨?_,aV d.2.2⟩;rw[F4,(Hl c _ _).fd j f];simp_all[Uf]
 have:=this w.reverse;grind
theorem XS{c:Bu}(w:Aq):Qc c (Gx c w) c.1.length=(c.1.filter λf=>Av (Bv f.1) 0 w).length:=by rw[<-Jm c.1 dF];unfold Qc;congr 1;refine Agb λj b=>?_;have h:=fN (Abg.1 b) w;simp_all[Av,N6]
theorem Sm(c:Bu)(w:Aq):MW c (Gx c w)=(c.2.filter λk=>Av k.1 0 w).length+(c.1.filter λf=>Av (Bv f.1) 0 w).length:=by grind[MW,XR,XS]
def Dw(l:List (Tb×Bb))(w:Aq):Nat:=(l.filter λk=>Av k.1 0 w).length
theorem DG(a b:List (Tb×Bb))(w:Aq):Dw (a++b) w=Dw a w+Dw b w:=by simp[Dw]
theorem E6(k:Tb×Bb)(w:Aq):Dw [k] w=if Av k.1 0 w=Bp then 1 else 0:=by grind[Dw,Av]
theorem Yb{a b:List (Tb×Bb)}(h:a.Perm b)(w:Aq):Dw a w=Dw b w:=(h.filter _).length_eq
theorem cJ{z:List (Tb×Bb)}{i:Nat}(hi:i<z.length){k x:Tb×Bb}{w:Aq}(ht:Av x.1 0 w=(Av z[i].1 0 w||Av k.1 0 w))(f:¬(Av z[i].1 0 w=Bp/\Av k.1 0 w=Bp)):Dw (z.set i x) w=Dw z w+Dw [k] w:=by
 have c:z=z.take i++([z[i]]++z.drop (i+1)):=by simp
 have b:z.set i x=z.take i++([x]++z.drop (i+1)):=by rw[Ady,if_pos hi];rfl
 have a:Dw z w=Dw (z.take i) w+(Dw [z[i]] w+Dw (z.drop (i+1)) w):=by grind[DG]
 rw[b,DG,DG,a,E6,E6,E6,ht];all_goals grind
theorem Ln.of{c b:Bu}(h:Ln c)(e:b.1.map (·.1)=c.1.map (·.1))(k:∀w,Dw b.2 w=Dw c.2 w):Ln b:=λw=>by
 have lb:∀l:List (Aq×Int×Bb),(l.filter λf=>Av (Bv f.1) 0 w).length=((l.map (·.1)).filter λs=>Av (Bv s) 0 w).length:=λl=>by rw[Ald,Aal];rfl
 have:=h w;simp_all[Dw,Sm]
theorem Z1{a b:List Nat}(h:a.Perm b):GY a=GY b:=by
 induction h with
 |nil=>rfl
 |cons x _ e=>grind[GY]
 |swap x y l=>grind[GY]
 |trans _ _ c d=>omega
theorem eT.of{l m:List (Aq×Int×Bb)}(h:eT l)(e:m.map (·.1)=l.map (·.1)):eT m:=by
 have f:m.length=l.length:=by simpa using congrArg FD e
 have c:∀i (b:i<m.length),m[i].1=(l[i]'(by omega)).1:=λi b=>by have:=List.getElem_of_eq e (by grind:i<(m.map (·.1)).length);grind
 intro i d;rw[c i (by omega),c (i+1) d];exact h i (by omega)
end
section
variable {d : Nat} (hd : d <= 2) (ih : ∀ {fu : Nat} {x : Bb}, SX d x -> 1000000003000 + 10 * d + 1 < fu -> Ok (LA fu x) λr => r.2 = Bp -> SX d r.1)
include hd ih
structure COk(d:Nat)(k:Tb×Bb):Prop where
 wf:Bf k.1
 cn:BW k.1=k.1
 vs:SX d k.2
def J9(l:List (Tb×Bb)):Nat:=GY (l.map λk=>k.1.length+3)
omit hd ih in
theorem HU(a b:List (Tb×Bb)):J9 (a++b)=J9 a*J9 b:=by simp_all[J9,Aak,VI]
omit hd ih in
theorem Pm(a:List (Tb×Bb)):0<J9 a:=VG λn b=>by grind
omit hd ih in
theorem LD(k:Tb×Bb):J9 [k]=k.1.length+3:=by simp[J9,GY]
omit hd ih in
theorem Pn{l:List (Tb×Bb)}{k:Tb×Bb}(h:k∈l):k.1.length+3<=J9 l:=
 VH (λn b=>by grind) (By.2 ⟨k,h,rfl⟩)
omit hd ih in
theorem Tp{fu j:Nat}{c z:List (Tb×Bb)}(s:j<c.length)(f:J9 z*J9 (c.drop j)<=14641)(D:∀k∈z,COk d k)(hc:COk d c[j])(I:1000000003000<fu):
  Vk fu (c[j].1,[])=Ac c[j].1/\(∀v,J9 (z++[(c[j].1,v)])*J9 (c.drop (j+1))<=14641)/\∀i (hi:i<z.length),Ok (Vk fu (z[i].1,c[j].1)) λt=>(Bf t/\BW t=t/\Av t 0=λw=>Av z[i].1 0 w||Av c[j].1 0 w)/\∀v,J9 (z.set i (t,v))*J9 (c.drop (j+1))<=14641:=by
 have l:J9 (c.drop j)=(c[j].1.length+3)*J9 (c.drop (j+1)):=by rw[Aaq s,show c[j]::c.drop (j+1)=[c[j]]++c.drop (j+1)from rfl,HU,LD]
 have E:=Pm (c.drop (j+1));have F:=Pm z;have G:c[j].1.length+3<=14641:=Aao (by simp_all[Aey]) (Aao (Nat.le_mul_of_pos_left _ F) f);have h:CD c[j].1 (Av c[j].1 0) 14641:=⟨hc.wf,hc.cn,rfl,by omega⟩;refine⟨?_,λv=>?_,λi hi=>?_⟩;· obtain⟨t,p,b⟩:=Ua (GA (fu:=fu) h (CD.nil (m:=0)) (by simp) (by omega));have:c[j].1=t:=h.unique (b.congr (funext λw=>by rw[h.gL,Hx,Alk]));grind
 ·simp_all[HU,LD,Aeo]
 ·have g:=D _ (AN hi);have H:z[i].1.length+3<=14641:=Aao (Pn (AN hi)) (Aao (Aey _ (Pm _)) f);have ii:CD z[i].1 (Av z[i].1 0) 14641:=⟨g.wf,g.cn,rfl,by omega⟩;refine(Ua (GA (fu:=fu) ii h (by simp) (by omega))).mono λt b=>⟨⟨b.wf,b.can,b.lg.trans (by rw[ii.gL,h.gL])⟩,λv=>?_⟩;have u:t.length+3<=(z[i].1.length+3)*(c[j].1.length+3):=by
   have:=b.len;grind[GW]
  have q:z=z.take i++([z[i]]++z.drop (i+1)):=by simp
  have o:z.set i (t,v)=z.take i++([(t,v)]++z.drop (i+1)):=by rw[Ady,if_pos hi];rfl
  rw[o,HU,HU,LD];have n:J9 (z.take i)*((z[i].1.length+3)*J9 (z.drop (i+1)))*((c[j].1.length+3)*J9 (c.drop (j+1)))<=14641:=by rw[q,HU,HU,LD,l]at f;exact f
  refine Aao ?_ n;generalize J9 (z.take i)=A,J9 (z.drop (i+1))=B,J9 (c.drop (j+1))=C at*;calc A*((t.length+3)*B)*C<=A*(((z[i].1.length+3)*(c[j].1.length+3))*B)*C:=Abi _ (Nat.mul_le_mul_left _ (Abi _ u))
   _=A*((z[i].1.length+3)*B)*((c[j].1.length+3)*C):=by generalize z[i].1.length+3=x,c[j].1.length+3=y;rw[Aeo,Aeo,Aeo A];rw[Aeo,Aeo,Nat.mul_left_comm y]
end
theorem SV.sb:∀ {d:Nat} {v:Vl},SV d v->SB d v
 |0,_,h=>h.1.elim
 |d+1,v,h=>⟨h.1,Dr h.1.1 h.2.1.sc,h.2.1.rs,λc hc=>⟨(h.2.1.st c hc).1.2,λk b=>((h.2.1.st c hc).2.1 k b).2⟩,λx a=>⟨(h.qx x a).1.sb.2,(h.qx x a).2.sb.2⟩⟩
def Y9(G:Bb->Prop)(c:HQ):Prop:=(∀x∈c.1,NB x.1/\G x)/\∀x∈c.2,NB x.1/\G x
section
variable {d : Nat} {G : Bb -> Prop} (hd : d <= 2) (ih : ∀ {fu : Nat} {x : Bb}, SW d x -> 1000000003000 + 10 * d + 1 < fu -> Ok (LA fu x) λr => (r.2 = Bp -> SW d r.1 /\ G r.1) /\ (G x -> r = (x, Bp)))
include hd ih
theorem jd{fu:Nat}{c:HQ}(h:LX d c)(T:1000000003000+10*d+2<fu):Ok (kd fu c) λr=>(r.2.2=Bp->r.2.1=Bp->LX d r.1/\Y9 G r.1)/\(Y9 G c->r=(c,Bp,Bp)):=by
 obtain⟨f,rfl⟩:∃f,fu=f+1:=⟨fu-1,by omega⟩;rw[show kd (f+1) c=_ from d246 f c];have U:=h.n1;have V:=h.n2;refine XN (λk (s:List Bb) (t:Bool)=>s.length=k/\(∀w∈s,SW d w/\G w)/\(t=Bp->∀w∈s,NB w.1)/\(Y9 G c->s=c.1.take k/\t=Bp)) c.1.length ⟨rfl,by simp,by simp,λ_=>by simp⟩ (by omega) (λk s t nx v I E=>?_) (λs t nx I=>?_)
 ·have j:=AN v;have m:=h.vs _ (AS.2 (.inl j));obtain⟨N,F,M,z⟩:=I;refine P4 (Aah v (OC (ih m (by omega)) λr n=>P0 (λg=>MN ⟨λq=>(by simp),λq=>?_⟩) λg=>?_));· rw[n.2 (q.1 _ j).2]at g;grind
  have g:r.2=Bp:=by grind
  have i:=n.1 g;have add:∀b,(b=Bp->NB r.1.1/\t=Bp)->(Y9 G c->b=Bp)->Ok (nx (s++[r.1],b,k+1)) λr=>(r.2.2=Bp->r.2.1=Bp->LX d r.1/\Y9 G r.1)/\(Y9 G c->r=(c,Bp,Bp)):=λb p J=>E _ _ ⟨by rw[Aac,Acn,N],λw a=>by
   rcases AS.1 a with a|a;· exact F w a
   ·rw[Aaf.1 a];exact i,λq w a=>by
   rcases AS.1 a with a|a;· exact M (p q).2 w a
   ·rw[Aaf.1 a];exact(p q).1,λq=>⟨by
    have e:r=(c.1[k],Bp):=n.2 (q.1 _ j).2;rw[(z q).1,e,IN v],J q⟩⟩;refine P0 (λB=>OC (Dy i.1.1.sb (by omega)) λb p=>Abw (add _ (λq=>⟨?_,B⟩) λq=>?_)) λB=>Abw (add _ (λq=>by cases q) λq=>?_);· refine IS λy=>?_;rw[p.2 y]at q;cases q
  ·have e:r=(c.1[k],Bp):=n.2 (q.1 _ j).2;have y:=(q.1 _ j).1;cases K:b with
   |false=>rfl
   |true=>exact absurd (by rw[e];exact y) (p.1 K)
  grind
 ·obtain⟨N,F,M,z⟩:=I;rw[Aar]at z;refine Qd (by dsimp only;omega) ?_;refine Sw (λk (C:List Bb)=>C.length<=k/\(∀w∈C,SW d w/\NB w.1/\G w)/\(Y9 G c->C=c.2.take k)) c.2.length ⟨by simp,by simp,λ_=>by simp⟩ (by omega) (λk C nx v u E=>?_) (λC nx u=>?_)
  ·have j:=AN v;have m:=h.vs _ (AS.2 (.inr j));obtain⟨S,A,H⟩:=u;refine P4 (Aah v (OC (ih m (by omega)) λr n=>P0 (λg=>MN ⟨λq=>(by cases q),λq=>?_⟩) λg=>?_));· rw[n.2 (q.2 _ j).2]at g;cases g
   have g:r.2=Bp:=by simpa using g
   have i:=n.1 g;refine OC (Dy i.1.1.sb (by omega)) λb p=>P0 (λl=>Abw (E _ ⟨by dsimp only;rw[Aac,Acn];omega,λw a=>?_,λq=>?_⟩)) λl=>E _ ⟨by dsimp only;omega,A,λq=>?_⟩
   ·rcases AS.1 a with a|a;· exact A w a
    ·rw[Aaf.1 a];refine⟨i.1,IS λy=>?_,i.2⟩;rw[p.2 y]at l;cases l
   ·have e:r=(c.2[k],Bp):=n.2 (q.2 _ j).2;rw[H q,e,IN v]
   ·have e:r=(c.2[k],Bp):=n.2 (q.2 _ j).2;have y:=(q.2 _ j).1;have L:b=Bp:=by simpa using l
    exact absurd (by rw[e];exact y) (p.1 L)
  ·obtain⟨S,A,H⟩:=u;rw[Aar]at H;refine P5 (MN ⟨λ_ B=>⟨⟨by dsimp only;omega,by dsimp only;omega,λw a=>?_⟩,λw a=>⟨M B w a,(F w a).2⟩,λw a=>⟨(A w a).2.1,(A w a).2.2⟩⟩,λq=>?_⟩)
   ·rcases AS.1 a with a|a;· exact(F w a).1
    ·exact(A w a).1
   ·have P:=(z q).1;have Q:=(z q).2;have R:=H q;rw[P,Q,R]
end
section
variable{d fu:Nat}{α:Type}{v:Vl}{B:α->α->Prop}{c:Bu}{G:Bb->Prop}{k:Tb×Bb}{x:Bb}{l:List α}
theorem bp{l:List (Tb×Bb)}{v:Bb}(h:∀k∈l,SW d k.2)(j:SW d v)(p:l.length<=12)(o:1000000003000+10*d<fu):
  Ok (uw fu (l,v)) λr=>r.2=(l,v)/\((∃i,∃hi:i<l.length,r.1=(i:Int)/\l[i].2=v)\/r.1= -1/\∀k∈l,k.2≠v):=by
 refine Sw (λk s=>s=v/\∀x∈l.take k,x.2≠v) l.length ⟨rf,by simp⟩ (by omega) (λk s nx f a n=>?_) (λs nx a=>?_)
 ·obtain⟨rfl,a⟩:=a;have m:=h _ (AN f);have e:Ok (ux fu (l[k],s)) λr=>r.2=s/\(r.1=Bp↔l[k].2=s):=by
   exact OC (Mo (d:=d) ⟨m.1.1,m.2.1⟩ ⟨j.1.1,j.2.1⟩ (by omega)) λr b=>MN ⟨rf,b⟩
  refine P4 (Aah f (OC e λr b=>P0 (λc=>MN ⟨by grind, .inl ⟨k,f,rfl,b.2.1 c⟩⟩) λc=>n _ ⟨b.1,λx g=>?_⟩));rcases(Af f).1 g with g|rfl;all_goals grind
 ·obtain⟨rfl,a⟩:=a;rw[Al]at a;exact P5 (MN ⟨rfl, .inr ⟨rfl,a⟩⟩)
def U7(G:Bb->Prop)(c:Bu):Prop:=(∀f∈c.1,NB f.2.2.1/\G f.2.2)/\(∀k∈c.2,G k.2)/\EP (λk b=>Fb k.1 b.1<0) c.2/\c.2.Pairwise (λk b=>k.2≠b.2)
theorem Lm{α:Type}{B:α->α->Prop}{c:α->α->Int} :∀ {l:List α},(∀x∈l,∀y∈l,c y x= -c x y/\(c x y=0->B x y))->l.Pairwise (λx y=> ¬B x y)->EP (λp q=> ¬c q p<0) l->EP (λp q=>c p q<0) l
 | [],_,_,_=>trivial
 | [_],_,_,_=>trivial
 |x::y::l,h,p,a=>by have b:=Abj.1 p;refine⟨?_,Lm (λu d v f=>h u (Aag _ d) v (Aag _ f)) b.2 a.2⟩;have g:=a.1;grind
structure KX(d:Nat)(G:Bb->Prop)(k:Tb×Bb):Prop where
 ne:k.1≠ []
 wf:Bf k.1
 cn:BW k.1=k.1
 vs:SW d k.2
 gd:G k.2
theorem KX.cok(h:KX d G k):COk d k:=⟨h.wf,h.cn,h.vs.1.sb,h.vs.2.sb⟩
theorem CX.cok(h:CX d c):∀k∈c.2,COk d k:=λk a=>by have g:=h.gd.1 k a;have v:=h.vs _ (AS.2 (.inr (By.2 ⟨k,a,rfl⟩)));exact⟨g.2.1,g.2.2,v.1.sb,v.2.sb⟩
theorem Wt{l:List (Tb×Bb)}{k:Tb×Bb}(a:k∈l){w:Aq}(h:Av k.1 0 w=Bp):0<Dw l w:=
 Agp (Abb.2 ⟨a,h⟩)
theorem Wv(h:Ln c)(w:Aq):Dw c.2 w<=1:=by have:=h w;grind[Dw,Sm]
theorem dC(h0:k.1≠ [])(h1:Bf k.1)(h2:BW k.1=k.1):∃w,Av k.1 0 w=Bp:=IS λb=>by refine h0 ((CD.Gz (⟨h1,h2,rf,Aae _⟩:CD k.1 (Av k.1 0) k.1.length)).2 (funext λw=>?_));grind
theorem Wu:∀ {l:List (Tb×Bb)},(∀k∈l,∃w,Av k.1 0 w=Bp)->(∀w,Dw l w<=1)->l.Pairwise λx y=>x.1≠y.1
 | [],_,_=> .nil
 |x::l,h,hc=>by
  have e:∀w,Dw (x::l) w=Dw [x] w+Dw l w:=λw=>DG [x] l w;refine Abj.2 ⟨λy c q=>?_,Wu (λk b=>h k (Aag _ b)) λw=>?_⟩;· obtain⟨w,a⟩:=h x (Aau ..);have:=hc w;rw[e,E6,if_pos a]at this;grind[Wt]
  grind
theorem KX.is(h:KX d G k){m:Nat}(b:k.1.length<=m):CD k.1 (Av k.1 0) m:=⟨h.wf,h.cn,rfl,b⟩
theorem ja(hd:d<=2)(ih:∀ {fu:Nat} {x:Bb},SW d x->1000000003000+10*d+1<fu->Ok (LA fu x) λr=>(r.2=Bp->SW d r.1/\G r.1)/\(G x->r=(x,Bp)))(h:CX d c)(hF:1000000003000+10*d+2<fu):
  Ok (kc fu c) λr=>(r.2.2=Bp->r.2.1=Bp->CX d r.1/\U7 G r.1)/\(U7 G c->r=(c,Bp,Bp)):=by
 obtain⟨f,rfl⟩:∃f,fu=f+1:=⟨fu-1,by omega⟩;rw[show kc (f+1) c=_ from d247 f c];have n1:=h.bd.nf;have n2:=h.bd.nc;refine XN (λk (s:List (Aq×Int×Bb)) (t:Bool)=>(s.map (λf=>(f.1,f.2.1))=(c.1.take k).map λf=>(f.1,f.2.1))/\(∀f∈s,SW d f.2.2/\G f.2.2)/\(t=Bp->∀f∈s,NB f.2.2.1)/\(U7 G c->s=c.1.take k/\t=Bp)) c.1.length ⟨rfl,by simp,by simp,λ_=>by simp⟩ (by omega) (λk s t nx o hJ hn=>?_) (λs t nx hJ=>?_)
 ·have L:=AN o;have m:=h.vs _ (AS.2 (.inl (By.2 ⟨_,L,rfl⟩)));obtain⟨O,j2,j3,j4⟩:=hJ;have hsl:s.length<=4:=by have:=congrArg FD O;simp only[Aal,Aba]at this;omega
  refine P4 (Aah o (OC (ih m (by omega)) λr Q=>P0 (λM=>MN ⟨λq=>(by simp),λq=>?_⟩) λM=>?_));· rw[Q.2 (q.1 _ L).2]at M;grind
  have H:=Q.1 (by grind);have ef:U7 G c->s++[(c.1[k].1,c.1[k].2.1,r.1)]=c.1.take (k+1):=λq=>by have e:r=(c.1[k].2.2,Bp):=Q.2 (q.1 _ L).2;rw[(j4 q).1,e,IN o]
  have add:∀b:Bool,(b=Bp->t=Bp/\NB r.1.1)->(U7 G c->b=Bp)->Ok (nx (s++[(c.1[k].1,c.1[k].2.1,r.1)],b,k+1)) λr=>(r.2.2=Bp->r.2.1=Bp->CX d r.1/\U7 G r.1)/\(U7 G c->r=(c,Bp,Bp)):=λb U N=>by
   refine hn _ _ ⟨by rw[Aak,O,IN o,Aak];rfl,λw D=>?_,λhbt w D=>?_,λq=>⟨ef q,N q⟩⟩
   ·rcases AS.1 D with D|D;· exact j2 w D
    ·rw[Aaf.1 D];omega
   ·obtain⟨h3,h4⟩:=U hbt;rcases AS.1 D with D|D;· exact j3 h3 w D
    ·rw[Aaf.1 D];omega
  refine P0 (λI=>OC (Dy H.1.1.sb (by omega)) λb U=>Abw (add _ (λN=>⟨I,?_⟩) λq=>?_)) λI=>Abw (add Aj (λh=>by cases h) λq=>?_);· refine IS λhnb=>?_;rw[U.2 hnb]at N;cases N
  ·have e:r=(c.1[k].2.2,Bp):=Q.2 (q.1 _ L).2;have nb:=(q.1 _ L).1;cases hbb:b with
   |false=>rfl
   |true=>exact absurd (by rw[e];omega) (U.1 hbb)
  ·have:=(j4 q).2;rw[show t=Aj from I]at this;cases this
 ·obtain⟨
      O,j2,j3,j4⟩:=hJ;refine Qd (by dsimp only;omega) ?_;rw[Al]at O j4;refine Sw (λj (z:List (Tb×Bb))=>z.length<=j/\(∀k∈z,KX d G k)/\J9 z*J9 (c.2.drop j)<=14641/\(∀w,Dw z w=Dw (c.2.take j) w)/\(z.Pairwise λk W=>k.2≠W.2)/\(U7 G c->z=c.2.take j)) c.2.length ⟨by simp,by simp,by simpa [J9,GY]using h.bd.st,λw=>by simp,by simp,λ_=>by simp⟩ (by omega) (λj z nx hj T hn=>?_) (λz nx T=>?_)
  ·have L:=AN hj;have m:=h.vs _ (AS.2 (.inr (By.2 ⟨_,L,rfl⟩)));obtain⟨z1,F,z3,Z,z5,z6⟩:=T;obtain⟨a1,a2,a3⟩:=Tp (fu:=f) (d:=d) hj z3 (λk o=>(F k o).cok) (h.cok _ L) (by omega);have g:=h.gd.1 _ L;have tk:c.2.take (j+1)=c.2.take j++[c.2[j]]:=IN hj;refine P4 (Aah hj (OC (ih m (by omega)) λr Q=>P0 (λM=>MN ⟨λq=>(by cases q),λq=>?_⟩) λM=>?_));· rw[Q.2 (q.2.1 _ L)]at M;cases M
   have H:=Q.1 (by simpa using M);have rq:U7 G c->r.1=c.2[j].2:=λq=>by rw[Q.2 (q.2.1 _ L)]
   refine OC (bp (l:=z) (λk o=>(F k o).vs) H.1 (by omega) (by omega)) λr10 R=>?_;obtain⟨i,q1,q2⟩:=r10;obtain⟨R,S⟩:=R;cases R;dsimp only at S⊢;refine N_ (λhi=>BY a1 (Abw (hn _ ⟨by rw[Aac,Acn];omega,λk o=>?_,a2 _,λw=>?_,?_,λq=>?_⟩))) λhi=>?_
   ·rcases AS.1 o with o|o;· exact F k o
    ·rw[Aaf.1 o];exact⟨g.1,g.2.1,g.2.2,H.1,H.2⟩
   ·rw[tk,DG,DG,Z,E6,E6]
   ·refine Abc.2 ⟨z5,Aci ..,λx J y K=>?_⟩;rw[Aaf.1 K];rcases S with⟨n,E,e,_⟩|⟨_,e⟩;· omega
    ·exact e x J
   ·rw[tk,<-z6 q,rq q]
   ·obtain⟨n,E,rfl,e⟩:=S.resolve_right λe=>hi (by rw[e.1];decide);have kz:=F _ (AN E);have sum:∀w,Dw c.2 w=Dw z w+Dw [c.2[j]] w+Dw (c.2.drop (j+1)) w:=λw=>by
     rw[Z,<-DG,<-tk,<-DG,Acf]
    refine Aah E (OC (a3 n E) λt I=>Aah E (hn _ ⟨by rw[Abq];omega,λk o=>?_,by exact I.2 _,λw=>?_,?_,λq=>?_⟩))
    ·rcases List.mem_or_eq_of_mem_set o with o|o;· exact F k o
     ·rw[o];refine⟨λe0=>?_,I.1.1,I.1.2.1,kz.vs,kz.gd⟩;obtain⟨w,D⟩:=dC kz.ne kz.wf kz.cn;have e1:=congrFun I.1.2.2 w;dsimp only at e0;rw[e0,Ed,D]at e1;cases e1
    ·have tw:Av t 0 w=(Av z[n].1 0 w||Av c.2[j].1 0 w):=congrFun I.1.2.2 w;have e5:=cJ E (k:=c.2[j]) (x:=(t,z[n].2)) tw λU=>by
      have le:=Wv h.gd.2 w;have p1:=Wt (AN E) U.1;rw[sum w,E6,if_pos U.2]at le;omega
     rw[Ace,e5,Z,tk,DG]
    ·have ez:(z.set n (t,z[n].2)).map (·.2)=z.map (·.2):=by
      rw[List.map_set];have:(z.map (·.2)).set n ((z.map (·.2))[n]'(by simpa using E))=z.map (·.2):=List.set_getElem_self ..;rw[List.getElem_map]at this;exact this
     have p:(z.map (·.2)).Pairwise (· ≠ ·):=Adr.2 z5;rw[<-ez]at p;exact Adr.1 p
    ·exfalso;have e6:=z6 q;have pw:=q.2.2.2;have l6:=congrArg FD e6;rw[Aba]at l6;have nj:n<j:=by omega
     refine Aaw.1 pw n j (by omega) hj nj ?_;rw[<-rq q,<-e];have:z[n]=c.2[n]'(by omega):=by simp only[e6,List.getElem_take]
     rw[this]
  ·refine Qd (by dsimp only;omega) ?_;obtain⟨z1,F,z3,Z,z5,z6⟩:=T;rw[Al]at Z z6;have z3:J9 z<=14641:=by simpa [J9,GY]using z3
   have il:∀k∈z,CD k.1 (Av k.1 0) 14641:=λk o=>(F k o).is (by have:=Pn o;omega);have Y:∀x∈z,∀y∈z,Fb y.1 x.1= -Fb x.1 y.1/\(Fb x.1 y.1=0->x.1=y.1):=λx J y K=>⟨JY _ _,(KL (fu:=f) (il x J) (il y K) (by decide) (by omega)).1⟩;refine OC (ZA (fu:=f) (l:=z) (by omega) (by omega) (c:=λk W=>Fb k.1 W.1) (λx J y K q=>by have:=(Y x J y K).1;omega) λx J y K=>?_) λr15 v=>MN ⟨λ_ I=>⟨⟨⟨?_,?_,λg hg=>?_,?_,λk o=>?_,λk o s hs=>?_⟩,⟨λg hg=>?_,h.fl.2.of ?_⟩,⟨λk o=>?_,h.gd.2.of ?_ λw=>?_⟩,λw D=>?_⟩,⟨λf hf=>⟨j3 I f hf,(j2 f hf).2⟩,λk o=>?_,?_,?_⟩⟩,λq=>?_⟩;· refine(Ok.eq ?_);rw[kM];exact BY (Ft (il x J) (il y K) (by decide) (by omega)) (MN rfl)
   ·have:=congrArg FD O;simp only[Aal]at this;dsimp only;omega
   ·dsimp only;rw[v.1.1.length_eq];omega
   ·have:(g.1,g.2.1)∈s.map (λf=>(f.1,f.2.1)):=By.2 ⟨g,hg,rfl⟩;rw[O]at this;obtain⟨g',V,e⟩:=By.1 this;rw[show g.1=g'.1 from(congrArg Prod.fst e).symm];exact h.bd.lb g' V
   ·dsimp only;rw[Z1 (v.1.1.map _)];exact z3
   ·exact(F k (v.1.1.mem_iff.1 o)).wf.by
   ·exact((F k (v.1.1.mem_iff.1 o)).wf s hs).len
   ·have:(g.1,g.2.1)∈s.map (λf=>(f.1,f.2.1)):=By.2 ⟨g,hg,rfl⟩;rw[O]at this;obtain⟨g',V,e⟩:=By.1 this;rw[show g.2.1=g'.2.1 from(congrArg Prod.snd e).symm];exact h.fl.1 g' V
   ·have:=congrArg (List.map Prod.fst) O;simpa [Aam,Function.comp_def]using this
   ·have W:=F k (v.1.1.mem_iff.1 o);exact⟨W.ne,W.wf,W.cn⟩
   ·have:=congrArg (List.map Prod.fst) O;simpa [Aam,Function.comp_def]using this
   ·rw[Yb v.1.1,Z]
   ·rcases AS.1 D with D|D;· obtain⟨g,hg,rfl⟩:=By.1 D;exact(j2 g hg).1
    ·obtain⟨k,o,rfl⟩:=By.1 D;exact(F k (v.1.1.mem_iff.1 o)).vs
   ·exact(F k (v.1.1.mem_iff.1 o)).gd
   ·have mem:=λx=>(v.1.1.mem_iff (a:=x)).1;refine Lm (B:=λx y=>x.1=y.1) (λx J y K=>Y x (mem x J) y (mem y K)) ?_ v.1.2;exact(v.1.1.pairwise_iff (λ{x y} q e=>q e.symm)).2 (Wu (λk o=>dC (F k o).ne (F k o).wf (F k o).cn) λw=>by rw[Z];exact Wv h.gd.2 w)
   ·exact(v.1.1.pairwise_iff (λ{x y} q e=>q e.symm)).2 z5
   ·have e:=v.2 (Ns (λx J y K=>(Y x J y K).1) (by rw[z6 q];exact q.2.2.1));dsimp only;rw[e,z6 q,(j4 q).1,(j4 q).2]
structure GdV(d:Nat)(G:Bb->Prop)(v:Vl):Prop where
 ls:∀c∈v.lists,Y9 G c
 ss:∀c∈v.structs,U7 G c
 la:AC (WW (De d)) v.lists
 lo:EP (λp q=>DH (Bz d) p q<0) v.lists
 sa:AC (U5 (De d)) v.structs
 so:EP (λp q=>Es (Bz d) p q<0) v.structs
 ev:¬EvX v
def DM:Nat->Vl->Prop
 |0,_=>True
 |d+1,v=>v.any=Aj->GdV d (λx=>(DM d x.1/\DM d x.2)/\De d x.2 x.1) v
def Di(d:Nat)(x:Bb):Prop:=(DM d x.1/\DM d x.2)/\De d x.2 x.1
theorem nJ(h:l.Pairwise λx y=> ¬B x y/\¬B y x):AC B l:=λi j a b ne=>by grind[Nat.lt_or_ge,List.pairwise_iff_getElem]
theorem od(d:Nat):SV (d+1) (.mk Bp E_ [] []):=⟨⟨(L9 d).1.1,⟨Abh _,λc hc=>by cases hc⟩,⟨Abh _,λc hc=>by cases hc⟩,λx a=>by cases a⟩,⟨λ_=>⟨rfl,rfl,rfl⟩,Q1,λc hc=>(by cases hc),λc hc=>by cases hc⟩,λx a=>by cases a⟩
theorem SV.lx(h:SV (d+1) v):∀c∈v.lists,LX d c:=λc hc=>⟨(h.1.2.1.2 c hc).1,h.2.1.rs c hc,h.lv hc⟩
theorem SV.cx(h:SV (d+1) v):∀c∈v.structs,CX d c:=λc hc=>⟨h.1.2.2.1.2 c hc,(h.2.1.st c hc).1,(h.2.1.st c hc).2,h.sv hc⟩
theorem O9(k:∀ {fu:Nat} {v:Vl},SV d v->1000000003000+10*d<fu->Ok (YF fu v) λr=>(r.2=Bp->SV d r.1/\DM d r.1)/\(DM d v->r=(v,Bp)))(o:d<=3)(j:SW d x)(n:1000000003000+10*d+1<fu):
  Ok (LA fu x) λr=>(r.2=Bp->SW d r.1/\Di d r.1)/\(Di d x->r=(x,Bp)):=by
 obtain⟨e,rfl⟩:∃e,fu=e+1:=⟨fu-1,by omega⟩;rw[show LA (e+1) x=_ from d249 e x];refine OC (k j.1 (by omega)) λr f=>OC (k j.2 (by omega)) λs g=>?_;refine P0 (λa=>P0 (λc=>?_) λc=>MN ⟨λh=>(by grind),λq=>?_⟩) λa=>MN ⟨λh=>(by grind),λq=>?_⟩;· refine OC (J1 (g.1 c).1 (f.1 a).1 (by omega)) λb i=>MN ⟨λq=>⟨⟨(f.1 a).1,(g.1 c).1⟩,⟨(f.1 a).2,(g.1 c).2⟩,i.1 q⟩,λq=>?_⟩;have l:=f.2 q.1.1;have m:=g.2 q.1.2;subst l m;rw[i.2 q.2]
 ·rw[g.2 q.1.2]at c;grind
 ·rw[f.2 q.1.1]at a;grind
theorem Ta:∀ {d fu:Nat} {v:Vl},d<=3->SV d v->1000000003000+10*d<fu->Ok (YF fu v) λr=>(r.2=Bp->SV d r.1/\DM d r.1)/\(DM d v->r=(v,Bp))
 |0,_,_,_,h,_=>h.1.elim
 |d+1,fu,v,Y,w,J=>by
  have P:=nD;obtain⟨f,rfl⟩:∃f,fu=f+3:=⟨fu-3,by omega⟩;have L:∀ {fu:Nat} {x:Bb},SW d x->1000000003000+10*d+1<fu->Ok (LA fu x) λr=>(r.2=Bp->SW d r.1/\Di d r.1)/\(Di d x->r=(x,Bp)):=
   O9 (λh J=>Ta (by omega) h J) (by omega);have sb:=w.sb;obtain⟨I,⟨W,_⟩,⟨X,_⟩,_⟩:=id w.1;have O:=sb.2.1;rw[show YF (f+3) v=_ from d248 (f+2) v];refine P0 (λG=>MN ⟨λ_=>⟨w,λh=>by simp_all⟩,λ_=>rfl⟩) λG=>BY (SO O (by omega) (by decide) (by omega)) ?_;have p:DM (d+1) v->GdV d (Di d) v:=λq=>q G;refine Sw (λk (s:List HQ)=>s.length<=k/\(∀c∈s,LX d c/\Y9 (Di d) c)/\(DM (d+1) v->s=v.lists.take k)) v.lists.length ⟨by simp,by simp,λ_=>by simp⟩ (by omega) (λk s nx u H F=>?_) (λs nx H=>?_)
  ·have o:=AN u;obtain⟨T,B,C⟩:=H;refine P4 (Aah u (OC (jd (by omega) L (w.lx _ o) (by omega)) λr n=>P0 (λj=>MN ⟨λq=>(by cases q),λq=>?_⟩) λj=>P0 (λm=>Abw (F _ ⟨by dsimp only;rw[Aac,Acn];omega,λc hc=>?_,λq=>?_⟩)) λm=>F _ ⟨by dsimp only;omega,B,λq=>?_⟩));· rw[n.2 ((p q).ls _ o)]at j;cases j
   ·rcases AS.1 hc with hc|hc;· exact B c hc
    ·rw[Aaf.1 hc];exact n.1 (by simpa using j) m
   ·rw[C q,n.2 ((p q).ls _ o),IN u]
   ·rw[n.2 ((p q).ls _ o)]at m;cases m
  obtain⟨T,B,C⟩:=H;rw[Aar]at C;refine Qd (by omega) ?_;refine Sw (λk (z:List Bu)=>z.length<=k/\(∀c∈z,CX d c/\U7 (Di d) c)/\(DM (d+1) v->z=v.structs.take k)) v.structs.length ⟨by simp,by simp,λ_=>by simp⟩ (by omega) (λk z nx u t F=>?_) (λz nx t=>?_)
  ·have o:=AN u;obtain⟨U,D,E⟩:=t;refine P4 (Aah u (OC (ja (by omega) L (w.cx _ o) (by omega)) λr n=>P0 (λj=>MN ⟨λq=>(by cases q),λq=>?_⟩) λj=>P0 (λm=>Abw (F _ ⟨by dsimp only;rw[Aac,Acn];omega,λc hc=>?_,λq=>?_⟩)) λm=>F _ ⟨by dsimp only;omega,D,λq=>?_⟩));· rw[n.2 ((p q).ss _ o)]at j;cases j
   ·rcases AS.1 hc with hc|hc;· exact D c hc
    ·rw[Aaf.1 hc];exact n.1 (by simpa using j) m
   ·rw[E q,n.2 ((p q).ss _ o),IN u]
   ·rw[n.2 ((p q).ss _ o)]at m;cases m
  obtain⟨U,D,E⟩:=t;rw[Aar]at E;refine P5 (OC (gI (l:=s) (by omega) (λc hc=>(B c hc).1) (by omega) (by omega)) λy a=>OC (gH (l:=z) (by omega) (λc hc=>(D c hc).1) (by omega) (by omega)) λA i=>?_);have sv:SV (d+1) (Vl.mk Aj v.sc y A):=Zq I w.2.1.sc (by have:=a.1.1;omega) (by have:=i.1.1;omega) (λc hc=>(B c (a.1.2 c hc)).1) λc hc=>(D c (i.1.2 c hc)).1;have whole:DM (d+1) v->Vl.mk Aj v.sc y A=v:=λq=>by have g:=p q;have R:=a.2.2.2 (by rw[C q];exact g.la) (by rw[C q];exact g.lo);have S:=i.2.2.2 (by rw[E q];exact g.sa) (by rw[E q];exact g.so);rw[R,S,C q,E q];exact Aiw (show Aj=v.any from G.symm) rfl rfl rfl
  refine OC (bV (v:=Vl.mk Aj v.sc y A) (Dr I w.2.1.sc) (by decide) (by decide) (by omega)) λb K=>P0 (λh=>MN ⟨λ_=>⟨od d,λq=>by cases q⟩,λq=>?_⟩) λh=>MN ⟨λ_=>⟨sv,λ_=>⟨λc hc=>(B c (a.1.2 c hc)).2,λc hc=>(D c (i.1.2 c hc)).2,nJ a.2.1,a.2.2.1,nJ i.2.1,i.2.2.1,λq=>?_⟩⟩,λq=>?_⟩;· have e:=K.1 h;rw[whole q]at e;exact absurd e (p q).ev
  ·rw[K.2 q]at h;cases h
  grind
def ID(d:Nat)(x:Bb):Prop:=SW d x/\Di d x
theorem RW(c:I' d x)(g:d<=3)(j:1000000005000<fu):Ok (eC fu x) λr=>(r.2=0->ID d r.1)/\(I' d r.1)/\(ID d x->r=(x,0)):=by
 have m:d≠0:=by rintro rfl;exact c.1.elim
 obtain⟨d,rfl⟩:∃e,d=e+1:=⟨d-1,by omega⟩;have no:(¬ID (d+1) x)->Ok (Ac ((v0,v0),(11:Int))) λr=>(r.2=0->ID (d+1) r.1)/\(I' (d+1) r.1)/\(ID (d+1) x->r=(x,0)):=λn=>MN ⟨λh=>(by omega),⟨(L9 d).1,(L9 d).1⟩,λh=>absurd h n⟩;refine OC (Xk c g (by omega)) λb k=>P0 (λh=>no λq=>?_) λh=>?_;· rw[k.2 ⟨q.1.1.2,q.1.2.2⟩]at h;grind
 have l:=k.1 (by grind);have o:SW (d+1) x:=⟨⟨c.1,l.1⟩,c.2,l.2⟩;refine OC (O9 (λh j=>Ta g h j) g o (by omega)) λr i=>P0 (λa=>no λq=>?_) λa=>?_;· rw[i.2 q.2]at a;grind
 ·have f:=i.1 (by simpa using a);exact MN ⟨λ_=>f,⟨f.1.1.1,f.1.2.1⟩,λq=>by rw[i.2 q.2]⟩
theorem W9(c:I' d x)(j:d<=3)(g:1000000005000<fu):Ok (QX fu x) λr=>r=Bp↔ID d x:=by obtain⟨⟨y,e⟩,k,l,i,b⟩:=RW (fu:=fu) c j g;refine BY k (N_ (λh=>OC (Mo i c (by omega)) λr a=>MN ⟨λf=>?_,λq=>?_⟩) λh=>MN ⟨λq=>(by grind),λq=>?_⟩);all_goals grind
theorem H_(h:SV d v)(j:1000000000000<fu):Ok (U' fu v) λr=>r=Bp↔¬NB v:=by
 cases d with
 |zero=>exact h.1.elim
 |succ d=>
  have l:Ii 5 12 v.sc:=Dr h.1.1 h.2.1.sc;have no:NB v->Ok (Ac Aj) λr=>r=Bp↔¬NB v:=λk=>MN ⟨λh=>(by cases h),λh=>absurd k h⟩;rw[U'];refine P0 (λa=>OC (N8 (l.sc (by decide)) (by decide) j) λb o=>?_) λa=>no (.inl (by simpa using a));rw[o.2 h.2.1.sc];refine P8 rfl (OC (KE l (by decide) (by decide) j) λr f=>P0 (λc=>N_ (λi=>MN ?_) λi=>no (.inr (.inl λe=>i (by rw[e];rfl)))) λc=>no (.inr (.inr (.inr λe=>by rw[f.2 e]at c;cases c))));have m:v.lists=[]:=OF.1 (by omega);have n:=f.1 c;have a:v.any=Aj:=by simpa using a
  rw[decide_eq_true_iff];unfold NB;rw[a,m,n];exact⟨λg=>by simp[OF.1 (by omega:v.structs.length=0)],λg=>by simp at g;simp[g]⟩
theorem I2(h:SV d v)(j:1000000000000<fu):Ok (YB fu v) λr=>r=Bp↔¬NB v:=by rw[YB];exact OC (H_ h j) λr f=>MN f
theorem U0{α:Type}{R:α->α->Prop} :∀ {l:List α},(∀i (h:i+1<l.length),R l[i] l[i+1])->EP R l
 | [],_=>trivial
 | [_],_=>trivial
 |x::y::l,h=>⟨h 0 (by simp),U0 λi a=>h (i+1) (by simpa using a)⟩
def Cs(G:α->Prop)(B:α->α->Prop)(c:α->α->Int)(l:List α):Prop:=(∀x∈l,G x)/\AC B l/\EP (λp q=>c p q<0) l
theorem S'{G:α->Prop}{c:α->α->Int}{g:α->Option Bool}{wr:α->Option Vl}{cmp:Vl->Vl->Option Int}{le:α->α->Option Bool}{K:Option Bool}{P:Bool->Prop}(hl:l.length<=12)(hf:20<fu)
  (hg:∀x∈l,Ok (g x) λr=>r=Bp↔G x) (hc:∀x∈l,∀y∈l,∃a b,wr x=Ac a/\wr y=Ac b/\cmp a b=Ac (c x y)) (O:∀x∈l,∀y∈l,Ok (le x y) λr=>r=Bp↔B x y)
  (yes:Cs G B c l->Ok K P) (no:¬Cs G B c l->P Aj):
  Ok (Ad fu (λ(f:Nat) J=>
  bif Dl (
        (f:Int)<(l.length:Int))then
   Ab (idx l (f:Int)) λr3=>
   Ab (g r3) λr4=>
   bif !r4 then
    Ac (Aj)
   else
    bif Dl (
          (0:Int)<(f:Int))then
     Aa (Lo.i64) ((f:Int)-(1:Int))<|
     Ab (idx l ((f:Int)-(1:Int))) λr5=>
     Ab (wr r5) λr6=>
     Ab (idx l (f:Int)) λr7=>
     Ab (wr r7) λr8=>
     Ab (cmp r6 r8) λr9=>
     bif Dl ((0:Int)<=r9)then
      Ac (Aj)
     else
      Ad fu (λ(o:Nat) v=>
       bif Dl ((o:Int)<(l.length:Int))then
        bif Dl ((f:Int)≠(o:Int))then
         Ab (idx l (f:Int)) λT=>
         Ab (idx l (o:Int)) λU=>
         Ab (le T U) λV=>
         bif V then
          Ac (Aj)
         else
          v (o+1)
        else
         v (o+1)
       else
        J (f+1)) (0)
    else
     Ad fu (λ(e:Nat) d=>
      bif Dl ((e:Int)<(l.length:Int))then
       bif Dl ((f:Int)≠(e:Int))then
        Ab (idx l (f:Int)) λC=>
        Ab (idx l (e:Int)) λD=>
        Ab (le C D) λE=>
        bif E then
         Ac (Aj)
        else
         d (e+1)
       else
        d (e+1)
      else
       J (f+1)) (0)
  else K) 0) P:=by
 refine VD (λk=>(∀x∈l.take k,G x)/\(∀i (h:i+1<l.length),i+1<k->c l[i] l[i+1]<0)/\∀i j (t:i<l.length) (s:j<l.length),i<k->i≠j->¬B l[i] l[j]) l.length ⟨by simp,λi h k=>by omega,λi j _ _ h=>by omega⟩ (by omega) (λk nx z N hn=>?_) (λnx N=>?_)
 ·have m:=
       AN z;obtain⟨M,R,S⟩:=N;have inner:G l[k]->(∀i (h:i+1<l.length),i+1<k+1->c l[i] l[i+1]<0)->Ok (Ad fu (λ(e:Nat) d=>
      bif Dl ((e:Int)<(l.length:Int))then
       bif Dl ((k:Int)≠(e:Int))then
        Ab (idx l (k:Int)) λC=>
        Ab (idx l (e:Int)) λD=>
        Ab (le C D) λE=>
        bif E then
         Ac (Aj)
        else
         d (e+1)
       else
        d (e+1)
      else
       nx (k+1)) (0)) P:=λL W=>by
   refine VD (λn=> ∀j (s:j<l.length),j<n->k≠j->¬B l[k] l[j]) l.length (λj _ h=>by omega) (by omega) (λn d A w H=>?_) (λd w=>?_)
   ·have u:(k≠n->¬B l[k] l[n])->∀j (s:j<l.length),j<n+1->k≠j->¬B l[k] l[j]:=λh j s hjn=>by
     rcases Aan j n with q|q;· exact w j s q
     ·obtain rfl:j=n:=by omega
      exact h
    refine P4 (N_ (λne=>Aah z (Aah A (OC (O _ m _ (AN A)) λr I=>P0 (λh=>MN (no λq=>q.2.1 k n z A (by omega) (I.1 h))) λh=>H (u λ_ hB=>by rw[I.2 hB]at h;cases h)))) λne=>H (u λh=>absurd h (by omega)))
   ·refine P5 (hn ⟨λx Q=>?_,W,λi j t s F ne=>?_⟩)
    ·rcases(Af z).1 Q with Q|rfl;· exact M x Q
     ·exact L
    ·rcases Aan i k with q|q;· exact S i j t s q ne
     ·obtain rfl:i=k:=by omega
      exact w j s s ne
  refine P4 (Aah z (OC (hg _ m) λr I=>P0 (λh=>MN (no λq=>?_)) λh=>?_));· rw[I.2 (q.1 _ m)]at h;cases h
  have L:=I.1 (by simpa using h);refine N_ (λh0=>?_) λh0=>inner L λi t F=>by omega
  obtain⟨p,rfl⟩:∃p,k=p+1:=⟨k-1,by omega⟩;obtain⟨a,b,Y,Z,ec⟩:=hc _ (AN (by omega:p<l.length)) _ m;have X:((p+1:Nat):Int)-1=(p:Nat):=by omega
  refine Abx (by omega) ?_;rw[X];refine Aah (by omega) (BY Y (Aah z (BY Z (BY ec (N_ (λh=>MN (no λq=>?_)) λh=>inner L λi t F=>?_)))));· have:=QM q.2.2 p z;omega
  ·rcases Aan i p with q|q;· exact R i t (by omega)
   ·obtain rfl:i=p:=by omega
    omega
 ·obtain⟨M,R,S⟩:=N;rw[Aar]at M;exact P5 (yes ⟨M,λi j t s ne=>S i j t s t ne,U0 λi h=>R i h h⟩)
end
section
variable {d : Nat} (hd : d <= 2) (ih : ∀ {fu : Nat} {v : Vl}, SV d v -> 1000000003000 + 20 * d < fu -> Ok (Tw fu v) λr => r = Bp ↔ DM d v)
section
variable{fu:Nat}
include ih
theorem E3{x:Bb}(e:SW d x)(j:1000000003000+20*d+1<fu):Ok (QT fu x) λr=>r=Bp↔Di d x:=by
 obtain⟨f,rfl⟩:∃f,fu=f+1:=⟨fu-1,by omega⟩;rw[show QT (f+1) x=_ from d345 f x];unfold yg;refine OC (ih e.1 (by omega)) λr g=>P0 (λa=>OC (ih e.2 (by omega)) λs h=>P0 (λc=>OC (H4 e.2 e.1 (by omega)) λb i=>MN (i.trans ⟨λq=>⟨⟨g.1 a,h.1 c⟩,q⟩,λq=>q.2⟩)) λc=>AR λq=>?_) λa=>AR λq=>?_;· rw[h.2 q.1.2]at c;cases c
 ·rw[g.2 q.1.1]at a;cases a
theorem Ss{c:HQ}(hc:LX d c)(A:1000000003000+20*d+2<fu):Ok (dS fu c) λr=>r=Bp↔Y9 (Di d) c:=by
 obtain⟨f,rfl⟩:∃f,fu=f+1:=⟨fu-1,by omega⟩;rw[show dS (f+1) c=_ from d346 f c];unfold yf;have B:=hc.n1;have C:=hc.n2;refine VD (λk=> ∀x∈c.1.take k,NB x.1/\Di d x) c.1.length (by simp) (by omega) (λk nx n g z=>?_) (λnx g=>?_)
 ·have m:=AN n;have s:=hc.vs _ (AS.2 (.inl m));refine P4 (Aah n (OC (I2 s.1 (by omega)) λr i=>P0 (λh=>AR λq=>i.1 h (q.1 _ m).1) λh=>Aah n (OC (E3 ih s (by omega)) λt o=>P0 (λl=>AR λq=>?_) λl=>z λx e=>?_)));· rw[o.2 (q.1 _ m).2]at l;cases l
  ·rcases(Af n).1 e with e|rfl;· exact g x e
   ·exact⟨IS λp=>(by rw[i.2 p]at h;cases h),o.1 (by simpa using l)⟩
 ·rw[Aar]at g;refine P5 (N_ (λh=>MN ⟨λ_=>⟨g,λx e=>?_⟩,λ_=>rfl⟩) λh=>?_);· rw[OF.1 (by omega:c.2.length=0)]at e;cases e
  obtain⟨y,j⟩:=P3 (by omega:c.2.length=1);have s:=hc.vs y (AS.2 (.inr (by rw[j];exact Aaf.2 rfl)));rw[j];have mem:∀x∈c.2,x=y:=λx e=>by rw[j]at e;exact Aaf.1 e
  have u:y∈c.2:=by rw[j];exact Aaf.2 rfl
  refine BY (a:=y) rfl (OC (I2 s.1 (by omega)) λr i=>P0 (λh=>BY (a:=y) rfl (OC (E3 ih s (by omega)) λt o=>MN (o.trans ⟨λq=>⟨g,λx e=>?_⟩,λq=>(q.2 y u).2⟩))) λh=>AR λq=>i.1 (by simpa using h) (q.2 y u).1);rw[mem x e];exact⟨IS λp=>(by rw[i.2 p]at h;cases h),q⟩
end
end
section
variable{fu:Nat}
theorem Xm{w v:Aq} :Ok (dU fu (w,v)) λr=>r=Bp↔EJ w v<0:=by
 rw[dU];refine N_ (λh=>MN ⟨λ_=>?_,λ_=>rfl⟩) λh=>N_ (λk=>MN ?_) λk=>AR ?_;· have e:D8 w.length v.length= -1:=if_pos h;unfold EJ;rw[e,if_neg (by decide)];decide
 ·unfold EJ;rw[if_pos (BE.2 (by omega))];unfold FJ;cases a:Op.bytesLess w v with
  |true=>exact⟨λ_=>by rw[if_pos rfl];decide,λ_=>rfl⟩
  |false=>
   refine⟨λh=>(by cases h),λh=>?_⟩;rw[if_neg (by simp)]at h;split at h<;>exact absurd h (by decide)
 ·have e:D8 w.length v.length=1:=(if_neg h).trans (if_pos (by omega));unfold EJ;rw[e,if_neg (by decide)];decide
theorem aH{a b:Tb}(c:CD a (Av a 0) 14641)(d:CD b (Av b 0) 14641)(na:a≠ [])(nb:b≠ [])(i:∀w,¬(Av a 0 w=Bp/\Av b 0 w=Bp))(p:1000000000000<fu):
  ∃w v,U8 fu a=Ac w/\U8 fu b=Ac v/\Ok (dU fu (w,v)) λr=>r=Bp↔Fb a b<0:=by
 have one:∀ {a:Tb},CD a (Av a 0) 14641->a≠ []->∃w,LN a=Ac w/\U8 fu a=Ac w:=λ{a} h n=>by
  cases e:LN a with
  |none=>exact absurd (MO h e) n
  |some w=>
   refine⟨w,rf,(Ok.eq ?_)⟩;rw[U8];exact BY (IX (n:=14641) h ⟨h.len,λs o=>Aao (h.wf s o).len (by decide)⟩ (by decide) (by omega)) (MN (by rw[e];rfl))
 obtain⟨w,j,k⟩:=one c na;obtain⟨v,l,m⟩:=one d nb;have rfl:OY a b=a:=Qt (q:=14641) (c.congr (funext λu=>by
  rw[c.gL,d.gL];have:=i u;cases f:Av a 0 u<;>cases g:Av b 0 u<;>simp[f,g]at this⊢));have d2:OY b a=b:=Qt (q:=14641) (d.congr (funext λu=>by
  rw[c.gL,d.gL];have:=i u;cases f:Av a 0 u<;>cases g:Av b 0 u<;>simp[f,g]at this⊢));have e:Fb a b=EJ w v:=by unfold Fb;rw[rfl,d2,j,l];rfl
 rw[e];exact⟨w,v,k,m,Xm⟩
theorem X6{d:Nat}{x y:Bb}(a:SW d x)(b:SW d y)(c:d<=3)(h:1000000003000<fu):Ok (Yv fu (x,y)) λr=>r=Bp↔x=y:=by rw[Yv];refine OC (IJ ⟨a.1.1,a.2.1⟩ c (by omega)) λr f=>?_;rw[f.2 ⟨a.1.2,a.2.2⟩];refine VY rfl (OC (IJ ⟨b.1.1,b.2.1⟩ c (by omega)) λs g=>?_);rw[g.2 ⟨b.1.2,b.2.2⟩];refine VY rfl (BY (HO HJ a b (by omega)) (MN ?_));rw[decide_eq_true_iff];have k:=HK (R:=Bz d) HL a b;refine⟨k.2,λe=>?_⟩;subst e;have:=k.1;omega
end
section
variable {d : Nat} (hd : d <= 2) (ih : ∀ {fu : Nat} {v : Vl}, SV d v -> 1000000003000 + 20 * d < fu -> Ok (Tw fu v) λr => r = Bp ↔ DM d v)
include hd ih
theorem NQ{fu:Nat}{c:Bu}(hc:CX d c)(hF:1000000003000+20*d+2<fu):Ok (dR fu c) λr=>r=Bp↔U7 (Di d) c:=by
 obtain⟨f,rfl⟩:∃f,fu=f+1:=⟨fu-1,by omega⟩;rw[show dR (f+1) c=_ from d347 f c];unfold ye;have n1:=hc.bd.nf;have n2:=hc.bd.nc;refine VD (λk=> ∀x∈c.1.take k,NB x.2.2.1/\Di d x.2.2) c.1.length (by simp) (by omega) (λk nx b G K=>?_) (λnx G=>?_)
 ·have m:=AN b;have s:=hc.vs _ (AS.2 (.inl (By.2 ⟨_,m,rfl⟩)));refine P4 (Aah b (OC (I2 s.1 (by omega)) λr u=>P0 (λh=>AR λq=>u.1 h (q.1 _ m).1) λh=>Aah b (OC (E3 ih s (by omega)) λt V=>P0 (λl=>AR λq=>?_) λl=>K λx C=>?_)));· rw[V.2 (q.1 _ m).2]at l;cases l
  ·rcases(Af b).1 C with C|rfl;· exact G x C
   ·exact⟨IS λnb=>(by rw[u.2 nb]at h;cases h),V.1 (by simpa using l)⟩
 rw[Aar]at G;refine Qd (by omega) ?_;have T:∀k∈c.2,CD k.1 (Av k.1 0) 14641:=λk b=>by have g:=hc.gd.1 k b;have:=Pn b;have:=hc.bd.st;unfold J9 at*;exact⟨g.2.1,g.2.2,rfl,by omega⟩
 have S:∀k∈c.2,SW d k.2:=λk b=>hc.vs _ (AS.2 (.inr (By.2 ⟨k,b,rfl⟩)));refine VD (λk=>(∀x∈c.2.take k,Di d x.2)/\(∀i (h:i+1<c.2.length),i+1<k->Fb c.2[i].1 c.2[i+1].1<0)/\∀i j (B:i<c.2.length) (n:j<c.2.length),i<k->j<i->c.2[i].2≠c.2[j].2) c.2.length ⟨by simp,λi h k=>by omega,λi j _ _ h=>by omega⟩ (by omega) (λk nx b A K=>?_) (λnx A=>?_)
 ·have m:=AN b;obtain⟨H,N,O⟩:=A;have inner:Di d c.2[k].2->(∀i (h:i+1<c.2.length),i+1<k+1->Fb c.2[i].1 c.2[i+1].1<0)->Ok (Ad f (λ(o:Int) y=>
      bif Dl (o<(k:Int))then
       Ab (idx c.2 (k:Int)) λP=>
       Ab (idx c.2 o) λQ=>
       Ab (Yv f (P.2,Q.2)) λR=>
       bif R then
        Ac (Aj)
       else
        Aa (Lo.i64) (o+(1:Int))<|
        y ((o+(1:Int)))
      else
       nx (k+1)) ((0:Int))) λr=>r=Bp↔U7 (Di d) c:=λF X=>by
   refine Xp (λz=>(0<=z/\z<=(k:Int))/\∀j (n:j<c.2.length),(j:Int)<z->c.2[k].2≠c.2[j].2) (λz=>((k:Int)-z).toNat) ⟨⟨by omega,by omega⟩,λj _ h=>by omega⟩ (by omega) λz y hI _ L=>?_;obtain⟨⟨z0,z1⟩,W⟩:=hI;refine N_ (λhz=>Aah b (Adq z0 (by omega) (OC (X6 (S _ m) (S _ (AN (by omega:z.toNat<c.2.length))) (by omega) (by omega)) λr u=>P0 (λh=>AR λq=>?_) λh=>Aap (L _ ⟨by omega,λj n hjz=>?_⟩ (by omega))))) λhz=>K ⟨λx C=>?_,X,λi j B n D J=>?_⟩;· exact Aaw.1 q.2.2.2 z.toNat k (by omega) b (by omega) (u.1 h).symm
   ·rcases Ael (j:Int) z with q|q;· exact W j n q
    ·obtain rfl:z=(j:Int):=by omega
     intro e;rw[u.2 (by simpa using e)]at h;cases h
   ·rcases(Af b).1 C with C|rfl;· exact H x C
    ·exact F
   ·rcases Aan i k with q|q;· exact O i j B n q J
    ·obtain rfl:i=k:=by omega
     exact W j n (by omega)
  refine P4 (Aah b (OC (E3 ih (S _ m) (by omega)) λr u=>P0 (λh=>AR λq=>?_) λh=>?_));· rw[u.2 (q.2.1 _ m)]at h;cases h
  have F:=u.1 (by simpa using h);refine N_ (λh0=>?_) λh0=>inner F λi B D=>by omega
  obtain⟨p,rfl⟩:∃p,k=p+1:=⟨k-1,by omega⟩;have M:p<c.2.length:=by omega
  have mp:=AN M;have Y:((p+1:Nat):Int)-1=(p:Nat):=by omega
  obtain⟨w,v,Z,ev,hl⟩:=aH (fu:=f) (T _ mp) (T _ m) (hc.gd.1 _ mp).1 (hc.gd.1 _ m).1 (hc.gd.Iy M b (by omega)) (by omega);refine Abx (by omega) ?_;rw[Y];refine Aah M (BY Z (Aah b (BY ev (OC hl λs U=>P0 (λl=>AR λq=>?_) λl=>inner F λi B D=>?_))));· rw[U.2 (QM q.2.2.1 p b)]at l;cases l
  ·rcases Aan i p with q|q;· exact N i B (by omega)
   ·obtain rfl:i=p:=by omega
    exact U.1 (by simpa using l)
 ·obtain⟨H,N,O⟩:=A;rw[Aar]at H;exact P5 (MN ⟨λ_=>⟨G,H,U0 λi h=>N i h h,Aaw.2 λi j B n I e=>O j i n B n I e.symm⟩,λ_=>rfl⟩)
end
section
variable{d:Nat}{v:Bb}{fu n:Nat}
theorem Sq:∀ {d fu:Nat} {v:Vl},d<=3->SV d v->1000000003000+20*d<fu->Ok (Tw fu v) λr=>r=Bp↔DM d v
 |0,_,_,_,h,_=>h.1.elim
 |d+1,fu,v,w,e,u=>by
  obtain⟨f,rfl⟩:∃f,fu=f+1:=⟨fu-1,by omega⟩;have z:∀ {fu:Nat} {v:Vl},SV d v->1000000003000+20*d<fu->Ok (Tw fu v) λr=>r=Bp↔DM d v:=λh u=>Sq (by omega) h u;obtain⟨A,⟨J,_⟩,⟨K,_⟩,_⟩:=id e.1;rw[show Tw (f+1) v=_ from d348 f v];unfold yd;have nil:v.any=Bp->v.lists=[]/\v.structs=[]:=λh=>(e.2.1.an h).2;have t:∀ {α:Type} {G:α->Prop} {B:α->α->Prop} {c:α->α->Int},Cs G B c []:=⟨by simp,λi j I=>by simp at I,trivial⟩;have E:DM (d+1) v->Cs (Y9 (Di d)) (WW (De d)) (DH (Bz d)) v.lists:=λq=>by
   cases h:v.any with
   |true=>rw[(nil h).1];exact t
   |false=>have g:=q h;exact⟨g.ls,g.la,g.lo⟩
  have F:DM (d+1) v->Cs (U7 (Di d)) (U5 (De d)) (Es (Bz d)) v.structs:=λq=>by
   cases h:v.any with
   |true=>rw[(nil h).2];exact t
   |false=>have g:=q h;exact⟨g.ss,g.sa,g.so⟩
  refine S' (G:=Y9 (Di d)) (B:=WW (De d)) (c:=DH (Bz d)) (g:=λx=>dS f x) (wr:=λx=>jO f x) (cmp:=λa b=>U9 f (a,b)) (le:=λx y=>TC f (x,y)) (by omega) (by omega) (λx k=>Ss z (e.lx x k) (by omega)) (λx k y l=>⟨n7 x,n7 y,rfl,rfl,?_⟩) (λx k y l=>RZ H4 (e.lx x k).n1 (e.lx x k).vs (e.lx y l).vs (by omega)) (λm=>?_) λn=>⟨λh=>(by cases h),λq=>absurd (E q) n⟩;· rw[JU (Me (e.lx x k)) (Me (e.lx y l)) w (by omega),Wx]
  refine S' (G:=U7 (Di d)) (B:=U5 (De d)) (c:=Es (Bz d)) (g:=λx=>dR f x) (wr:=λx=>jG f x) (cmp:=λa b=>U9 f (a,b)) (le:=λx y=>TB f (x,y)) (by omega) (by omega) (λx k=>NQ (by omega) z (e.cx x k) (by omega)) (λx k y l=>⟨n6 x,n6 y,rfl,rfl,?_⟩) (λx k y l=>Mg H4 (e.cx x k).bd (e.cx y l).bd (e.cx x k).gd (e.cx y l).gd (e.cx x k).vs (e.cx y l).vs (by omega)) (λo=>?_) λn=>⟨λh=>(by cases h),λq=>absurd (F q) n⟩;· rw[JU (Md (e.cx x k)) (Md (e.cx y l)) w (by omega),Ww]
  refine OC (X5 (Dr A e.2.1.sc) (by decide) (by decide) (by omega)) λr p=>MN ⟨λh H=>⟨m.1,o.1,m.2.1,m.2.2,o.2.1,o.2.2,λq=>?_⟩,λq=>?_⟩;· rw[p.2 ⟨H,q⟩]at h;cases h
  ·cases r with
   |false=>rfl
   |true=>exact absurd (p.1 rfl).2 (q (p.1 rfl).1).ev
theorem W_{x:Bb}{F:Nat->Bb->Option Bool}(a:I' d x)(c:d<=3)(b:1000000005000<fu)(e:F fu x=Ab (Va fu x) λj=>bif j then Ab (QT fu x) λk=>Ac k else Ac Aj):Ok (F fu x) λr=>r=Bp↔ID d x:=by
 rw[e];refine OC (IJ a c (by omega)) λr f=>P0 (λh=>?_) λh=>AR λq=>?_;· have s:=f.1 h;have g:SW d x:=⟨⟨a.1,s.1⟩,a.2,s.2⟩;exact OC (E3 (λh b=>Sq c h b) g (by omega)) λt i=>MN (i.trans ⟨λq=>⟨g,q⟩,λq=>q.2⟩)
 ·rw[f.2 ⟨q.1.1.2,q.1.2.2⟩]at h;cases h
open Classical in
noncomputable def EF(v:Bb):Vl:=if NB v.2 then v.2 else v.1
open Classical in
noncomputable def alt(D:Vl):Nat:=D.lists.length+D.structs.length+if D.sc=E_ then 0 else 1
open Classical in
noncomputable def err(d:Nat)(v:Bb)(n:Nat):Int:=if¬ID d v then 11 else if¬NB v.1 then 12 else if(EF v).any=Bp\/0<n/\1<alt (EF v)then 14 else if n=0 then 11 else 0
theorem Sn{α:Type}{l:List α}{d:α}(h:0<l.length):l[0]=l.headD d:=by
 cases l with
 |nil=>grind
 |cons c l=>rfl
theorem SV.n3{v:Vl}(h:SV d v):v.lists.length<=3/\v.structs.length<=3:=by
 cases d with
 |zero=>exact h.1.elim
 |succ d=>exact⟨h.1.2.1.1,h.1.2.2.1.1⟩
theorem SV.scv{v:Vl}(h:SV d v):Ii 5 12 v.sc:=by
 cases d with
 |zero=>exact h.1.elim
 |succ d=>exact Dr h.1.1 h.2.1.sc
theorem Ms(h:ID d v):SV d (EF v):=by
 unfold EF;split;· exact h.1.2
 ·exact h.1.1
theorem ZN(h:ID d v):DM d (EF v):=by
 unfold EF;split;· exact h.2.1.2
 ·exact h.2.1.1
theorem XG(b:d<=3)(f:I' d v)(h:ID d v)(a:1000000005000<fu):eC fu v=Ac (v,0):=by obtain⟨r,e,_,_,c⟩:=RW (fu:=fu) f b a;grind
theorem Pp(f:d<=3)(g:I' d v)(c:1000000005000<fu):(ID d v/\QX fu v=Ac Bp)\/(¬ID d v/\QX fu v=Ac Aj):=by obtain⟨b,e,a⟩:=W9 (fu:=fu) g f c;grind
theorem T7(g:d<=3)(i:I' d v)(h:ID d v)(c:1000000005000<fu):s5 fu v=Ac (EF v):=by have e:QX fu v=Ac Bp:=((Pp g i c).resolve_right λk=>k.1 h).2;refine(Ok.eq ?_);refine BY (XG g i h c) (Qd (by simp) (BY e (P8 rfl (OC (Dy h.1.2.sb (by omega)) λb f=>P0 (λq=>MN ?_) λq=>MN ?_))));all_goals grind[EF]
theorem of_eq(f:d<=3)(i:I' d v)(a:1000000005000<fu):Ok (j_ fu v) λr=>(¬ID d v/\r.2=11)\/(ID d v/\¬NB v.1/\r.2=12)\/(ID d v/\NB v.1/\r.2=0/\r.1.1=EF v/\(r.1.2=Bp↔(EF v).sc≠E_)):=by
 rcases Pp f i a with⟨h,e⟩|⟨h,e⟩
 ·refine BY e (P8 rf (OC (Dy h.1.1.sb (by omega)) λb c=>P0 (λq=>MN (.inr (.inl ⟨h,c.1 q,rf⟩))) λq=>BY (T7 f i h a) ?_));have j:NB v.1:=IS λn=>by grind
  have s:=Ms h;refine OC (IZ (s.scv) (by simp) (by simp) (by omega)) λr g=>MN (.inr (.inr ⟨h,j,rfl,rfl,?_⟩));grind
 ·exact BY e (VY rf (MN (.inl ⟨h,rf⟩)))
theorem Zt{s:Bool}(h:ID d v)(nb:NB v.1)(b:s=Bp↔(EF v).sc≠E_)(g:n<=3):j9 fu ((EF v,s),(n:Int))=Ac (err d v n):=by
 have sv:=Ms h;have i:=sv.n3.1;have j:=sv.n3.2;have e:s4 fu (EF v,s)=Ac (alt (EF v):Int):=by refine(Ok.eq ?_);refine Aap (P0 (λq=>Aap (MN ?_)) λq=>MN ?_);all_goals grind[alt]
 have c:err d v n=if(EF v).any=Bp\/0<n/\1<alt (EF v)then 14 else if n=0 then 11 else 0:=by grind[err]
 rw[c];refine(Ok.eq ?_);refine P0 (λa=>MN (if_pos (.inl a)).symm) λa=>N_ (λf=>BY e (N_ (λq=>MN (if_pos (.inr ⟨by omega,by omega⟩)).symm) λq=>P5 (MN ?_))) λf=>P4 (MN ?_)
 all_goals grind
theorem bX(h:err d v n=0):ID d v/\NB v.1/\0<n/\(EF v).any=Aj:=by grind[err]
noncomputable def Dp(d:Nat)(v:Bb):Bu×Int:=if err d v (EF v).structs.length=0 then((EF v).structs.headD ([],[]),0)else(([],[]),err d v (EF v).structs.length)
noncomputable def Zo(d:Nat)(v:Bb):HQ×Int:=if err d v (EF v).lists.length=0 then((EF v).lists.headD ([],[]),0)else(([],[]),err d v (EF v).lists.length)
theorem Pv(j:d<=3)(m:I' d v)(i:1000000005000<fu):j8 fu v=Ac (Dp d v):=by
 refine(Ok.eq ?_);refine OC (of_eq j m i) λr l=>?_;rcases l with⟨h,e⟩|⟨h,c,e⟩|⟨h,c,e,f,g⟩;· have b:∀n,err d v n=11:=λn=>if_pos h;simp_all[Dp,P5,P4,MN,if_neg]
 ·have b:∀n,err d v n=12:=λn=>(if_neg (λk=>k h)).trans (if_pos c);simp_all[Dp,P5,P4,MN,if_neg]
 ·obtain⟨⟨D,s⟩,z⟩:=r;dsimp only at e f g⊢;subst f;have o:=(Ms h).n3.2;refine TT e (BY (Zt h c g o) (N_ (λk=>MN ?_) λk=>?_));· simp_all[Dp]
  ·have k:err d v (EF v).structs.length=0:=IS k;have p:=(bX k).2.2.1;refine Adq (by decide) (by omega) (MN ?_);unfold Dp;rw[if_pos k];exact congrArg (·,(0:Int)) (Sn p)
noncomputable def sel(d:Nat)(v:Bb)(s:Aq):Bb×Int:=if(Dp d v).2=0 then match(Dp d v).1.1.find? (λf=>Dl (f.1=s))with
 |some f=>(f.2.2,0)
 |none=>((v0,v0),13)else((v0,v0),(Dp d v).2)
noncomputable def ind(d:Nat)(v:Bb)(i:Int):Bb×Int:=if(Zo d v).2=0 then if i<0 then((v0,v0),1)else if h:i.toNat<(Zo d v).1.1.length then((Zo d v).1.1[i.toNat],0)else if 0<(Zo d v).1.2.length then((v0,v0),14)else((v0,v0),13)else((v0,v0),(Zo d v).2)
end
section
variable {d : Nat} (hd : d <= 3) {v : Bb} {fu : Nat} (hx : I' d v) (hF : 1000000005000 < fu)
theorem Rb{c:Bu}{e:Int}(h:Dp d v=(c,e)):(e≠0->c=([],[]))/\(e=0->ID d v/\NB v.1/\(EF v).any=Aj/\c∈(EF v).structs):=by
 unfold Dp at h;split at h;· rename_i k;obtain⟨f,g,b,i⟩:=bX k;cases h;refine⟨λq=>absurd rfl q,λ_=>⟨f,g,i,?_⟩⟩;cases j:(EF v).structs with
  |nil=>grind
  |cons c l=>simp
 grind
theorem qw(h:ID (d+1) v)(j:(EF v).any=Aj):(∀c∈(EF v).structs,c.1.length<=4/\(∀f∈c.1,ID d f.2.2/\NB f.2.2.1))/\∀c∈(EF v).lists,c.1.length<=3/\c.2.length<=1/\∀x∈AY c,ID d x/\NB x.1:=by
 have sv:=Ms h;have g:GdV d (Di d) (EF v):=ZN h j;refine⟨λc hc=>⟨(sv.cx c hc).bd.nf,λf i=>?_⟩,λc hc=>⟨(sv.lx c hc).n1,(sv.lx c hc).n2,λx hx=>?_⟩⟩;· have k:=(g.ss c hc).1 f i;exact⟨⟨(sv.cx c hc).vs _ (AS.2 (.inl (By.2 ⟨f,i,rfl⟩))),k.2⟩,k.1⟩
 ·have s:=(sv.lx c hc).vs x hx;rcases AS.1 hx with q|q;· have k:=(g.ls c hc).1 x q;exact⟨⟨s,k.2⟩,k.1⟩
  ·have k:=(g.ls c hc).2 x q;exact⟨⟨s,k.2⟩,k.1⟩
include hd hx hF
end
def xu(s:Aq×Int):Prop:=(s.1≠ []->s.2=0)/\(s.1=[]->0<=s.2/\s.2<=1000000)
open Classical in
noncomputable def one(d:Nat)(v:Bb)(s:Aq×Int):Bb×Int:=if¬xu s then((v0,v0),1)else if s.1≠ []then sel d v s.1 else ind d v s.2
section
variable {d : Nat} (hd : d <= 3) {v : Bb} {fu : Nat} (hx : I' d v) (hF : 1000000005000 < fu)
include hd hx hF
theorem Ka:(ID d v/\sG fu v=Ac Bp)\/(¬ID d v/\sG fu v=Ac Aj):=by
 obtain⟨b,e,hb⟩:=W_ (F:=sG) hx hd hF rfl
 cases b with
 |true=>exact .inl ⟨hb.1 rfl,e⟩
 |false=>exact .inr ⟨λh=>(by cases hb.2 h),e⟩
theorem fV(h:ID d v):FRo fu v=Ac (EF v):=by
 have e:=((Ka hd hx hF).resolve_right λk=>k.1 h).2
 refine Ok.eq ?_;rw[FRo]
 refine BY e (P8 rf (OC (H_ h.1.2 (by omega)) λb hb=>P0 (λq=>MN ?_) λq=>MN ?_))
 ·unfold EF;rw[if_neg (hb.1 q)]
 ·unfold EF;rw[if_pos (IS λn=>by rw[hb.2 n]at q;cases q)]
theorem PF:(¬ID d v/\nW fu v=Ac (v0,11))\/(ID d v/\¬NB v.1/\nW fu v=Ac (v0,12))\/(ID d v/\NB v.1/\nW fu v=Ac (EF v,0)):=by
 rcases Ka hd hx hF with⟨h,e⟩|⟨h,e⟩
 ·obtain⟨b,e1,hb⟩:=H_ (fu:=fu) h.1.1 (by omega)
  have er:=fV hd hx hF h
  cases b with
  |true=>exact .inr (.inl ⟨h,hb.1 rfl,by refine Ok.eq ?_;rw[nW];exact BY e (P8 rfl (BY e1 (VY rfl (MN rfl))))⟩)
  |false=>exact .inr (.inr ⟨h,IS λn=>(by cases hb.2 n),by refine Ok.eq ?_;rw[nW];exact BY e (P8 rfl (BY e1 (P8 rfl (BY er (MN rfl)))))⟩)
 ·exact .inl ⟨h,by refine Ok.eq ?_;rw[nW];exact BY e (VY rf (MN rf))⟩
open Classical in
omit hd hx in
theorem ZE{w:Vl}(h:SV d w):FRs fu w=Ac (if w.sc=E_ then 0 else 1):=by
 refine Ok.eq ?_;rw[FRs]
 refine OC (KE h.scv (by decide) (by decide) (by omega)) λr hr=>P0 (λq=>MN ?_) λq=>MN ?_
 ·rw[if_pos (hr.1 q)]
 ·rw[if_neg λk=>by rw[hr.2 k]at q;cases q]
open Classical in
theorem Py:xD fu v=Ac (Dp d v):=by
 refine Ok.eq ?_;rw[xD]
 rcases PF hd hx hF with⟨h,e⟩|⟨h,nb,e⟩|⟨h,nb,e⟩
 ·have e0:∀n,err d v n=11:=λn=>if_pos h
  refine BY e (TT (by decide) (MN ?_));unfold Dp;rw[e0,if_neg (by decide)]
 ·have e0:∀n,err d v n=12:=λn=>(if_neg (λk=>k h)).trans (if_pos nb)
  refine BY e (TT (by decide) (MN ?_));unfold Dp;rw[e0,if_neg (by decide)]
 ·have sv:=Ms h
  have l1:=sv.n3.1;have l2:=sv.n3.2
  have e0:∀n,err d v n=if(EF v).any=Bp\/0<n/\1<alt (EF v)then 14 else if n=0 then 11 else 0:=λn=>(if_neg (λk=>k h)).trans (if_neg (λk=>k nb))
  have bad:∀z:Int,err d v (EF v).structs.length=z->z≠0->Ok (Ac ((([],[]):Bu),z)) λr=>r=Dp d v:=λz k n=>MN (by unfold Dp;rw[k,if_neg n])
  have ha:((alt (EF v):Nat):Int)=(if(EF v).sc=E_ then 0 else 1)+((EF v).lists.length:Int)+((EF v).structs.length:Int):=by unfold alt;split<;>omega
  have JI:(EF v).any≠Bp->¬(0<(EF v).structs.length/\1<alt (EF v))->Ok (bif Dl (((EF v).structs.length:Int)=0)then Ac ((([],[]):Bu),(11:Int))else Ab (idx (EF v).structs 0) λr=>Ac (r,(0:Int))) λr=>r=Dp d v:=λa b=>by
   refine N_ (λq=>bad 11 ?_ (by decide)) λq=>?_
   ·rw[e0,if_neg (by rintro(k|k);exact a k;exact b k),if_pos (by omega)]
   ·refine Adq (by decide) (by omega) (MN ?_)
    unfold Dp;rw[if_pos (by rw[e0,if_neg (by rintro(k|k);exact a k;exact b k),if_neg (by omega)])]
    exact congrArg (·,(0:Int)) (Sn (by omega))
  refine BY e ?_
  dsimp only
  refine Qd (λk=>k rf) (P0 (λa=>bad 14 ?_ (by decide)) λa=>?_)
  ·rw[e0,if_pos (.inl a)]
  have a:(EF v).any≠Bp:=by simpa using a
  refine N_ (λp=>BY (ZE hF sv) ?_) λp=>JI a λk=>p (by omega)
  generalize hs:(if(EF v).sc=E_ then(0:Int)else 1)=s at ha
  have s0:0<=s/\s<=1:=by rw[<-hs];split<;>omega
  refine Aap (Aap (N_ (λq=>bad 14 ?_ (by decide)) λq=>JI a λk=>q (by omega)))
  rw[e0,if_pos (.inr ⟨by omega,by omega⟩)]
end
section
variable{fu:Nat}
def KV(fu:Nat):Nat->Vl->Prop
 |0,_=>True
 |d+1,v=>((∀s∈v.sc.2.2.2.1.1,Er s)/\∀s∈v.sc.2.2.2.1.2,Er s)/\(N3 v.sc.2.2.2.2/\v.sc.2.2.2.2.length<fu)/\(∀c∈v.structs,∀k∈c.2,N3 k.1/\k.1.length<fu)/\∀x∈kids v,KV fu d x.1/\KV fu d x.2
theorem V1{l:Tb}(h:l.length<fu):Ok (F0 fu l) λr=>r=Bp->l.length<=8/\∀s∈l,s.2.length<=12:=by
 refine VD (λk=> ∀s∈l.take k,s.2.length<=12) l.length (by simp) h (λk nx d b e=>?_) (λnx b=>?_)
 ·refine P4 (Aah d (N_ (λ_=>MN λh=>by grind) λh=>e λs c=>?_));rcases(Af d).1 c with c|rfl;all_goals grind
 ·rw[Al]at b;exact P5 (MN λh=>⟨by grind,b⟩)
theorem T2{s:Sc}(h1:(∀t∈s.2.2.2.1.1,Er t)/\∀t∈s.2.2.2.1.2,Er t)(h2:N3 s.2.2.2.2/\s.2.2.2.2.length<fu):Ok (F1 fu s) λr=>r=Bp->dE 5 12 s:=by
 have no:Ok (Ac Aj) λr=>r=Bp->dE 5 12 s:=MN λh=>by grind
 rw[F1];refine N_ (λa=>N_ (λb=>OC (V1 h2.2) λr d=>MN λh=>?_) λ_=>no) λ_=>no;have:=d h;exact⟨⟨h1.1,h1.2,by omega,by omega⟩,by omega,by omega,h2.1,by omega,this.2⟩
def mB:Nat->Nat
 |0=>61
 |d+1=>1+6*(60+2*mB d)
theorem ng:∀ {d:Nat},d<=3->61<=mB d/\mB d<=1000000
 |0,_=>by decide
 |1,_=>by decide
 |2,_=>by decide
 |3,_=>by decide
 |n+4,h=>by omega
end
section
variable {d : Nat} (hd : d <= 3) (ih : ∀ {fu gu : Nat} {v : Vl} {m : Int}, KV gu d v -> gu + 10 * d <= fu -> 1000000000000 + 10 * d < fu -> (0 <= m /\ m <= 60) -> Ok (F3 fu (v, (d : Int), m)) λr => (1 <= r /\ r <= mB d) /\ (r <= m -> Bd d v))
include hd ih
theorem Iu{fu gu:Nat}{l:List Bb}{m:Int}(h:∀x∈l,KV gu d x.1/\KV gu d x.2)(H:gu+10*d+1<=fu)(G:1000000000000+10*d+1<fu)(I:l.length<=1000)(J: -100000000<=m/\m<=60):
  Ok (F2 fu (l,(d:Int),m)) λr=>(0<=r/\r<=60+2*mB d)/\(r<=m->∀x∈l,I' d x):=by
 have F:=ng (d:=d) (by omega);obtain⟨f,rfl⟩:∃f,fu=f+1:=⟨fu-1,by omega⟩;rw[show F2 (f+1) (l,(d:Int),m)=_ from d2 f l d m];unfold D2;refine Sw (λk (n:Int)=>(0<=n/\n<=60+2*mB d)/\(n<=m->∀x∈l.take k,I' d x)) l.length ⟨⟨by simp,by omega⟩,λ_=>by simp⟩ (by omega) (λk n nx g j q=>?_) (λn nx j=>?_)
 ·obtain⟨⟨o,z⟩,i⟩:=j;have s:=h _ (AN g);refine P4 (N_ (λc=>?_) λc=>MN ⟨⟨o,z⟩,λb=>absurd b c⟩);refine Aah g (Aap (OC (ih (m:=m-n) s.1 (by omega) (by omega) (by omega)) λp w=>?_));obtain⟨⟨B,C⟩,t⟩:=w;refine Aap (N_ (λb=>?_) λb=>q _ ⟨⟨by omega,by omega⟩,λe=>absurd e b⟩);refine Aah g (Aap (OC (ih (m:=m-(n+p)) s.2 (by omega) (by omega) (by omega)) λA y=>?_));obtain⟨⟨D,E⟩,u⟩:=y;refine Aap (q _ ⟨⟨by omega,by omega⟩,λe x a=>?_⟩);rcases(Af g).1 a with a|rfl;· exact i c x a
  ·exact⟨t (by omega),u (by omega)⟩
 ·obtain⟨o,i⟩:=j;rw[Al]at i;exact P5 (MN ⟨o,i⟩)
end
section
variable{gu d:Nat}{v:Vl}
theorem KV.lv(h:KV gu (d+1) v){c:HQ}(hc:c∈v.lists):∀x∈AY c,KV gu d x.1/\KV gu d x.2:=λx a=>
 h.2.2.2 x (AS.2 (.inl (Aad.2 ⟨c,hc,a⟩)))
theorem KV.sv(h:KV gu (d+1) v){c:Bu}(hc:c∈v.structs):∀x∈Bq c,KV gu d x.1/\KV gu d x.2:=λx a=>
 h.2.2.2 x (AS.2 (.inr (Aad.2 ⟨c,hc,a⟩)))
theorem ML:∀ {d fu gu:Nat} {v:Vl} {m:Int},d<=3->KV gu d v->gu+10*d<=fu->1000000000000+10*d<fu->(0<=m/\m<=60)->Ok (F3 fu (v,(d:Int),m)) λr=>(1<=r/\r<=mB d)/\(r<=m->Bd d v)
 |0,fu,gu,v,m,_,_,_,O,S=>by obtain⟨f,rfl⟩:∃f,fu=f+1:=⟨fu-1,by omega⟩;rw[show F3 (f+1) (v,((0:Nat):Int),m)=_ from d3 f v _ m];unfold D3;exact TT (by simp) (Aap (MN ⟨⟨by omega,by have:mB 0=61:=rfl;omega⟩,λh=>by omega⟩))
 |d+1,fu,gu,v,m,hd,h,hg,O,S=>by
  obtain⟨f,rfl⟩:∃f,fu=f+1:=⟨fu-1,by omega⟩;have ih:∀ {fu gu:Nat} {v:Vl} {m:Int},KV gu d v->gu+10*d<=fu->1000000000000+10*d<fu->(0<=m/\m<=60)->Ok (F3 fu (v,(d:Int),m)) λr=>(1<=r/\r<=mB d)/\(r<=m->Bd d v):=λh hg O S=>ML (by omega) h hg O S;have all:∀ {l:List Bb} {q:Int},(∀x∈l,KV gu d x.1/\KV gu d x.2)->l.length<=1000-> -100000000<=q/\q<=60->Ok (F2 f (l,((d+1:Nat):Int)-1,q)) λr=>(0<=r/\r<=60+2*mB d)/\(r<=q->∀x∈l,I' d x):=λu hl F=>by rw[show((d+1:Nat):Int)-1=(d:Int) by omega];exact Iu (by omega) ih u (by omega) (by omega) hl F
  have hB:=ng (d:=d) (by omega);have hB1:mB (d+1)=1+6*(60+2*mB d):=rfl;rw[show F3 (f+1) (v,((d+1:Nat):Int),m)=_ from d3 f v _ m];unfold D3;have j:Ok (Aa Lo.i64 (m+1) (Ac (m+1))) λr=>(1<=r/\r<=mB (d+1))/\(r<=m->Bd (d+1) v):=Aap (MN ⟨⟨by omega,by omega⟩,λh=>by omega⟩);refine P5 (N_ (λ_=>j) λhm1=>OC (T2 h.1 ⟨h.2.1.1,by have:=h.2.1.2;omega⟩) λr1 W=>P0 (λ_=>j) λh1=>N_ (λ_=>j) λh2=>N_ (λ_=>j) λG=>?_);have sc:=W (by simpa using h1);refine Sw (λk (n:Int)=>(1<=n/\n<=1+k*(60+2*mB d))/\(n<=m->∀c∈v.lists.take k,(c.1.length<=3/\c.2.length<=2)/\∀x∈AY c,I' d x)) v.lists.length ⟨⟨by simp,by omega⟩,λ_=>by simp⟩ (by omega) (λk n nx A B T=>?_) (λn nx B=>?_)
  ·obtain⟨⟨j1,j2⟩,J⟩:=B;have hc:=h.lv (AN A);have Q:(k:Int)*(60+2*mB d)<=3*(60+2*mB d):=Aeg (by omega) (by omega);refine P4 (Aah A (N_ (λ_=>j) λK=>Aah A (N_ (λ_=>j) λL=>Aah A ?_)));dsimp only at K L⊢;refine Abw (Aah A (PH (by rw[Acd];omega) (Aap (Abx (by omega) ?_))));refine OC (all (l:=v.lists[k].1++v.lists[k].2) (q:=m-n) hc (by rw[Aac];omega) (by omega)) λr8 h8=>Abx (by omega) (T _ ⟨⟨by omega,?_⟩,λG c p=>?_⟩)
   ·have:((k+1:Nat):Int)*(60+2*mB d)=k*(60+2*mB d)+(60+2*mB d):=by rw[Int.natCast_add,Int.add_mul];omega
    omega
   ·rcases(Af A).1 p with p|rfl;· exact J (by omega) c p
    ·exact⟨⟨by omega,by omega⟩,h8.2 (by omega)⟩
  obtain⟨⟨j1,j2⟩,J⟩:=B;rw[Al]at J;have Q:(v.lists.length:Int)*(60+2*mB d)<=3*(60+2*mB d):=Aeg (by omega) (by omega);refine Qd (by omega) ?_;refine Sw (λk (q:Int)=>(1<=q/\q<=1+3*(60+2*mB d)+k*(60+2*mB d))/\(q<=m->n<=m/\∀c∈v.structs.take k,NV c/\∀x∈Bq c,I' d x)) v.structs.length ⟨⟨j1,by omega⟩,λh=>⟨h,by simp⟩⟩ (by omega) (λk q nx A B T=>?_) (λq nx B=>?_)
  ·obtain⟨⟨i1,i2⟩,I⟩:=B;have E:=AN A;have hc:=h.sv E;have D:=h.2.2.1 _ E;have R:(k:Int)*(60+2*mB d)<=3*(60+2*mB d):=Aeg (by omega) (by omega);refine P4 (N_ (λF=>?_) λF=>MN ⟨⟨by dsimp only;omega,by dsimp only;omega⟩,λh=>absurd h F⟩);refine Aah A ?_;have go:(NV v.structs[k])->(∀w:Int,(0<=w/\w<=60+2*mB d)/\(w<=m-q->∀x∈Bq v.structs[k],I' d x)->Ok (nx (q+w,k+1)) λr=>(1<=r/\r<=mB (d+1))/\(r<=m->Bd (d+1) v)):=λP w hw=>by
    refine T _ ⟨⟨by(try dsimp only);omega,?_⟩,λG=>?_⟩
    ·have:((k+1:Nat):Int)*(60+2*mB d)=k*(60+2*mB d)+(60+2*mB d):=by rw[Int.natCast_add,Int.add_mul];omega
     (try dsimp only);omega
    ·have G:q+w<=m:=G;obtain⟨a1,a2⟩:=I (by omega);refine⟨a1,λc p=>?_⟩;rcases(Af A).1 p with p|rfl;· exact a2 c p
     ·exact⟨P,hw.2 (by omega)⟩
   generalize v.structs[k]=c at E hc D go;refine N_ (λ_=>j) λK=>N_ (λ_=>j) λL=>?_;refine Sw (λi (s:List Bb)=>s=(c.1.take i).map (·.2.2)/\∀g∈c.1.take i,g.1.length<=60) c.1.length ⟨rfl,by simp⟩ (by omega) (λi s X z C U=>?_) (λs X C=>?_)
   ·refine P4 (Aah z (N_ (λ_=>j) λk3=>Aah z (PH (by dsimp only;rw[C.1,Aal,Aba];omega) (U _ ⟨by dsimp only;rw[C.1,IN z,Aak];rfl,λg b=>?_⟩))));rcases(Af z).1 b with b|rfl;· exact C.2 g b
    ·have k3:¬(60:Int)<(c.1[i]).1.length:=k3;omega
   rw[Al]at C;refine Qd (by dsimp only;omega) ?_;refine Sw (λi (s:List Bb)=>s=c.1.map (·.2.2)++(c.2.take i).map (·.2)/\∀g∈c.2.take i,g.1.length<=8/\∀t∈g.1,t.2.length<=12) c.2.length ⟨by rw[C.1];simp,by simp⟩ (by omega) (λi s Y z o V=>?_) (λs Y o=>?_)
   ·have H:=D _ (AN z);refine P4 (Aah z (OC (V1 (Abr H.2 (by omega))) λr19 M=>P0 (λ_=>j) λk4=>Aah z (PH (by dsimp only;rw[o.1,Aac,Aal,Aal,Aba];omega) (V _ ⟨by dsimp only;rw[o.1,IN z,Aak,<-Aaj];rfl,λg b=>?_⟩))));rcases(Af z).1 b with b|rfl;· exact o.2 g b
    ·exact M (by simpa using k4)
   rw[Al]at o;have e:s=Bq c:=o.1;have P:NV c:=⟨by omega,by omega,C.2,?_,λg b=>(D g b).1,λg b t ht=>Aao ((o.2 g b).2 t ht) (by decide)⟩;· refine P5 (Aap (Abx (by omega) ?_));dsimp only;rw[e];refine OC (all (l:=Bq c) (q:=m-q) hc (by unfold Bq;rw[Aac,Aal,Aal];omega) (by omega)) λZ N=>Aap (go P Z N)
   ·refine Aao (T_ (g:=λ_=>11) λg b=>by have:=(o.2 g b).1;omega) ?_;rw[Ol];exact Aao (Agw (by decide) (by omega:c.2.length<=4)) (by decide)
  ·obtain⟨⟨i1,i2⟩,I⟩:=B;rw[Al]at I;refine P5 (MN ⟨⟨i1,?_⟩,λF=>?_⟩);· have R:(v.structs.length:Int)*(60+2*mB d)<=3*(60+2*mB d):=Aeg (by omega) (by omega);dsimp only;omega
   ·obtain⟨h4,h5⟩:=I F;have h6:=J h4;refine⟨sc,⟨by omega,λc hc=>(h6 c hc).1⟩,⟨by omega,λc hc=>(h5 c hc).1⟩,λx u=>?_⟩;rcases AS.1 u with u|u;· obtain⟨c,hc,u⟩:=Aad.1 u;exact(h6 c hc).2 x u
    ·obtain⟨c,hc,u⟩:=Aad.1 u;exact(h5 c hc).2 x u
theorem Xl{v:Bb}{fu:Nat}(h:KV gu 3 v.1/\KV gu 3 v.2)(hg:gu+100<=fu)(hF:1000000010000<fu):Ok (FSm fu v) λr=>r=Bp->I' 3 v:=by
 have ih:∀ {fu gu:Nat} {v:Vl} {m:Int},KV gu 3 v->gu+10*3<=fu->1000000000000+10*3<fu->(0<=m/\m<=60)->Ok (F3 fu (v,((3:Nat):Int),m)) λr=>(1<=r/\r<=mB 3)/\(r<=m->Bd 3 v):=λh hg hF hm=>ML (by omega) h hg hF hm
 exact OC (Iu (d:=3) (l:=[v]) (by simp) ih (λy hy=>by rw[Aaf.1 hy];omega) (by omega) (by omega) (by simp) (by simp)) λr hr=>MN λh2=>hr.2 (of_decide_eq_true h2) v (Aaf.2 rf)
end
section
variable {v : Bb} {fu gu : Nat} (hx : YE fu () = Ac Bp) (h : KV gu 3 v.1 /\ KV gu 3 v.2) (hg : gu + 100 <= fu) (hF : 1000000010000 < fu)
include hx h hg hF
end
section
variable{fu:Nat}{v:Bb}
theorem ZG{l:List Aq}(b:l.length<fu):eA fu (l,l)=Ac Bp:=by refine(Ok.eq ?_);rw[eA];refine Qd (by simp) (VD (λ_=>True) l.length trivial b (λk nx a _ c=>?_) λnx _=>P5 (MN rf));exact P4 (Aah a (Aah a (P8 (by simp) (c trivial))))
theorem Uq(bx:I' 3 v)(hl:(Dp 3 v).1.1.length<=100)(hF:1000000005000<fu):FLb fu v=Ac ((Dp 3 v).1.1.map (·.1)):=by
 refine Ok.eq ?_;rw[FLb]
 refine BY (Pv (by decide) bx hF) ?_
 refine Sw (λk (s:List Aq)=>s=((Dp 3 v).1.1.take k).map (·.1)) (Dp 3 v).1.1.length rf (by omega) (λk s nx hk hJ hn=>?_) (λs nx hJ=>?_)
 ·refine P4 (Aah hk (PH (by dsimp only;rw[hJ,Aal,Aba];unfold Ah;omega) (hn _ ?_)))
  rw[hJ,IN hk,Aak];rfl
 ·refine P5 (MN ?_)
  rw[hJ,Aar]
theorem Up(bx:I' 3 v)(hl:(Dp 3 v).1.1.length<=100)(hF:1000000005000<fu):FRb fu v=Ac ((Dp 3 v).1.1.map (·.1)):=by
 refine Ok.eq ?_;rw[FRb]
 refine BY (Py (by decide) bx hF) ?_
 refine Sw (λk (s:List Aq)=>s=((Dp 3 v).1.1.take k).map (·.1)) (Dp 3 v).1.1.length rf (by omega) (λk s nx hk hJ hn=>?_) (λs nx hJ=>?_)
 ·refine P4 (Aah hk (PH (by dsimp only;rw[hJ,Aal,Aba];unfold Ah;omega) (hn _ ?_)))
  rw[hJ,IN hk,Aak];rfl
 ·refine P5 (MN ?_)
  rw[hJ,Aar]
open Classical in
noncomputable def nG(v:Bb)(s:Aq):Bool:=Dl (ID 3 v/\(v.1.any=Bp\/∃c∈v.1.structs,NB (vw c s).1.1))
open Classical in
theorem Fy{v:Bb}{s:Aq} :nG v s=Bp↔ID 3 v/\(v.1.any=Bp\/∃c∈v.1.structs,NB (vw c s).1.1):=by unfold nG;exact decide_eq_true_iff
theorem kY{s:Aq}(h:ID 3 v){c:Bu}(hc:c∈v.1.structs):∃d,SV (d+1) (vw c s).1.1:=by refine Q5 (P:=λx=> ∃d,SV (d+1) x.1) ⟨0,Zj 0⟩ λx hx=>⟨1,((h.1.1).sv hc x hx).1⟩
end
section
variable {v : Bb} {s : Aq} {fu : Nat} (bx : I' 3 v) (hs : s.length <= 1000) (hF : 1000000005000 < fu)
include bx hs hF
theorem UW:FAl fu (v,s)=Ac (nG v s):=by
 refine Ok.eq ?_;rw[FAl]
 rcases Pp (by decide) bx hF with⟨h,e⟩|⟨h,e⟩
 ·have st:=bx.1.2.2.1
  refine BY e (P8 rf (VD (λk=> ∀c∈v.1.structs.take k,¬NB (vw c s).1.1) v.1.structs.length (by simp) (by have:=st.1;omega) (λk nx hk hJ hn=>?_) (λnx hJ=>?_)))
  ·have m:=AN hk
   obtain⟨d,sv⟩:=kY (s:=s) h m
   refine P4 (Aah hk (BY (Po (st.2 _ m) hs (by omega)) (OC (Dy sv.sb (by omega)) λb hb=>P0 (λq=>MN ?_) λq=>hn λc hc=>?_)))
   ·exact(Fy.2 ⟨h, .inr ⟨_,m,IS λn=>by rw[hb.2 n]at q;cases q⟩⟩).symm
   ·rcases(Af hk).1 hc with hc|rfl
    ·exact hJ c hc
    ·exact hb.1 (by simpa using q)
  ·rw[Aar]at hJ
   refine P5 (MN ?_)
   cases ha:v.1.any with
   |true=>exact(Fy.2 ⟨h, .inl ha⟩).symm
   |false=>
    cases hw:nG v s with
    |false=>rfl
    |true=>
     rcases(Fy.1 hw).2 with k|⟨c,hc,k⟩
     ·rw[ha]at k;cases k
     ·exact absurd k (hJ c hc)
 ·refine BY e (VY rf (MN ?_))
  cases hw:nG v s with
  |false=>rfl
  |true=>exact absurd (Fy.1 hw).1 h
theorem UU:FRw fu (v,s)=Ac (nG v s):=by
 refine Ok.eq ?_;rw[FRw]
 rcases Ka (d:=3) (by decide) bx hF with⟨h,e⟩|⟨h,e⟩
 ·have st:=bx.1.2.2.1
  refine BY e (P8 rf (P0 (λa=>MN (Fy.2 ⟨h, .inl a⟩).symm) λa=>VD (λk=> ∀c∈v.1.structs.take k,¬NB (vw c s).1.1) v.1.structs.length (by simp) (by have:=st.1;omega) (λk nx hk hJ hn=>?_) (λnx hJ=>?_)))
  ·have m:=AN hk
   obtain⟨d,sv⟩:=kY (s:=s) h m
   refine P4 (Aah hk (BY (L6 (st.2 _ m) hs (by omega)) (OC (H_ sv (by omega)) λb hb=>P0 (λq=>MN ?_) λq=>hn λc hc=>?_)))
   ·exact(Fy.2 ⟨h, .inr ⟨_,m,IS λn=>by rw[hb.2 n]at q;cases q⟩⟩).symm
   ·rcases(Af hk).1 hc with hc|rfl
    ·exact hJ c hc
    ·exact hb.1 (by simpa using q)
  ·rw[Aar]at hJ
   refine P5 (MN ?_)
   cases hw:nG v s with
   |false=>rfl
   |true=>
    rcases(Fy.1 hw).2 with k|⟨c,hc,k⟩
    ·rw[a]at k;cases k
    ·exact absurd k (hJ c hc)
 ·refine BY e (VY rf (MN ?_))
  cases hw:nG v s with
  |false=>rfl
  |true=>exact absurd (Fy.1 hw).1 h
end
theorem XL{v:Bb}{s:Aq}{fu gu:Nat}(hx:YE fu () =Ac Bp)(h:KV gu 3 v.1/\KV gu 3 v.2)(hg:gu+100<=fu)(hF:1000000010000<fu):FLa fu (v,s)=Ac Bp:=by
 refine Ok.eq ?_;rw[FLa]
 have ex:Ok (Ab (YE fu ()) λr2=>Ac r2) λr=>r=Bp:=BY hx (MN rfl)
 refine OC (Xl h hg hF) λr hr=>P0 (λ_=>ex) λq=>N_ (λ_=>ex) λhs=>?_
 have bx:=hr (by simpa using q)
 have hl:(Dp 3 v).1.1.length<=4:=by
  by_cases e:(Dp 3 v).2=0
  ·have k:=(Rb (d:=3) (v:=v) (c:=(Dp 3 v).1) (e:=(Dp 3 v).2) rfl).2 e
   exact((qw (d:=2) k.1 k.2.2.1).1 _ k.2.2.2).1
  ·rw[(Rb (d:=3) (v:=v) (c:=(Dp 3 v).1) (e:=(Dp 3 v).2) rfl).1 e];exact Abh _
 exact BY (Uq bx (by omega) (by omega)) (BY (Up bx (by omega) (by omega)) (BY (ZG (by rw[Aal];omega)) (VY rf (BY (UW bx (by omega) (by omega)) (BY (UU bx (by omega) (by omega)) (VY (by simp) ex))))))
end Go.GL
namespace Go.GV
open Go Go.GK Go.RowKit Go.Deep
section
variable {H : Type} {enc : Gq × BZ -> H} {P : GN} {w : IU} {base : Nat} {spare : Nat -> Bool} {held : Bool} {α β : Type}
section
variable{N:Nat}{t:Gq}{c:Cd α}{q:α->Prop}{off:Nat}{f:Field}{fs:Array Field}
def G5(enc:Gq×BZ->H)(P:GN)(w:IU)(base:Nat)(spare:Nat->Bool)(held:Bool)(N:Nat)(c:Cd α)(q:α->Prop)(t:Gq):Prop:= ∀n,n<N->∀cs y,cs.length=c.sz->DataW.trod enc P w base spare held n t cs=Ac y->∃a,c.BP (Hp.of w) a cs/\q a
theorem G5.le{M:Nat}(h:G5 enc P w base spare held N c q t)(e:M<=N):G5 enc P w base spare held M c q t:=
 λn f a y b d=>h n (by omega) a y b d
theorem G5.imp{b:α->Prop}(h:G5 enc P w base spare held N c q t)(k:∀a,q a->b a):G5 enc P w base spare held N c b t:=
 λn i d y g j=>by obtain⟨a,e,f⟩:=h n i d y g j;grind
theorem G5.i64(ht:P.underlying t=Ac (.int .i64)):G5 enc P w base spare held N rG GK.DW t:=λn _ d y _ c=>by
 obtain⟨m,a,_,b⟩:=DataW.trod_int ht c;have e: -9223372036854775808<=m/\m<=9223372036854775807:=by grind[Lit.wf,Lo.min,Lo.max,Lo.signed,Lo.bits]
 exact⟨m,a,by omega⟩
theorem G5.u8(ht:P.underlying t=Ac (.int .u8)):G5 enc P w base spare held N cU8 (λm=>0<=m/\m<=255) t:=λn _ e y _ d=>by
 obtain⟨m,b,_,c⟩:=DataW.trod_int ht d;have a:0<=m/\m<=255:=by grind[Lit.wf,Lo.min,Lo.max,Lo.signed,Lo.bits]
 exact⟨m,⟨b,a⟩,a⟩
theorem G5.b(ht:P.underlying t=Ac .bool):G5 enc P w base spare held N cB (λ_=>True) t:=λn _ d y _ c=>by obtain⟨b,a,_⟩:=DataW.trod_bool ht c;exact⟨b,a,trivial⟩
theorem G5.s(ht:P.underlying t=Ac .string):G5 enc P w base spare held N cS (λ_=>True) t:=λn _ c y _ b=>by obtain⟨s,a,_⟩:=DataW.trod_string ht b;exact⟨s.data.toList,a,trivial⟩
theorem G5.sl{e:Gq}(ht:P.underlying t=Ac (.slice e))(G:P.cellsOf e=c.sz)(h:G5 enc P w base spare held N c q e):G5 enc P w base spare held (N+1) (cL c) (λl=> ∀x∈l,q x) t:=λn hn X y _ R=>by
 have A:∃v,X=[v]/\∃l:List α,G4 c (Hp.of w) l v/\∀x∈l,q x:=by
  rcases DataW.trod_slice ht R with⟨E,_⟩|⟨a,len,cap,f,W,n',hfu,E,_,hb,hl,hm,V,K,_,_⟩;· exact⟨_,E,[],G4.nil,by simp⟩
  ·obtain⟨l,z,C⟩:=Li (Q:=λi (b:α×List BZ)=>(c.BP (Hp.of w) b.1 b.2/\q b.1)/\∀j u,b.2[j]?=Ac u->w.cell? (a.add (i*c.sz+j))=Ac u) len λi r=>by
    have J:=K i r;rw[show f[i]?=Ac f[i] by simp]at J;simp only[Agf]at J;obtain⟨s,I,O⟩:=J;obtain⟨hbl,d,g⟩:=IU.cells?_some I;rw[G]at d;obtain⟨b,Z⟩:=h n' (by omega) s _ d O;refine⟨(b,s),Z,λj u T=>?_⟩;grind[List.getElem?_eq_some_iff,C8]
   have F:∀x∈l,c.BP (Hp.of w) x.1 x.2/\q x.1:=λx p=>by obtain⟨i,r,rfl⟩:=Aat p;exact(C i _ (GB r)).1
   have o:∀x∈l,x.2.length=c.sz:=λx p=>c.len (F x p).1;refine⟨_,E,l.map (·.1),⟨⟨l.flatMap (·.2),⟨by grind[KA], .inr ⟨a,cap,by rw[Aal,z],by rw[Aal,z];exact hl⟩,λk u U=>?_⟩,WX λx p=>(F x p).1⟩,by rw[Aal,z];unfold maxLen at hm;omega⟩,λx p=>?_⟩
   ·have m:k<l.length*c.sz:=by rw[<-KA o];exact(IT.1 U).1
    have M:0<c.sz:=Nat.pos_of_ne_zero λh=>by rw[h]at m;simp at m
    have r:k/c.sz<l.length:=Nat.div_lt_of_lt_mul (by rw[Ada];exact m);have B:k=k/c.sz*c.sz+k %c.sz:=by rw[Ada];exact(Agr k c.sz).symm
    have S:=OU o (k/c.sz) (k %c.sz) l[k/c.sz] (GB r) (Nat.mod_lt _ M);rw[<-B,U]at S;have:=(C (k/c.sz) l[k/c.sz] (GB r)).2 (k %c.sz) u S.symm;rw[<-B]at this;exact Ajs this
   grind
 obtain⟨v,z,l,C,Y⟩:=A;exact⟨l,⟨v,z,C⟩,Y⟩
def e_(enc:Gq×BZ->H)(P:GN)(w:IU)(base:Nat)(spare:Nat->Bool)(held:Bool)(N:Nat)(c:Cd α)(q:α->Prop)(off:Nat)(fs:List Field):Prop:= ∀n,n<N->∀cs:List BZ,(∀f∈fs,∃y,DataW.trod enc P w base spare held n f.type ((cs.drop f.offset).take (P.cellsOf f.type))=Ac y)->off+c.sz<=cs.length->∃a,c.BP (Hp.of w) a ((cs.drop off).take c.sz)/\q a
theorem e_.one(h:G5 enc P w base spare held N c q f.type)(b:P.cellsOf f.type=c.sz)(g:f.offset=off):e_ enc P w base spare held N c q off [f]:=λn e i d j=>by obtain⟨y,a⟩:=d f (by simp);rw[b,g]at a;exact h n e _ y (by grind) a
theorem e_.cons{d:Cd β}{m:β->Prop}{fs:List Field}(h:G5 enc P w base spare held N c q f.type)(s:P.cellsOf f.type=c.sz)(t:f.offset=off)(u:e_ enc P w base spare held N d m (off+c.sz) fs):
  e_ enc P w base spare held N (cP c d) (λx=>q x.1/\m x.2) off (f::fs):=λn l e j k=>by
 have k:off+(c.sz+d.sz)<=e.length:=k;obtain⟨a,p,v⟩:=e_.one h s t n l e (λg i=>j g (by grind)) (by omega);obtain⟨b,r,y⟩:=u n l e (λg i=>j g (by grind)) (by omega);refine⟨(a,b),⟨_,_,?_,p,r⟩,v,y⟩;show(e.drop off).take (c.sz+d.sz)=_;rw[List.take_add,Ade]
theorem G5.st(ht:P.underlying t=Ac (.struct fs))(h:e_ enc P w base spare held N c q 0 fs.toList):G5 enc P w base spare held (N+1) c q t:=λn x l y v r=>by
 obtain⟨k,s,o,_,j,d,p⟩:=DataW.trod_struct ht r;obtain⟨a,e,u⟩:=h s (by omega) l (λf m=>by obtain⟨i,g,rfl⟩:=Aat m;have:=p i fs.toList[i] (by simp);grind) (by omega);grind
theorem G5.xq{r:Reach}{b:Nat}{v:BZ}{d:DataW H}{p:List MemPlace}(ht:P.underlying t=Ac (.struct fs))(e:P.cellsOf t=c.sz)(h:∀N,G5 enc P w base spare held N c q t)
  (k:BZ.okWide P w r b t v) (f:DataW.Trod enc P w base spare held t v d p):∃cs:Array BZ,∃l,v= .agg cs/\c.BP (Hp.of w) l cs.toList/\q l:=by
 obtain⟨cs,rfl,j⟩:=Go.WideShapes.okWide_struct ht k;obtain⟨a,g⟩:=f;obtain⟨l,i⟩:=h (a+1) a (by omega) cs.toList _ (by grind) g;grind
end
end
def dJ(q:Vl->Prop):(t:Ty)->(t.den λ_=>Vl)->Prop
 | .int .i64,n=>GK.DW n
 | .int .u8,n=>(0:Int)<=(show Int from n)/\(show Int from n)<=255
 | .sl t,l=> ∀x∈(show List (t.den λ_=>Vl)from l),dJ q t x
 | .st t,x=>dJ q t x
 | .pr a b,x=>dJ q a x.1/\dJ q b x.2
 | .nm 0,x=>q x
 |_,_=>True
def QV:Nat->Vl->Prop
 |0,_=>True
 |d+1,v=>dJ (QV d) uZ (vx v)
mutual
def Lq(P:GN)(tn:Gq):Nat->Ty->Gq->Bool
 |0,_,_=>Aj
 |k+1, .int .i64,u=>match P.underlying u with|some (.int .i64)=>Bp|_=>Aj
 |k+1, .int .u8,u=>match P.underlying u with|some (.int .u8)=>Bp|_=>Aj
 |k+1, .bool,u=>match P.underlying u with|some .bool=>Bp|_=>Aj
 |k+1, .str,u=>match P.underlying u with|some .string=>Bp|_=>Aj
 |k+1, .sl t,u=>match P.underlying u with|some (.slice e)=>Hh (P.cellsOf e) (YW 9 t)&&Lq P tn k t e|_=>Aj
 |k+1, .st t,u=>match P.underlying u with|some (.struct fs)=>v8 P tn k t 0 fs.toList|_=>Aj
 |k+1, .nm 0,u=>Hh u tn
 |_,_,_=>Aj
def v8(P:GN)(tn:Gq):Nat->Ty->Nat->List Field->Bool
 |0,_,_,_=>Aj
 |k+1,t,off,[f]=>Lq P tn k t f.type&&(Hh (P.cellsOf f.type) (YW 9 t)&&Hh f.offset off)
 |k+1, .pr a b,off,f::fs=>Lq P tn k a f.type&&(Hh (P.cellsOf f.type) (YW 9 a)&&(Hh f.offset off&&v8 P tn k b (off+YW 9 a) fs))
 |_,_,_,_=>Aj
end
section
variable {H : Type} {enc : Gq × BZ -> H} {P : GN} {w : IU} {base : Nat} {spare : Nat -> Bool} {held : Bool}
theorem UL(t:Ty):(Lx WJ t).sz=YW 9 t:=FL (s:=9) rfl t
mutual
theorem LK{tn:Gq}{q:Vl->Prop}{N:Nat}(h:G5 enc P w base spare held N WJ q tn):∀ {k:Nat} {t:Ty} {u:Gq},Lq P tn k t u=Bp->G5 enc P w base spare held N (Lx WJ t) (dJ q t) u
 |0,_,_,e=>by cases e
 |k+1, .int .i64,u,e=>by
  unfold Lq at e;split at e
  ·rename_i hu;exact G5.i64 hu
  grind
 |k+1, .int .u8,u,e=>by
  unfold Lq at e;split at e
  ·rename_i hu;exact G5.u8 hu
  grind
 |k+1, .bool,u,e=>by
  unfold Lq at e;split at e
  ·rename_i hu;exact G5.b hu
  grind
 |k+1, .str,u,e=>by
  unfold Lq at e;split at e
  ·rename_i hu;exact G5.s hu
  grind
 |k+1, .sl t,u,e=>by
  unfold Lq at e;split at e
  ·rename_i x hu
   rw[AT]at e
   exact(G5.sl hu (by grind[UL,Nat.eq_of_beq_eq_true]) (LK h e.2)).le (Agx _)
  grind
 |k+1, .st t,u,e=>by
  unfold Lq at e;split at e
  ·rename_i fs hu
   exact(G5.st (c:=Lx WJ t) (q:=dJ q t) hu (Ud h e)).le (Agx _)
  trivial
 |k+1, .nm 0,u,e=>by
  have:=AI e
  subst this;exact h
 |k+1, .nm (n+1),u,e=>by cases e
 |k+1, .pr _ _,u,e=>by cases e
 |k+1, .un,u,e=>by cases e
 |k+1, .bs,u,e=>by cases e
 |k+1, .ar _ _,u,e=>by cases e
 |k+1, .int .i8,u,e=>by cases e
 |k+1, .int .i16,u,e=>by cases e
 |k+1, .int .i32,u,e=>by cases e
 |k+1, .int .u16,u,e=>by cases e
 |k+1, .int .u32,u,e=>by cases e
 |k+1, .int .u64,u,e=>by cases e
theorem Ud{tn:Gq}{q:Vl->Prop}{N:Nat}(h:G5 enc P w base spare held N WJ q tn):∀ {k:Nat} {t:Ty} {off:Nat} {fs:List Field},v8 P tn k t off fs=Bp->e_ enc P w base spare held N (Lx WJ t) (dJ q t) off fs
 |0,_,_,_,e=>by cases e
 |k+1,t,off,[],e=>by cases t<;>(cases e)
 |k+1,t,off,[f],e=>by
  unfold v8 at e
  simp only[AT]at e
  exact e_.one (LK h e.1) (by rw[UL];exact AI e.2.1) (AI e.2.2)
 |k+1, .pr a b,off,f::g::fs,e=>by
  unfold v8 at e
  simp only[AT]at e
  have hs:YW 9 a=(Lx WJ a).sz:=(UL a).symm
  exact e_.cons (LK h e.1) (by rw[<-hs];exact AI e.2.1) (AI e.2.2.1) (hs▸Ud h e.2.2.2)
 |k+1, .int _,off,f::g::fs,e=>by cases e
 |k+1, .bool,off,f::g::fs,e=>by cases e
 |k+1, .str,off,f::g::fs,e=>by cases e
 |k+1, .sl _,off,f::g::fs,e=>by cases e
 |k+1, .st _,off,f::g::fs,e=>by cases e
 |k+1, .nm _,off,f::g::fs,e=>by cases e
 |k+1, .un,off,f::g::fs,e=>by cases e
 |k+1, .bs,off,f::g::fs,e=>by cases e
 |k+1, .ar _ _,off,f::g::fs,e=>by cases e
end
theorem ll{tn:Gq}{k:Nat}(e:Lq P tn (k+1) uZ tn=Bp):∀(N d:Nat),G5 enc P w base spare held N WJ (QV d) tn
 |0,_=>λn f=>by omega
 |N+1,d=>by
  have step:∀d,G5 enc P w base spare held (N+1) WJ (QV (d+1)) tn:=λd=>by
   have b:=e;unfold Lq at b;split at b;· rename_i o l;have:=G5.st (c:=Lx WJ (.pr .bool (.pr scB (.pr (.sl lcB) (.sl oo))))) (q:=dJ (QV d) (.pr .bool (.pr scB (.pr (.sl lcB) (.sl oo))))) l (Ud (ll e N d) b);intro n f g y j m;obtain⟨a,h,i⟩:=this n f g y j m;exact⟨vlI a,Zi.2 h,i⟩
   grind
  cases d with
  |zero=>exact(step 0).imp λ_ _=>trivial
  |succ d=>grind
end
end Go.GV
namespace Go.GL
open Go Go.GV Go.GK Go.Proofs
theorem Qo{α:Type}{P:Nat->α->Prop} :∀ {l:List α},(∀x∈l,∃n,∀g,n<=g->P g x)->∃n,∀g,n<=g->∀x∈l,P g x
 | [],_=>⟨0,λ_ _ x hx=>by grind⟩
 |x::l,h=>by
  obtain⟨n,hn⟩:=h x (Aau ..)
  obtain⟨m,hm⟩:=Qo λy hy=>h y (Aag _ hy)
  refine⟨max n m,λg hg y hy=>?_⟩
  grind
theorem PG:∀ {d:Nat} {v:Vl},QV d v->∃n,∀g,n<=g->KV g d v
 |0,_,_=>⟨0,λ_ _=>trivial⟩
 |d+1,v,h=>by
  obtain⟨_,⟨_,_,_,⟨hi,hf⟩,hs⟩,hl,ht⟩:=h
  have qx:∀x∈kids v,QV d x.1/\QV d x.2:=λx hx=>by
   rcases AS.1 hx with hx|hx
   ·obtain⟨c,hc,hx⟩:=Aad.1 hx
    rcases AS.1 hx with hx|hx
    ·exact(hl c hc).1 x hx
    ·exact(hl c hc).2 x hx
   ·obtain⟨c,hc,hx⟩:=Aad.1 hx
    rcases AS.1 hx with hx|hx
    ·obtain⟨f,hf,rfl⟩:=By.1 hx
     exact((ht c hc).1 f hf).2.2
    ·obtain⟨f,hf,rfl⟩:=By.1 hx
     exact((ht c hc).2 f hf).2
  obtain⟨n1,k1⟩:=Qo (P:=λg x=>KV g d x.1/\KV g d x.2) (l:=kids v) λx hx=>by
   obtain⟨n,hn⟩:=PG (qx x hx).1
   obtain⟨m,hm⟩:=PG (qx x hx).2
   exact⟨max n m,λg hg=>⟨hn g (by omega),hm g (by omega)⟩⟩
  obtain⟨n2,k2⟩:=Qo (P:=λg (c:Bu)=> ∀k∈c.2,k.1.length<g) (l:=v.structs) λc _=>by
   obtain⟨n,hn⟩:=Qo (P:=λg (k:Tb×Bb)=>k.1.length<g) (l:=c.2) λk _=>⟨k.1.length+1,λg hg=>by omega⟩
   exact⟨n,hn⟩
  have bt:∀(l:Tb),dJ (QV d) a6 l->N3 l:=λl h s hs e he=>by
   have:=(h s hs).2 e he
   exact⟨this.1,this.2.1⟩
  refine⟨max (max n1 n2) (v.sc.2.2.2.2.length+1),λg hg=>⟨⟨λs hs=>hi s hs,λs hs=>hf s hs⟩,⟨bt _ hs,by omega⟩,λc hc k hk=>⟨bt _ ((ht c hc).2 k hk).1,k2 g (by omega) c hc k hk⟩,k1 g (by omega)⟩⟩
end Go.GL
namespace Go.GV
open Go Go.GK Go.RowKit Go.Deep
theorem vC{f:Nat}{ps:List Ty}{F:BJ NL (NN ps).hs->Option (BJ NL (NN [.bool]).hs)}{x:BJ NL (NN ps).hs}{H:Hp}{vs:List BZ}(h:Cr TP f (qQ ps [.bool] F))(e:F x=Ac (show Bool from Bp))(hG:NL.inv H)(hl:vs.length=(zK ps 0).length)(hv:∀p∈zK ps 0,∃v,vs[p.1]?=Ac v/\(inst NL (NN ps).hs x p.2).is [] η0 H v):
  Ts TP f vs H [] (λv _ O'=>O'=[]/\v= .bool Bp):=by
 refine(h.ok x _ e η0 H [] [] vs Afc ⟨hl,hv,rfl,λp hp=>(by cases hp),hG⟩).mono λv H' O' _ ⟨η,Y,h1,h2⟩=>?_
 have hY:Y=[]:=by
  cases Y with
  |nil=>rfl
  |cons p l=>rcases h2.ks p.1 (Aau ..)with k|k<;>cases k
 subst hY
 obtain⟨cs,h3,h4⟩:=h2.res
 have h3:cs=[.bool Bp]:=h3
 have h4:cs=[v]:=h4
 rw[h3]at h4
 cases h4
 exact⟨h1,rf⟩
end Go.GV
namespace Go.GL
open Go Go.GV Go.GK Go.Proofs
theorem walk(W:IU)(hG:HP Tryz.prog (Hp.of W)){c0:Array BZ}{x0:Vl×Vl}(hl0:(Lx WJ Xa).BP (Hp.of W) x0 c0.toList)(hq0:dJ (QV 3) Xa x0)(s1:Aq):
  Ts Tryz.prog 7 [.agg c0,sv s1] (Hp.of W) [] (λv H' O'=>O'=[]/\v= .bool Bp):=by
 obtain⟨n0,hn0⟩:=PG (show QV 3 x0.1 from hq0.1)
 obtain⟨m0,hm0⟩:=PG (show QV 3 x0.2 from hq0.2)
 obtain⟨fu,h⟩:∃fu,FLa fu (x0,s1)=Ac Bp:=⟨(max m0 n0)+1000000010100,XL (gu:=max m0 n0) rfl ⟨hn0 _ (by omega),hm0 _ (by omega)⟩ (by omega) (by omega)⟩
 refine vC (Jq fu) h hG rf λp hp=>?_
 rcases Aav.1 hp with rfl|hp
 ·exact⟨_,rf,c0.toList,hl0,by simp[CL,Ty.agg]⟩
 rcases Aav.1 hp with rfl|hp
 ·exact⟨_,rf,[sv s1],rf,rf⟩
 cases hp
end Go.GL
namespace Go.Proofs.YtimbbibpghnipaaGreatDoor
open Go
theorem wb:(Tryz.prog.funcs.toList.all λf=> !f.goes)=Bp:=by kernel_rfl
theorem gA(g:Nat):(Tryz.prog.funcs[g]?).any Func.goes=Aj:=by
 cases h:Tryz.prog.funcs[g]? with
 |none=>rfl
 |some fn=>
  have:=No.1 wb fn (Array.mem_toList_iff.2 (Array.mem_of_getElem? h))
  simpa using this
theorem ak:Tryz.prog.funcs.any Func.goes=Aj:=by
 rw[<-Array.any_toList]
 cases h:Tryz.prog.funcs.toList.any Func.goes with
 |false=>rfl
 |true=>
  obtain⟨fn,h1,h2⟩:=Aca.1 h
  have:=No.1 wb fn h1
  rw[h2]at this
  cases this
theorem pN(f:FuncId):Tryz.prog.goes f=Aj:=by
 unfold GN.goes
 rw[ak,Bool.and_false,Alk]
 cases h:((Tryz.prog.closure f).any λg=>(Tryz.prog.funcs[g]?).any Func.goes)with
 |false=>rfl
 |true=>
  simp only[gA]at h
  simp at h
theorem pO:Aj=Rows.lookupLabelsRow.goesBy Tryz.pinned.checked.prog:=by
 have e:Rows.lookupLabelsRow.goesBy Tryz.prog=((Tryz.prog.funcNamed Rows.lookupLabelsRow.func).any Tryz.prog.goes||false):=rfl
 refine Eq.trans ?_ e.symm
 generalize Tryz.prog.funcNamed Rows.lookupLabelsRow.func=o
 cases o with
 |none=>rfl
 |some f=>rw[Option.any_some,pN];rfl
end Go.Proofs.YtimbbibpghnipaaGreatDoor
