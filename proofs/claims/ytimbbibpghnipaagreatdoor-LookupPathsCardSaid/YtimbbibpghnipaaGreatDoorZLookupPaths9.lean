/- Part 9 of the texts of this claim: what its theorem leans on. -/
import Derived.Test.YtimbbibpghnipaaGreatDoorZLookupPaths8
import Derived.Test.YtimbbibpghnipaaGreatDoorZLookupPaths7
import Derived.Test.YtimbbibpghnipaaGreatDoorZLookupPaths4
import Derived.LaidMore
import Derived.Test.YtimbbibpghnipaaGreatDoorRows
import Derived.KernelRfl
import GoSem.ClaimGoes
set_option linter.all false
open Option renaming some→Ac,none→C7
open Bool renaming false→Aj,true→Bp
open Go renaming Value→BZ,Operand→Dn,TypeId→Gs,Program→GQ,World→IW,execOp→Kt,Oper→K_,IntKind→Lr
open Decidable renaming decide→Di
open List renaming length→EW,replicate→Uh,range→a_,set→lD
open Nat renaming beq→Hj
open Int renaming toNat→aC,natAbs→w8
open Go.Op renaming bytesLess→gq
namespace Go.GL
open Go Go.GV Go.GK Go.Proofs
section
variable{d:Nat}{v:Vl}{c:Bz}{fu:Nat}
theorem Q'{s:Aq}(h:NY c)(C:s.length<=1000)(B:1000000000000<fu):eC fu (c,s)=Ac (vw c s):=by
 have D:=h.nf;have E:=h.nc;refine(Ok.eq ?_);rw[eC];refine V_ (λk=> ∀i (d:i<c.1.length),i<k->Di (c.1[i].1=s)=Aj) c.1.length (λi _ h=>by omega) (by omega) (λk nx l q x=>?_) (λnx q=>?_)
 ·refine P7 (Aah l (Ob (λo=>Aah l (Aah l (MP ?_))) λo=>x λi d v=>?_));· have e:c.1.find? (λf=>Di (f.1=s))=Ac c.1[k]:=Acn.2 ⟨decide_eq_true o,k,l,rf,λj w=>by simp only[q j (by omega) w];rfl⟩;unfold vw;rw[e]
  ·rcases Aam i k with p|p;· exact q i d p
   ·obtain rfl:i=k:=by omega
    exact decide_eq_false o
 ·have e:c.1.find? (λf=>Di (f.1=s))=C7:=Acu.2 λf u=>by
   obtain⟨i,d,rfl⟩:=Aat u;rw[q i d d];decide
  refine Qh (by omega) ?_;refine V_ (λk=> ∀i (d:i<c.2.length),i<k->I6 c.2[i].1 s=Aj) c.2.length (λi _ h=>by omega) (by omega) (λk nx l g x=>?_) (λnx g=>?_)
  ·have m:=AN l;have A:=h.each _ m;have y:eD fu (c.2[k].1,s)=Ac (I6 c.2[k].1 s):=(Tz (n:=14641) (h.bt _ m) ⟨A,λt z=>by have:=h.ed _ m t z;omega⟩ (by omega) (by omega) (by omega) (by omega)).eq;refine P7 (Aah l (BY y (P3 (λo=>Aah l (MP ?_)) λo=>x λi d v=>?_)));· have r:c.2.find? (λk=>I6 k.1 s)=Ac c.2[k]:=Acn.2 ⟨o,k,l,rfl,λj w=>by simp only[g j (by omega) w];rfl⟩;unfold vw;rw[e,r]
   ·rcases Aam i k with p|p;· exact g i d p
    ·obtain rfl:i=k:=by omega
     exact o
  ·have r:c.2.find? (λk=>I6 k.1 s)=C7:=Acu.2 λf u=>by
    obtain⟨i,d,rfl⟩:=Aat u;rw[g i d d];decide
   refine P8 (MP ?_);unfold vw;rw[e,r];rfl
theorem bE{c:GZ}{i:Nat} :Ok (YK fu (c,(i:Int))) λr=>r.1=X4 c i:=by
 rw[YK];unfold X4;refine P8 (Ob (λh=>Aah (by omega) (MP ?_)) λh=>?_);· rw[IS (by omega)]
 ·rw[Acz (by omega)];cases hc:c.2 with
  |nil=>exact Qh (by simp) (MP rfl)
  |cons x l=>exact T3 (by simp) (BY (a:=x) rfl (MP rfl))
def SV(d:Nat)(v:Vl):Prop:=Bd d v/\D_ d v
def SW(d:Nat)(x:A9):Prop:=SV d x.1/\SV d x.2
theorem Dt{k m:Nat}{s:Sc}(h:dQ k m s)(a:vz s):Ij k m s:=⟨a.1,h.n1,h.n2,⟨a.2.1,a.2.2,rfl,h.sh.1⟩⟩
theorem Vy(d:Nat):SV (d+1) v0:=⟨(Ma d).1,⟨λh=>(by cases h),Q8,λc hc=>(by cases hc),λc hc=>(by cases hc)⟩,λx a=>by cases a⟩
theorem SV.qF(h:SV (d+1) v):∀x∈kids v,SW d x:=λx a=>⟨⟨(h.1.2.2.2 x a).1,(h.2.2 x a).1⟩,⟨(h.1.2.2.2 x a).2,(h.2.2 x a).2⟩⟩
theorem SV.lv(h:SV (d+1) v){c:GZ}(hc:c∈v.lists):∀x∈AY c,SW d x:=λx a=>h.qF x (AS.2 (.inl (Aad.2 ⟨c,hc,a⟩)))
theorem SV.sv(h:SV (d+1) v)(hc:c∈v.structs):∀x∈Br c,SW d x:=λx a=>h.qF x (AS.2 (.inr (Aad.2 ⟨c,hc,a⟩)))
theorem SW.v0{x:A9}(h:SW d x):SW d (v0,v0):=by
 cases d with
 |zero=>trivial
 |succ d=>exact⟨Vy d,Vy d⟩
end
section
variable {d : Nat} (ih : ∀ {fu : Nat} {a b : Vl}, SV d a -> SV d b -> 1000000000000 + 20 * d < fu -> Ok (TJ fu (a, b)) λr => r = Bp ↔ Df d a b)
section
variable{fu:Nat}
include ih
theorem J2{x y:A9}(e:SW d x)(g:SW d y)(j:1000000000000+20*d+1<fu):Ok (NG fu (x,y)) λr=>r=Bp↔KW (Df d) x y:=by
 obtain⟨f,rfl⟩:∃f,fu=f+1:=⟨fu-1,by omega⟩;rw[show NG (f+1) (x,y)=_ from d309 f x y];unfold yQ;refine OH (ih e.1 g.1 (by omega)) λr c=>P3 (λh=>OH (ih e.2 g.2 (by omega)) λs i=>MP ?_) λh=>AQ λk=>?_;· exact i.trans ⟨λk=>⟨c.1 h,k⟩,λk=>k.2⟩
 ·rw[c.2 k.1]at h;cases h
theorem R8{x y:GZ}(h1:x.1.length<=3)(G:∀w∈AY x,SW d w)(H:∀w∈AY y,SW d w)(Q:1000000000000+20*d+2<fu):Ok (TL fu (x,y)) λr=>r=Bp↔W9 (Df d) x y:=by
 obtain⟨
     f,rfl⟩:∃f,fu=f+1:=⟨fu-1,by omega⟩;rw[show TL (f+1) (x,y)=_ from d310 f x y];unfold yP;have loop:(y.1.length<=x.1.length)->(y.2=[]->x.1.length<=y.1.length/\x.2=[])->Ok (Ad f (λ(n:Nat) j=>
    bif Di ((n:Int)<(x.1.length:Int))then
     Ab (YK f (y,(n:Int))) λz=>
     Ab (idx x.1 (n:Int)) λv=>
     Ab (NG f (v,z.1)) λA=>
     bif !A then
      Ac Aj
     else
      j (n+1)
    else
     bif Di ((x.2.length:Int)=0)then
      Ac Bp
     else
      Ab (idx x.2 0) λB=>
      Ab (idx y.2 0) λC=>
      Ab (NG f (B,C)) λD=>
      Ac D) 0) λr=>r=Bp↔W9 (Df d) x y:=λF s=>by
  refine V_ (λk=> ∀i (h:i<x.1.length),i<k->KW (Df d) x.1[i] (X4 y i)) x.1.length (λi h k=>by omega) (by omega) (λk nx q p M=>?_) (λnx p=>?_)
  ·have m:=G _ (AS.2 (.inl (AN q)));refine P7 (OH bE λr t=>Aah q ?_);rw[t];refine OH (J2 ih m (bD m.v0 H) (by omega)) λb l=>P3 (λh=>AQ λN=>?_) λh=>M λi K L=>?_;· rw[l.2 (N.it k q)]at h;cases h
   ·rcases Aam i k with o|o;· exact p i K o
    ·obtain rfl:i=k:=by omega
     exact l.1 (by simpa using h)
  ·have I:∀i (h:i<x.1.length),KW (Df d) x.1[i] (X4 y i):=λi h=>p i h h;refine P8 (Ob (λO=>MP ⟨λ_=>⟨F,s,I,λh=>by omega⟩,λ_=>rfl⟩) λh=>?_);have u:0<x.2.length:=by omega
   have J:0<y.2.length:=by
    rcases Ahr y.2.length with e|e;· have:=(s (OF.1 e)).2;rw[this]at u;exact absurd u (by decide)
    ·exact e
   refine Adg (by decide) (by omega) (Adg (by decide) (by omega) (OH (J2 ih (G _ (AS.2 (.inr (AN _)))) (H _ (AS.2 (.inr (AN _)))) (by omega)) λb l=>MP (l.trans ⟨λk=>⟨F,s,I,λ_=>?_⟩,λk=>?_⟩)));· rw[show y.2.getD 0 (v0,v0)=y.2[0]from AM J];exact k
   ·have:=k.rs u;rwa [show y.2.getD 0 (v0,v0)=y.2[0]from AM J]at this
 refine Ob (λh=>AQ λk=>by have:=k.ln;omega) λo=>Ob (λe=>?_) λe=>loop (by omega) λE=>absurd (by rw[E];rfl) e;have e:y.2=[]:=OF.1 (by omega);refine Ob (λh=>AQ λk=>by have:=(k.cl e).1;omega) λE=>Ob (λh=>AQ λk=>by have:=(k.cl e).2;rw[this]at h;exact absurd h (by decide)) λP=>loop (by omega) λ_=>⟨by omega,OF.1 (by omega)⟩
theorem Mj{x y:Bz}(B:NY x)(o:NY y)(V:DA x)(W:DA y)(M:∀w∈Br x,SW d w)(N:∀w∈Br y,SW d w)(Y:1000000000000+20*d+3<fu):Ok (TK fu (x,y)) λr=>r=Bp↔Vb (Df d) x y:=by
 obtain⟨f,rfl⟩:∃f,fu=f+1:=⟨fu-1,by omega⟩;rw[show TK (f+1) (x,y)=_ from d312 f x y];unfold yN;have n1:=B.nf;have n2:=B.nc;have n3:=o.nf;have n4:=o.nc;have A:∀s:Aq,s.length<=60->SW d (v0,v0)->Ok (eB f (x,y,s)) λr=>r=Bp↔(vw x s).2<=(vw y s).2/\KW (Df d) (vw x s).1 (vw y s).1:=λs Z R=>by obtain⟨g,rfl⟩:∃g,f=g+1:=⟨f-1,by omega⟩;rw[show eB (g+1) (x,y,s)=_ from d311 g x y s];unfold yO;refine BY (Q' B (by omega) (by omega)) (BY (Q' o (by omega) (by omega)) (Ob (λh=>OH (J2 ih (Vw R M) (Vw R N) (by omega)) λb i=>MP (i.trans ⟨λk=>⟨h,k⟩,λk=>k.2⟩)) λh=>AQ λk=>h k.1))
 refine V_ (λk=> ∀g∈x.1.take k,(vw x g.1).2<=(vw y g.1).2/\KW (Df d) (vw x g.1).1 (vw y g.1).1) x.1.length (by simp) (by omega) (λk nx n H E=>?_) (λnx H=>?_)
 ·have m:=AN n;refine P7 (Aah n (OH (A _ (B.lb _ m) (M _ (AS.2 (.inl (By.2 ⟨_,m,rfl⟩)))).v0) λb i=>P3 (λh=>AQ λG=>?_) λh=>E λg z=>?_));· rw[i.2 (G.fa _ m)]at h;cases h
  ·rcases(Af n).1 z with z|rfl;· exact H g z
   ·exact i.1 (by simpa using h)
 rw[Al]at H;refine Qh (by omega) ?_;refine V_ (λk=> ∀g∈y.1.take k,(vw x g.1).2<=(vw y g.1).2/\KW (Df d) (vw x g.1).1 (vw y g.1).1) y.1.length (by simp) (by omega) (λk nx n p E=>?_) (λnx p=>?_)
 ·have m:=AN n;refine P7 (Aah n (OH (A _ (o.lb _ m) (N _ (AS.2 (.inl (By.2 ⟨_,m,rfl⟩)))).v0) λb i=>P3 (λh=>AQ λG=>?_) λh=>E λg z=>?_));· rw[i.2 (G.fb _ m)]at h;cases h
  ·rcases(Af n).1 z with z|rfl;· exact p g z
   ·exact i.1 (by simpa using h)
 rw[Al]at p;refine Qh (by omega) ?_;refine V_ (λk=> ∀a∈x.2.take k,∀b∈y.2,KW (Df d) a.2 b.2\/∀w,¬(Av a.1 0 w=Bp/\Av b.1 0 w=Bp)) x.2.length (by simp) (by omega) (λk nx n q E=>?_) (λnx q=>?_)
 ·have m:=AN n;refine T3 (by omega) ?_;refine V_ (λj=> ∀b∈y.2.take j,KW (Df d) (x.2[k]).2 b.2\/∀w,¬(Av (x.2[k]).1 0 w=Bp/\Av b.1 0 w=Bp)) y.2.length (by simp) (by omega) (λj O I u F=>?_) (λO u=>?_)
  ·have J:=AN I;have P:=V.1 _ m;have Q:=W.1 _ J;have U:CD (x.2[k]).1 (Av (x.2[k]).1 0) 14641:=⟨P.2.1,P.2.2,rfl,B.each _ m⟩;have lb:CD (y.2[j]).1 (Av (y.2[j]).1 0) 14641:=⟨Q.2.1,Q.2.2,rfl,o.each _ J⟩;refine P7 (Aah n (Aah I (OH (dE (GD (fu:=f) U lb (by decide) (by omega))) λt S=>?_)));rw[U.gL,lb.gL]at S;have C:s9 f t=Ac (Di ((t.length:Int)=0)):=(rfl);refine BY C ?_;have v:(KW (Df d) (x.2[k]).2 (y.2[j]).2\/∀w,¬(Av (x.2[k]).1 0 w=Bp/\Av (y.2[j]).1 0 w=Bp))->∀b∈y.2.take (j+1),KW (Df d) (x.2[k]).2 b.2\/∀w,¬(Av (x.2[k]).1 0 w=Bp/\Av b.1 0 w=Bp):=λh b i=>by
    rcases(Af I).1 i with i|rfl;· exact u b i
    ·exact h
   have emp:t=[]↔∀w,¬(Av (x.2[k]).1 0 w=Bp/\Av (y.2[j]).1 0 w=Bp):=by
    rw[S.GC];constructor;· intro e w T;have:=congrFun e w;rw[T.1,T.2]at this;cases this
    ·intro e;funext w;have:=e w;cases X:Av (x.2[k]).1 0 w<;>cases D:Av (y.2[j]).1 0 w<;>simp_all
   refine P3 (λh=>Aah n (Aah I (OH (J2 ih (M _ (AS.2 (.inr (By.2 ⟨_,m,rf⟩)))) (N _ (AS.2 (.inr (By.2 ⟨_,J,rf⟩)))) (by omega)) λb i=>P3 (λD=>AQ λG=>?_) λD=>F (v (.inl (i.1 (by simpa using D))))))) λh=>F (v (.inr (emp.1 ?_)))
   ·rcases G.cl _ m _ J with K|K;· rw[i.2 K]at D;cases D
    ·rw[emp.2 K]at h;cases h
   ·have h:Di ((t.length:Int)=0)=Bp:=by simpa using h
    have:=of_decide_eq_true h;exact OF.1 (by omega)
  ·rw[Al]at u;refine P8 (E λa L=>?_);rcases(Af n).1 L with L|rfl;· exact q a L
   ·exact u
 ·rw[Al]at q;exact P8 (MP ⟨λ_=>⟨H,p,q⟩,λ_=>rfl⟩)
end
end
section
variable{α:Type}{P:α->Prop}{fu:Nat}
theorem SJ{n bs:List α}{g:α->α->Option Bool}{k:Nat}{Q:Bool->Prop}{nx:Option Bool}(v:k<n.length)(t:bs.length<fu)(u:∀b∈bs,Ok (g n[k] b) λr=>r=Bp↔P b)(a:(∃b∈bs,P b)->Ok nx Q)(o:(¬ ∃b∈bs,P b)->Q Aj):
  Ok (
    Ad fu (λ(f:Bool×Nat) c=>
   bif Di ((f.2:Int)<(bs.length:Int))then
    bif !f.1 then
     Ab (idx n (k:Int)) λy=>
     Ab (idx bs (f.2:Int)) λz=>
     Ab (g y z) λA=>
     c (A,f.2+1)
    else
     bif !f.1 then Ac Aj else nx
   else
    bif !f.1 then Ac Aj else nx) (Aj,0)) Q:=by
 refine SE (λj (s:Bool)=>s=Bp↔∃b∈bs.take j,P b) bs.length ⟨λh=>(by cases h),λh=>by simp at h⟩ t (λj s c l d w=>?_) (λs c d=>?_)
 ·have m:=AN l;refine P7 (P3 (λh=>Aah v (Aah l (OH (u _ m) λr x=>w _ ?_))) λh=>P3 (λq=>absurd q (by dsimp only at h⊢;rw[h];decide)) λ_=>a ?_)
  ·have p:s=Aj:=by simpa using h
   rw[x];constructor;· intro e;exact⟨_,(Af l).2 (.inr rfl),e⟩
   ·rintro⟨b,i,e⟩;rcases(Af l).1 i with i|rfl;· have:=d.2 ⟨b,i,e⟩;rw[p]at this;cases this
    ·exact e
  ·have p:s=Bp:=by simpa using h
   obtain⟨b,i,e⟩:=d.1 p;exact⟨b,Acj i,e⟩
 ·rw[Al]at d;refine P8 (P3 (λh=>MP (o λk=>?_)) λh=>a (d.1 (by simpa using h)));rw[d.2 k]at h;cases h
theorem H6:∀ {d fu:Nat} {a b:Vl},SV d a->SV d b->1000000000000+20*d<fu->Ok (TJ fu (a,b)) λr=>r=Bp↔Df d a b
 |0,_,_,_,h,_,_=>h.1.elim
 |d+1,0,_,_,_,_,h=>by omega
 |d+1,f+1,a,b,n,o,G=>by
  have A:∀ {fu:Nat} {a b:Vl},SV d a->SV d b->1000000000000+20*d<fu->Ok (TJ fu (a,b)) λr=>r=Bp↔Df d a b:=H6;have D:=Dt n.1.1 n.2.1.sc;have sb:=Dt o.1.1 o.2.1.sc;have B:=n.1.2.1;have F:=o.1.2.1;have u:=n.1.2.2.1;have v:=o.1.2.2.1;rw[show TJ (f+1) (a,b)=_ from d313 f a b];unfold yM;refine P3 (λh=>MP ⟨λk=> .inl k,λk=>?_⟩) λh=>P3 (λq=>MP ⟨λk=> .inl k,λ_=>q⟩) λq=>OH (Mi D sb (by decide) (by decide) (by omega)) λr z=>P3 (λs=>AQ λk=>?_) λs=>?_
  ·rcases k with k|k;· exact k
   ·rw[h]at k;exact absurd k.1 (by decide)
  ·rcases k with k|k;· rw[q]at k;cases k
   ·rw[z.2 k.2.1]at s;cases s
  have C:=z.1 (by simpa using s);refine V_ (λk=> ∀c∈a.lists.take k,∃l∈b.lists,W9 (Df d) c l) a.lists.length (by simp) (by omega) (λk nx p t w=>?_) (λnx t=>?_)
  ·have m:=AN p;refine P7 (SJ (g:=λx y=>TL f (x,y)) (P:=λl=>W9 (Df d) a.lists[k] l) p (by omega) (λc hc=>R8 A (B.2 _ m).1 (n.lv m) (o.lv hc) (by omega)) (λh=>w λc hc=>?_) λh=>⟨λe=>(by cases e),λi=>?_⟩)
   ·rcases(Af p).1 hc with hc|rfl;· exact t c hc
    ·exact h
   ·rcases i with i|i;· rw[q]at i;cases i
    ·exact absurd (i.2.2.1 _ m) h
  rw[Al]at t;refine Qh (by omega) ?_;refine V_ (λk=> ∀c∈a.structs.take k,∃l∈b.structs,Vb (Df d) c l) a.structs.length (by simp) (by omega) (λk nx p j w=>?_) (λnx j=>?_)
  ·have m:=AN p;refine P7 (SJ (g:=λx y=>TK f (x,y)) (P:=λl=>Vb (Df d) a.structs[k] l) p (by omega) (λc hc=>Mj A (u.2 _ m) (v.2 _ hc) (n.2.1.st _ m).2 (o.2.1.st _ hc).2 (n.sv m) (o.sv hc) (by omega)) (λh=>w λc hc=>?_) λh=>⟨λe=>(by cases e),λi=>?_⟩)
   ·rcases(Af p).1 hc with hc|rfl;· exact j c hc
    ·exact h
   ·rcases i with i|i;· rw[q]at i;cases i
    ·exact absurd (i.2.2.2 _ m) h
  ·rw[Al]at j;exact P8 (MP ⟨λ_=> .inr ⟨h,C,t,j⟩,λ_=>rfl⟩)
theorem contains_eq{l:List α}{x:α}{g:α->α->Option (Bool×α)}(n:l.length<fu)(o:∀y∈l,Ok (g y x) λr=>r.2=x/\(r.1=Bp↔P y)):
  Ok (Ad fu (λ(b:α×Nat) i=>bif Di ((b.2:Int)<(l.length:Int))then Ab (idx l (b.2:Int)) λq=>Ab (g q b.1) λj=>bif j.1 then Ac ((b.2:Int),j.2)else i (j.2,b.2+1)else Ac ((-1:Int),b.1)) (x,0)) λr=>r.2=x/\(0<=r.1↔∃y∈l,P y):=by
 refine SE (λk s=>s=x/\∀y∈l.take k,¬P y) l.length ⟨rf,by simp⟩ n (λk s nx e a p=>?_) (λs nx a=>?_)
 ·obtain⟨rfl,a⟩:=a;have m:=AN e;refine P7 (Aah e (OH (o _ m) λr d=>P3 (λh=>MP ⟨d.1,λ_=>⟨_,m,d.2.1 h⟩,λ_=>by omega⟩) λh=>p _ ⟨d.1,λy c=>?_⟩));rcases(Af e).1 c with c|rfl;all_goals grind
 ·obtain⟨rfl,a⟩:=a;rw[Al]at a;exact P8 (MP ⟨rfl,λh=>by omega,λ⟨y,c,f⟩=>absurd f (a y c)⟩)
theorem Na{a:List α}{g:α->Option (Bool×α)}(j:a.length<fu)(l:∀x∈a,Ok (g x) λr=>r.1=Bp↔P x):
  Ok (Ad fu (λ(f:Nat) e=>bif Di ((f:Int)<(a.length:Int))then Ab (idx a (f:Int)) λo=>Ab (g o) λp=>bif !p.1 then Ac Aj else e (f+1)else Ac Bp) 0) λr=>r=Bp↔∀x∈a,P x:=by
 refine V_ (λk=> ∀x∈a.take k,P x) a.length (by simp) j (λk nx c b n=>?_) (λnx b=>?_)
 ·have m:=AN c;refine P7 (Aah c (OH (l _ m) λr i=>P3 (λh=>AQ λk=>?_) λh=>n λx d=>?_));· grind
  ·rcases(Af c).1 d with d|rfl;all_goals grind
 ·rw[Al]at b;exact P8 (MP ⟨λ_=>b,λ_=>rfl⟩)
end
section
variable {d : Nat} (ih : ∀ {fu : Nat} {a b : Vl}, SV d a -> SV d b -> 1000000000000 + 20 * d < fu -> Ok (TR fu (a, b)) λr => r = Bp ↔ Df d a b)
section
variable{fu:Nat}
include ih
theorem P5{x y:A9}(e:SW d x)(g:SW d y)(j:1000000000000+20*d+1<fu):Ok (LG fu (x,y)) λr=>r=Bp↔KW (Df d) x y:=by
 obtain⟨f,rfl⟩:∃f,fu=f+1:=⟨fu-1,by omega⟩;rw[show LG (f+1) (x,y)=_ from d189 f x y];refine OH (ih e.1 g.1 (by omega)) λr c=>P3 (λh=>OH (ih e.2 g.2 (by omega)) λs i=>MP ?_) λh=>AQ λk=>?_;· exact i.trans ⟨λk=>⟨c.1 h,k⟩,λk=>k.2⟩
 ·rw[c.2 k.1]at h;grind
theorem Jy{x y:GZ}(h1:x.1.length<=3)(G:∀w∈AY x,SW d w)(H:∀w∈AY y,SW d w)(Q:1000000000000+20*d+2<fu):Ok (Vm fu (x,y)) λr=>r=Bp↔W9 (Df d) x y:=by
 obtain⟨
     f,rfl⟩:∃f,fu=f+1:=⟨fu-1,by omega⟩;rw[show Vm (f+1) (x,y)=_ from d190 f x y];have loop:(y.1.length<=x.1.length)->(y.2=[]->x.1.length<=y.1.length/\x.2=[])->Ok (Ad f (λ(n:Nat) j=>
    bif Di ((n:Int)<(x.1.length:Int))then
     Ab (idx x.1 (n:Int)) λv=>
     Ab (YW f (y,(n:Int))) λz=>
     Ab (LG f (v,z.1)) λA=>
     bif !A then
      Ac Aj
     else
      j (n+1)
    else
     bif Di ((x.2.length:Int)=0)then
      Ac Bp
     else
      Ab (idx x.2 0) λB=>
      Ab (idx y.2 0) λC=>
      Ab (LG f (B,C)) λD=>
      Ac D) 0) λr=>r=Bp↔W9 (Df d) x y:=λF s=>by
  refine V_ (λk=> ∀i (h:i<x.1.length),i<k->KW (Df d) x.1[i] (X4 y i)) x.1.length (λi h k=>by omega) (by omega) (λk nx q p M=>?_) (λnx p=>?_)
  ·have m:=G _ (AS.2 (.inl (AN q)));refine P7 (Aah q (OH ia λr t=>?_));rw[t];refine OH (P5 ih m (bD m.v0 H) (by omega)) λb l=>P3 (λh=>AQ λN=>?_) λh=>M λi K L=>?_;· rw[l.2 (N.it k q)]at h;grind
   ·rcases Aam i k with o|o;· simp_all
    grind
  ·have I:∀i (h:i<x.1.length),KW (Df d) x.1[i] (X4 y i):=λi h=>p i h h;refine P8 (Ob (λO=>MP ⟨λ_=>⟨F,s,I,λh=>by omega⟩,λ_=>rfl⟩) λh=>?_);have u:0<x.2.length:=by omega
   have J:0<y.2.length:=by grind
   refine Adg (by decide) (by omega) (Adg (by decide) (by omega) (OH (P5 ih (G _ (AS.2 (.inr (AN _)))) (H _ (AS.2 (.inr (AN _)))) (by omega)) λb l=>MP (l.trans ⟨λk=>⟨F,s,I,λ_=>?_⟩,λk=>?_⟩)));· rw[show y.2.getD 0 (v0,v0)=y.2[0]from AM J];exact k
   ·have:=k.rs u;rwa [show y.2.getD 0 (v0,v0)=y.2[0]from AM J]at this
 refine Ob (λh=>AQ λk=>by have:=k.ln;omega) λo=>P3 (λh=>?_) λh=>loop (by omega) λE=>absurd h (by rw[E];decide);have e:y.2=[]:=by
  rcases Ahr y.2.length with e|e;· exact OF.1 e
  ·rw[show Di ((0:Int)<(y.2.length:Int))=Bp from decide_eq_true (by omega)]at h;cases h
 exact Ob (λh=>AQ λk=>by have:=(k.cl e).1;omega) λE=>Ob (λh=>AQ λk=>by have:=(k.cl e).2;rw[this]at h;exact absurd h (by decide)) λP=>loop (by omega) λ_=>⟨by omega,OF.1 (by omega)⟩
theorem G_{x y:Bz}(C:NY x)(i:NY y)(M:DA x)(N:DA y)(V:∀w∈Br x,SW d w)(W:∀w∈Br y,SW d w)(hF:1000000000000+20*d+2<fu):Ok (Vn fu (x,y)) λr=>r=Bp↔Vb (Df d) x y:=by
 obtain⟨f,rfl⟩:∃f,fu=f+1:=⟨fu-1,by omega⟩;rw[show Vn (f+1) (x,y)=_ from d183 f x y];have n1:=C.nf;have n2:=C.nc;have n3:=i.nf;have n4:=i.nc;refine PK ⟨rfl,rfl⟩ ?_;let P:=λg:Aq×Int×A9=>(vw x g.1).2<=(vw y g.1).2/\KW (Df d) (vw x g.1).1 (vw y g.1).1;refine V_ (λk=>(1<=k->∀g∈x.1,P g)/\(2<=k->∀g∈y.1,P g)) 2 ⟨λh=>by omega,λh=>by omega⟩ (by omega) (λk nx I H J=>?_) (λnx H=>?_)
 ·have inner:∀(l:List (Aq×Int×A9)),l.length<=4->(∀g∈l,g.1.length<=60/\SW d (v0,v0))->(Vb (Df d) x y->∀g∈l,P g)->((∀g∈l,P g)->Ok (nx (k+1)) λr=>r=Bp↔Vb (Df d) x y)->
    Ok (
      Ad f (λ(Y:Nat) B=>
     bif Di ((Y:Int)<(l.length:Int))then
      Ab (idx l (Y:Int)) λr6=>
      Ab (YS f (x,r6.1)) λr7=>
      Ab (YS f (y,r6.1)) λr8=>
      bif Di (r8.2<r7.2)then
       Ac Aj
      else
       Ab (LG f (r7.1,r8.1)) λr9=>
       bif !r9 then
        Ac Aj
       else
        B (Y+1)
     else
      nx (k+1)) 0) λr=>r=Bp↔Vb (Df d) x y:=λl hl v hP U=>by
   refine V_ (λj=> ∀g∈l.take j,P g) l.length (by simp) (by omega) (λj B A u T=>?_) (λB u=>?_)
   ·have m:=AN A;obtain⟨q1,q2⟩:=v _ m;refine P7 (Aah A (BY (Vx C (by omega) (by omega)) (BY (Vx i (by omega) (by omega)) (Ob (λh=>AQ λp=>by have:=(hP p _ m).1;omega) λD=>OH (P5 ih (Vw q2 V) (Vw q2 W) (by omega)) λr G=>P3 (λh=>AQ λp=>?_) λh=>T λg z=>?_))));· rw[G.2 (hP p _ m).2]at h;cases h
    rcases(Af A).1 z with E|rfl;· exact u g E
    ·exact⟨by omega,G.1 (by simpa using h)⟩
   ·exact P8 (U λg z=>u g (by rw[Al];omega))
  have M:∀g∈x.1,g.1.length<=60/\SW d (v0,v0):=λg v=>⟨C.lb g v,(V _ (AS.2 (.inl (By.2 ⟨g,v,rfl⟩)))).v0⟩;have N:∀g∈y.1,g.1.length<=60/\SW d (v0,v0):=λg v=>⟨i.lb g v,(W _ (AS.2 (.inl (By.2 ⟨g,v,rfl⟩)))).v0⟩;refine T3 (by omega) ?_;rcases(by omega:k=0\/k=1)with rfl|rfl;· exact BY (a:=x.1) rfl (inner x.1 n1 M (λp=>p.fa) λh=>J ⟨λ_=>h,λh=>by omega⟩)
  ·exact BY (a:=y.1) rf (inner y.1 n3 N (λp=>p.fb) λh=>J ⟨λ_=>H.1 (by omega),λ_=>h⟩)
 ·have O:=H.1 (by omega);have Q:=H.2 (by omega);refine V_ (λk=> ∀a∈x.2.take k,∀b∈y.2,KW (Df d) a.2 b.2\/∀w,¬(Av a.1 0 w=Bp/\Av b.1 0 w=Bp)) x.2.length (by simp) (by omega) (λk nx I n J=>?_) (λnx n=>?_)
  ·have K:=AN I;refine P7 (Aah I ?_);refine V_ (λj=> ∀b∈y.2.take j,KW (Df d) (x.2[k]).2 b.2\/∀w,¬(Av (x.2[k]).1 0 w=Bp/\Av b.1 0 w=Bp)) y.2.length (by simp) (by omega) (λj X A o F=>?_) (λX o=>?_)
   ·have L:=AN A;have s1:=V _ (AS.2 (.inr (By.2 ⟨_,K,rfl⟩)));have s2:=W _ (AS.2 (.inr (By.2 ⟨_,L,rfl⟩)));have Z:=M.1 _ K;have gb:=N.1 _ L;have la:CD (x.2[k]).1 (Av (x.2[k]).1 0) 14641:=⟨Z.2.1,Z.2.2,rfl,C.each _ K⟩;have lb:CD (y.2[j]).1 (Av (y.2[j]).1 0) 14641:=⟨gb.2.1,gb.2.2,rfl,i.each _ L⟩;have q:(KW (Df d) (x.2[k]).2 (y.2[j]).2\/∀w,¬(Av (x.2[k]).1 0 w=Bp/\Av (y.2[j]).1 0 w=Bp))->∀b∈y.2.take (j+1),KW (Df d) (x.2[k]).2 b.2\/∀w,¬(Av (x.2[k]).1 0 w=Bp/\Av b.1 0 w=Bp):=λh b S=>by
     rcases(Af A).1 S with S|rfl;· exact o b S
     trivial
    refine P7 (Aah A (OH (P5 ih s1 s2 (by omega)) λr G=>P3 (λh=>OH (jC (GD la lb (by decide) (by omega))) λt ht=>?_) λh=>F (q (.inl (G.1 (by simpa using h))))));rw[la.gL,lb.gL]at ht;have emp:t=[]↔∀w,¬(Av (x.2[k]).1 0 w=Bp/\Av (y.2[j]).1 0 w=Bp):=by
     rw[ht.GC];constructor;· intro e w hw;have:=congrFun e w;rw[hw.1,hw.2]at this;cases this
     ·intro e;funext w;have:=e w;cases h1:Av (x.2[k]).1 0 w<;>cases D:Av (y.2[j]).1 0 w<;>simp_all
    refine Ob (λD=>AQ λp=>?_) λD=>F (q (.inr (emp.1 (OF.1 (by omega)))));rcases p.cl _ K _ L with E|E;· rw[G.2 E]at h;cases h
    ·rw[emp.2 E]at D;exact absurd D (by decide)
   ·rw[Al]at o;refine P8 (J λa R=>?_);rcases(Af I).1 R with R|rfl;· exact n a R
    ·exact o
  ·rw[Al]at n;exact P8 (MP ⟨λ_=>⟨O,Q,n⟩,λ_=>rfl⟩)
end
end
section
variable{n fu N:Nat}{r:Tb}{L:Nat}{g:Nat->Nat->Bool}{l:Tb}{w:Aq}{m:Nat}{x y:Int}{i:Nat}
theorem J3:∀ {d fu:Nat} {a b:Vl},SV d a->SV d b->1000000000000+20*d<fu->Ok (TR fu (a,b)) λr=>r=Bp↔Df d a b
 |0,_,_,_,h,_,_=>h.1.elim
 |d+1,fu,a,b,j,l,C=>by
  obtain⟨f,rfl⟩:∃f,fu=f+7:=⟨fu-7,by omega⟩;have u:∀ {fu:Nat} {a b:Vl},SV d a->SV d b->1000000000000+20*d<fu->Ok (TR fu (a,b)) λr=>r=Bp↔Df d a b:=J3;have z:=Dt j.1.1 j.2.1.sc;have sb:=Dt l.1.1 l.2.1.sc;rw[show TR (f+7) (a,b)=_ from d188 (f+6) a b];refine P3 (λh=>MP ⟨λk=> .inl k,λk=>?_⟩) λh=>P3 (λn=>MP ⟨λk=> .inl k,λ_=>n⟩) λn=>?_
  ·rcases k with k|k;all_goals grind
  refine OH (Mr (d:=d+1) (x:=(a,v0)) (y:=(b,v0)) ⟨j.1,(Ma d).1⟩ ⟨l.1,(Ma d).1⟩ (by omega)) λr c=>P3 (λh=>MP ⟨λ_=>?_,λ_=>rfl⟩) λ_=>?_;· have e:a=b:=congrArg Prod.fst (c.1 h);subst e;exact Df.refl j.2
  have v:=j.1.2.1;have B:=l.1.2.1;have q:=j.1.2.2.1;have s:=l.1.2.2.1;refine OH (Xr z sb (by simp) (by simp) (by omega)) λr c=>P3 (λi=>AQ λk=>?_) λi=>?_
  ·rcases k with k|k;· rw[n]at k;cases k
   ·rw[c.2 k.2.1]at i;cases i
  have w:=c.1 (by simpa using i);have L:Ok (kN (f+6) (a.lists,b.lists)) λr=>r=Bp↔∀x∈a.lists,∃y∈b.lists,W9 (Df d) x y:=by
   rw[show kN (f+6) (a.lists,b.lists)=_ from d182 (f+5) _ _];refine Na (g:=λx=>kO (f+5) (b.lists,x)) (by omega) λx m=>?_;rw[show kO (f+5) (b.lists,x)=_ from d181 (f+4) _ _];have:Ok (kP (f+4) (b.lists,x)) λr=>r.2=x/\(0<=r.1↔∃y∈b.lists,W9 (Df d) x y):=by rw[show kP (f+4) (b.lists,x)=_ from d180 (f+3) _ _];refine contains_eq (g:=λy x=>kQ (f+3) (y,x)) (by omega) λy p=>?_;rw[show kQ (f+3) (y,x)=_ from d179 (f+2) _ _];exact OH (Jy u (v.2 x m).1 (j.lv m) (l.lv p) (by omega)) λr c=>MP ⟨rfl,c⟩
   exact OH this λr c=>MP (decide_eq_true_iff.trans c.2)
  have S:Ok (kJ (f+6) (a.structs,b.structs)) λr=>r=Bp↔∀x∈a.structs,∃y∈b.structs,Vb (Df d) x y:=by
   rw[show kJ (f+6) (a.structs,b.structs)=_ from d187 (f+5) _ _];refine Na (g:=λx=>kK (f+5) (b.structs,x)) (by omega) λx m=>?_;rw[show kK (f+5) (b.structs,x)=_ from d186 (f+4) _ _];have:Ok (kL (f+4) (b.structs,x)) λr=>r.2=x/\(0<=r.1↔∃y∈b.structs,Vb (Df d) x y):=by rw[show kL (f+4) (b.structs,x)=_ from d185 (f+3) _ _];refine contains_eq (g:=λy x=>kM (f+3) (y,x)) (by omega) λy p=>?_;rw[show kM (f+3) (y,x)=_ from d184 (f+2) _ _];exact OH (G_ u (q.2 x m) (s.2 y p) (j.2.1.st x m).2 (l.2.1.st y p).2 (j.sv m) (l.sv p) (by omega)) λr c=>MP ⟨rfl,c⟩
   exact OH this λr c=>MP (decide_eq_true_iff.trans c.2)
  refine OH L λD o=>P3 (λi=>OH S λE t=>MP (t.trans ⟨λk=> .inr ⟨h,w,o.1 i,k⟩,λk=>?_⟩)) λi=>AQ λk=>?_
  ·rcases k with k|k;· rw[n]at k;cases k
   ·exact k.2.2.2
  ·rcases k with k|k;· rw[n]at k;cases k
   ·rw[o.2 k.2.2.1]at i;cases i
def Ck(L N:Nat)(g:Nat->Nat->Bool):List (Bool×List Bool):=Bh L λi=>(Bp,Bh (N+1) (g i))
theorem iI:(Ck L N g).length=L:=Az _ _
theorem Wv(h:i<L):idx (Ck L N g) (i:Int)=Ac (Bp,Bh (N+1) (g i)):=by unfold Ck;rw[Bk (by rw[Az];exact h),Bm]
theorem EO{a:Nat->Nat->Bool}(h:∀i,i<L->∀j,j<N+1->g i j=a i j):Ck L N g=Ck L N a:=
 AO λi b=>by rw[AO (h i b)]
theorem iH:(Ck L N g).set i (Bp,(Bh (N+1) (g i)).set n Bp)=Ck L N λa j=>if a=i then if j=n then Bp else g i j else g a j:=by
 unfold Ck;rw[Ba,Ba];refine AO λa _=>?_;by_cases h:a=i;· simp only[if_pos h]
 ·simp only[if_neg h]
theorem oy{α:Type}{f:Nat->α}(h:n<N):idx (Bh N f) (n:Int)=Ac (f n):=by rw[Bk (by rw[Az];exact h),Bm]
theorem jj(hw:Bf l)(L:DT l n)(hn:n<4294967295)(hN:N<4294967295)(hf:n<fu)(S:N+1<fu):
  jU fu (l,(N:Int))=Ac (Bh l.length λi=>Bh (N+1) λk=>Em l k i):=by
 have W:=L.1;refine(Ok.eq ?_);rw[jU];refine PK (by unfold Ai;omega) ?_;have O:aC ((N:Int)+1)=N+1:=by omega
 rw[O];refine SE (λk (s:List (Bool×List Bool))=>s=Bh l.length λi=>if i<k then(Bp,Bh (N+1) λj=>Di (j<1)&&Em l j i)else(Aj,[])) l.length ?_ (by omega) (λk s nx D r I=>?_) (λs nx r=>?_);· rw[Afe,DB];exact AO λi _=>by simp
 ·have sl:s.length=l.length:=by rw[r,Az]
  have J:lD s k (Bp,Uh (N+1) Aj)=Bh l.length λi=>if i=k then(Bp,Bh (N+1) λ_=>Aj)else if i<k then(Bp,Bh (N+1) λj=>Di (j<1)&&Em l j i)else(Aj,[]):=by rw[r,Ba,DB]
  have F:idx (lD s k (Bp,Uh (N+1) Aj)) (k:Int)=Ac (Bp,Bh (N+1) λ_=>Aj):=by rw[J,Bk (by rw[Az];exact D),Bm,if_pos rfl]
  refine P7 (Aao (Abw (PK (by unfold Ai;omega) (PK ⟨by omega,by dsimp only;omega⟩ (Abw (PK ⟨by omega,by rw[Abp];dsimp only;omega⟩ (BY F (PK rf (Aah D (BY F (PK ⟨rf,by decide,by dsimp only;rw[Az];omega⟩ (BY F (PK ⟨rf,by dsimp only;rw[Az];simp⟩ (I _ ?_))))))))))))));dsimp only;rw[J,Ba,Ba];refine AO λi _=>?_;by_cases h:i=k
  ·subst h;rw[if_pos rfl,if_pos (by omega)];refine congrArg (Prod.mk Bp) (AO λj _=>?_);by_cases C:j=0;· subst C;refine(if_pos rfl).trans ?_;rw[Hh,Ef (by omega) (by omega)];rfl
   ·rw[if_neg (by exact C),decide_eq_false (by omega)];rfl
  ·rw[if_neg h,if_neg h];by_cases d:i<k;· rw[if_pos d,if_pos (by omega)]
   ·rw[if_neg d,if_neg (by omega)]
 have r:s=Ck l.length N λi j=>Di (j<1)&&Em l j i:=by rw[r];exact AO λi f=>by rw[if_pos f]
 refine Qh (by dsimp only;omega) ?_;refine XD (X:=List (Bool×List Bool)×Int) (λx=> ∃k:Nat,x.2=(k:Int)/\1<=k/\k<=N+1/\x.1=Ck l.length N λi j=>Di (j<k)&&Em l j i) (λx=>N+1-x.2.toNat) ⟨1,rfl,by omega,by omega,r⟩ (by dsimp only;omega) λx nx8 Q _ u=>?_;obtain⟨s,z⟩:=x;obtain⟨k,M,U,V,B⟩:=Q;dsimp only at M B u;subst M;dsimp only;refine Ob (λD=>?_) λD=>?_
 ·refine SE (λi (s:List (Bool×List Bool))=>s=Ck l.length N λa j=>(Di (j<k)||(Di (j=k)&&Di (a<i)))&&Em l j a) l.length ?_ (by omega) (λi s w f p t=>?_) (λs w p=>?_);· rw[B];exact EO λa _ j _=>by simp
  ·have Y:(l[i]).2.length<=n:=L.2 _ (AN f);have T:=hw _ (AN f);have v:Im l i=(l[i]).2:=Hf f;refine T3 (by dsimp only;omega) ?_;refine SE (λm (s:List (Bool×List Bool))=>s=Ck l.length N λa j=>if a=i/\j=k then((l[i]).2.take m).any (λe=>Em l (k-1) e.2.2.toNat)else(Di (j<k)||(Di (j=k)&&Di (a<i)))&&Em l j a) (l[i]).2.length ?_ (by omega) (λm s y E c o=>?_) (λs y c=>?_)
   ·rw[p];exact EO λa _ j _=>by
     by_cases h:a=i/\j=k;· rw[if_pos h,h.1,h.2];simp
     ·rw[if_neg h]
   ·have K:=T.rg _ (AN E);have sl:s.length=l.length:=by rw[c,iI]
    have Z:((l[i]).2[m]).2.2.toNat<l.length:=by omega
    have H:=(congrArg (λs=>idx s ((((l[i]).2[m]).2.2.toNat:Nat):Int)) c).trans (Wv Z);have G:=(congrArg (λs=>idx s (i:Int)) c).trans (Wv f);have P:aC ((k:Int)-1)=k-1:=by omega
    refine Aah f (P7 (Aah f (Aah E (PK ⟨K.2.2.2.1,by dsimp only;rw[sl];exact K.2.2.2.2⟩ (BY H (PK rf (Aao (BY H (PK ⟨rf,by omega,by dsimp only;rw[Az];omega⟩ (BY H (PK rf ?_)))))))))));rw[P];have ev:(if((l[i]).2[m]).2.2.toNat=i/\k-1=k then((l[i]).2.take m).any (λe=>Em l (k-1) e.2.2.toNat)else(Di (k-1<k)||(Di (k-1=k)&&Di (((l[i]).2[m]).2.2.toNat<i)))&&Em l (k-1) ((l[i]).2[m]).2.2.toNat)=Em l (k-1) ((l[i]).2[m]).2.2.toNat:=by rw[if_neg (by omega),decide_eq_true (by omega:k-1<k)];simp
    refine BY ((oy (by omega)).trans (congrArg Ac ev)) ?_;refine P3 (λh=>PK ⟨by omega,by dsimp only;omega⟩ (BY G (PK rf (BY G (PK ⟨rf,by omega,by dsimp only;rw[Az];omega⟩ (BY G (PK ⟨rf,by dsimp only;rw[Az];omega⟩ (o _ ?_)))))))) λh=>o _ ?_
    ·dsimp only;rw[show aC (k:Int)=k by omega];conv=>lhs;rw[c]
     rw[iH];refine EO λa _ j _=>?_;by_cases b:a=i
     ·by_cases d:j=k;· rw[if_pos b,if_pos d,if_pos ⟨b,d⟩,IN E,Afn];simp[h]
      ·rw[if_pos b,if_neg d,if_neg (λh=>d h.2),if_neg (λh=>d h.2),b]
     ·rw[if_neg b,if_neg (λh=>b h.1),if_neg (λh=>b h.1)]
    ·dsimp only;rw[c];refine EO λa _ j _=>?_;by_cases b:a=i/\j=k;· rw[if_pos b,if_pos b,IN E,Afn];simp[h]
     ·rw[if_neg b,if_neg b]
   ·refine Aah f (P8 (t _ ?_));rw[c,Al];refine EO λa _ j _=>?_;by_cases b:a=i/\j=k;· obtain⟨rfl,rfl⟩:=b;rw[if_pos ⟨rfl,rfl⟩,decide_eq_true (by omega:a<a+1)];obtain⟨q,rfl⟩:∃q,j=q+1:=⟨j-1,by omega⟩;rw[Hi,v];simp
    ·rw[if_neg b];by_cases d:j=k;· have:a≠i:=λh=>b ⟨h,d⟩;rw[show Di (a<i+1)=Di (a<i) by simp;omega]
     ·rw[decide_eq_false d];simp
  ·refine P8 (Aao (u _ ⟨k+1,by dsimp only;omega,by omega,by omega,?_⟩ (by dsimp only;omega)));dsimp only;rw[p];refine EO λa R j _=>?_;rw[decide_eq_true R,Bool.and_true,show Di (j<k+1)=(Di (j<k)||decide (j=k)) by
    rcases Acx j k with h|h|h;· rw[decide_eq_true h,decide_eq_true (by omega)];rfl
    ·rw[decide_eq_true h,decide_eq_true (by omega),Bool.or_true]
    ·rw[decide_eq_false (by omega),decide_eq_false (by omega),decide_eq_false (by omega)];rfl]
 ·obtain rfl:k=N+1:=by omega
  refine PK ?_ (MP ?_);· rw[B];refine IT.2 λx hx=>?_;obtain⟨i,_,rfl⟩:=EG.1 hx;rfl
  ·rw[B];unfold Ck Bh;rw[Aaj];refine Abr λi _=>?_;show(a_ (N+1)).map _=_;refine Abr λj C=>?_;show(Di (j<N+1)&&Em l j i)=_;rw[decide_eq_true (Abg.1 C),Alh]
def wl(pre:Aq)(o:Option Aq):List Aq:=match o with
 |some w=>[pre++w]
 |none=>[]
theorem Zt{pre:Aq}{o:Option Aq} :(wl pre o).length<=1:=by cases o<;>simp[wl]
theorem N8{l:Tb}{n N:Nat}(V:Bf l)(U:DT l n)(hn:n<4294967295):∀ {k fu i:Nat} {pre:Aq},k<=N->n+300+k<fu->pre.length+k<4294967296->i<l.length->
  YJ fu (l,Bh l.length (λi=>Bh (N+1) λk=>Em l k i),(i:Int),(k:Int),1,pre)=Ac (wl pre (lw l k i))
 |_,0,_,_,_,h,_,_=>by omega
 |k,fu+1,i,pre,hk,hf,hp,A=>by
  refine(d322 fu _ _ _ _ _ _).trans (Ok.eq ?_);unfold yL;refine BY (oy A) ?_;refine BY (oy (by omega)) (P3 (λh=>MP ?_) λh=>Qh (by decide) ?_)
  ·have h:(lw l k i).isSome=Aj:=by
    have:Em l k i=Aj:=by simpa using h
    exact this
   rw[Alc.1 h |> Alg.1];rfl
  cases k with
  |zero=>
   have h:Em l 0 i=Bp:=by simpa using h
   obtain⟨w,e⟩:=Abk.1 h;have:w=[]:=OF.1 (Uw e);subst this;refine T3 rfl (MP ?_);rw[e];show [pre]=[pre++[]];rw[Adh]
  |succ k=>
   refine Qh (by omega) ?_;have hs2:(l[i]).2.length<=n:=U.2 _ (AN A);have K:=V _ (AN A);have G:Im l i=(l[i]).2:=Hf A;let f:=λe:Cm=>(lw l k e.2.2.toNat).map λw=>UInt8.ofNat e.1.toNat::w;have hl:lw l (k+1) i=(l[i]).2.findSome? f:=by rw[<-G];rfl
   rw[hl];refine SE (λm (s:List Aq)=>s=wl pre (((l[i]).2.take m).findSome? f)) (l[i]).2.length rfl (by omega) (λm s nx Q B R=>?_) (λs nx B=>?_)
   ·have D:=K.rg _ (AN Q);have P:=D.1;have O:=D.2.1;have L:=D.2.2.1;have H:=D.2.2.2.1;have I:=D.2.2.2.2;have W:(l[i]).2.findSome? f=(((l[i]).2.take m).findSome? f).or (((l[i]).2.drop m).findSome? f):=by
     rw[<-Agq,Ace]
    have st:((l[i]).2.take (m+1)).findSome? f=(((l[i]).2.take m).findSome? f).or (f (l[i]).2[m]):=by rw[IN Q,Agq,List.findSome?_singleton]
    refine Aah A (T3 (by dsimp only;omega) ?_);cases T:((l[i]).2.take m).findSome? f with
    |some w=>
     rw[T]at B W;subst B;refine Qh (by show¬((([pre++w]:List Aq).length:Int)<1);simp) (MP ?_);rw[W];rfl
    |none=>
     rw[T]at B st;subst B;refine T3 (by show(0:Int)<1;decide) (Aah A (Aah Q ?_));generalize hE:(l[i]).2[m]=e at*;obtain⟨C,q,t⟩:=e;dsimp only at P O L H I⊢;have y:=λ{g:Nat} (c:Int) (K:n+300+k<g)=>N8 V U hn (N:=N) (k:=k) (fu:=g) (i:=t.toNat) (pre:=pre++[UInt8.ofNat c.toNat]) (by omega) K (by rw[Aaa,Acl];omega) (by omega);rw[Abd H]at y;have Y:((k+1:Nat):Int)-1=(k:Int):=by omega
     have u:Ok (nx (wl pre (f (C,q,t)),m+1)) λr=>r=wl pre ((l[i]).2.findSome? f):=R _ (by rw[st];rfl);have fe:f (C,q,t)=(lw l k t.toNat).map λw=>UInt8.ofNat C.toNat::w:=rfl;refine XD (X:=List Aq×Int) (λx=>C<=x.2/\x.2<=q+1/\(x.1=wl pre (f (C,q,t))\/x.1=[]/\x.2=C)) (λx=>(q+1-x.2).toNat) ⟨Abn _,by dsimp only;omega, .inr ⟨rfl,rfl⟩⟩ (by dsimp only;omega) λx nx9 hI _ F=>?_;obtain⟨s,z⟩:=x;obtain⟨Z,h2,d⟩:=hI;dsimp only at Z h2 d F⊢;refine Ob (λhz=>Ob (λhlt=>?_) λE=>?_) λhz=>?_
     ·have S:s=[]:=OF.1 (by omega);subst S;have hr:YJ fu (l,Bh l.length (λi=>Bh (N+1) λk=>Em l k i),t,((k+1:Nat):Int)-1,1-((([]:List Aq).length:Nat):Int),pre++UInt8.ofNat z.toNat::[])=Ac (wl (pre++[UInt8.ofNat z.toNat]) (lw l k t.toNat)):=by
       rw[Y];exact y z (by omega)
      refine Aao (Abx (by decide) (PK (p:=GK.F8 _) (by unfold GK.F8;omega) (PK (by simp;omega) (BY hr (PK (by have:=Zt (pre:=pre++[UInt8.ofNat z.toNat]) (o:=lw l k t.toNat);simp[Ai];omega) (Aao (F _ ⟨by dsimp only;omega,by dsimp only;omega, .inl ?_⟩ (by dsimp only;omega))))))));dsimp only;rw[Ach];rcases d with d|d;· rw[fe]at d⊢;cases M:lw l k t.toNat with
       |none=>rfl
       |some v=>rw[M]at d;cases d
      ·rw[d.2,fe];cases lw l k t.toNat with
       |none=>rfl
       |some v=>show [_]=[_];rw[Aal];rfl
     ·rcases d with d|d;· rw[d];exact u
      ·rw[d.1]at E;exact absurd (by decide) E
     ·rcases d with d|d;· rw[d];exact u
      ·omega
   ·refine Aah A (P8 (MP ?_));rw[B,Al]
def LQ(r:Tb):Option Aq:=(a_ r.length).findSome? λk=>lw r k 0
def lsO(o:Option Aq):Aq×Bool:=match o with
 |some w=>(w,Bp)
 |none=>([],Aj)
theorem M6{f:Nat->Option Aq}{k:Nat}(c:k<n)(h:f k=Ac w)(d:∀j,j<k->f j=C7):(a_ n).findSome? f=Ac w:=by
 have:(a_ n)=(a_ n).take k++k::(a_ n).drop (k+1):=by
  conv=>lhs;rw[<-Ace k (a_ n)]
  simp_all[Aak,Ain,List.getElem_range]
 grind
theorem Ux{r:Tb}{k:Nat}{w:Aq}(b:k<r.length)(h:lw r k 0=Ac w)(c:∀j,j<k->Em r j 0=Aj):LQ r=Ac w:=M6 b h λj a=>by simp_all[Em]
theorem IY{L:Lg}(h:CD r L m)(g:DT r n)(I:n<1500000000)(H:3*n+600<fu):YI fu r=Ac (lsO (LQ r)):=by
 have G:=g.1;refine(Ok.eq ?_);rw[YI];have key:jT fu (r,1)=Ac (wl [] (LQ r)):=by
  refine(Ok.eq ?_);rw[jT];refine BY (M3 h.wf.by g (by omega) (by omega) (by omega)) ?_;rw[h.E6];refine Ob (λq=>MP ?_) λq=>?_;· have:r=[]:=OF.1 (by omega);rw[this];rfl
  have y:(if(1000:Int)<1 then(1000:Int)else 1)=1:=rfl;have A:(if(0:Int)>1 then(0:Int)else 1)=1:=rfl;have B:((r.length:Int)+1)*(1+1)=((2*r.length+2:Nat):Int):=by omega
  rw[y,A,B];refine Aao (Aao (Aao (Aao (Aao (BY (jj h.wf g (by omega) (by omega) (by omega) (by omega)) ?_)))));have F:r≠ []:=λe=>q (by rw[e];rfl);obtain⟨k,E,l,c⟩:=H_ (JB h F);obtain⟨w,u⟩:=Abk.1 l;have C:=Ux E u c;rw[C];refine XD (X:=List Aq×Int) (λx=> ∃j:Nat,x.2=(j:Int)/\(j<=k/\x.1=[]\/j=k+1/\x.1=wl [] (Ac w))) (λx=>k+2-x.2.toNat) ⟨0,rfl, .inl ⟨by omega,rfl⟩⟩ (by dsimp only;omega) λx nx f _ d=>?_;obtain⟨s,z⟩:=x;obtain⟨j,v,f⟩:=f;dsimp only at v f d;subst v;dsimp only;rcases f with⟨D,rfl⟩|⟨D,rfl⟩
  ·have p:YJ fu (r,Bh r.length (λi=>Bh (2*r.length+2+1) λk=>Em r k i),(0:Int),(j:Int),1-((([]:List Aq).length:Nat):Int),[])=Ac (wl [] (lw r j 0)):=
    N8 h.wf g (by omega) (N:=2*r.length+2) (k:=j) (fu:=fu) (i:=0) (pre:=[]) (by omega) (by omega) (by simp;omega) (by omega);refine P7 (T3 (by decide) (Abx (by decide) (BY p (PK (by have:=Zt (pre:=[]) (o:=lw r j 0);simp[Ai];omega) (Aao (d _ ⟨j+1,by dsimp only;omega,?_⟩ (by dsimp only;omega)))))));dsimp only;rw[Ach];rcases Aam j k with t|t;· left;have:=c j t;unfold Em at this;rw[Alg.1 (Alc.1 this)];exact⟨by omega,rfl⟩
   ·obtain rfl:j=k:=by omega
    right;rw[u];exact⟨rfl,rfl⟩
  ·refine Ob (λ_=>Qh (by show¬((([[]++w]:List Aq).length:Int)<1);simp) (MP rf)) λ_=>MP rf
 refine BY key ?_;cases LQ r with
 |none=>exact T3 rfl (MP rfl)
 |some w=>exact Qh (by show¬((([[]++w]:List Aq).length:Int)=0);simp) (BY (a:=w) rfl (MP rfl))
theorem Zq{f:Nat}(J:Bf l)(I:DT l n)(hn:n<4294967295)(h0:0<l.length)(C:f<l.length)(M:Em l f 0=Bp)(v:∀j,j<f->Em l j 0=Aj)(hf:2*n+400<fu):
  Ok (TT fu l) λr=>r.1.head?=lw l f 0:=by
 have O:=WR;obtain⟨Z,y⟩:=Abk.1 M;have V:=I.1;refine SE (λk (s:List Bool)=>s=(Bh k λi=>fin l (i:Int))) l.length rfl (by omega) (λk s nx C B H=>?_) (λs nx B=>?_);· refine P7 (Aah C (PK (by grind[Az]) (H _ ?_)));grind[Dg,Ef]
 refine P8 (PK (by omega) ?_);have t:s=Cn l 0:=by rw[B];exact AO λi _=>(Hh l i).symm
 refine XD (X:=List (List Bool)×Int) (λx=> ∃k:Nat,x.2=k/\k<=f/\x.1=Bh (max k 1) (Cn l)) (λx=>f+1-x.2.toNat) ⟨0,rfl,by omega,by rw[t];rfl⟩ (by omega) λx Y P _ m=>?_;obtain⟨e,z⟩:=x;obtain⟨k,N,T,c⟩:=P;dsimp only at N c m;subst N;have q:((Cn l k).any λb=>b)=Bp:=by obtain⟨j,S,E⟩:=MC J (k:=k) (d:=f-k) (i:=0) (by rw[show k+(f-k)=f by omega];exact M);exact VN S E
 have u:(Cn l k).length<fu:=by unfold Cn;rw[Az];omega
 have p:∀ {R:List (List Bool)} {kb:Bool->Option (List (List UInt8)×Bool)},R=Bh (k+1) (Cn l)->
   (k<f->Ok (kb Bp) λr=>r.1.head?=lw l f 0)->
   Ok (Ab (Y9 fu (l,aC (k:Int),aC ((k:Int)+1-(k:Int)),(k:Int),R)) λA=>rA kb A.1 A.2) λr=>r.1.head?=lw l f 0:=λ{R kb} Q F=>by
  rw[Q,show aC (k:Int)=k by omega,show aC ((k:Int)+1-(k:Int))=1 by omega];refine OH (Ru J I (by omega) h0 (by omega) (by omega)) λr w=>?_;rcases Aam k f with h|h;· rw[w.1 (v k h)];have:=F h;exact this
  ·obtain rfl:k=f:=by omega
   exact(Wy (w.2 Z y)).mono λo U=>U.trans y.symm
 dsimp only;refine P7 (Ob (λC=>?_) λC=>?_)
 ·have W:idx e ((k:Int)-1)=Ac (Cn l (k-1)):=by
   rw[show((k:Int)-1)=((k-1:Nat):Int) by omega,c,Bk (by rw[Az];omega),Bm]
  have hc:=di (l:=l) (k:=k-1) (fu:=fu) J I (by omega) (by omega);rw[show k-1+1=k by omega]at hc;have a:e++[Cn l k]=Bh (k+1) (Cn l):=by rw[c,show max k 1=k by omega,Dg]
  have L:e.length=k:=by rw[c,Az];omega
  have K:idx (e++[Cn l k]) (k:Int)=Ac (Cn l k):=by rw[a,Bk (by rw[Az];omega),Bm]
  refine Aao (BY W (BY hc (Abw (BY K (BY (LV u) ?_)))));rw[q];refine Qb rf (Aao (Aao (PK ⟨⟨by omega,by omega⟩,rf,by rw[a,Az];omega⟩ ?_)));refine p a λG=>Qb rf (Aao (m _ ⟨k+1,by dsimp only;omega,by omega,by dsimp only;rw[a,show max (k+1) 1=k+1 by omega]⟩ (by dsimp only;omega)))
 ·obtain rfl:k=0:=by omega
  have a:e=Bh (0+1) (Cn l):=c;have K:idx e ((0:Nat):Int)=Ac (Cn l 0):=by rw[a,Bk (by rw[Az];omega),Bm]
  refine BY K (BY (LV u) ?_);rw[q];refine Qb rf (Aao (Aao (PK ⟨⟨by omega,by omega⟩,rf,by rw[a,Az];omega⟩ ?_)));refine p a λG=>Qb rf (Aao (m _ ⟨1,by dsimp only;omega,by omega,by dsimp only;rw[a];rfl⟩ (by dsimp only;omega)))
theorem OG{L:Lg}(h:CD r L m)(j:DT r n)(u:n<4294967295)(s:2*n+400<fu):Vr fu r=Ac (lsO (LQ r)):=by
 have key:Y4 fu (r,1)=Ac (wl [] (LQ r)):=by
  refine(Ok.eq ?_);rw[Y4];refine Qh (by simp) (BY (Gg h.wf.by j (by omega) (by omega) (by omega)) ?_);rw[h.E6];refine BY (rf) ?_;by_cases g:r=[]
  ·subst g;have:TT fu []=Ac ([],Bp):=by
    refine(Ok.eq ?_);have q:=WR;rw[TT];obtain⟨f,rfl⟩:∃f,fu=f+1:=⟨fu-1,by omega⟩;rw[Ad];exact Qh (by simp) (MP rfl)
   refine BY this ?_;exact MP rf
  ·have t:0<r.length:=Aeb.2 g;obtain⟨k,i,c,d⟩:=H_ (JB h g);obtain⟨w,p⟩:=Abk.1 c;rw[Ux i p d];refine OH (Zq h.wf j u t i c d s) λo e=>?_;rw[p]at e;obtain⟨l,b⟩:=o;cases l with
   |nil=>grind
   |cons y l=>
    cases e;exact PK (by trivial) (Abx (by decide) (T3 (by simp) (MP rfl)))
 refine(Ok.eq ?_);refine BY key ?_;cases LQ r with
 |none=>exact T3 rfl (MP rfl)
 |some w=>exact Qh (by simp[wl]) (BY (a:=w) rfl (MP rfl))
theorem nA{l:Tb}(h:Bf l):∀ {k i:Nat} {w:Aq},lw l k i=Ac w->Av l (i:Int) w=Bp
 |0,i,w,e=>by
  unfold lw at e;split at e;· cases e;trivial
  grind
 |k+1,i,w,e=>by
  obtain⟨d,c,e⟩:=Aez e;obtain⟨v,g,rfl⟩:=Pd.1 e;have a:=(PH h i).rg d c;show Av l (Bl l i (UInt8.ofNat d.1.toNat).toNat) v=Bp;have b:Bl l i (UInt8.ofNat d.1.toNat).toNat=d.2.2:=by rw[show(UInt8.ofNat d.1.toNat).toNat=d.1.toNat by grind[UInt8.toNat_ofNat']];rw[show Bl l i d.1.toNat=AP (Im l i) d.1.toNat by rfl];grind[Oi,PH]
  rw[b];have:=nA h g;grind
theorem aL(h:Bf r)(e:LQ r=Ac w):Av r 0 w=Bp:=by obtain⟨k,_,e⟩:=Aez e;grind[nA]
theorem MQ{L:Lg}(h:CD r L m)(e:LQ r=C7):r=[]:=GB λd=>by obtain⟨k,c,a,b⟩:=H_ (JB h d);obtain⟨w,f⟩:=Abk.1 a;grind[Ux]
theorem U0:∀ {w:Aq},gq w w=Aj
 | []=>rfl
 |a::w=>by unfold gq;rw[U0];simp
theorem dt:∀ {w v:Aq},gq w v=Bp->gq v w=Aj
 |_,[],h=>by grind[gq]
 | [],_::_,_=>by rfl
 |a::w,b::v,h=>by
  unfold gq at h⊢;simp only[Adx,AT,decide_eq_true_eq,beq_iff_eq,Bool.or_eq_false_iff,Agr,decide_eq_false_iff_not]at h⊢;rcases h with h|⟨rfl,h⟩
  ·grind
  ·exact⟨λk=>by grind, .inr (dt h)⟩
theorem UZ:∀ {w v:Aq},gq w v=Aj->gq v w=Aj->w=v
 | [],[],_,_=>rfl
 |a::_,[],_,h=>by trivial
 | [],_::_,h,_=>by trivial
 |a::w,b::v,h,k=>by
  unfold gq at h k;simp only[Bool.or_eq_false_iff,Agr,decide_eq_false_iff_not,beq_eq_false_iff_ne]at h k;have e:a=b:=by grind
  subst e;rw[UZ (h.2.resolve_left λq=>q rfl) (k.2.resolve_left λq=>q rfl)]
def D8(x y:Int):Int:=if x<y then-1 else if y<x then 1 else 0
def FL(x y:Aq):Int:=if gq x y=Bp then-1 else if gq y x=Bp then 1 else 0
def EJ(x y:Aq):Int:=if D8 x.length y.length=0 then FL x y else D8 x.length y.length
def rI(p q:Option Aq):Int:=match p,q with
 |none,C7=>0
 |none,Ac _=>1
 |some _,C7=> -1
 |some w,Ac v=>EJ w v
theorem Nd(x y:Int):D8 y x= -D8 x y:=by grind[D8]
theorem BE:D8 x y=0↔x=y:=by grind[D8]
theorem S8(x y:Aq):FL y x= -FL x y:=by
 unfold FL;by_cases h:gq x y=Bp;· simp_all[if_neg,dt,if_pos]
 grind
theorem KK{x y:Aq} :FL x y=0↔x=y:=by
 unfold FL;constructor
 ·grind[gq,UZ]
 ·grind[U0]
theorem cX(x y:Aq):EJ y x= -EJ x y:=by
 unfold EJ;rw[Nd x.length y.length];by_cases h:D8 x.length y.length=0;· rw[if_pos h,if_pos (by omega),S8]
 omega
theorem O8{x y:Aq} :EJ x y=0↔x=y:=by
 unfold EJ;constructor
 ·grind[KK]
 ·rintro rfl;rw[if_pos (BE.2 rfl),KK.2 rfl]
theorem c8(p q:Option Aq):rI q p= -rI p q:=by
 cases p<;>cases q;· rfl
 ·rfl
 ·rfl
 ·exact cX _ _
theorem QF:Vp fu (x,y)=Ac (D8 x y):=by refine(Ok.eq ?_);rw[Vp];unfold D8;have e:∀z,eS fu z=Ac Aj:=λz=>(by simp[eS]);refine BY (e x) (BY (e y) (Qb rf (Qb rf ?_)));exact Ob (λh=>MP (by omega)) λh=>Ob (λk=>MP (by omega)) λk=>MP (by omega)
theorem KL{x y:Aq}{P:Int->Prop}(h:P (FL x y)):Ok (bif gq x y then Ac (-1:Int)else bif !(gq x y||decide (x=y))then Ac (1:Int)else Ac (0:Int)) P:=by
 unfold FL at h;refine P3 (λk=>MP (by grind)) λk=>?_;rw[k]at h;by_cases e:x=y;· simp_all[U0,Qb,MP]
 ·refine VP (by grind) (MP ?_);grind[gq,absurd,UZ]
theorem WN{x y:Aq} :YY fu (x,y)=Ac (FL x y):=by refine(Ok.eq ?_);rw[YY];refine BY (rf) (BY (rf) ?_);rw[decide_eq_true (rf:x=x),decide_eq_true (rf:y=y)];exact Qb rf (Qb rf (KL rf))
theorem ZL{v:Aq} :ew fu (w,v)=Ac (EJ w v):=by
 refine(Ok.eq ?_);rw[ew];refine Ob (λh=>Ob (λk=>MP ?_) λk=>MP ?_) λh=>KL ?_;· have e:D8 w.length v.length= -1:=if_pos k;unfold EJ;rw[e];rfl
 ·have e:D8 w.length v.length=1:=(if_neg k).trans (if_pos (by omega));unfold EJ;rw[e];rfl
 ·unfold EJ;rw[if_pos (BE.2 (by omega))]
open Classical in
noncomputable def O5(a b:Tb):Tb:=if h:∃t m,CD t (λw=>gL a w&& !gL b w) m then h.choose else []
theorem Qy{a b:Tb}{q:Nat}(h:CD r (λw=>gL a w&& !gL b w) q):O5 a b=r:=by have e:∃t m,CD t (λw=>gL a w&& !gL b w) m:=⟨r,q,h⟩;unfold O5;rw[dif_pos e];obtain⟨m,c⟩:=e.choose_spec;exact c.unique h
noncomputable def Ff(a b:Tb):Int:=rI (LQ (O5 a b)) (LQ (O5 b a))
theorem J0(a b:Tb):Ff b a= -Ff a b:=c8 _ _
theorem c9(x y:Int):D8 x y= -1\/D8 x y=0\/D8 x y=1:=by
 unfold D8;split;· exact .inl rfl
 ·split;· exact .inr (.inr rfl)
  ·exact .inr (.inl rf)
theorem cZ(x y:Aq):FL x y= -1\/FL x y=0\/FL x y=1:=by
 unfold FL;split;· exact .inl rfl
 ·split;· exact .inr (.inr rfl)
  ·exact .inr (.inl rf)
theorem cY(w v:Aq):EJ w v= -1\/EJ w v=0\/EJ w v=1:=by
 unfold EJ;split;· exact cZ _ _
 ·exact c9 _ _
theorem iE(c:2<fu):eR fu [x,y]=Ac (if x=0 then y else x):=by
 refine(Ok.eq ?_);rw[eR];obtain⟨f,rfl⟩:∃f,fu=f+3:=⟨fu-3,by omega⟩;rw[Ad];refine T3 (by simp) (Aah (by simp) (Ob (λh=>MP ?_) λh=>?_));· grind
 have a:x=0:=GB h;rw[Ad];refine T3 (by simp) (Aah (by simp) (Ob (λh=>MP ?_) λh=>?_));· simp_all
 have b:y=0:=GB h;simp_all[Ad,Qh,MP,if_pos]
end
section
variable {a b : Tb} {L M : Lg} {m p fu : Nat} (ha : CD a L m) (hb : CD b M p) (hm : (m + 2) * (p + 2) <= 1000000000) (hF : 1000000000000 < fu)
include ha hb hm hF
theorem HH:CD (O5 a b) (λw=>L w&& !M w) (G1 a b)/\G1 a b<=1000000000/\YZ fu (a,b)=Ac (O5 a b)/\Xc fu (a,b)=Ac (O5 a b):=by
 have e:=GD (fu:=fu) ha hb (by omega) hF;have j:G1 a b<=(m+2)*(p+2):=Abv (by have:=ha.len;omega) (by have:=hb.len;omega);obtain⟨r,g,c⟩:=Ox e;obtain⟨t,h,i⟩:=MJ e;have d:=Qy c;have f:=Qy i;rw[d];refine⟨?_,by omega,g,?_⟩;· rw[ha.gL,hb.gL]at c;omega
 grind
theorem Fw:YX fu (a,b)=Ac (Ff a b):=by
 have c:=GD (fu:=fu) ha hb (by omega) hF;have f:(p+2)*(m+2)<=1000000000:=by grind
 obtain⟨d,k,h,_⟩:=HH ha hb hm hF;obtain⟨e,o,i,_⟩:=HH hb ha f hF;have g:∀ {l:Tb} {K:Lg} {q:Nat},CD l K q->N6 l->DT l (max (max m p) 256)->Q7 fu l=Ac l:=λ{l K q} d e j=>by rw[Gg e j c.hn c.hf (by omega),d.E6]
 refine(Ok.eq ?_);refine BY (g ha c.ha c.sa) (BY (g hb c.hb c.sb) (BY h (BY (OG (n:=max (G1 a b) 256) d (d.wf.sh (Aan d.len (by omega)) (by omega)) (by omega) (by omega)) (BY i (BY (OG (n:=max (G1 b a) 256) e (e.wf.sh (Aan e.len (by omega)) (by omega)) (by omega) (by omega)) ?_)))));unfold Ff;cases LQ (O5 a b)with
 |none=>cases LQ (O5 b a)with
  |none=>exact VP rfl (VP rfl (MP rfl))
  |some v=>exact VP rfl (Qb rfl (Qb rfl (VP rfl (MP rfl))))
 |some w=>cases LQ (O5 b a)with
  |none=>exact Qb rfl (VP rfl (MP rfl))
  |some v=>exact Qb rfl (Qb rfl (Qb rfl (BY QF (BY WN (BY (iE (by omega)) (MP rfl))))))
theorem cz{w v:Aq}(h1:LQ (O5 a b)=Ac w)(h2:LQ (O5 b a)=Ac v):w≠v:=λe=>by
 have c:(p+2)*(m+2)<=1000000000:=by grind
 obtain⟨d,_⟩:=HH ha hb hm hF;obtain⟨f,_⟩:=HH hb ha c hF;have g:=aL d.wf h1;have h:=aL f.wf h2;rw[d.lg]at g;rw[f.lg]at h;grind
theorem JY:ep fu (a,b)=Ac (Ff a b):=by
 have e:(p+2)*(m+2)<=1000000000:=by rw[Adb];exact hm
 obtain⟨c,o,_,g⟩:=HH ha hb hm hF;obtain⟨d,q,_,i⟩:=HH hb ha e hF;have ne:=λw v=>cz ha hb hm hF (w:=w) (v:=v);refine(Ok.eq ?_);rw[ep];refine BY g (BY (IY (n:=max (G1 a b) 256) c (c.wf.sh (Aan c.len (by omega)) (by omega)) (by omega) (by omega)) (BY i (BY (IY (n:=max (G1 b a) 256) d (d.wf.sh (Aan d.len (by omega)) (by omega)) (by omega) (by omega)) ?_)));unfold Ff;cases j:LQ (O5 a b)with
 |none=>cases f:LQ (O5 b a)with
  |none=>exact VP rfl (VP rfl (MP rfl))
  |some v=>exact VP rfl (Qb rfl (Qb rfl (MP rfl)))
 |some w=>cases f:LQ (O5 b a)with
  |none=>exact Qb rfl (VP rfl (VP rfl (MP rfl)))
  |some v=>
   have k:EJ w v≠0:=λh=>ne w v j f (O8.1 h);have l:=cY w v;refine Qb rfl (VP rfl (Qb rfl (BY ZL (Ob (λh=>MP ?_) λh=>MP ?_))));· have h:EJ w v<0:=h;show-1=EJ w v;omega
   ·have h:¬EJ w v<0:=h;show 1=EJ w v;omega
theorem KM:Ff a b=0↔a=b:=by
 have c:(p+2)*(m+2)<=1000000000:=by grind
 obtain⟨e,_⟩:=HH ha hb hm hF;obtain⟨f,_⟩:=HH hb ha c hF;have ne:=λw v=>cz ha hb hm hF (w:=w) (v:=v);constructor;· unfold Ff;cases g:LQ (O5 a b)with
  |none=>cases d:LQ (O5 b a)with
   |none=>
    intro _;have i:=e.GC.1 (MQ e g);have j:=f.GC.1 (MQ f d);refine ha.unique (hb.congr (funext λw=>?_));have n:=congrFun i w;have o:=congrFun j w;cases k:L w<;>cases l:M w<;>simp_all
   |some v=>intro h;cases h
  |some w=>cases d:LQ (O5 b a)with
   |none=>intro h;cases h
   |some v=>intro h;exact absurd (O8.1 h) (ne w v g d)
 ·grind[J0]
end
section
variable{fu:Nat}{a b:Bool}{x y:Sc}{l:List Int}{P:Int->Prop}{k m p:Nat}
theorem QC{x y:List Sp×List Sp}(N:LB x)(O:LB y)(S:x.1.length+y.1.length<=11/\x.2.length+y.2.length<=11)(F:20<fu):
  ∃c,LF fu (x,y)=Ac c/\LF fu (y,x)=Ac (-c)/\(c=0->(∀n,A8 x n↔A8 y n)/\∀n,A6 x n↔A6 y n):=by
 obtain⟨p,_,i,t,V,W⟩:=Ge (fu:=fu) (gu:=200) N O S F (by omega);obtain⟨q,_,j,B,X,Y⟩:=Ge (fu:=fu) (gu:=200) O N (by omega) F (by omega);have T:=t.sm (by omega) (by omega);have U:=B.sm (by omega) (by omega);obtain⟨Q,v,f,z,_,ev,P⟩:=Ia (fu:=fu) (gu:=200) T F (by omega);obtain⟨R,w,g,C,_,o,lw⟩:=Ia (fu:=fu) (gu:=200) U F (by omega);have A:∀u,CZ Q u->CZ x u/\ -1000000000000000<=u/\u<=1000000000000000:=λu k=>by
  rcases(E3 z u).1 k with⟨a,b⟩|⟨a,b⟩;· have b:=(t.A8 _).1 b;exact⟨.inl ⟨a,b.1.1.1⟩,by omega⟩
  ·have b:=(t.A6 _).1 b;have c:=b.1.1.1;rw[Ir a]at c b;exact⟨.inr ⟨a,c⟩,b.2⟩
 have D:∀u,CZ R u->¬CZ x u/\ -1000000000000000<=u/\u<=1000000000000000:=λu k=>by
  rcases(E3 C u).1 k with⟨a,b⟩|⟨a,b⟩
  ·have b:=(B.A8 _).1 b;refine⟨λk=>?_,by omega⟩;rcases k with⟨_,k⟩|⟨k,_⟩;· exact b.1.2 ⟨k,b.2⟩
   omega
  ·have b:=(B.A6 _).1 b;have K:=b.2;rw[Ir a]at K;refine⟨λk=>?_,K⟩;rcases k with⟨k,_⟩|⟨_,k⟩;· omega
   ·exact b.1.2 ⟨by grind[Ir],b.2⟩
 have E:∀u,CZ Q u\/CZ R u-> -2000000000000000<=u/\u<=2000000000000000:=λu k=>k.elim (λk=>by have:=(A u k).2;omega) (λk=>by have:=(D u k).2;omega);have m:∀c,Ok (LF fu (x,y)) (λr=>r=c)->LF fu (x,y)=Ac c:=λc k=>k.eq;have d:∀c,Ok (LF fu (y,x)) (λr=>r=c)->LF fu (y,x)=Ac c:=λc k=>k.eq;have nil:∀ {r H:List Sp×List Sp},Eh r (A8 r) (A6 r)->Eh H (A8 r) (A6 r)->(∀u,¬CZ H u)->r=([],[]):=λ{r H} h M no=>(h.unique M).trans ((Agi M).1 no);cases f with
 |false=>
  cases g with
  |false=>
   refine⟨0,m _ ?_,d _ ?_,λ_=>?_⟩;· exact BY i (BY ev (BY j (BY o (VP rf (VP rf (MP rf))))))
   ·exact BY j (BY o (BY i (BY ev (VP rf (VP rf (MP rf))))))
   ·have a:=(Kp t).1 (nil (t.self (λn h=>h.1.2) (λn h=>h.1.2)) z (P.no rfl).2);have b:=(Kp B).1 (nil (B.self (λn h=>h.1.2) (λn h=>h.1.2)) C (lw.no rfl).2);exact⟨λn=>⟨a.1 n,b.1 n⟩,λn=>⟨a.2 n,b.2 n⟩⟩
  |true=>
   refine⟨1,m _ ?_,d _ ?_,λh=>by omega⟩;· exact BY i (BY ev (BY j (BY o (VP rf (Qb rf (Qb rf (Qb rf (MP rf))))))))
   ·exact BY j (BY o (BY i (BY ev (Qb rf (VP rf (MP rf))))))
 |true=>
  have I:=P.yes rfl;cases g with
  |false=>
   refine⟨-1,m _ ?_,d _ ?_,λh=>by omega⟩;· exact BY i (BY ev (BY j (BY o (Qb rf (VP rf (MP rf))))))
   ·exact BY j (BY o (BY i (BY ev (VP rf (Qb rf (Qb rf (Qb rf (MP rf))))))))
  |true=>
   have J:=lw.yes rfl;have L:=V4 (fu:=fu) (E v (.inl I.1)) (E w (.inr J.1));have s:=V4 (fu:=fu) (E w (.inr J.1)) (E v (.inl I.1));have ne:v≠w:=λe=>(D w J.1).1 (e▸(A v I.1).1);by_cases c:Co v w
   ·have G:¬Co w v:=λk=>by unfold Co ab at c k;omega
    refine⟨-1,m _ ?_,d _ ?_,λh=>by omega⟩;· exact BY i (BY ev (BY j (BY o (Qb rf (Qb rf (VP rf (BY L (VP (decide_eq_true c) (MP rf)))))))))
    ·exact BY j (BY o (BY i (BY ev (Qb rf (Qb rf (VP rf (BY s (Qb (decide_eq_false G) (MP rf)))))))))
   ·have G:Co w v:=GB λk=>ne (MI c k);refine⟨1,m _ ?_,d _ ?_,λh=>by omega⟩;· exact BY i (BY ev (BY j (BY o (Qb rfl (Qb rfl (VP rfl (BY L (Qb (decide_eq_false c) (MP rfl)))))))))
    ·exact BY j (BY o (BY i (BY ev (Qb rf (Qb rf (VP rf (BY s (VP (decide_eq_true G) (MP rf)))))))))
def Dd(a b:Bool):Int:=if a=b then 0 else if a=Bp then-1 else 1
theorem HO(a b:Bool):Dd b a= -Dd a b:=by cases a<;>cases b<;>rfl
theorem EP:Dd a b=0↔a=b:=by cases a<;>cases b<;>decide
theorem QG:eA fu (a,b)=Ac (Dd a b):=by cases a<;>cases b<;>rfl
def fz:List Int->Int
 | []=>0
 |x::l=>if x=0 then fz l else x
theorem UJ:∀l:List Int,fz (l.map λx=> -x)= -fz l
 | []=>rfl
 |x::l=>by
  show(if-x=0 then fz (l.map λx=> -x)else-x)= -(if x=0 then fz l else x);by_cases h:x=0;· rw[if_pos (by omega),if_pos h,UJ l]
  omega
theorem Ft:∀ {l:List Int},fz l=0->∀x∈l,x=0
 | [],_,x,a=>by grind
 |y::l,h,x,a=>by
  have h:(if y=0 then fz l else y)=0:=h;by_cases k:y=0
  ·rw[if_pos k]at h;rcases Aav.1 a with rfl|a;· omega
   ·exact Ft h x a
  omega
theorem SD(i:l.length<fu)(h:P (fz l)):
  Ok (Ad fu (λ(d:Nat) c=>bif Di ((d:Int)<(l.length:Int))then Ab (idx l (d:Int)) λg=>bif Di (g≠(0:Int))then Ac g else c (d+1)else Ac (0:Int)) 0) P:=by
 refine V_ (λk=>fz (l.drop k)=fz l) l.length rf i (λk nx f a j=>?_) (λnx a=>?_)
 ·have e:fz (l.drop k)=if l[k]=0 then fz (l.drop (k+1))else l[k]:=by rw[Aak f];rfl
  refine P7 (Aah f (Ob (λb=>MP ?_) λb=>j ?_));all_goals grind
 simp_all[fz,Adk,P8,MP]
theorem bW{K:Option Int}(h1:Dd a b≠0->P (Dd a b))(h2:Dd a b=0->Ok K P):
  Ok (bif Di ((a::[b])=(Bp::[Aj]))then Ac (-1:Int)else bif Di ((a::[b])=(Aj::[Bp]))then Ac (1:Int)else K) P:=by
 cases a<;>cases b;· exact Qb rfl (Qb rfl (h2 rfl))
 ·exact Qb rf (VP rf (MP (h1 (by decide))))
 ·exact VP rf (MP (h1 (by decide)))
 ·exact Qb rf (Qb rf (h2 rf))
theorem GM{gu H:Nat}(d:Ij k m x)(g:Ij H p y)(hk:k+H<=11)(t:(m+2)*(p+2)<=100000000)(r:1000000000000<fu)(F:1000000000000<gu):
  ∃c,TQ fu (x,y)=Ac c/\YH gu (x,y)=Ac c/\TQ fu (y,x)=Ac (-c)/\(c=0->x=y):=by
 have q1:m<=(m+2)*(p+2):=Aan (by omega:m<=(m+2)*1) (Abv (Aac _) (by omega));have q2:p<=(m+2)*(p+2):=Aan (by omega:p<=1*(p+2)) (Abv (by omega) (Aac _));have G:(p+2)*(m+2)<=100000000:=by rw[Adb];exact t
 have x1:=d.n1;have x2:=d.n2;have y1:=g.n1;have y2:=g.n2;have w:=d.sc (by omega:k<=12);have A:=g.sc (by omega:H<=12);have L:dZ fu x=Ac Bp:=by obtain⟨b,e,j⟩:=HZ (fu:=fu) w (by omega) r;rw[e,j.2 ⟨d.nu,d.ln.wf,d.ln.can⟩]
 have M:dZ fu y=Ac Bp:=by obtain⟨b,e,j⟩:=HZ (fu:=fu) A (by omega) r;rw[e,j.2 ⟨g.nu,g.ln.wf,g.ln.can⟩]
 have T:N2 gu x=Ac Bp:=by obtain⟨b,e,j⟩:=N' (fu:=gu) w (by omega) F;rw[e,j.2 ⟨d.nu,d.ln.wf,d.ln.can⟩]
 have U:N2 gu y=Ac Bp:=by obtain⟨b,e,j⟩:=N' (fu:=gu) A (by omega) F;rw[e,j.2 ⟨g.nu,g.ln.wf,g.ln.can⟩]
 obtain⟨n,K,B,zn⟩:=QC (fu:=fu) w.sm A.sm (by omega) (by omega);obtain⟨S,P,C⟩:=S4 (fu:=fu) (gu:=gu) w.sm A.sm (by omega) (by omega) (by omega);obtain rfl:n=S:=Abs (K.symm.trans C);have J:=Fw d.ln g.ln (Aan t (by decide)) r;have o:=Fw g.ln d.ln (Aan G (by decide)) r;have q:=JY d.ln g.ln (Aan t (by decide)) F;have O:=KM d.ln g.ln (Aan t (by decide)) r;have sl:=J0 x.2.2.2.2 y.2.2.2.2;generalize Ff x.2.2.2.2 y.2.2.2.2=l at J q O sl;generalize Ff y.2.2.2.2 x.2.2.2.2=l' at o sl;subst sl;have i:∀ {u v:Sc} {n l:Int},dZ fu u=Ac Bp->dZ fu v=Ac Bp->LF fu (u.2.2.2.1,v.2.2.2.1)=Ac n->YX fu (u.2.2.2.2,v.2.2.2.2)=Ac l->TQ fu (u,v)=Ac (fz [Dd u.1 v.1,Dd u.2.1 v.2.1,Dd u.2.2.1 v.2.2.1,n,l]):=λ{u v n l} s E Q R=>by
  refine(Ok.eq ?_);rw[TQ];refine BY s (Qb rfl (BY E (Qb rfl ?_)));obtain⟨f,rfl⟩:∃f,fu=f+4:=⟨fu-4,by omega⟩;rw[Ad];refine T3 (by decide) (PK (by decide) (BY (a:=(u.1,v.1)) rfl (bW (λh=>(if_neg h).symm) λD=>Abx (by decide) ?_)));rw[Ad];refine T3 (by decide) (PK (by decide) (BY (a:=(u.2.1,v.2.1)) rfl (bW (λh=>((if_pos D).trans (if_neg h)).symm) λs=>Abx (by decide) ?_)));rw[Ad];refine T3 (by decide) (PK (by decide) (BY (a:=(u.2.2.1,v.2.2.1)) rfl (bW (λh=>((if_pos D).trans ((if_pos s).trans (if_neg h))).symm) λE=>Abx (by decide) ?_)));rw[Ad];have I:fz [Dd u.1 v.1,Dd u.2.1 v.2.1,Dd u.2.2.1 v.2.2.1,n,l]=fz [n,l]:=(if_pos D).trans ((if_pos s).trans (if_pos E));refine Qh (by decide) (BY Q (Ob (λh=>MP ?_) λh=>BY R (MP ?_)));· rw[I];exact(if_neg h).symm
  ·rw[I];refine Eq.trans ?_ (if_pos (GB h)).symm;show l=if l=0 then 0 else l;split;· assumption
   ·rfl
 refine⟨fz [Dd x.1 y.1,Dd x.2.1 y.2.1,Dd x.2.2.1 y.2.2.1,n,l],i L M K J,?_,?_,λh=>?_⟩;· refine(Ok.eq ?_);rw[YH];exact BY T (Qb rf (BY U (Qb rf (BY QG (BY QG (BY QG (BY P (BY q (SD (l:=[Dd x.1 y.1,Dd x.2.1 y.2.1,Dd x.2.2.1 y.2.2.1,n,l]) (by simp;omega) rf)))))))))
 ·rw[i M L B o,<-UJ];simp only[Aas,Aee];rw[HO x.1,HO x.2.1,HO x.2.2.1]
 ·have z:=Ft h;have V:=EP.1 (z (Dd x.1 y.1) (by simp));have W:=EP.1 (z (Dd x.2.1 y.2.1) (by simp));have X:=EP.1 (z (Dd x.2.2.1 y.2.2.1) (by simp));have N:=zn (z n (by simp));have Y:=O.1 (z l (by simp));have Z:=d.nu.unique (g.nu.congr (λn=>(N.1 n).symm) λn=>(N.2 n).symm);exact Acp V (Acp W (Acp X (Acp Z Y)))
noncomputable def E_(x y:Sc):Int:=(YH 2000000000000 (x,y)).getD 0
theorem Gm{j:Nat}(e:Ij k m x)(f:Ij j p y)(i:k+j<=11)(b:(m+2)*(p+2)<=100000000)(a:1000000000000<fu):
  TQ fu (x,y)=Ac (E_ x y)/\YH fu (x,y)=Ac (E_ x y)/\E_ y x= -E_ x y/\(E_ x y=0->x=y):=by
 have d:(p+2)*(m+2)<=100000000:=by rw[Adb];exact b
 obtain⟨c,g,n,o,q⟩:=GM (fu:=fu) (gu:=2000000000000) e f i b a (by decide);obtain⟨w,r,s,_⟩:=GM (fu:=fu) (gu:=fu) e f i b a a;obtain⟨l,t,u,_⟩:=GM (fu:=fu) (gu:=2000000000000) f e (by omega) d a (by decide);have h:E_ x y=c:=by unfold E_;rw[n];rfl
 have v:E_ y x=l:=by unfold E_;rw[u];rfl
 rw[h,v];exact⟨g,by rw[s,<-r,g],Abs (t.symm.trans o),q⟩
def A7{α:Type}(c:α->α->Int):List α->List α->Int
 | [],[]=>0
 | [],_::_=> -1
 |_::_,[]=>1
 |x::a,y::b=>if c x y=0 then A7 c a b else c x y
theorem Gn{α:Type}{c:α->α->Int} :∀ {a b:List α},(∀x∈a,∀y∈b,c y x= -c x y)->A7 c b a= -A7 c a b
 | [],[],_=>rfl
 | [],_::_,_=>rfl
 |_::_,[],_=>rfl
 |x::a,y::b,h=>by have g:=Gn (a:=a) (b:=b) λu d v f=>h u (Aag _ d) v (Aag _ f);grind[A7]
theorem D7{α:Type}{c:α->α->Int} :∀ {a b:List α},(∀x∈a,∀y∈b,c x y=0->x=y)->A7 c a b=0->a=b
 | [],[],_,_=>rfl
 | [],_::_,_,h=>by cases h
 |_::_,[],_,h=>by cases h
 |x::a,y::b,h,e=>by have i:=D7 (a:=a) (b:=b) λu f v g=>h u (Aag _ f) v (Aag _ g);grind[A7,absurd]
def JZ(R:Vl->Vl->Int)(x y:A9):Int:=fz [R x.1 y.1,R x.2 y.2]
def DI(R:Vl->Vl->Int)(c b:GZ):Int:=fz [D8 c.1.length b.1.length,Dd (Di (0<c.2.length)) (Di (0<b.2.length)),A7 (JZ R) (AY c) (AY b)]
def S9(R:Vl->Vl->Int)(f a:Aq×Int×A9):Int:=fz [FL f.1 a.1,D8 f.2.1 a.2.1,JZ R f.2.2 a.2.2]
noncomputable def S_(R:Vl->Vl->Int)(k a:Tb×A9):Int:=fz [Ff k.1 a.1,JZ R k.2 a.2]
noncomputable def Et(R:Vl->Vl->Int)(c a:Bz):Int:=fz [A7 (S9 R) c.1 a.1,A7 (S_ R) c.2 a.2]
noncomputable def BA:Nat->Vl->Vl->Int
 |0,_,_=>0
 |d+1,a,b=>fz [Dd a.any b.any,E_ a.sc b.sc,A7 (DI (BA d)) a.lists b.lists,A7 (Et (BA d)) a.structs b.structs]
theorem Kz{a:List Int}(h:a=l.map λx=> -x):fz a= -fz l:=by rw[h,UJ]
end
section
variable {R : Vl -> Vl -> Int} {d : Nat} (hs : ∀ {a b : Vl}, SV d a -> SV d b -> R b a = - R a b /\ (R a b = 0 -> a = b))
include hs
theorem HM{x y:A9}(f:SW d x)(g:SW d y):JZ R y x= -JZ R x y/\(JZ R x y=0->x=y):=by have c:=hs f.1 g.1;have e:=hs f.2 g.2;refine⟨Kz (by simp_all),λh=>?_⟩;have z:=Ft h;exact Acp (c.2 (z _ (by simp))) (e.2 (z _ (by simp)))
theorem Pa{c f:GZ}(hc:∀x∈AY c,SW d x)(g:∀x∈AY f,SW d x):DI R f c= -DI R c f/\(DI R c f=0->c=f):=by
 refine⟨Kz ?_,λh=>?_⟩;· simp only[Aas,Aee];grind[Nd,HO,Gn,HM]
 ·have z:=Ft h;have l:=BE.1 (z (D8 c.1.length f.1.length) (by simp));have k:=D7 (λx i y j=>(HM hs (hc x i) (g y j)).2) (z (A7 (JZ R) (AY c) (AY f)) (by simp));have:=Ala k (by omega);grind
theorem c_{f c:Aq×Int×A9}(h:SW d f.2.2)(e:SW d c.2.2):S9 R c f= -S9 R f c/\(S9 R f c=0->f=c):=by
 have k:=HM hs h e;refine⟨Kz ?_,λh=>?_⟩;· grind[S8,Nd]
 ·have z:=Ft h;have g:=KK.1 (z (FL f.1 c.1) (by simp));have i:=BE.1 (z (D8 f.2.1 c.2.1) (by simp));have j:=k.2 (z (JZ R f.2.2 c.2.2) (by simp));grind
theorem dc{k c:Tb×A9}(l:CD k.1 (Av k.1 0) 14641)(f:CD c.1 (Av c.1 0) 14641)(h:SW d k.2)(e:SW d c.2):S_ R c k= -S_ R k c/\(S_ R k c=0->k=c):=by
 have q:=HM hs h e;refine⟨Kz ?_,λh=>?_⟩;· grind[J0]
 ·have z:=Ft h;have g:=(KM (fu:=2000000000000) l f (by simp) (by decide)).1 (z (Ff k.1 c.1) (by simp));exact Acp g (q.2 (z (JZ R k.2 c.2) (by simp)))
theorem O9{c j:Bz}(b:NY c)(b':NY j)(g:DA c)(m:DA j)(hc:∀x∈Br c,SW d x)(l:∀x∈Br j,SW d x):Et R j c= -Et R c j/\(Et R c j=0->c=j):=by
 have f:=λx (e:x∈c.1) y (i:y∈j.1)=>c_ hs (hc _ (AS.2 (.inl (By.2 ⟨x,e,rfl⟩)))) (l _ (AS.2 (.inl (By.2 ⟨y,i,rfl⟩))));have k:=λx (e:x∈c.2) y (i:y∈j.2)=>dc hs ⟨(g.1 x e).2.1,(g.1 x e).2.2,rfl,b.each x e⟩ ⟨(m.1 y i).2.1,(m.1 y i).2.2,rfl,b'.each y i⟩ (hc _ (AS.2 (.inr (By.2 ⟨x,e,rfl⟩)))) (l _ (AS.2 (.inr (By.2 ⟨y,i,rfl⟩))));refine⟨Kz ?_,λh=>?_⟩;· simp only[Aas,Aee];grind[Gn]
 ·have z:=Ft h;exact Acp (D7 (λx e y i=>(f x e y i).2) (z (A7 (S9 R) c.1 j.1) (by simp))) (D7 (λx e y i=>(k x e y i).2) (z (A7 (S_ R) c.2 j.2) (by simp)))
end
section
variable{α:Type}{fu:Nat}{b:List α}{c:α->α->Int}{a:List α}{f:α->α->Option Int}{g1 g2:α×α->Option (Int×α×α)}{x y:α}{g3:α×α->Option (Int×α×α)}{h:Int}{E:Option Int}{P:Int->Prop}
theorem Air{a b:Vl}(h1:a.any=b.any)(h2:a.sc=b.sc)(h3:a.lists=b.lists)(c:a.structs=b.structs):a=b:=by cases a;cases b;grind[Vl.any,Vl.sc,Vl.lists,Vl.structs]
theorem HN:∀ {d:Nat} {a b:Vl},SV d a->SV d b->BA d b a= -BA d a b/\(BA d a b=0->a=b)
 |0,_,_,h,_=>h.1.elim
 |d+1,a,b,f,g=>by
  have k:=Dt f.1.1 f.2.1.sc;have sb:=Dt g.1.1 g.2.1.sc;obtain⟨_,_,i,j⟩:=Gm (fu:=2000000000000) k sb (by decide) (by decide) (by decide);have l:=λx (c:x∈a.lists) y (e:y∈b.lists)=>Pa HN (f.lv c) (g.lv e);have s:=λx (c:x∈a.structs) y (e:y∈b.structs)=>O9 HN (f.1.2.2.1.2 x c) (g.1.2.2.1.2 y e) (f.2.1.st x c).2 (g.2.1.st y e).2 (f.sv c) (g.sv e);refine⟨Kz ?_,λh=>?_⟩;· simp only[Aas,Aee];rw[<-HO,i,<-Gn λx c y e=>(l x c y e).1,<-Gn λx c y e=>(s x c y e).1]
  ·have z:=Ft h;exact Air (EP.1 (z (Dd a.any b.any) (by simp))) (j (z (E_ a.sc b.sc) (by simp))) (D7 (λx c y e=>(l x c y e).2) (z (A7 (DI (BA d)) a.lists b.lists) (by simp))) (D7 (λx c y e=>(s x c y e).2) (z (A7 (Et (BA d)) a.structs b.structs) (by simp)))
theorem E'(o:a.length<fu)(h:∀x∈a,∀y∈b,f x y=Ac (c x y)):
  Ok (Ad fu (λ(g:Nat) l=>bif Di ((g:Int)<(a.length:Int))then Ab (idx a (g:Int)) λq=>bif Di ((b.length:Int)<=(g:Int))then Ac (1:Int)else Ab (idx b (g:Int)) λs=>Ab (f q s) λm=>bif Di (m≠(0:Int))then Ac m else l (g+1)else bif Di ((a.length:Int)<(b.length:Int))then Ac (-1:Int)else Ac (0:Int)) 0) λr=>r=A7 c a b:=by
 refine V_ (λk=>k<=b.length/\A7 c (a.drop k) (b.drop k)=A7 c a b) a.length ⟨Abe _,rf⟩ o (λk nx j d p=>?_) (λnx d=>?_)
 ·obtain⟨n,d⟩:=d;rw[Aak j]at d;refine P7 (Aah j (Ob (λe=>MP ?_) λe=>?_));· rw[Afb (by omega:b.length<=k)]at d;exact d
  ·have e:k<b.length:=by omega
   rw[Aak e]at d;refine Aah e (BY (h _ (AN j) _ (AN e)) (Ob (λi=>MP ?_) λi=>p ⟨by omega,?_⟩));· rw[<-d];exact(if_neg i).symm
   ·rw[<-d];exact(if_pos (GB i)).symm
 ·obtain⟨n,d⟩:=d;rw[Adk]at d;refine P8 (Ob (λe=>MP ?_) λe=>MP ?_);· rw[Aak (by omega:a.length<b.length)]at d;exact d
  ·rw[Afb (by omega:b.length<=a.length)]at d;exact d
theorem KC{d e:Int}(h1:g1 (x,y)=Ac (d,x,y))(h2:g2 (x,y)=Ac (e,x,y)):
  Ok (bif Di ((0:Int)<(↑2:Int))then Ag ((0:Int)<=(0:Int)/\(0:Int)<(↑2:Int))<|Ab (g1 (x,y)) λa=>bif Di (a.1≠(0:Int))then Ac (a.1,a.2.1,a.2.2)else Aa (Lr.i64) ((0:Int)+(1:Int))<|bif Di ((0:Int)+(1:Int)<(↑2:Int))then Ag ((0:Int)<=(0:Int)+(1:Int)/\(0:Int)+(1:Int)<(↑2:Int))<|Ab (g2 (a.2.1,a.2.2)) λb=>bif Di (b.1≠(0:Int))then Ac (b.1,b.2.1,b.2.2)else Aa (Lr.i64) ((0:Int)+(1:Int)+(1:Int))<|bif Di ((0:Int)+(1:Int)+(1:Int)<(↑2:Int))then Ag ((0:Int)<=(0:Int)+(1:Int)+(1:Int)/\(0:Int)+(1:Int)+(1:Int)<(↑2:Int))<|none else Ac ((0:Int),b.2.1,b.2.2)else Ac ((0:Int),a.2.1,a.2.2)else Ac ((0:Int),x,y)) λr=>r.1=fz [d,e]:=by
 refine T3 (by simp) (PK (by simp) (BY h1 (Ob (λk=>MP (if_neg k).symm) λc=>Abx (by simp) ?_)));refine T3 (by simp) (PK (by simp) (BY h2 (Ob (λk=>MP ((if_pos (GB c)).trans (if_neg k)).symm) λf=>Abx (by simp) ?_)));exact Qh (by simp) (MP ((if_pos (GB c)).trans (if_pos (GB f))).symm)
theorem OZ{f g:Int}(h1:g1 (x,y)=Ac (f,x,y))(h2:g2 (x,y)=Ac (g,x,y))(h3:g3 (x,y)=Ac (h,x,y)):
  Ok (bif Di ((0:Int)<(↑3:Int))then Ag ((0:Int)<=(0:Int)/\(0:Int)<(↑3:Int))<|Ab (g1 (x,y)) λa=>bif Di (a.1≠(0:Int))then Ac (a.1,a.2.1,a.2.2)else Aa (Lr.i64) ((0:Int)+(1:Int))<|bif Di ((0:Int)+(1:Int)<(↑3:Int))then Ag ((0:Int)<=(0:Int)+(1:Int)/\(0:Int)+(1:Int)<(↑3:Int))<|Ab (g2 (a.2.1,a.2.2)) λb=>bif Di (b.1≠(0:Int))then Ac (b.1,b.2.1,b.2.2)else Aa (Lr.i64) ((0:Int)+(1:Int)+(1:Int))<|bif Di ((0:Int)+(1:Int)+(1:Int)<(↑3:Int))then Ag ((0:Int)<=(0:Int)+(1:Int)+(1:Int)/\(0:Int)+(1:Int)+(1:Int)<(↑3:Int))<|Ab (g3 (b.2.1,b.2.2)) λc=>bif Di (c.1≠(0:Int))then Ac (c.1,c.2.1,c.2.2)else Aa (Lr.i64) ((0:Int)+(1:Int)+(1:Int)+(1:Int))<|bif Di ((0:Int)+(1:Int)+(1:Int)+(1:Int)<(↑3:Int))then Ag ((0:Int)<=(0:Int)+(1:Int)+(1:Int)+(1:Int)/\(0:Int)+(1:Int)+(1:Int)+(1:Int)<(↑3:Int))<|none else Ac ((0:Int),c.2.1,c.2.2)else Ac ((0:Int),b.2.1,b.2.2)else Ac ((0:Int),a.2.1,a.2.2)else Ac ((0:Int),x,y)) λr=>r.1=fz [f,g,h]:=by
 refine T3 (by simp) (PK (by simp) (BY h1 (Ob (λk=>MP (if_neg k).symm) λd=>Abx (by simp) ?_)));refine T3 (by simp) (PK (by simp) (BY h2 (Ob (λk=>MP ((if_pos (GB d)).trans (if_neg k)).symm) λe=>Abx (by simp) ?_)));refine T3 (by simp) (PK (by simp) (BY h3 (Ob (λk=>MP ((if_pos (GB d)).trans ((if_pos (GB e)).trans (if_neg k))).symm) λi=>Abx (by simp) ?_)));exact Qh (by simp) (MP ((if_pos (GB d)).trans ((if_pos (GB e)).trans (if_pos (GB i)))).symm)
theorem Yd{g4:α×α->Option (Int×α×α)}{i j l:Int}(h1:g1 (x,y)=Ac (h,x,y))(h2:g2 (x,y)=Ac (i,x,y))(h3:g3 (x,y)=Ac (j,x,y))(m:g4 (x,y)=Ac (l,x,y)):
  Ok (bif Di ((0:Int)<(↑4:Int))then Ag ((0:Int)<=(0:Int)/\(0:Int)<(↑4:Int))<|Ab (g1 (x,y)) λa=>bif Di (a.1≠(0:Int))then Ac (a.1,a.2.1,a.2.2)else Aa (Lr.i64) ((0:Int)+(1:Int))<|bif Di ((0:Int)+(1:Int)<(↑4:Int))then Ag ((0:Int)<=(0:Int)+(1:Int)/\(0:Int)+(1:Int)<(↑4:Int))<|Ab (g2 (a.2.1,a.2.2)) λb=>bif Di (b.1≠(0:Int))then Ac (b.1,b.2.1,b.2.2)else Aa (Lr.i64) ((0:Int)+(1:Int)+(1:Int))<|bif Di ((0:Int)+(1:Int)+(1:Int)<(↑4:Int))then Ag ((0:Int)<=(0:Int)+(1:Int)+(1:Int)/\(0:Int)+(1:Int)+(1:Int)<(↑4:Int))<|Ab (g3 (b.2.1,b.2.2)) λc=>bif Di (c.1≠(0:Int))then Ac (c.1,c.2.1,c.2.2)else Aa (Lr.i64) ((0:Int)+(1:Int)+(1:Int)+(1:Int))<|bif Di ((0:Int)+(1:Int)+(1:Int)+(1:Int)<(↑4:Int))then Ag ((0:Int)<=(0:Int)+(1:Int)+(1:Int)+(1:Int)/\(0:Int)+(1:Int)+(1:Int)+(1:Int)<(↑4:Int))<|Ab (g4 (c.2.1,c.2.2)) λd=>bif Di (d.1≠(0:Int))then Ac (d.1,d.2.1,d.2.2)else Aa (Lr.i64) ((0:Int)+(1:Int)+(1:Int)+(1:Int)+(1:Int))<|bif Di ((0:Int)+(1:Int)+(1:Int)+(1:Int)+(1:Int)<(↑4:Int))then Ag ((0:Int)<=(0:Int)+(1:Int)+(1:Int)+(1:Int)+(1:Int)/\(0:Int)+(1:Int)+(1:Int)+(1:Int)+(1:Int)<(↑4:Int))<|none else Ac ((0:Int),d.2.1,d.2.2)else Ac ((0:Int),c.2.1,c.2.2)else Ac ((0:Int),b.2.1,b.2.2)else Ac ((0:Int),a.2.1,a.2.2)else Ac ((0:Int),x,y)) λr=>r.1=fz [h,i,j,l]:=by
 refine T3 (by simp) (PK (by simp) (BY h1 (Ob (λk=>MP (if_neg k).symm) λe=>Abx (by simp) ?_)));refine T3 (by simp) (PK (by simp) (BY h2 (Ob (λk=>MP ((if_pos (GB e)).trans (if_neg k)).symm) λf=>Abx (by simp) ?_)));refine T3 (by simp) (PK (by simp) (BY h3 (Ob (λk=>MP ((if_pos (GB e)).trans ((if_pos (GB f)).trans (if_neg k))).symm) λg=>Abx (by simp) ?_)));refine T3 (by simp) (PK (by simp) (BY m (Ob (λk=>MP ((if_pos (GB e)).trans ((if_pos (GB f)).trans ((if_pos (GB g)).trans (if_neg k)))).symm) λn=>Abx (by simp) ?_)));exact Qh (by simp) (MP ((if_pos (GB e)).trans ((if_pos (GB f)).trans ((if_pos (GB g)).trans (if_pos (GB n))))).symm)
theorem Wr{a b:Bool} :kI fu (a,b)=Ac (Dd a b):=by cases a<;>cases b<;>rfl
theorem YC{x:Option (Int×α)}{n:Int}(h:Ok x λr=>r.1=n):GK.Ab x (λr=>Ac r.1)=Ac n:=by obtain⟨r,rfl,h⟩:=h;rw[<-h];rfl
theorem I1:∀ {d fu:Nat} {a b:Vl},SV d a->SV d b->1000000000000+20*d<fu->eQ fu (a,b)=Ac (BA d a b)
 |0,_,_,_,h,_,_=>h.1.elim
 |d+1,fu,a,b,j,k,X=>by
  obtain⟨f,rfl⟩:∃f,fu=f+15:=⟨fu-15,by omega⟩;have c:∀ {g:Nat} {x y:A9},SW d x->SW d y->1000000000000+20*d+3<g->YR g (x,y)=Ac (JZ (BA d) x y):=λ{g x y} z A Y=>by
   obtain⟨e,rfl⟩:∃e,g=e+3:=⟨g-3,by omega⟩;refine(d205 (e+2) x y).trans (YC ?_);rw[show uc (e+2) (x,y)=_ from d204 (e+1) x y];refine KC (g1:=uf (e+1)) (g2:=ue (e+1)) ?_ ?_;· refine(d202 e x y).trans (Ok.eq ?_);exact BY (I1 z.1 A.1 (by omega)) (MP rfl)
   ·refine(d203 e x y).trans (Ok.eq ?_);exact BY (I1 z.2 A.2 (by omega)) (MP rf)
  have O:=Dt j.1.1 j.2.1.sc;have sb:=Dt k.1.1 k.2.1.sc;obtain⟨R,⟨S,E⟩,⟨T,F⟩,_⟩:=id j.1;obtain⟨U,⟨V,G⟩,⟨W,H⟩,_⟩:=id k.1;refine(d227 (f+14) a b).trans (YC ?_);rw[show tD (f+14) (a,b)=_ from d226 (f+13) a b];refine Yd (g1:=uj (f+13)) (g2:=ui (f+13)) (g3:=tW (f+13)) (g4:=tE (f+13)) ?_ ?_ ?_ ?_;· refine(Ok.eq ?_);exact BY Wr (MP rfl)
  ·refine(Ok.eq ?_);exact BY (Gm O sb (by simp) (by simp) (by omega)).1 (MP rf)
  ·refine(d211 (f+12) a b).trans (Ok.eq ?_);refine OH (Q:=λr=>r=A7 (DI (BA d)) a.lists b.lists) ?_ λr i=>MP (by rw[i]);rw[show tX (f+12) (a.lists,b.lists)=_ from d210 (f+11) _ _];refine E' (f:=λx y=>tY (f+11) (x,y)) (by omega) λx l y m=>?_;have q:=E _ l;have B:=G _ m;have s:=j.lv l;have t:=k.lv m;refine(d209 (f+10) x y).trans (YC ?_);rw[show tZ (f+10) (x,y)=_ from d208 (f+9) x y];refine OZ (g1:=uh (f+9)) (g2:=ug (f+9)) (g3:=t_ (f+9)) ?_ ?_ ?_;· refine(Ok.eq ?_);exact BY QF (MP rf)
   ·refine(Ok.eq ?_);refine BY Wr (MP ?_);simp
   ·refine(d207 (f+8) x y).trans (Ok.eq ?_);refine BY (Ho (by omega) (by omega)) (BY (Ho (by omega) (by omega)) (OH (Q:=λr=>r=A7 (JZ (BA d)) (AY x) (AY y)) ?_ λr i=>MP (by rw[i])));rw[show ua (f+8) (AY x,AY y)=_ from d206 (f+7) _ _];exact E' (f:=λx y=>YR (f+7) (x,y)) (by unfold AY;rw[Aaa];omega) λu I v J=>c (s _ I) (t _ J) (by omega)
  ·refine(d225 (f+12) a b).trans (Ok.eq ?_);unfold yR;refine OH (Q:=λr=>r=A7 (Et (BA d)) a.structs b.structs) ?_ λr i=>MP (by rw[i]);rw[show tF (f+12) (a.structs,b.structs)=_ from d224 (f+11) _ _];unfold yS;refine E' (f:=λx y=>tG (f+11) (x,y)) (by omega) λx l y m=>?_;have q:=F _ l;have B:=H _ m;have C:=(j.2.1.st _ l).2.1;have D:=(k.2.1.st _ m).2.1;have s:=j.sv l;have t:=k.sv m;have Z:=q.nf;have l2:=q.nc;refine(d223 (f+10) x y).trans (YC ?_);rw[show tH (f+10) (x,y)=_ from d222 (f+9) x y];unfold yT;refine KC (g1:=tO (f+9)) (g2:=tI (f+9)) ?_ ?_
   ·refine(d216 (f+8) x y).trans (Ok.eq ?_);unfold yY;refine OH (Q:=λr=>r=A7 (S9 (BA d)) x.1 y.1) ?_ λr i=>MP (by rw[i]);rw[show tR (f+8) (x.1,y.1)=_ from d215 (f+7) _ _];unfold yZ;refine E' (f:=λx y=>tS (f+7) (x,y)) (by omega) λu M v N=>?_;have w:=s _ (AS.2 (.inl (By.2 ⟨_,M,rf⟩)));have t2:=t _ (AS.2 (.inl (By.2 ⟨_,N,rf⟩)));refine(d214 (f+6) u v).trans (YC ?_);rw[show tT (f+6) (u,v)=_ from d213 (f+5) u v];unfold y_;refine OZ (g1:=kH (f+5)) (g2:=kG (f+5)) (g3:=tU (f+5)) ?_ ?_ ?_;· refine(Ok.eq ?_);rw[kH];exact BY WN (MP rf)
    ·refine(Ok.eq ?_);rw[kG];exact BY QF (MP rf)
    ·refine(d212 (f+4) u v).trans (Ok.eq ?_);unfold za;exact BY (c w t2 (by omega)) (MP rf)
   ·refine(d221 (f+8) x y).trans (Ok.eq ?_);unfold yU;refine OH (Q:=λr=>r=A7 (S_ (BA d)) x.2 y.2) ?_ λr i=>MP (by rw[i]);rw[show tK (f+8) (x.2,y.2)=_ from d220 (f+7) _ _];unfold yV;refine E' (f:=λx y=>tL (f+7) (x,y)) (by omega) λu o v p=>?_;have w:=s _ (AS.2 (.inr (By.2 ⟨_,o,rf⟩)));have t2:=t _ (AS.2 (.inr (By.2 ⟨_,p,rf⟩)));have K:CD u.1 (Av u.1 0) 14641:=⟨(C _ o).2.1,(C _ o).2.2,rf,q.each _ o⟩;have L:CD v.1 (Av v.1 0) 14641:=⟨(D _ p).2.1,(D _ p).2.2,rf,B.each _ p⟩;refine(d219 (f+6) u v).trans (YC ?_);rw[show tM (f+6) (u,v)=_ from d218 (f+5) u v];unfold yW;refine KC (g1:=kF (f+5)) (g2:=tN (f+5)) ?_ ?_;· refine(Ok.eq ?_);rw[kF];exact BY (Fw K L (by decide) (by omega)) (MP rf)
    ·refine(d217 (f+4) u v).trans (Ok.eq ?_);unfold yX;exact BY (c w t2 (by omega)) (MP rf)
theorem Ng{x y:Int} :G6 fu (x,y)=Ac (D8 x y):=by refine(Ok.eq ?_);rw[G6];unfold D8;exact Ob (λh=>MP (by rw[if_pos h])) λh=>Ob (λk=>MP (by rw[if_neg h,if_pos k])) λk=>MP (by rw[if_neg h,if_neg k])
theorem xw{x y:Aq} :jS fu (x,y)=Ac (FL x y):=by refine(Ok.eq ?_);rw[jS];exact KL rf
theorem O_{α:Type}{c:α->α->Int}{b b':List α} :∀ {a a':List α},a.length=a'.length->A7 c (a++b) (a'++b')=if A7 c a a'=0 then A7 c b b' else A7 c a a'
 | [],[],_=>rfl
 |x::a,y::a',h=>by
  have d:=O_ (c:=c) (b:=b) (b':=b') (a:=a) (a':=a') (by simpa using h);show(if c x y=0 then A7 c (a++b) (a'++b')else c x y)=if(if c x y=0 then A7 c a a' else c x y)=0 then A7 c b b' else if c x y=0 then A7 c a a' else c x y;by_cases k:c x y=0;· simp only[if_pos k];exact d
  ·simp only[if_neg k]
theorem Jr(q:a.length<fu)(h:∀x∈a,∀y∈b,f x y=Ac (c x y))
  (h1:A7 c a b≠0->P (A7 c a b)) (n:A7 c a b=D8 a.length b.length->Ok E P):
  Ok (Ad fu (λ(i:Nat) m=>bif Di ((i:Int)<(a.length:Int))then bif Di ((i:Int)<(b.length:Int))then Ab (idx a (i:Int)) λs=>Ab (idx b (i:Int)) λt=>Ab (f s t) λo=>bif Di (o≠(0:Int))then Ac o else m (i+1)else E else E) 0) P:=by
 refine V_ (λk=>k<=b.length/\A7 c (a.drop k) (b.drop k)=A7 c a b) a.length ⟨Abe _,rf⟩ q (λk nx l d r=>?_) (λnx d=>?_)
 ·obtain⟨p,d⟩:=d;rw[Aak l]at d;refine P7 (Ob (λg=>?_) λg=>n ?_)
  ·have g:k<b.length:=by omega
   rw[Aak g]at d;refine Aah l (Aah g (BY (h _ (AN l) _ (AN g)) (Ob (λj=>MP ?_) λj=>r ⟨by omega,?_⟩)));· have e:A7 c a b=c a[k] b[k]:=d.symm.trans (if_neg j);rw[<-e];exact h1 (by rw[e];exact j)
   ·rw[<-d];exact(if_pos (GB j)).symm
  ·rw[Afb (by omega:b.length<=k)]at d;rw[<-d];exact((if_neg (by omega)).trans (if_pos (by omega))).symm
 ·obtain⟨p,d⟩:=d;rw[Adk]at d;refine P8 (n ?_);rw[<-d];rcases Aam a.length b.length with g|g;· rw[Aak g];exact(if_pos (by omega)).symm
  ·rw[Afb g];exact(BE.2 (by omega)).symm
theorem VL(p:a.length<fu)(q:a.length=b.length)(h:∀x∈a,∀y∈b,f x y=Ac (c x y))
  (h1:A7 c a b≠0->P (A7 c a b)) (o:A7 c a b=0->Ok E P):
  Ok (Ad fu (λ(i:Nat) m=>bif Di ((i:Int)<(a.length:Int))then Ab (idx a (i:Int)) λs=>Ab (idx b (i:Int)) λt=>Ab (f s t) λn=>bif Di (n≠(0:Int))then Ac n else m (i+1)else E) 0) P:=by
 refine V_ (λk=>A7 c (a.drop k) (b.drop k)=A7 c a b) a.length rf p (λk nx l d r=>?_) (λnx d=>?_)
 ·have j:k<b.length:=by omega
  rw[Aak l,Aak j]at d;refine P7 (Aah l (Aah j (BY (h _ (AN l) _ (AN j)) (Ob (λg=>MP ?_) λg=>r ?_))));· have e:A7 c a b=c a[k] b[k]:=d.symm.trans (if_neg g);rw[<-e];exact h1 (by rw[e];exact g)
  ·rw[<-d];exact(if_pos (GB g)).symm
 ·rw[Adk,q,Adk]at d;exact P8 (o d.symm)
end
section
variable {d : Nat} (ih : ∀ {fu : Nat} {a b : Vl}, SV d a -> SV d b -> 1000000000000 + 20 * d < fu -> TH fu (a, b) = Ac (BA d a b))
section
variable{fu:Nat}
include ih
theorem HQ{x y:A9}(c:SW d x)(e:SW d y)(g:1000000000000+20*d+1<fu):Q1 fu (x,y)=Ac (JZ (BA d) x y):=by
 obtain⟨f,rfl⟩:∃f,fu=f+1:=⟨fu-1,by omega⟩;refine(d330 f x y).trans (Ok.eq ?_);unfold yK;refine BY (ih c.1 e.1 (by omega)) (Ob (λh=>MP (if_neg h).symm) λh=>BY (ih c.2 e.2 (by omega)) (MP ?_));refine Eq.trans ?_ (if_pos (GB h)).symm;show _=if _=0 then 0 else _;split;· assumption
 ·rfl
theorem aP{x y:GZ}(h1:x.1.length<=3)(z:x.2.length<=1)(A:y.2.length<=1)(o:∀w∈AY x,SW d w)(p:∀w∈AY y,SW d w)(t:1000000000000+20*d+2<fu):jR fu (x,y)=Ac (DI (BA d) x y):=by
 obtain⟨f,rfl⟩:∃f,fu=f+1:=⟨fu-1,by omega⟩;refine(d331 f x y).trans (Ok.eq ?_);unfold yH;refine Ob (λh=>BY Ng (MP (if_neg λk=>h (BE.1 k)).symm)) λh=>?_;have n:x.1.length=y.1.length:=by omega
 have q:D8 x.1.length y.1.length=0:=BE.2 (by omega);have j:D8 y.2.length x.2.length=Dd (Di (0<x.2.length)) (Di (0<y.2.length)):=by rcases(by omega:x.2.length=0\/x.2.length=1)with e|e<;>rcases(by omega:y.2.length=0\/y.2.length=1)with l|l<;>rw[e,l]<;>rfl
 refine Ob (λm=>BY Ng (MP ?_)) λm=>?_;· rw[j];exact((if_pos q).trans (if_neg (by rw[<-j];exact λk=>m (BE.1 k).symm))).symm
 have s:Dd (Di (0<x.2.length)) (Di (0<y.2.length))=0:=by rw[<-j];exact BE.2 (by omega)
 have e:DI (BA d) x y=A7 (JZ (BA d)) (AY x) (AY y):=by
  refine(if_pos q).trans ((if_pos s).trans ?_);show(if _=0 then 0 else _)=_;split;· exact(by assumption:_=(0:Int)).symm
  ·rfl
 have r:A7 (JZ (BA d)) (AY x) (AY y)=_:=O_ n;rw[e,r];refine VL (f:=λu v=>Q1 f (u,v)) (by omega) n (λu g v i=>HQ ih (o _ (AS.2 (.inl g))) (p _ (AS.2 (.inl i))) (by omega)) (λk=>(if_neg k).symm) λk=>?_;rw[if_pos k];exact VL (f:=λu v=>Q1 f (u,v)) (by omega) (by omega) (λu g v i=>HQ ih (o _ (AS.2 (.inr g))) (p _ (AS.2 (.inr i))) (by omega)) (λk=>rfl) λk=>MP k.symm
end
end
theorem xe(x:Int):fz [x]=x:=by show(if x=0 then 0 else x)=x;omega
theorem BU{x:Int}{l:List Int}(h:x=0):fz (x::l)=fz l:=if_pos h
theorem Dj{x:Int}{l:List Int}(h:x≠0):fz (x::l)=x:=if_neg h
section
variable {d : Nat} (ih : ∀ {fu : Nat} {a b : Vl}, SV d a -> SV d b -> 1000000000000 + 20 * d < fu -> TH fu (a, b) = Ac (BA d a b))
section
variable{fu:Nat}
include ih
theorem Yf{x y:Aq×Int×A9}(c:SW d x.2.2)(e:SW d y.2.2)(g:1000000000000+20*d+2<fu):jQ fu (x,y)=Ac (S9 (BA d) x y):=by
 obtain⟨f,rfl⟩:∃f,fu=f+1:=⟨fu-1,by omega⟩;refine(d332 f x y).trans (Ok.eq ?_);unfold yG S9;refine BY xw (Ob (λh=>MP (Dj h).symm) λh=>BY Ng (Ob (λk=>MP ?_) λk=>BY (HQ ih c e (by omega)) (MP ?_)));· rw[BU (GB h),Dj k]
 ·rw[BU (GB h),BU (GB k),xe]
theorem Ys{x y:Tb×A9}(g:CD x.1 (Av x.1 0) 14641)(i:CD y.1 (Av y.1 0) 14641)(c:SW d x.2)(e:SW d y.2)(j:1000000000000+20*d+2<fu):eo fu (x,y)=Ac (S_ (BA d) x y):=by obtain⟨f,rfl⟩:∃f,fu=f+1:=⟨fu-1,by omega⟩;refine(d333 f x y).trans (Ok.eq ?_);unfold yF S_;refine BY (JY g i (by decide) (by omega)) (Ob (λh=>MP (Dj h).symm) λh=>BY (HQ ih c e (by omega)) (MP ?_));rw[BU (GB h),xe]
theorem T5{x y:Bz}(i:NY x)(j:NY y)(l:DA x)(m:DA y)(n:∀w∈Br x,SW d w)(o:∀w∈Br y,SW d w)(r:1000000000000+20*d+3<fu):ej fu (x,y)=Ac (Et (BA d) x y):=by
 obtain⟨f,rfl⟩:∃f,fu=f+1:=⟨fu-1,by omega⟩;have s:=i.nf;have t:=i.nc;have p:=λu (c:u∈x.1) v (g:v∈y.1)=>Yf ih (fu:=f) (n _ (AS.2 (.inl (By.2 ⟨u,c,rfl⟩)))) (o _ (AS.2 (.inl (By.2 ⟨v,g,rfl⟩)))) (by omega);have q:=λu (c:u∈x.2) v (g:v∈y.2)=>Ys ih (fu:=f) ⟨(l.1 u c).2.1,(l.1 u c).2.2,rfl,i.each u c⟩ ⟨(m.1 v g).2.1,(m.1 v g).2.2,rfl,j.each v g⟩ (n _ (AS.2 (.inr (By.2 ⟨u,c,rfl⟩)))) (o _ (AS.2 (.inr (By.2 ⟨v,g,rfl⟩)))) (by omega);refine(d334 f x y).trans (Ok.eq ?_);unfold yE Et;refine Jr (f:=λu v=>jQ f (u,v)) (by omega) p (λk=>(Dj k).symm) λe=>?_;refine Ob (λh=>BY Ng (MP ?_)) λh=>?_;· rw[Dj (by rw[e];exact λk=>h (BE.1 k)),e]
 rw[BU (by rw[e];exact BE.2 (by omega)),xe];exact Jr (f:=λu v=>eo f (u,v)) (by omega) q (λk=>rfl) λe=>BY Ng (MP e.symm)
end
end
section
variable{fu:Nat}{α:Type}{d:Nat}{c:α->α->Int}{l:List α}{B:α->α->Prop}{cmp:α->α->Option Int}{m k:Nat}{a b:Vl}{x y:GZ}{s:Sc}{v:Vl}
theorem HL:∀ {d fu:Nat} {a b:Vl},SV d a->SV d b->1000000000000+20*d<fu->TH fu (a,b)=Ac (BA d a b)
 |0,_,_,_,h,_,_=>h.1.elim
 |d+1,fu,a,b,c,g,y=>by
  obtain⟨f,rfl⟩:∃f,fu=f+1:=⟨fu-1,by omega⟩;have o:∀ {fu:Nat} {a b:Vl},SV d a->SV d b->1000000000000+20*d<fu->TH fu (a,b)=Ac (BA d a b):=HL;have w:=Dt c.1.1 c.2.1.sc;have sb:=Dt g.1.1 g.2.1.sc;have p:=c.1.2.1;have l:=c.1.2.2.1;have m:=g.1.2.2.1;refine(d335 f a b).trans (Ok.eq ?_);unfold yD BA;have r:=λu (i:u∈a.lists) v (j:v∈b.lists)=>aP o (fu:=f) (p.2 u i).1 (c.2.1.rs u i) (g.2.1.rs v j) (c.lv i) (g.lv j) (by omega);have s:=λu (i:u∈a.structs) v (j:v∈b.structs)=>T5 o (fu:=f) (l.2 u i) (m.2 v j) (c.2.1.st u i).2 (g.2.1.st v j).2 (c.sv i) (g.sv j) (by omega);refine P3 (λh=>?_) λh=>?_
  ·have n:a.any≠b.any:=λe=>by rw[e]at h;revert h;cases b.any<;>decide
   rw[Dj (λk=>n (EP.1 k))];unfold Dd;rw[if_neg n];exact P3 (λk=>MP (by rw[if_pos k])) λk=>MP (by rw[if_neg (by rw[k];decide)])
  have q:a.any=b.any:=by revert h;cases a.any<;>cases b.any<;>decide
  rw[BU (EP.2 q)];refine BY (Gm w sb (by decide) (by decide) (by omega)).2.1 (Ob (λk=>MP (Dj k).symm) λk=>?_);rw[BU (GB k)];refine Jr (f:=λu v=>jR f (u,v)) (by omega) r (λk=>(Dj k).symm) λe=>?_;refine Ob (λh=>BY Ng (MP ?_)) λh=>?_;· rw[Dj (by rw[e];exact λk=>h (BE.1 k)),e]
  rw[BU (by rw[e];exact BE.2 (by omega)),xe];exact Jr (f:=λu v=>ej f (u,v)) (by omega) s (λk=>rfl) λe=>BY Ng (MP e.symm)
def ER{α:Type}(R:α->α->Prop):List α->Prop
 | []=>True
 | [_]=>True
 |x::y::l=>R x y/\ER R (y::l)
theorem L2{α:Type}{R:α->α->Prop}{p:α}{B:List α} :∀ {A:List α},ER R (A++p::B)↔ER R (A++[p])/\ER R (p::B)
 | []=>⟨λh=>⟨trivial,h⟩,λh=>h.2⟩
 | [x]=>⟨λh=>⟨⟨h.1,trivial⟩,h.2⟩,λh=>⟨h.1.1,h.2⟩⟩
 |x::y::A=>by have a:=L2 (R:=R) (p:=p) (B:=B) (A:=y::A);grind[ER]
theorem QS{α:Type}{R:α->α->Prop} :∀ {l:List α},ER R l->∀i (h:i+1<l.length),R l[i] l[i+1]
 | [],_,i,h=>by grind
 | [_],_,i,h=>by grind
 |x::y::l,a,0,_=>a.1
 |x::y::l,a,i+1,h=>QS a.2 i (by grind)
theorem ie(v:∀x∈l,∀y∈l,c x y<0->¬c y x<0)
  (hc:∀x∈l,∀y∈l,cmp x y=Ac (c x y))  (X:l.length<1099511627776) (W:l.length+1<fu):
  Ok (Su cmp fu 0 l.length l) λr=>r.Perm l/\ER (λp q=> ¬c q p<0) r:=by
 refine XD (λz:List α×Int=>z.1.Perm l/\1<=z.2/\∃A C,z.1=A++C/\ER (λp q=> ¬c q p<0) A/\((A.length:Int)=z.2\/(C=[]/\A.length<z.2))) (λz=>l.length+1-z.2.toNat) ?_ (by omega) ?_;· refine⟨.refl _,by omega,?_⟩;cases l with
  |nil=>exact⟨[],[],rfl,trivial, .inr ⟨rfl,by simp⟩⟩
  |cons x l=>exact⟨[x],l,rfl,trivial, .inl (by simp)⟩
 ·rintro⟨
      m,i⟩ nx ⟨e,S,A,C,a,k,f⟩ R G;have s:m.length=l.length:=e.length_eq;refine Ob (λn=>?_) (λn=>?_)
  ·have o:(A.length:Int)=i:=by
    grind
   obtain⟨q,C,rfl⟩:∃q N,C=q::N:=by
    cases C with
    |nil=>grind
    |cons q C=>simp
   refine XD (λz:List α×Int=>z.1.Perm l/\∃A q B C,z.1=A++q::(B++C)/\(A.length:Int)=z.2/\ER (λp q=> ¬c q p<0) (A++B)/\ER (λp q=> ¬c q p<0) (q::B)/\(A.length:Int)+B.length=i) (λz=>z.2.toNat) ⟨e,A,q,[],C,a,o,by grind,trivial,by simpa using o⟩ (by omega) ?_;rintro⟨m,j⟩ V ⟨e,A,q,B,C,a,E,k,J,D⟩ _ t;dsimp only at e a E;have out:ER (λp q=> ¬c q p<0) (A++q::B)->Ok (nx (m,i+1)) (λr=>r.Perm l/\ER (λp q=> ¬c q p<0) r):=λU=>
    G (m,i+1) ⟨e,by omega,A++q::B,C,by simp[a],U, .inl (by simp only[Aaa,Abo];omega)⟩ (by omega);refine Ob (λn=>?_) (λn=>?_)
   ·obtain⟨A,p,rfl⟩:∃u p,A=u++[p]:=by
     rcases Ael A with h|⟨u,p,h⟩;· subst h;simp at E;omega
     ·exact⟨u,p,by simpa using h⟩
    have b:m=A++p::q::(B++C):=by simp[a]
    simp only[Aaa,Abo,Adq]at E D;have w:idx m j=Ac q:=by unfold idx;rw[if_pos (by omega),b,Aab (by omega)];rw[show j.toNat-A.length=1 by omega];rfl
    have I:idx m (j-1)=Ac p:=by unfold idx;rw[if_pos (by omega),b,Aab (by omega)];rw[show(j-1).toNat-A.length=0 by omega];rfl
    have K:=e.mem_iff.1 (by simp[a]:q∈m);have mp:=e.mem_iff.1 (by simp[a]:p∈m);refine BY w (Aao (BY I (BY (hc q K p mp) ?_)));rw[Aal,List.singleton_append,L2]at k;refine Ob (λd=>?_) (λd=>?_)
    ·have O:¬c p q<0:=v q K p mp d;refine Aao (Aao (BY I (BY w (BY w ?_))));have L:m.set j.toNat p=A++p::p::(B++C):=by
      rw[b,Acy _ _ (by omega),show j.toNat-A.length=1 by omega];rfl
     have M:(m.set j.toNat p).set (j-1).toNat q=A++q::p::(B++C):=by rw[L,Acy _ _ (by omega),show(j-1).toNat-A.length=0 by omega];rfl
     have P:idx (m.set j.toNat p) (j-1)=Ac p:=by unfold idx;rw[if_pos (by omega),L,Aab (by omega)];rw[show(j-1).toNat-A.length=0 by omega];rfl
     refine BY P (Abx (by omega) ?_);refine t _ ⟨?_,A,q,p::B,C,?_,?_,?_,?_,?_⟩ (by show(j-1).toNat<j.toNat;omega);· show((m.set j.toNat p).set (j-1).toNat q).Perm l;rw[M];refine List.Perm.trans ?_ e;rw[b];exact List.Perm.append_left _ (List.Perm.swap ..)
     ·show(m.set j.toNat p).set (j-1).toNat q=_;rw[M];simp
     ·show(A.length:Int)=j-1;omega
     ·exact(L2).2 k
     ·exact⟨O,k.2⟩
     ·simp only[Abo];omega
    ·refine Aao (out ?_);rw[Aal,List.singleton_append,L2];exact⟨k.1,d,J⟩
   ·have H:¬0<j:=n;obtain rfl:A=[]:=OF.1 (by omega);refine Aao (out ?_);exact J
  grind[MP,List.length_eq_zero_iff]
theorem ic(a:ER (λp q=> ¬c q p<0) l)
  (hc:∀x∈l,∀y∈l,cmp x y=Ac (c x y))  (u:l.length<1099511627776) (t:l.length+1<fu):
  Ok (Su cmp fu 0 l.length l) λr=>r=l:=by
 refine XD (λz:List α×Int=>z.1=l/\1<=z.2) (λz=>l.length+1-z.2.toNat) ⟨rfl,by omega⟩ (by omega) ?_;rintro⟨m,i⟩ nx ⟨e,s⟩ o b;subst e;refine Ob (λg=>?_) (λ_=>MP rfl);have n:i<m.length:=g;obtain⟨f,rfl⟩:∃f,fu=f+1:=⟨fu-1,by omega⟩;have out:Ok (nx (m,i+1)) (λr=>r=m):=b (m,i+1) ⟨rfl,by omega⟩ (by omega);refine T3 (by omega) ?_;have h:idx m i=Ac (m[i.toNat]'(by omega)):=Fs (by omega) (by omega);have j:idx m (i-1)=Ac (m[(i-1).toNat]'(by omega)):=Fs (by omega) (by omega);have d:=QS a (i-1).toNat (by omega);have k:(i-1).toNat+1=i.toNat:=by omega
 simp only[k]at d;refine BY h (Aao (BY j (BY (hc _ (AN _) _ (AN _)) ?_)));exact Qh d (Aao out)
theorem Qc(a:∀x∈l,∀y∈l,c x y<0->¬c y x<0)
  (hc:∀x∈l,∀y∈l,cmp x y=Ac (c x y))  (g:l.length<1099511627776) (f:l.length+1<fu):
  Ok (Su cmp fu 0 l.length l) λr=>(r.Perm l/\ER (λp q=> ¬c q p<0) r)/\(ER (λp q=> ¬c q p<0) l->r=l):=by
 obtain⟨r,e,h⟩:=ie a hc g f;refine⟨r,e,h,λb=>?_⟩;obtain⟨j,d,i⟩:=ic b hc g f;grind
theorem ZK{l:List (Tb×A9)}(h:l.length<=12)(b:20<fu){c:_->_->Int}(a:∀x∈l,∀y∈l,c x y<0->¬c y x<0)(hc:∀x∈l,∀y∈l,kW fu (x,y)=Ac (c x y)):Ok (kV fu l) λr=>(r.Perm l/\ER (λp q=> ¬c q p<0) r)/\(ER (λp q=> ¬c q p<0) l->r=l):=by
 rw[kV];have e:(Int.ofNat (l.length %w8 (18446744073709551616:Int)))=(l.length:Nat):=by grind
 rw[e];refine OH (GN h) λr _=>?_;rw[uF];obtain⟨f,rfl⟩:∃f,fu=f+1:=⟨fu-1,by omega⟩;refine OH (Q:=λr:List (Tb×A9)=>(r.Perm l/\ER (λp q=> ¬c q p<0) r)/\(ER (λp q=> ¬c q p<0) l->r=l)) ?_ λr h=>MP h;refine Aao (T3 (by omega) ?_);refine OH (Q:=λr:List (Tb×A9)=>(r.Perm l/\ER (λp q=> ¬c q p<0) r)/\(ER (λp q=> ¬c q p<0) l->r=l)) ?_ λr h=>MP h;exact Qc a hc (by omega) (by omega)
theorem ZJ{l:List (GZ)}(h:l.length<=12)(b:20<fu){c:_->_->Int}(a:∀x∈l,∀y∈l,c x y<0->¬c y x<0)(hc:∀x∈l,∀y∈l,eP fu (x,y)=Ac (c x y)):Ok (eN fu l) λr=>(r.Perm l/\ER (λp q=> ¬c q p<0) r)/\(ER (λp q=> ¬c q p<0) l->r=l):=by
 rw[eN];have e:(Int.ofNat (l.length %w8 (18446744073709551616:Int)))=(l.length:Nat):=by grind
 rw[e];refine OH (GN h) λr _=>?_;rw[tC];obtain⟨f,rfl⟩:∃f,fu=f+1:=⟨fu-1,by omega⟩;refine OH (Q:=λr:List (GZ)=>(r.Perm l/\ER (λp q=> ¬c q p<0) r)/\(ER (λp q=> ¬c q p<0) l->r=l)) ?_ λr h=>MP h;refine Aao (T3 (by omega) ?_);refine OH (Q:=λr:List (GZ)=>(r.Perm l/\ER (λp q=> ¬c q p<0) r)/\(ER (λp q=> ¬c q p<0) l->r=l)) ?_ λr h=>MP h;exact Qc a hc (by omega) (by omega)
theorem ZI{l:List (Bz)}(h:l.length<=12)(b:20<fu){c:_->_->Int}(a:∀x∈l,∀y∈l,c x y<0->¬c y x<0)(hc:∀x∈l,∀y∈l,eM fu (x,y)=Ac (c x y)):Ok (eL fu l) λr=>(r.Perm l/\ER (λp q=> ¬c q p<0) r)/\(ER (λp q=> ¬c q p<0) l->r=l):=by
 rw[eL];have e:(Int.ofNat (l.length %w8 (18446744073709551616:Int)))=(l.length:Nat):=by grind
 rw[e];refine OH (GN h) λr _=>?_;rw[tz];obtain⟨f,rfl⟩:∃f,fu=f+1:=⟨fu-1,by omega⟩;refine OH (Q:=λr:List (Bz)=>(r.Perm l/\ER (λp q=> ¬c q p<0) r)/\(ER (λp q=> ¬c q p<0) l->r=l)) ?_ λr h=>MP h;refine Aao (T3 (by omega) ?_);refine OH (Q:=λr:List (Bz)=>(r.Perm l/\ER (λp q=> ¬c q p<0) r)/\(ER (λp q=> ¬c q p<0) l->r=l)) ?_ λr h=>MP h;exact Qc a hc (by omega) (by omega)
theorem Li(c:SV d a)(e:SV d b)(f:d<=3)(k:1000000002000<fu):kE fu (a,b)=Ac (BA d a b):=by obtain⟨s,g,i⟩:=Ji (fu:=fu) c.1 f (by omega);obtain⟨t,h,j⟩:=Ji (fu:=fu) e.1 f (by omega);refine(Ok.eq ?_);refine BY g ?_;rw[i.2 c.2];refine Qb rfl (BY h ?_);rw[j.2 e.2];exact Qb rfl (BY (I1 c e (by omega)) (MP rfl))
theorem JX(c:SV d a)(e:SV d b)(j:d<=3)(i:1000000002000<fu):Vf fu (a,b)=Ac (BA d a b):=by
 have one:∀ {v:Vl},SV d v->TN fu v=Ac Bp:=λ{v} f=>by obtain⟨s,g,h⟩:=HY (fu:=fu) (lv:=1) f.1 (by omega) (by omega);refine(Ok.eq ?_);rw[TN];exact BY g (MP (h.2 f.2))
 refine(Ok.eq ?_);rw[Vf];exact BY (one c) (Qb rf (BY (one e) (Qb rf (BY (HL c e (by omega)) (MP rf)))))
def oe(x:GZ):Vl:=Vl.mk Aj EL [x] []
def od(x:Bz):Vl:=Vl.mk Aj EL [] [x]
theorem WM:E_ EL EL=0:=by have h:Ij 5 12 EL:=L5;obtain⟨_,_,s,_⟩:=Gm (fu:=2000000000000) h h (by decide) (by decide) (by decide);omega
theorem WL{x y:α} :A7 c [x] [y]=c x y:=by show(if c x y=0 then 0 else c x y)=c x y;omega
theorem WK:BA (d+1) (oe x) (oe y)=DI (BA d) x y:=by
 show fz [Dd Aj Aj,E_ EL EL,A7 (DI (BA d)) [x] [y],A7 (Et (BA d)) [] []]=_;rw[BU (rfl:Dd Aj Aj=0),BU WM,WL];by_cases h:DI (BA d) x y=0;· rw[BU h,h];rfl
 grind[Dj]
theorem WJ{x y:Bz} :BA (d+1) (od x) (od y)=Et (BA d) x y:=by show fz [Dd Aj Aj,E_ EL EL,A7 (DI (BA d)) [] [],A7 (Et (BA d)) [x] [y]]=_;rw[BU (rfl:Dd Aj Aj=0),BU WM,BU (rfl:A7 (DI (BA d)) [] []=0),WL,xe]
theorem xx:4294967296<=Ai:=by decide
theorem nN:4294967296<=Ai:=by decide
def AC(B:α->α->Prop)(l:List α):Prop:= ∀i j (a:i<l.length) (b:j<l.length),i≠j->¬B l[i] l[j]
theorem max_eq{P:List α->Prop}{g:α->α->Option Bool}{srt:List α->Option (List α)}{cap:Nat}(N:4294967296<=cap)(hl:l.length<=12)(hf:20<fu)(O:∀x∈l,∀y∈l,Ok (g x y) λr=>r=Bp↔B x y)
  (X:∀m:List α,m.Sublist l->m.Pairwise (λx y=> ¬B x y/\¬B y x)->(AC B l->m=l)->Ok (srt m) P):
  Ok (Ad fu (λ(a:List α×Nat) t=>
  bif Di (
        (a.2:Int)<(l.length:Int))then
   Ab (idx l (a.2:Int)) λL=>
   Ad fu (
        λ(u:Nat) d=>
    bif Di ((u:Int)<(l.length:Int))then
     Ab (idx l (u:Int)) λU=>
     bif Di ((a.2:Int)≠(u:Int))then
      Ab (g L U) λY=>
      bif Y then
       bif Di ((u:Int)<(a.2:Int))then
        t ((a.1,a.2+1))
       else
        Ab (g U L) λZ=>
        bif !Z then
         t ((a.1,a.2+1))
        else
         d (u+1)
      else
       d (u+1)
     else
      d (u+1)
    else
     Ag (EW a.1+1<=cap)<|
     t (((a.1++[L]),a.2+1))) (0)
  else
   Ab (srt a.1) λr9=>
   Ac (r9)) (([],0))) P:=by
 refine SE (λk (s:List α)=>s.Sublist (l.take k)/\s.Pairwise (λx y=> ¬B x y/\¬B y x)/\(∀x∈s,∃i,∃e:i<l.length,i<k/\l[i]=x/\∀j (o:j<l.length),j≠i->B l[i] l[j]->i<j/\B l[j] l[i])/\(AC B l->s=l.take k)) l.length ⟨by simp,by simp,by simp,λ_=>by simp⟩ (by omega) (λk s nx v G Q=>?_) (λs nx G=>?_)
 ·have m:=AN v;obtain⟨w,E,J,F⟩:=G;have M:l.take (k+1)=l.take k++[l[k]]:=IN v;have skip:(¬AC B l)->Ok (nx (s,k+1)) P:=λh=>Q _ ⟨by grind,E,λx b=>by
   obtain⟨i,e,z,A⟩:=J x b;exact⟨i,e,by omega,A⟩,λq=>absurd q h⟩;refine P7 (Aah v ?_);refine V_ (λn=> ∀j (o:j<l.length),j<n->j≠k->B l[k] l[j]->k<j/\B l[j] l[k]) l.length (λj _ h=>by omega) (by omega) (λj d o f p=>?_) (λd f=>?_)
  ·have S:=AN o;have c:(j≠k->B l[k] l[j]->k<j/\B l[j] l[k])->∀i (e:i<l.length),i<j+1->i≠k->B l[k] l[i]->k<i/\B l[i] l[k]:=λh i e W=>by
    rcases Aam i j with z|z;· exact f i e z
    ·obtain rfl:i=j:=by omega
     omega
   refine P7 (Aah o (Ob (λne=>?_) λne=>p (c λh=>absurd h (by omega))));have K:k≠j:=by omega
   refine OH (O _ m _ S) λr D=>P3 (λh=>?_) λh=>p (c λ_ C=>by rw[D.2 C]at h;cases h);have na:¬AC B l:=λq=>q k j v o K (D.1 h);refine Ob (λ_=>skip na) λH=>OH (O _ S _ m) λr2 I=>P3 (λ_=>skip na) λA=>p (c λ_ _=>⟨by omega,I.1 (by simpa using A)⟩)
  ·have sl:=w.length_le;rw[Abh]at sl;refine P8 (Abw (Q _ ⟨?_,?_,λx b=>?_,λq=>?_⟩));· rw[M];exact w.append (List.Sublist.refl _)
   ·refine Aba.2 ⟨E,Acg ..,λx b y R=>?_⟩;rw[Aaf]at R;subst R;obtain⟨i,e,z,rfl,V⟩:=J x b;have T:¬B l[k] l[i]:=λC=>by have:=(f i e e (by omega) C).1;omega
    exact⟨λC=>T (V k v (by omega) C).2,T⟩
   ·rcases AS.1 b with b|b;· obtain⟨i,e,z,A⟩:=J x b;exact⟨i,e,by omega,A⟩
    ·rw[Aaf]at b;exact⟨k,v,by omega,b.symm,λj o=>f j o o⟩
   ·rw[M,F q]
 ·obtain⟨w,E,_,F⟩:=G;rw[Aar]at w F;exact P8 (OH (X s w E F) λr D=>MP D)
structure LX(d:Nat)(c:GZ):Prop where
 n1:c.1.length<=3
 n2:c.2.length<=1
 vs:∀w∈AY c,SW d w
structure CX(d:Nat)(c:Bz):Prop where
 bd:NY c
 fl:QZ c.1
 gd:DA c
 vs:∀w∈Br c,SW d w
theorem ZB{ls:List GZ}{ss:List Bz}(h1:dQ 5 12 s)(g:vz s)(h2:ls.length<=3)(h3:ss.length<=3)(b:∀c∈ls,LX d c)(e:∀c∈ss,CX d c):SV (d+1) (.mk Aj s ls ss):=by
 have f:∀x∈kids (.mk Aj s ls ss),SW d x:=λx a=>by
  rcases AS.1 a with h|h;· obtain⟨c,hc,h⟩:=Aad.1 h;exact(b c hc).vs x h
  ·obtain⟨c,hc,h⟩:=Aad.1 h;exact(e c hc).vs x h
 exact⟨⟨h1,⟨h2,λc hc=>⟨(b c hc).n1,Aan (b c hc).n2 (by simp)⟩⟩,⟨h3,λc hc=>(e c hc).bd⟩,λx a=>⟨(f x a).1.1,(f x a).2.1⟩⟩,⟨λh=>(by cases h),g,λc hc=>(b c hc).n2,λc hc=>⟨(e c hc).fl,(e c hc).gd⟩⟩,λx a=>⟨(f x a).1.2,(f x a).2.2⟩⟩
theorem lp:dQ 5 12 EL:=(Ma 0).1.1
theorem Mh{c:GZ}(h:LX d c):SV (d+1) (oe c):=ZB lp Q8 (by simp) (by simp) (λx a=>by grind) (λx a=>by grind)
theorem Mg{c:Bz}(h:CX d c):SV (d+1) (od c):=ZB lp Q8 (by simp) (by simp) (λx a=>by grind) (λx a=>by grind)
theorem a8{c:GZ}(h:LX d c):W9 (Df d) c c:=by
 rcases Df.refl (Mh h).2 with k|k;· cases k
 ·obtain⟨b,a,f⟩:=k.2.2.1 c (Aaf.2 rfl);have e:b=c:=Aaf.1 a;grind
theorem a7{c:Bz}(h:CX d c):Vb (Df d) c c:=by
 rcases Df.refl (Mg h).2 with k|k;· cases k
 ·obtain⟨b,a,f⟩:=k.2.2.2 c (Aaf.2 rfl);have e:b=c:=Aaf.1 a;grind
theorem Yq(c:LX d x)(e:LX d y)(f:d<=2)(b:1000000002000<fu):eP fu (x,y)=Ac (DI (BA d) x y):=by refine(Ok.eq ?_);rw[eP];refine BY (a:=oe x) (rf) (BY (a:=oe y) (rf) (BY (Li (Mh c) (Mh e) (by omega) b) (MP ?_)));exact WK
theorem Yp{x y:Bz}(c:CX d x)(e:CX d y)(f:d<=2)(b:1000000002000<fu):eM fu (x,y)=Ac (Et (BA d) x y):=by refine(Ok.eq ?_);rw[eM];refine BY (a:=od x) (rf) (BY (a:=od y) (rf) (BY (Li (Mg c) (Mg e) (by omega) b) (MP ?_)));exact WJ
theorem Nw{α:Type}{B:α->α->Prop}{c:α->α->Int} :∀ {l:List α},(∀x∈l,∀y∈l,c y x= -c x y/\(c x y=0->x=y))->(∀x∈l,B x x)->l.Pairwise (λx y=> ¬B x y/\¬B y x)->ER (λp q=> ¬c q p<0) l->ER (λp q=>c p q<0) l
 | [],_,_,_,_=>trivial
 | [_],_,_,_,_=>trivial
 |x::y::l,h,r,p,a=>by have d:x∈x::y::l:=Aau ..;have i:y∈x::y::l:=Aag _ (Aau ..);have f:=Abj.1 p;refine⟨?_,Nw (λu b v g=>h u (Aag _ b) v (Aag _ g)) (λu b=>r u (Aag _ b)) f.2 a.2⟩;have j:=a.1;grind
theorem Nv{α:Type}{c:α->α->Int} :∀ {l:List α},(∀x∈l,∀y∈l,c y x= -c x y)->ER (λp q=>c p q<0) l->ER (λp q=> ¬c q p<0) l
 | [],_,_=>trivial
 | [_],_,_=>trivial
 |x::y::l,h,a=>by have k:=h x (Aau ..) y (Aag _ (Aau ..));have e:=a.1;exact⟨by omega,Nv (λu b v d=>h u (Aag _ b) v (Aag _ d)) a.2⟩
def Mx(B:α->α->Prop)(c:α->α->Int)(l r:List α):Prop:=(r.length<=l.length/\∀x∈r,x∈l)/\r.Pairwise (λx y=> ¬B x y/\¬B y x)/\ER (λp q=>c p q<0) r/\(AC B l->ER (λp q=>c p q<0) l->r=l)
theorem ny{m r:List α}(h:∀x∈l,∀y∈l,c y x= -c x y/\(c x y=0->x=y))(n:∀x∈l,B x x)(h1:m.Sublist l)(h2:m.Pairwise (λx y=> ¬B x y/\¬B y x))(h3:AC B l->m=l)(b:r.Perm m)(j:ER (λp q=> ¬c q p<0) r)(k:ER (λp q=> ¬c q p<0) m->r=m):Mx B c l r:=by have mem:∀x∈r,x∈l:=λx a=>h1.subset (b.mem_iff.1 a);have f:r.Pairwise (λx y=> ¬B x y/\¬B y x):=(b.pairwise_iff (λ{x y} q=>⟨q.2,q.1⟩)).2 h2;refine⟨⟨by rw[b.length_eq];grind,mem⟩,f,Nw (λx a y d=>h x (mem x a) y (mem y d)) (λx a=>n x (mem x a)) f j,λg i=>?_⟩;have e:=h3 g;subst e;exact k (Nv (λx a y d=>(h x a y d).1) i)
theorem gP{l:List GZ}(s:l.length<=12)(h:∀c∈l,LX d c)(p:d<=2)(t:1000000003000<fu):Ok (tB fu l) (Mx (W9 (Df d)) (DI (BA d)) l):=by have e:=λx (a:x∈l) y (b:y∈l)=>Pa (R:=BA d) HN (h x a).vs (h y b).vs;refine max_eq (g:=λx y=>Vm fu (x,y)) (srt:=λm=>eN fu m) xx s (by omega) (λx a y b=>Jy J3 (h x a).n1 (h x a).vs (h y b).vs (by omega)) λm i n o=>?_;have u:=i.length_le;have f:∀x∈m,x∈l:=λx a=>i.subset a;exact(ZJ (c:=DI (BA d)) (by omega) (by omega) (λx a y b q=>by grind) λx a y b=>Yq (h x (f x a)) (h y (f y b)) p (by omega)).mono λr j=>ny e (λx a=>a8 (h x a)) i n o j.1.1 j.1.2 j.2
theorem gO{l:List Bz}(u:l.length<=12)(h:∀c∈l,CX d c)(t:d<=2)(v:1000000003000<fu):Ok (tx fu l) (Mx (Vb (Df d)) (Et (BA d)) l):=by have e:=λx (a:x∈l) y (b:y∈l)=>O9 (R:=BA d) HN (h x a).bd (h y b).bd (h x a).gd (h y b).gd (h x a).vs (h y b).vs;refine max_eq (g:=λx y=>Vn fu (x,y)) (srt:=λm=>eL fu m) nN u (by omega) (λx a y b=>G_ J3 (h x a).bd (h y b).bd (h x a).gd (h y b).gd (h x a).vs (h y b).vs (by omega)) λm k p s=>?_;have w:=k.length_le;have f:∀x∈m,x∈l:=λx a=>k.subset a;exact(ZI (c:=Et (BA d)) (by omega) (by omega) (λx a y b q=>by grind) λx a y b=>Yp (h x (f x a)) (h y (f y b)) t (by omega)).mono λr n=>ny e (λx a=>a7 (h x a)) k p s n.1.1 n.1.2 n.2
def Tv:List Sp×List Sp:=([(-100000000000,100000000000)],[(-999999999999999,999999999999999)])
def J5:Sc:=(Bp,Bp,Bp,Tv,KT)
theorem allI{n:Int} :A8 Tv n↔ -100000000000<=n/\n<=100000000000:=by show(A0 [(-100000000000,100000000000)] n/\_)↔_;grind[AG]
theorem xJ{y:Int} :A6 Tv y↔ -1000000000000000<=ur y/\ur y<=1000000000000000:=by show(A0 [(-999999999999999,999999999999999)] (ur y)/\_)↔_;grind[ur,AG]
theorem nQ:Eh Tv (A8 Tv) (A6 Tv):=by
 refine⟨[(rk (-999999999999999),rk 999999999999999)],?_,?_,?_,?_,?_,λn=>?_,λy=>?_⟩;· rfl
 ·exact⟨λt b=>by rw[Aaf.1 b];simp,Acg ..⟩
 ·intro s a;rw[Aaf.1 a];trivial
 ·exact⟨λt b=>by rw[Aaf.1 b];decide,Acg ..⟩
 ·intro s a;rw[Aaf.1 a];trivial
 ·rw[allI];show A0 [(-100000000000,100000000000)] n↔_;grind[AG,Bb]
 grind[ur,rk,xJ,AG,Bb]
theorem Tu:Ij 1 12 J5:=⟨nQ,by decide,by decide,sM,dH,rfl,by decide⟩
theorem W5(h:Ij k m s):Rj J5 s↔s=J5:=by
 constructor;· rintro⟨e,f,g,i,j,l⟩;have c:s.2.2.2.1=Tv:=h.nu.unique (nQ.congr (λn=>⟨i n,λq=>allI.2 ((h.nu.A8 n).1 q).2⟩) λy=>⟨j y,λq=>xJ.2 ((h.nu.A6 y).1 q).2⟩);have d:s.2.2.2.2=KT:=h.ln.unique (Tu.ln.congr (funext λw=>by
   have a:Av KT 0 w=Bp:=by rw[dG]
   have b:=l w a;rw[b];exact a));exact Acp (e rfl) (Acp (f rfl) (Acp (g rfl) (Acp c d)))
 ·rintro rfl;exact Oh _
def EvL(c:GZ):Prop:=c.1=[]/\∃x,c.2=[x]/\x.1.any=Bp/\x.2.any=Bp
def EvS(c:Bz):Prop:=c.1=[]/\∃k,c.2=[k]/\k.2.1.any=Bp/\k.2.2.any=Bp
def EvX(v:Vl):Prop:=v.sc=J5/\∃c s,v.lists=[c]/\v.structs=[s]/\EvL c/\EvS s
theorem P6(h:l.length=1):∃x,l=[x]:=by
 match l,h with
 | [x],_=>simp
theorem Zx{x:A9} :Ok (eK fu x) λr=>r=Bp↔x.1.any=Bp/\x.2.any=Bp:=by simp_all[eK,P3,MP,And.right,AQ]
theorem VB{x:A9} :Ok (eg fu x) λr=>r=Bp↔x.1.any=Bp/\x.2.any=Bp:=by rw[eg];exact P3 (λh=>MP ⟨λk=>⟨h,k⟩,And.right⟩) λh=>AQ λk=>by rw[k.1]at h;cases h
theorem rj{c:GZ} :Ok (tv fu c) λr=>r=Bp↔EvL c:=by refine Ob (λf=>Ob (λg=>?_) λg=>AQ λk=>g (by obtain⟨_,x,e,_⟩:=k;grind)) λf=>AQ λk=>f (by rw[k.1];rfl);obtain⟨x,e⟩:=P6 (l:=c.2) (by omega);have h:c.1=[]:=OF.1 (by omega);refine BY (a:=x) (by rw[e];rfl) (OH Zx λb i=>MP (i.trans ⟨λk=>⟨h,x,e,k⟩,λk=>?_⟩));obtain⟨_,y,d,k⟩:=k;grind
theorem ri{c:Bz} :Ok (tu fu c) λr=>r=Bp↔EvS c:=by refine Ob (λf=>Ob (λg=>?_) λg=>AQ λk=>g (by obtain⟨_,x,e,_⟩:=k;grind)) λf=>AQ λk=>f (by rw[k.1];rfl);obtain⟨x,e⟩:=P6 (l:=c.2) (by omega);have h:c.1=[]:=OF.1 (by omega);refine BY (a:=x) (by rw[e];rfl) (OH Zx λb i=>MP (i.trans ⟨λk=>⟨h,x,e,k⟩,λk=>?_⟩));obtain⟨_,y,d,k⟩:=k;grind
theorem ca(h:Ij k m v.sc)(G:k<=10)(H:m<=100000)(F:1000000002000<fu):Ok (kC fu v) λr=>r=Bp↔EvX v:=by
 rw[kC];refine Ob (λt=>Ob (λu=>?_) λu=>AQ λk=>u (by obtain⟨_,c,s,_,e,_⟩:=k;rw[e];rfl)) λt=>AQ λk=>t (by obtain⟨_,c,s,e,_⟩:=k;rw[e];rfl);have y:kD fu () =Ac J5:=by
  refine(Ok.eq ?_);rw[kD];have z:Vo fu () =Ac Tv:=by refine(Ok.eq ?_);rw[Vo];exact BY (rf) (MP rf)
  exact BY z (BY (rf) (MP rf))
 obtain⟨q,_,_,A⟩:=Gm (fu:=fu) h Tu (by omega) (by omega) (by omega);have D:v.sc=J5->E_ v.sc J5=0:=λe=>by rw[e];obtain⟨_,_,s,_⟩:=Gm (fu:=fu) Tu Tu (by decide) (by decide) (by omega);omega
 obtain⟨c,j⟩:=P6 (l:=v.lists) (by omega);obtain⟨s,n⟩:=P6 (l:=v.structs) (by omega);refine BY y (BY q (Ob (λo=>?_) λo=>AQ λk=>o (D k.1)));have C:=A o;have g:∀ {f},v.lists=[f]->c=f:=λe=>by rw[j]at e;exact Ado e
 have d:∀ {f},v.structs=[f]->s=f:=λe=>by rw[n]at e;exact Ado e
 refine BY (a:=c) (by rw[j];rfl) (OH rj λb w=>P3 (λi=>BY (a:=s) (by rw[n];rfl) (OH ri λE p=>MP (p.trans ⟨λk=>⟨C,c,s,j,n,w.1 i,k⟩,λk=>?_⟩))) λi=>AQ λk=>?_);· obtain⟨_,f,B,e,x,_,k⟩:=k;rw[d x];exact k
 ·obtain⟨_,f,B,e,_,k,_⟩:=k;rw[<-g e]at k;rw[w.2 k]at i;cases i
theorem Yh(h:Ij k m v.sc)(O:k<=10)(P:m<=100000)(N:1000000002000<fu):Ok (jN fu v) λr=>r=Bp↔v.any=Aj/\EvX v:=by
 rw[jN];refine P3 (λd=>AQ λk=>by rw[k.1]at d;cases d) λd=>Ob (λA=>AQ λk=>A (by obtain⟨_,_,c,s,e,_⟩:=k;rw[e];rfl)) λA=>Ob (λB=>AQ λk=>B (by obtain⟨_,_,c,s,_,e,_⟩:=k;rw[e];rfl)) λB=>?_;have H:jO fu () =Ac J5:=by refine(Ok.eq ?_);rw[jO];exact BY (rf) (BY (jD fu) (MP rf))
 obtain⟨c,i⟩:=P6 (l:=v.lists) (by omega);obtain⟨s,j⟩:=P6 (l:=v.structs) (by omega);have ab:EvX v->v.sc=J5/\EvL c/\EvS s:=λk=>by obtain⟨u,M,Q,e,w,I,J⟩:=k;rw[i]at e;rw[j]at w;rw[Ado e,Ado w];exact⟨u,I,J⟩
 refine BY H (OH (Mi Tu h (by omega) (by omega) (by omega)) λr F=>P3 (λf=>AQ λk=>?_) λf=>?_);· rw[F.2 ((W5 h).2 (ab k.2).1)]at f;cases f
 have u:=(W5 h).1 (F.1 (by simpa using f));refine BY (a:=c) (by rw[i];rfl) (BY (a:=s) (by rw[j];rfl) ?_);refine Ob (λp=>AQ λk=>by rw[(ab k.2).2.1.1]at p;exact absurd p (by decide)) λp=>Ob (λC=>AQ λk=>?_) λC=>Ob (λq=>AQ λk=>by rw[(ab k.2).2.2.1]at q;exact absurd q (by decide)) λq=>Ob (λD=>AQ λk=>?_) λD=>?_;· obtain⟨_,x,e,_⟩:=(ab k.2).2.1;exact C (by rw[e];rfl)
 ·obtain⟨_,x,e,_⟩:=(ab k.2).2.2;exact D (by rw[e];rfl)
 obtain⟨x,n⟩:=P6 (l:=c.2) (by omega);obtain⟨y,o⟩:=P6 (l:=s.2) (by omega);have G:c.1=[]:=OF.1 (by omega);have K:s.1=[]:=OF.1 (by omega);refine BY (a:=x) (by rw[n];rfl) (OH VB λb E=>P3 (λg=>BY (a:=y) (by rw[o];rfl) (OH VB λL t=>MP (t.trans ⟨λk=>⟨d,u,c,s,i,j,⟨G,x,n,E.1 g⟩,K,y,o,k⟩,λk=>?_⟩))) λg=>AQ λk=>?_);· obtain⟨_,z,e,k⟩:=(ab k.2).2.2;rw[o]at e;rw[Ado e];exact k
 ·obtain⟨_,z,e,k⟩:=(ab k.2).2.1;rw[n]at e;rw[<-Ado e]at k;rw[E.2 k]at g;cases g
theorem Jo(l:List α)(d:α)(p:α->Bool):((a_ l.length).filter λi=>p (l.getD i d)).length=(l.filter p).length:=by
 have e:l=(a_ l.length).map λi=>l.getD i d:=ox l d;conv=>rhs;rw[e]
 rw[Aky,Aaq];rfl
theorem X6{c:Bz}(w:Aq):Lv c (Gz c w) c.2.length=(c.2.filter λk=>Av k.1 0 w).length:=by rw[<-Jo c.2 dK];unfold Lv;congr 1;refine Afy λi b=>?_;rw[VM (Abg.1 b) w];rfl
theorem fT{c:Bz}{j:Nat}(f:j<c.1.length)(w:Aq):(Gz c w).getD (c.2.length+j) 0=runT (Bv (c.1.getD j dF).1) 0 w/\ -1<=runT (Bv (c.1.getD j dF).1) 0 w/\runT (Bv (c.1.getD j dF).1) 0 w<=(c.1.getD j dF).1.length:=by
 have:∀l:Aq,(Gz c l.reverse).getD (c.2.length+j) 0=runT (Bv (c.1.getD j dF).1) 0 l.reverse/\ -1<=runT (Bv (c.1.getD j dF).1) 0 l.reverse/\runT (Bv (c.1.getD j dF).1) 0 l.reverse<=(c.1.getD j dF).1.length:=λl=>by
  induction l with
  |nil=>
   refine⟨?_,?_,?_⟩;· show(CJ c).getD (c.2.length+j) 0=0;grind[CJ]
   ·show(-1:Int)<=0;simp
   ·show(0:Int)<=_;omega
  |cons x l d=>
   have e:runT (Bv (c.1.getD j dF).1) 0 (l.reverse++[x])=Ze (c.1.getD j dF).1 (runT (Bv (c.1.getD j dF).1) 0 l.reverse) x.toNat:=by rw[<-Q9 d.2];unfold runT;rw[Ade];rfl
   rw[Aev,e];refine⟨?_,bc d.2.2⟩;rw[Ga,(Hn c _ _).fd j f];simp_all[Ur]
 have:=this w.reverse;grind
theorem X7{c:Bz}(w:Aq):Qg c (Gz c w) c.1.length=(c.1.filter λf=>Av (Bv f.1) 0 w).length:=by rw[<-Jo c.1 dF];unfold Qg;congr 1;refine Afy λj b=>?_;have h:=fT (Abg.1 b) w;simp_all[Av,N9]
theorem Sx(c:Bz)(w:Aq):MY c (Gz c w)=(c.2.filter λk=>Av k.1 0 w).length+(c.1.filter λf=>Av (Bv f.1) 0 w).length:=by grind[MY,X6,X7]
def Dy(l:List (Tb×A9))(w:Aq):Nat:=(l.filter λk=>Av k.1 0 w).length
theorem DH(a b:List (Tb×A9))(w:Aq):Dy (a++b) w=Dy a w+Dy b w:=by simp[Dy]
theorem E9(k:Tb×A9)(w:Aq):Dy [k] w=if Av k.1 0 w=Bp then 1 else 0:=by grind[Dy,Av]
theorem Yo{a b:List (Tb×A9)}(h:a.Perm b)(w:Aq):Dy a w=Dy b w:=(h.filter _).length_eq
theorem cW{z:List (Tb×A9)}{i:Nat}(hi:i<z.length){k x:Tb×A9}{w:Aq}(ht:Av x.1 0 w=(Av z[i].1 0 w||Av k.1 0 w))(f:¬(Av z[i].1 0 w=Bp/\Av k.1 0 w=Bp)):Dy (z.set i x) w=Dy z w+Dy [k] w:=by
 have c:z=z.take i++([z[i]]++z.drop (i+1)):=by simp
 have b:z.set i x=z.take i++([x]++z.drop (i+1)):=by rw[Adw,if_pos hi];rfl
 have a:Dy z w=Dy (z.take i) w+(Dy [z[i]] w+Dy (z.drop (i+1)) w):=by grind[DH]
 rw[b,DH,DH,a,E9,E9,E9,ht];all_goals grind
theorem Lq.of{c b:Bz}(h:Lq c)(e:b.1.map (·.1)=c.1.map (·.1))(k:∀w,Dy b.2 w=Dy c.2 w):Lq b:=λw=>by
 have lb:∀l:List (Aq×Int×A9),(l.filter λf=>Av (Bv f.1) 0 w).length=((l.map (·.1)).filter λs=>Av (Bv s) 0 w).length:=λl=>by rw[Aky,Aaq];rfl
 have:=h w;simp_all[Dy,Sx]
theorem Z_{a b:List Nat}(h:a.Perm b):G3 a=G3 b:=by
 induction h with
 |nil=>rfl
 |cons x _ e=>grind[G3]
 |swap x y l=>grind[G3]
 |trans _ _ c d=>omega
theorem eZ.of{l m:List (Aq×Int×A9)}(h:eZ l)(e:m.map (·.1)=l.map (·.1)):eZ m:=by
 have f:m.length=l.length:=by simpa using congrArg EW e
 have c:∀i (b:i<m.length),m[i].1=(l[i]'(by omega)).1:=λi b=>by have:=List.getElem_of_eq e (by grind:i<(m.map (·.1)).length);grind
 intro i d;rw[c i (by omega),c (i+1) d];exact h i (by omega)
end
section
variable {d : Nat} (hd : d <= 2) (ih : ∀ {fu : Nat} {x : A9}, SX d x -> 1000000003000 + 10 * d + 1 < fu -> Ok (LD fu x) λr => r.2 = Bp -> SX d r.1)
include hd ih
structure COk(d:Nat)(k:Tb×A9):Prop where
 wf:Bf k.1
 cn:BW k.1=k.1
 vs:SX d k.2
def J_(l:List (Tb×A9)):Nat:=G3 (l.map λk=>k.1.length+3)
omit hd ih in
theorem HV(a b:List (Tb×A9)):J_ (a++b)=J_ a*J_ b:=by simp_all[J_,Aap,VU]
omit hd ih in
theorem Ps(a:List (Tb×A9)):0<J_ a:=VS λn b=>by grind
omit hd ih in
theorem LH(k:Tb×A9):J_ [k]=k.1.length+3:=by simp[J_,G3]
omit hd ih in
theorem Pt{l:List (Tb×A9)}{k:Tb×A9}(h:k∈l):k.1.length+3<=J_ l:=
 VT (λn b=>by grind) (By.2 ⟨k,h,rfl⟩)
omit hd ih in
theorem Tw{fu j:Nat}{c z:List (Tb×A9)}(s:j<c.length)(f:J_ z*J_ (c.drop j)<=14641)(D:∀k∈z,COk d k)(hc:COk d c[j])(I:1000000003000<fu):
  Vu fu (c[j].1,[])=Ac c[j].1/\(∀v,J_ (z++[(c[j].1,v)])*J_ (c.drop (j+1))<=14641)/\∀i (hi:i<z.length),Ok (Vu fu (z[i].1,c[j].1)) λt=>(Bf t/\BW t=t/\Av t 0=λw=>Av z[i].1 0 w||Av c[j].1 0 w)/\∀v,J_ (z.set i (t,v))*J_ (c.drop (j+1))<=14641:=by
 have l:J_ (c.drop j)=(c[j].1.length+3)*J_ (c.drop (j+1)):=by rw[Aak s,show c[j]::c.drop (j+1)=[c[j]]++c.drop (j+1)from rfl,HV,LH]
 have E:=Ps (c.drop (j+1));have F:=Ps z;have G:c[j].1.length+3<=14641:=Aan (by simp_all[Aes]) (Aan (Nat.le_mul_of_pos_left _ F) f);have h:CD c[j].1 (Av c[j].1 0) 14641:=⟨hc.wf,hc.cn,rfl,by omega⟩;refine⟨?_,λv=>?_,λi hi=>?_⟩;· obtain⟨t,p,b⟩:=Ul (GD (fu:=fu) h (CD.nil (m:=0)) (by simp) (by omega));have:c[j].1=t:=h.unique (b.congr (funext λw=>by rw[h.gL,Hz,Ali]));grind
 ·simp_all[HV,LH,Aek]
 ·have g:=D _ (AN hi);have H:z[i].1.length+3<=14641:=Aan (Pt (AN hi)) (Aan (Aes _ (Ps _)) f);have ii:CD z[i].1 (Av z[i].1 0) 14641:=⟨g.wf,g.cn,rfl,by omega⟩;refine(Ul (GD (fu:=fu) ii h (by simp) (by omega))).mono λt b=>⟨⟨b.wf,b.can,b.lg.trans (by rw[ii.gL,h.gL])⟩,λv=>?_⟩;have u:t.length+3<=(z[i].1.length+3)*(c[j].1.length+3):=by
   have:=b.len;grind[G1]
  have q:z=z.take i++([z[i]]++z.drop (i+1)):=by simp
  have o:z.set i (t,v)=z.take i++([(t,v)]++z.drop (i+1)):=by rw[Adw,if_pos hi];rfl
  rw[o,HV,HV,LH];have n:J_ (z.take i)*((z[i].1.length+3)*J_ (z.drop (i+1)))*((c[j].1.length+3)*J_ (c.drop (j+1)))<=14641:=by rw[q,HV,HV,LH,l]at f;exact f
  refine Aan ?_ n;generalize J_ (z.take i)=A,J_ (z.drop (i+1))=B,J_ (c.drop (j+1))=C at*;calc A*((t.length+3)*B)*C<=A*(((z[i].1.length+3)*(c[j].1.length+3))*B)*C:=Abi _ (Nat.mul_le_mul_left _ (Abi _ u))
   _=A*((z[i].1.length+3)*B)*((c[j].1.length+3)*C):=by generalize z[i].1.length+3=x,c[j].1.length+3=y;rw[Aek,Aek,Aek A];rw[Aek,Aek,Nat.mul_left_comm y]
end
theorem SV.sb:∀ {d:Nat} {v:Vl},SV d v->SB d v
 |0,_,h=>h.1.elim
 |d+1,v,h=>⟨h.1,Dt h.1.1 h.2.1.sc,h.2.1.rs,λc hc=>⟨(h.2.1.st c hc).1.2,λk b=>((h.2.1.st c hc).2.1 k b).2⟩,λx a=>⟨(h.qF x a).1.sb.2,(h.qF x a).2.sb.2⟩⟩
def Zk(G:A9->Prop)(c:GZ):Prop:=(∀x∈c.1,NB x.1/\G x)/\∀x∈c.2,NB x.1/\G x
section
variable {d : Nat} {G : A9 -> Prop} (hd : d <= 2) (ih : ∀ {fu : Nat} {x : A9}, SW d x -> 1000000003000 + 10 * d + 1 < fu -> Ok (LD fu x) λr => (r.2 = Bp -> SW d r.1 /\ G r.1) /\ (G x -> r = (x, Bp)))
include hd ih
theorem jk{fu:Nat}{c:GZ}(h:LX d c)(T:1000000003000+10*d+2<fu):Ok (kB fu c) λr=>(r.2.2=Bp->r.2.1=Bp->LX d r.1/\Zk G r.1)/\(Zk G c->r=(c,Bp,Bp)):=by
 obtain⟨f,rfl⟩:∃f,fu=f+1:=⟨fu-1,by omega⟩;rw[show kB (f+1) c=_ from d246 f c];have U:=h.n1;have V:=h.n2;refine XZ (λk (s:List A9) (t:Bool)=>s.length=k/\(∀w∈s,SW d w/\G w)/\(t=Bp->∀w∈s,NB w.1)/\(Zk G c->s=c.1.take k/\t=Bp)) c.1.length ⟨rfl,by simp,by simp,λ_=>by simp⟩ (by omega) (λk s t nx v I E=>?_) (λs t nx I=>?_)
 ·have j:=AN v;have m:=h.vs _ (AS.2 (.inl j));obtain⟨N,F,M,z⟩:=I;refine P7 (Aah v (OH (ih m (by omega)) λr n=>P3 (λg=>MP ⟨λq=>(by simp),λq=>?_⟩) λg=>?_));· rw[n.2 (q.1 _ j).2]at g;grind
  have g:r.2=Bp:=by grind
  have i:=n.1 g;have add:∀b,(b=Bp->NB r.1.1/\t=Bp)->(Zk G c->b=Bp)->Ok (nx (s++[r.1],b,k+1)) λr=>(r.2.2=Bp->r.2.1=Bp->LX d r.1/\Zk G r.1)/\(Zk G c->r=(c,Bp,Bp)):=λb p J=>E _ _ ⟨by rw[Aaa,Acl,N],λw a=>by
   rcases AS.1 a with a|a;· exact F w a
   ·rw[Aaf.1 a];exact i,λq w a=>by
   rcases AS.1 a with a|a;· exact M (p q).2 w a
   ·rw[Aaf.1 a];exact(p q).1,λq=>⟨by
    have e:r=(c.1[k],Bp):=n.2 (q.1 _ j).2;rw[(z q).1,e,IN v],J q⟩⟩;refine P3 (λB=>OH (Er i.1.1.sb (by omega)) λb p=>Abw (add _ (λq=>⟨?_,B⟩) λq=>?_)) λB=>Abw (add _ (λq=>by cases q) λq=>?_);· refine GB λy=>?_;rw[p.2 y]at q;cases q
  ·have e:r=(c.1[k],Bp):=n.2 (q.1 _ j).2;have y:=(q.1 _ j).1;cases K:b with
   |false=>rfl
   |true=>exact absurd (by rw[e];exact y) (p.1 K)
  grind
 ·obtain⟨N,F,M,z⟩:=I;rw[Aar]at z;refine Qh (by dsimp only;omega) ?_;refine SE (λk (C:List A9)=>C.length<=k/\(∀w∈C,SW d w/\NB w.1/\G w)/\(Zk G c->C=c.2.take k)) c.2.length ⟨by simp,by simp,λ_=>by simp⟩ (by omega) (λk C nx v u E=>?_) (λC nx u=>?_)
  ·have j:=AN v;have m:=h.vs _ (AS.2 (.inr j));obtain⟨S,A,H⟩:=u;refine P7 (Aah v (OH (ih m (by omega)) λr n=>P3 (λg=>MP ⟨λq=>(by cases q),λq=>?_⟩) λg=>?_));· rw[n.2 (q.2 _ j).2]at g;cases g
   have g:r.2=Bp:=by simpa using g
   have i:=n.1 g;refine OH (Er i.1.1.sb (by omega)) λb p=>P3 (λl=>Abw (E _ ⟨by dsimp only;rw[Aaa,Acl];omega,λw a=>?_,λq=>?_⟩)) λl=>E _ ⟨by dsimp only;omega,A,λq=>?_⟩
   ·rcases AS.1 a with a|a;· exact A w a
    ·rw[Aaf.1 a];refine⟨i.1,GB λy=>?_,i.2⟩;rw[p.2 y]at l;cases l
   ·have e:r=(c.2[k],Bp):=n.2 (q.2 _ j).2;rw[H q,e,IN v]
   ·have e:r=(c.2[k],Bp):=n.2 (q.2 _ j).2;have y:=(q.2 _ j).1;have L:b=Bp:=by simpa using l
    exact absurd (by rw[e];exact y) (p.1 L)
  ·obtain⟨S,A,H⟩:=u;rw[Aar]at H;refine P8 (MP ⟨λ_ B=>⟨⟨by dsimp only;omega,by dsimp only;omega,λw a=>?_⟩,λw a=>⟨M B w a,(F w a).2⟩,λw a=>⟨(A w a).2.1,(A w a).2.2⟩⟩,λq=>?_⟩)
   ·rcases AS.1 a with a|a;· exact(F w a).1
    ·exact(A w a).1
   ·have P:=(z q).1;have Q:=(z q).2;have R:=H q;rw[P,Q,R]
end
section
variable{d fu:Nat}{α:Type}{v:Vl}{B:α->α->Prop}{c:Bz}{G:A9->Prop}{k:Tb×A9}{x:A9}{l:List α}
theorem bG{l:List (Tb×A9)}{v:A9}(h:∀k∈l,SW d k.2)(j:SW d v)(p:l.length<=12)(o:1000000003000+10*d<fu):
  Ok (uJ fu (l,v)) λr=>r.2=(l,v)/\((∃i,∃hi:i<l.length,r.1=(i:Int)/\l[i].2=v)\/r.1= -1/\∀k∈l,k.2≠v):=by
 refine SE (λk s=>s=v/\∀x∈l.take k,x.2≠v) l.length ⟨rf,by simp⟩ (by omega) (λk s nx f a n=>?_) (λs nx a=>?_)
 ·obtain⟨rfl,a⟩:=a;have m:=h _ (AN f);have e:Ok (uK fu (l[k],s)) λr=>r.2=s/\(r.1=Bp↔l[k].2=s):=by
   exact OH (Mr (d:=d) ⟨m.1.1,m.2.1⟩ ⟨j.1.1,j.2.1⟩ (by omega)) λr b=>MP ⟨rf,b⟩
  refine P7 (Aah f (OH e λr b=>P3 (λc=>MP ⟨by grind, .inl ⟨k,f,rfl,b.2.1 c⟩⟩) λc=>n _ ⟨b.1,λx g=>?_⟩));rcases(Af f).1 g with g|rfl;all_goals grind
 ·obtain⟨rfl,a⟩:=a;rw[Al]at a;exact P8 (MP ⟨rfl, .inr ⟨rfl,a⟩⟩)
def Vd(G:A9->Prop)(c:Bz):Prop:=(∀f∈c.1,NB f.2.2.1/\G f.2.2)/\(∀k∈c.2,G k.2)/\ER (λk b=>Ff k.1 b.1<0) c.2/\c.2.Pairwise (λk b=>k.2≠b.2)
theorem Lp{α:Type}{B:α->α->Prop}{c:α->α->Int} :∀ {l:List α},(∀x∈l,∀y∈l,c y x= -c x y/\(c x y=0->B x y))->l.Pairwise (λx y=> ¬B x y)->ER (λp q=> ¬c q p<0) l->ER (λp q=>c p q<0) l
 | [],_,_,_=>trivial
 | [_],_,_,_=>trivial
 |x::y::l,h,p,a=>by have b:=Abj.1 p;refine⟨?_,Lp (λu d v f=>h u (Aag _ d) v (Aag _ f)) b.2 a.2⟩;have g:=a.1;grind
structure KX(d:Nat)(G:A9->Prop)(k:Tb×A9):Prop where
 ne:k.1≠ []
 wf:Bf k.1
 cn:BW k.1=k.1
 vs:SW d k.2
 gd:G k.2
theorem KX.cok(h:KX d G k):COk d k:=⟨h.wf,h.cn,h.vs.1.sb,h.vs.2.sb⟩
theorem CX.cok(h:CX d c):∀k∈c.2,COk d k:=λk a=>by have g:=h.gd.1 k a;have v:=h.vs _ (AS.2 (.inr (By.2 ⟨k,a,rfl⟩)));exact⟨g.2.1,g.2.2,v.1.sb,v.2.sb⟩
theorem WG{l:List (Tb×A9)}{k:Tb×A9}(a:k∈l){w:Aq}(h:Av k.1 0 w=Bp):0<Dy l w:=
 Agl (Aaz.2 ⟨a,h⟩)
theorem WI(h:Lq c)(w:Aq):Dy c.2 w<=1:=by have:=h w;grind[Dy,Sx]
theorem dO(h0:k.1≠ [])(h1:Bf k.1)(h2:BW k.1=k.1):∃w,Av k.1 0 w=Bp:=GB λb=>by refine h0 ((CD.GC (⟨h1,h2,rf,Aac _⟩:CD k.1 (Av k.1 0) k.1.length)).2 (funext λw=>?_));grind
theorem WH:∀ {l:List (Tb×A9)},(∀k∈l,∃w,Av k.1 0 w=Bp)->(∀w,Dy l w<=1)->l.Pairwise λx y=>x.1≠y.1
 | [],_,_=> .nil
 |x::l,h,hc=>by
  have e:∀w,Dy (x::l) w=Dy [x] w+Dy l w:=λw=>DH [x] l w;refine Abj.2 ⟨λy c q=>?_,WH (λk b=>h k (Aag _ b)) λw=>?_⟩;· obtain⟨w,a⟩:=h x (Aau ..);have:=hc w;rw[e,E9,if_pos a]at this;grind[WG]
  grind
theorem KX.is(h:KX d G k){m:Nat}(b:k.1.length<=m):CD k.1 (Av k.1 0) m:=⟨h.wf,h.cn,rfl,b⟩
theorem ji(hd:d<=2)(ih:∀ {fu:Nat} {x:A9},SW d x->1000000003000+10*d+1<fu->Ok (LD fu x) λr=>(r.2=Bp->SW d r.1/\G r.1)/\(G x->r=(x,Bp)))(h:CX d c)(hF:1000000003000+10*d+2<fu):
  Ok (kA fu c) λr=>(r.2.2=Bp->r.2.1=Bp->CX d r.1/\Vd G r.1)/\(Vd G c->r=(c,Bp,Bp)):=by
 obtain⟨f,rfl⟩:∃f,fu=f+1:=⟨fu-1,by omega⟩;rw[show kA (f+1) c=_ from d247 f c];have n1:=h.bd.nf;have n2:=h.bd.nc;refine XZ (λk (s:List (Aq×Int×A9)) (t:Bool)=>(s.map (λf=>(f.1,f.2.1))=(c.1.take k).map λf=>(f.1,f.2.1))/\(∀f∈s,SW d f.2.2/\G f.2.2)/\(t=Bp->∀f∈s,NB f.2.2.1)/\(Vd G c->s=c.1.take k/\t=Bp)) c.1.length ⟨rfl,by simp,by simp,λ_=>by simp⟩ (by omega) (λk s t nx o hJ hn=>?_) (λs t nx hJ=>?_)
 ·have L:=AN o;have m:=h.vs _ (AS.2 (.inl (By.2 ⟨_,L,rfl⟩)));obtain⟨O,j2,j3,j4⟩:=hJ;have hsl:s.length<=4:=by have:=congrArg EW O;simp only[Aaq,Abh]at this;omega
  refine P7 (Aah o (OH (ih m (by omega)) λr Q=>P3 (λM=>MP ⟨λq=>(by simp),λq=>?_⟩) λM=>?_));· rw[Q.2 (q.1 _ L).2]at M;grind
  have H:=Q.1 (by grind);have ef:Vd G c->s++[(c.1[k].1,c.1[k].2.1,r.1)]=c.1.take (k+1):=λq=>by have e:r=(c.1[k].2.2,Bp):=Q.2 (q.1 _ L).2;rw[(j4 q).1,e,IN o]
  have add:∀b:Bool,(b=Bp->t=Bp/\NB r.1.1)->(Vd G c->b=Bp)->Ok (nx (s++[(c.1[k].1,c.1[k].2.1,r.1)],b,k+1)) λr=>(r.2.2=Bp->r.2.1=Bp->CX d r.1/\Vd G r.1)/\(Vd G c->r=(c,Bp,Bp)):=λb U N=>by
   refine hn _ _ ⟨by rw[Aap,O,IN o,Aap];rfl,λw D=>?_,λhbt w D=>?_,λq=>⟨ef q,N q⟩⟩
   ·rcases AS.1 D with D|D;· exact j2 w D
    ·rw[Aaf.1 D];omega
   ·obtain⟨h3,h4⟩:=U hbt;rcases AS.1 D with D|D;· exact j3 h3 w D
    ·rw[Aaf.1 D];omega
  refine P3 (λI=>OH (Er H.1.1.sb (by omega)) λb U=>Abw (add _ (λN=>⟨I,?_⟩) λq=>?_)) λI=>Abw (add Aj (λh=>by cases h) λq=>?_);· refine GB λhnb=>?_;rw[U.2 hnb]at N;cases N
  ·have e:r=(c.1[k].2.2,Bp):=Q.2 (q.1 _ L).2;have nb:=(q.1 _ L).1;cases hbb:b with
   |false=>rfl
   |true=>exact absurd (by rw[e];omega) (U.1 hbb)
  ·have:=(j4 q).2;rw[show t=Aj from I]at this;cases this
 ·obtain⟨
      O,j2,j3,j4⟩:=hJ;refine Qh (by dsimp only;omega) ?_;rw[Al]at O j4;refine SE (λj (z:List (Tb×A9))=>z.length<=j/\(∀k∈z,KX d G k)/\J_ z*J_ (c.2.drop j)<=14641/\(∀w,Dy z w=Dy (c.2.take j) w)/\(z.Pairwise λk W=>k.2≠W.2)/\(Vd G c->z=c.2.take j)) c.2.length ⟨by simp,by simp,by simpa [J_,G3]using h.bd.st,λw=>by simp,by simp,λ_=>by simp⟩ (by omega) (λj z nx hj T hn=>?_) (λz nx T=>?_)
  ·have L:=AN hj;have m:=h.vs _ (AS.2 (.inr (By.2 ⟨_,L,rfl⟩)));obtain⟨z1,F,z3,Z,z5,z6⟩:=T;obtain⟨a1,a2,a3⟩:=Tw (fu:=f) (d:=d) hj z3 (λk o=>(F k o).cok) (h.cok _ L) (by omega);have g:=h.gd.1 _ L;have tk:c.2.take (j+1)=c.2.take j++[c.2[j]]:=IN hj;refine P7 (Aah hj (OH (ih m (by omega)) λr Q=>P3 (λM=>MP ⟨λq=>(by cases q),λq=>?_⟩) λM=>?_));· rw[Q.2 (q.2.1 _ L)]at M;cases M
   have H:=Q.1 (by simpa using M);have rq:Vd G c->r.1=c.2[j].2:=λq=>by rw[Q.2 (q.2.1 _ L)]
   refine OH (bG (l:=z) (λk o=>(F k o).vs) H.1 (by omega) (by omega)) λr10 R=>?_;obtain⟨i,q1,q2⟩:=r10;obtain⟨R,S⟩:=R;cases R;dsimp only at S⊢;refine Ob (λhi=>BY a1 (Abw (hn _ ⟨by rw[Aaa,Acl];omega,λk o=>?_,a2 _,λw=>?_,?_,λq=>?_⟩))) λhi=>?_
   ·rcases AS.1 o with o|o;· exact F k o
    ·rw[Aaf.1 o];exact⟨g.1,g.2.1,g.2.2,H.1,H.2⟩
   ·rw[tk,DH,DH,Z,E9,E9]
   ·refine Aba.2 ⟨z5,Acg ..,λx J y K=>?_⟩;rw[Aaf.1 K];rcases S with⟨n,E,e,_⟩|⟨_,e⟩;· omega
    ·exact e x J
   ·rw[tk,<-z6 q,rq q]
   ·obtain⟨n,E,rfl,e⟩:=S.resolve_right λe=>hi (by rw[e.1];decide);have kz:=F _ (AN E);have sum:∀w,Dy c.2 w=Dy z w+Dy [c.2[j]] w+Dy (c.2.drop (j+1)) w:=λw=>by
     rw[Z,<-DH,<-tk,<-DH,Ace]
    refine Aah E (OH (a3 n E) λt I=>Aah E (hn _ ⟨by rw[Abp];omega,λk o=>?_,by exact I.2 _,λw=>?_,?_,λq=>?_⟩))
    ·rcases List.mem_or_eq_of_mem_set o with o|o;· exact F k o
     ·rw[o];refine⟨λe0=>?_,I.1.1,I.1.2.1,kz.vs,kz.gd⟩;obtain⟨w,D⟩:=dO kz.ne kz.wf kz.cn;have e1:=congrFun I.1.2.2 w;dsimp only at e0;rw[e0,Ed,D]at e1;cases e1
    ·have tw:Av t 0 w=(Av z[n].1 0 w||Av c.2[j].1 0 w):=congrFun I.1.2.2 w;have e5:=cW E (k:=c.2[j]) (x:=(t,z[n].2)) tw λU=>by
      have le:=WI h.gd.2 w;have p1:=WG (AN E) U.1;rw[sum w,E9,if_pos U.2]at le;omega
     rw[Acd,e5,Z,tk,DH]
    ·have ez:(z.set n (t,z[n].2)).map (·.2)=z.map (·.2):=by
      rw[List.map_set];have:(z.map (·.2)).set n ((z.map (·.2))[n]'(by simpa using E))=z.map (·.2):=List.set_getElem_self ..;rw[List.getElem_map]at this;exact this
     have p:(z.map (·.2)).Pairwise (· ≠ ·):=Adn.2 z5;rw[<-ez]at p;exact Adn.1 p
    ·exfalso;have e6:=z6 q;have pw:=q.2.2.2;have l6:=congrArg EW e6;rw[Abh]at l6;have nj:n<j:=by omega
     refine Aaw.1 pw n j (by omega) hj nj ?_;rw[<-rq q,<-e];have:z[n]=c.2[n]'(by omega):=by simp only[e6,List.getElem_take]
     rw[this]
  ·refine Qh (by dsimp only;omega) ?_;obtain⟨z1,F,z3,Z,z5,z6⟩:=T;rw[Al]at Z z6;have z3:J_ z<=14641:=by simpa [J_,G3]using z3
   have il:∀k∈z,CD k.1 (Av k.1 0) 14641:=λk o=>(F k o).is (by have:=Pt o;omega);have Y:∀x∈z,∀y∈z,Ff y.1 x.1= -Ff x.1 y.1/\(Ff x.1 y.1=0->x.1=y.1):=λx J y K=>⟨J0 _ _,(KM (fu:=f) (il x J) (il y K) (by decide) (by omega)).1⟩;refine OH (ZK (fu:=f) (l:=z) (by omega) (by omega) (c:=λk W=>Ff k.1 W.1) (λx J y K q=>by have:=(Y x J y K).1;omega) λx J y K=>?_) λr15 v=>MP ⟨λ_ I=>⟨⟨⟨?_,?_,λg hg=>?_,?_,λk o=>?_,λk o s hs=>?_⟩,⟨λg hg=>?_,h.fl.2.of ?_⟩,⟨λk o=>?_,h.gd.2.of ?_ λw=>?_⟩,λw D=>?_⟩,⟨λf hf=>⟨j3 I f hf,(j2 f hf).2⟩,λk o=>?_,?_,?_⟩⟩,λq=>?_⟩;· refine(Ok.eq ?_);rw[kW];exact BY (Fw (il x J) (il y K) (by decide) (by omega)) (MP rfl)
   ·have:=congrArg EW O;simp only[Aaq]at this;dsimp only;omega
   ·dsimp only;rw[v.1.1.length_eq];omega
   ·have:(g.1,g.2.1)∈s.map (λf=>(f.1,f.2.1)):=By.2 ⟨g,hg,rfl⟩;rw[O]at this;obtain⟨g',V,e⟩:=By.1 this;rw[show g.1=g'.1 from(congrArg Prod.fst e).symm];exact h.bd.lb g' V
   ·dsimp only;rw[Z_ (v.1.1.map _)];exact z3
   ·exact(F k (v.1.1.mem_iff.1 o)).wf.by
   ·exact((F k (v.1.1.mem_iff.1 o)).wf s hs).len
   ·have:(g.1,g.2.1)∈s.map (λf=>(f.1,f.2.1)):=By.2 ⟨g,hg,rfl⟩;rw[O]at this;obtain⟨g',V,e⟩:=By.1 this;rw[show g.2.1=g'.2.1 from(congrArg Prod.snd e).symm];exact h.fl.1 g' V
   ·have:=congrArg (List.map Prod.fst) O;simpa [Aaj,Function.comp_def]using this
   ·have W:=F k (v.1.1.mem_iff.1 o);exact⟨W.ne,W.wf,W.cn⟩
   ·have:=congrArg (List.map Prod.fst) O;simpa [Aaj,Function.comp_def]using this
   ·rw[Yo v.1.1,Z]
   ·rcases AS.1 D with D|D;· obtain⟨g,hg,rfl⟩:=By.1 D;exact(j2 g hg).1
    ·obtain⟨k,o,rfl⟩:=By.1 D;exact(F k (v.1.1.mem_iff.1 o)).vs
   ·exact(F k (v.1.1.mem_iff.1 o)).gd
   ·have mem:=λx=>(v.1.1.mem_iff (a:=x)).1;refine Lp (B:=λx y=>x.1=y.1) (λx J y K=>Y x (mem x J) y (mem y K)) ?_ v.1.2;exact(v.1.1.pairwise_iff (λ{x y} q e=>q e.symm)).2 (WH (λk o=>dO (F k o).ne (F k o).wf (F k o).cn) λw=>by rw[Z];exact WI h.gd.2 w)
   ·exact(v.1.1.pairwise_iff (λ{x y} q e=>q e.symm)).2 z5
   ·have e:=v.2 (Nv (λx J y K=>(Y x J y K).1) (by rw[z6 q];exact q.2.2.1));dsimp only;rw[e,z6 q,(j4 q).1,(j4 q).2]
structure GdV(d:Nat)(G:A9->Prop)(v:Vl):Prop where
 ls:∀c∈v.lists,Zk G c
 ss:∀c∈v.structs,Vd G c
 la:AC (W9 (Df d)) v.lists
 lo:ER (λp q=>DI (BA d) p q<0) v.lists
 sa:AC (Vb (Df d)) v.structs
 so:ER (λp q=>Et (BA d) p q<0) v.structs
 ev:¬EvX v
def DN:Nat->Vl->Prop
 |0,_=>True
 |d+1,v=>v.any=Aj->GdV d (λx=>(DN d x.1/\DN d x.2)/\Df d x.2 x.1) v
def Dk(d:Nat)(x:A9):Prop:=(DN d x.1/\DN d x.2)/\Df d x.2 x.1
theorem nS(h:l.Pairwise λx y=> ¬B x y/\¬B y x):AC B l:=λi j a b ne=>by grind[Nat.lt_or_ge,List.pairwise_iff_getElem]
theorem ot(d:Nat):SV (d+1) (.mk Bp EL [] []):=⟨⟨(Ma d).1.1,⟨Abe _,λc hc=>by cases hc⟩,⟨Abe _,λc hc=>by cases hc⟩,λx a=>by cases a⟩,⟨λ_=>⟨rfl,rfl,rfl⟩,Q8,λc hc=>(by cases hc),λc hc=>by cases hc⟩,λx a=>by cases a⟩
theorem SV.lx(h:SV (d+1) v):∀c∈v.lists,LX d c:=λc hc=>⟨(h.1.2.1.2 c hc).1,h.2.1.rs c hc,h.lv hc⟩
theorem SV.cx(h:SV (d+1) v):∀c∈v.structs,CX d c:=λc hc=>⟨h.1.2.2.1.2 c hc,(h.2.1.st c hc).1,(h.2.1.st c hc).2,h.sv hc⟩
theorem Pf(k:∀ {fu:Nat} {v:Vl},SV d v->1000000003000+10*d<fu->Ok (YQ fu v) λr=>(r.2=Bp->SV d r.1/\DN d r.1)/\(DN d v->r=(v,Bp)))(o:d<=3)(j:SW d x)(n:1000000003000+10*d+1<fu):
  Ok (LD fu x) λr=>(r.2=Bp->SW d r.1/\Dk d r.1)/\(Dk d x->r=(x,Bp)):=by
 obtain⟨e,rfl⟩:∃e,fu=e+1:=⟨fu-1,by omega⟩;rw[show LD (e+1) x=_ from d249 e x];refine OH (k j.1 (by omega)) λr f=>OH (k j.2 (by omega)) λs g=>?_;refine P3 (λa=>P3 (λc=>?_) λc=>MP ⟨λh=>(by grind),λq=>?_⟩) λa=>MP ⟨λh=>(by grind),λq=>?_⟩;· refine OH (J3 (g.1 c).1 (f.1 a).1 (by omega)) λb i=>MP ⟨λq=>⟨⟨(f.1 a).1,(g.1 c).1⟩,⟨(f.1 a).2,(g.1 c).2⟩,i.1 q⟩,λq=>?_⟩;have l:=f.2 q.1.1;have m:=g.2 q.1.2;subst l m;rw[i.2 q.2]
 ·rw[g.2 q.1.2]at c;grind
 ·rw[f.2 q.1.1]at a;grind
theorem Ti:∀ {d fu:Nat} {v:Vl},d<=3->SV d v->1000000003000+10*d<fu->Ok (YQ fu v) λr=>(r.2=Bp->SV d r.1/\DN d r.1)/\(DN d v->r=(v,Bp))
 |0,_,_,_,h,_=>h.1.elim
 |d+1,fu,v,Y,w,J=>by
  have P:=nN;obtain⟨f,rfl⟩:∃f,fu=f+3:=⟨fu-3,by omega⟩;have L:∀ {fu:Nat} {x:A9},SW d x->1000000003000+10*d+1<fu->Ok (LD fu x) λr=>(r.2=Bp->SW d r.1/\Dk d r.1)/\(Dk d x->r=(x,Bp)):=
   Pf (λh J=>Ti (by omega) h J) (by omega);have sb:=w.sb;obtain⟨I,⟨W,_⟩,⟨X,_⟩,_⟩:=id w.1;have O:=sb.2.1;rw[show YQ (f+3) v=_ from d248 (f+2) v];refine P3 (λG=>MP ⟨λ_=>⟨w,λh=>by simp_all⟩,λ_=>rfl⟩) λG=>BY (S2 O (by omega) (by decide) (by omega)) ?_;have p:DN (d+1) v->GdV d (Dk d) v:=λq=>q G;refine SE (λk (s:List GZ)=>s.length<=k/\(∀c∈s,LX d c/\Zk (Dk d) c)/\(DN (d+1) v->s=v.lists.take k)) v.lists.length ⟨by simp,by simp,λ_=>by simp⟩ (by omega) (λk s nx u H F=>?_) (λs nx H=>?_)
  ·have o:=AN u;obtain⟨T,B,C⟩:=H;refine P7 (Aah u (OH (jk (by omega) L (w.lx _ o) (by omega)) λr n=>P3 (λj=>MP ⟨λq=>(by cases q),λq=>?_⟩) λj=>P3 (λm=>Abw (F _ ⟨by dsimp only;rw[Aaa,Acl];omega,λc hc=>?_,λq=>?_⟩)) λm=>F _ ⟨by dsimp only;omega,B,λq=>?_⟩));· rw[n.2 ((p q).ls _ o)]at j;cases j
   ·rcases AS.1 hc with hc|hc;· exact B c hc
    ·rw[Aaf.1 hc];exact n.1 (by simpa using j) m
   ·rw[C q,n.2 ((p q).ls _ o),IN u]
   ·rw[n.2 ((p q).ls _ o)]at m;cases m
  obtain⟨T,B,C⟩:=H;rw[Aar]at C;refine Qh (by omega) ?_;refine SE (λk (z:List Bz)=>z.length<=k/\(∀c∈z,CX d c/\Vd (Dk d) c)/\(DN (d+1) v->z=v.structs.take k)) v.structs.length ⟨by simp,by simp,λ_=>by simp⟩ (by omega) (λk z nx u t F=>?_) (λz nx t=>?_)
  ·have o:=AN u;obtain⟨U,D,E⟩:=t;refine P7 (Aah u (OH (ji (by omega) L (w.cx _ o) (by omega)) λr n=>P3 (λj=>MP ⟨λq=>(by cases q),λq=>?_⟩) λj=>P3 (λm=>Abw (F _ ⟨by dsimp only;rw[Aaa,Acl];omega,λc hc=>?_,λq=>?_⟩)) λm=>F _ ⟨by dsimp only;omega,D,λq=>?_⟩));· rw[n.2 ((p q).ss _ o)]at j;cases j
   ·rcases AS.1 hc with hc|hc;· exact D c hc
    ·rw[Aaf.1 hc];exact n.1 (by simpa using j) m
   ·rw[E q,n.2 ((p q).ss _ o),IN u]
   ·rw[n.2 ((p q).ss _ o)]at m;cases m
  obtain⟨U,D,E⟩:=t;rw[Aar]at E;refine P8 (OH (gP (l:=s) (by omega) (λc hc=>(B c hc).1) (by omega) (by omega)) λy a=>OH (gO (l:=z) (by omega) (λc hc=>(D c hc).1) (by omega) (by omega)) λA i=>?_);have sv:SV (d+1) (Vl.mk Aj v.sc y A):=ZB I w.2.1.sc (by have:=a.1.1;omega) (by have:=i.1.1;omega) (λc hc=>(B c (a.1.2 c hc)).1) λc hc=>(D c (i.1.2 c hc)).1;have whole:DN (d+1) v->Vl.mk Aj v.sc y A=v:=λq=>by have g:=p q;have R:=a.2.2.2 (by rw[C q];exact g.la) (by rw[C q];exact g.lo);have S:=i.2.2.2 (by rw[E q];exact g.sa) (by rw[E q];exact g.so);rw[R,S,C q,E q];exact Air (show Aj=v.any from G.symm) rfl rfl rfl
  refine OH (ca (v:=Vl.mk Aj v.sc y A) (Dt I w.2.1.sc) (by decide) (by decide) (by omega)) λb K=>P3 (λh=>MP ⟨λ_=>⟨ot d,λq=>by cases q⟩,λq=>?_⟩) λh=>MP ⟨λ_=>⟨sv,λ_=>⟨λc hc=>(B c (a.1.2 c hc)).2,λc hc=>(D c (i.1.2 c hc)).2,nS a.2.1,a.2.2.1,nS i.2.1,i.2.2.1,λq=>?_⟩⟩,λq=>?_⟩;· have e:=K.1 h;rw[whole q]at e;exact absurd e (p q).ev
  ·rw[K.2 q]at h;cases h
  grind
def FB(d:Nat)(x:A9):Prop:=SW d x/\Dk d x
theorem R5(c:Iq d x)(g:d<=3)(j:1000000005000<fu):Ok (TO fu x) λr=>(r.2=0->FB d r.1)/\(Iq d r.1)/\(FB d x->r=(x,0)):=by
 have m:d≠0:=by rintro rfl;exact c.1.elim
 obtain⟨d,rfl⟩:∃e,d=e+1:=⟨d-1,by omega⟩;have no:(¬FB (d+1) x)->Ok (Ac ((v0,v0),(11:Int))) λr=>(r.2=0->FB (d+1) r.1)/\(Iq (d+1) r.1)/\(FB (d+1) x->r=(x,0)):=λn=>MP ⟨λh=>(by omega),⟨(Ma d).1,(Ma d).1⟩,λh=>absurd h n⟩;refine OH (Xx c g (by omega)) λb k=>P3 (λh=>no λq=>?_) λh=>?_;· rw[k.2 ⟨q.1.1.2,q.1.2.2⟩]at h;grind
 have l:=k.1 (by grind);have o:SW (d+1) x:=⟨⟨c.1,l.1⟩,c.2,l.2⟩;refine OH (Pf (λh j=>Ti g h j) g o (by omega)) λr i=>P3 (λa=>no λq=>?_) λa=>?_;· rw[i.2 q.2]at a;grind
 ·have f:=i.1 (by simpa using a);exact MP ⟨λ_=>f,⟨f.1.1.1,f.1.2.1⟩,λq=>by rw[i.2 q.2]⟩
theorem Xk(c:Iq d x)(j:d<=3)(g:1000000005000<fu):Ok (Q4 fu x) λr=>r=Bp↔FB d x:=by obtain⟨⟨y,e⟩,k,l,i,b⟩:=R5 (fu:=fu) c j g;refine BY k (Ob (λh=>OH (Mr i c (by omega)) λr a=>MP ⟨λf=>?_,λq=>?_⟩) λh=>MP ⟨λq=>(by grind),λq=>?_⟩);all_goals grind
theorem Kw(h:SV d v)(j:1000000000000<fu):Ok (YN fu v) λr=>r=Bp↔¬NB v:=by
 cases d with
 |zero=>exact h.1.elim
 |succ d=>
  have l:Ij 5 12 v.sc:=Dt h.1.1 h.2.1.sc;have no:NB v->Ok (Ac Aj) λr=>r=Bp↔¬NB v:=λk=>MP ⟨λh=>(by cases h),λh=>absurd k h⟩;rw[YN];refine P3 (λa=>OH (N' (l.sc (by decide)) (by decide) j) λb o=>?_) λa=>no (.inl (by simpa using a));rw[o.2 h.2.1.sc];refine Qb rfl (OH (KF l (by decide) (by decide) j) λr f=>P3 (λc=>Ob (λi=>MP ?_) λi=>no (.inr (.inl λe=>i (by rw[e];rfl)))) λc=>no (.inr (.inr (.inr λe=>by rw[f.2 e]at c;cases c))));have m:v.lists=[]:=OF.1 (by omega);have n:=f.1 c;have a:v.any=Aj:=by simpa using a
  rw[decide_eq_true_iff];unfold NB;rw[a,m,n];exact⟨λg=>by simp[OF.1 (by omega:v.structs.length=0)],λg=>by simp at g;simp[g]⟩
theorem I3(h:SV d v)(j:1000000000000<fu):Ok (YM fu v) λr=>r=Bp↔¬NB v:=by rw[YM];exact OH (Kw h j) λr f=>MP f
theorem U8{α:Type}{R:α->α->Prop} :∀ {l:List α},(∀i (h:i+1<l.length),R l[i] l[i+1])->ER R l
 | [],_=>trivial
 | [_],_=>trivial
 |x::y::l,h=>⟨h 0 (by simp),U8 λi a=>h (i+1) (by simpa using a)⟩
def Cs(G:α->Prop)(B:α->α->Prop)(c:α->α->Int)(l:List α):Prop:=(∀x∈l,G x)/\AC B l/\ER (λp q=>c p q<0) l
theorem Th{G:α->Prop}{c:α->α->Int}{g:α->Option Bool}{wr:α->Option Vl}{cmp:Vl->Vl->Option Int}{le:α->α->Option Bool}{K:Option Bool}{P:Bool->Prop}(hl:l.length<=12)(hf:20<fu)
  (hg:∀x∈l,Ok (g x) λr=>r=Bp↔G x) (hc:∀x∈l,∀y∈l,∃a b,wr x=Ac a/\wr y=Ac b/\cmp a b=Ac (c x y)) (O:∀x∈l,∀y∈l,Ok (le x y) λr=>r=Bp↔B x y)
  (yes:Cs G B c l->Ok K P) (no:¬Cs G B c l->P Aj):
  Ok (Ad fu (λ(f:Nat) J=>
  bif Di (
        (f:Int)<(l.length:Int))then
   Ab (idx l (f:Int)) λr3=>
   Ab (g r3) λr4=>
   bif !r4 then
    Ac (Aj)
   else
    bif Di (
          (0:Int)<(f:Int))then
     Aa (Lr.i64) ((f:Int)-(1:Int))<|
     Ab (idx l ((f:Int)-(1:Int))) λr5=>
     Ab (wr r5) λr6=>
     Ab (idx l (f:Int)) λr7=>
     Ab (wr r7) λr8=>
     Ab (cmp r6 r8) λr9=>
     bif Di ((0:Int)<=r9)then
      Ac (Aj)
     else
      Ad fu (λ(o:Nat) v=>
       bif Di ((o:Int)<(l.length:Int))then
        bif Di ((f:Int)≠(o:Int))then
         Ab (idx l (f:Int)) λT=>
         Ab (idx l (o:Int)) λU=>
         Ab (le T U) λV=>
         bif V then
          Ac (Aj)
         else
          v (o+1)
        else
         v (o+1)
       else
        J (f+1)) (0)
    else
     Ad fu (λ(e:Nat) d=>
      bif Di ((e:Int)<(l.length:Int))then
       bif Di ((f:Int)≠(e:Int))then
        Ab (idx l (f:Int)) λC=>
        Ab (idx l (e:Int)) λD=>
        Ab (le C D) λE=>
        bif E then
         Ac (Aj)
        else
         d (e+1)
       else
        d (e+1)
      else
       J (f+1)) (0)
  else K) 0) P:=by
 refine V_ (λk=>(∀x∈l.take k,G x)/\(∀i (h:i+1<l.length),i+1<k->c l[i] l[i+1]<0)/\∀i j (t:i<l.length) (s:j<l.length),i<k->i≠j->¬B l[i] l[j]) l.length ⟨by simp,λi h k=>by omega,λi j _ _ h=>by omega⟩ (by omega) (λk nx z N hn=>?_) (λnx N=>?_)
 ·have m:=
       AN z;obtain⟨M,R,S⟩:=N;have inner:G l[k]->(∀i (h:i+1<l.length),i+1<k+1->c l[i] l[i+1]<0)->Ok (Ad fu (λ(e:Nat) d=>
      bif Di ((e:Int)<(l.length:Int))then
       bif Di ((k:Int)≠(e:Int))then
        Ab (idx l (k:Int)) λC=>
        Ab (idx l (e:Int)) λD=>
        Ab (le C D) λE=>
        bif E then
         Ac (Aj)
        else
         d (e+1)
       else
        d (e+1)
      else
       nx (k+1)) (0)) P:=λL W=>by
   refine V_ (λn=> ∀j (s:j<l.length),j<n->k≠j->¬B l[k] l[j]) l.length (λj _ h=>by omega) (by omega) (λn d A w H=>?_) (λd w=>?_)
   ·have u:(k≠n->¬B l[k] l[n])->∀j (s:j<l.length),j<n+1->k≠j->¬B l[k] l[j]:=λh j s hjn=>by
     rcases Aam j n with q|q;· exact w j s q
     ·obtain rfl:j=n:=by omega
      exact h
    refine P7 (Ob (λne=>Aah z (Aah A (OH (O _ m _ (AN A)) λr I=>P3 (λh=>MP (no λq=>q.2.1 k n z A (by omega) (I.1 h))) λh=>H (u λ_ hB=>by rw[I.2 hB]at h;cases h)))) λne=>H (u λh=>absurd h (by omega)))
   ·refine P8 (hn ⟨λx Q=>?_,W,λi j t s F ne=>?_⟩)
    ·rcases(Af z).1 Q with Q|rfl;· exact M x Q
     ·exact L
    ·rcases Aam i k with q|q;· exact S i j t s q ne
     ·obtain rfl:i=k:=by omega
      exact w j s s ne
  refine P7 (Aah z (OH (hg _ m) λr I=>P3 (λh=>MP (no λq=>?_)) λh=>?_));· rw[I.2 (q.1 _ m)]at h;cases h
  have L:=I.1 (by simpa using h);refine Ob (λh0=>?_) λh0=>inner L λi t F=>by omega
  obtain⟨p,rfl⟩:∃p,k=p+1:=⟨k-1,by omega⟩;obtain⟨a,b,Y,Z,ec⟩:=hc _ (AN (by omega:p<l.length)) _ m;have X:((p+1:Nat):Int)-1=(p:Nat):=by omega
  refine Abx (by omega) ?_;rw[X];refine Aah (by omega) (BY Y (Aah z (BY Z (BY ec (Ob (λh=>MP (no λq=>?_)) λh=>inner L λi t F=>?_)))));· have:=QS q.2.2 p z;omega
  ·rcases Aam i p with q|q;· exact R i t (by omega)
   ·obtain rfl:i=p:=by omega
    omega
 ·obtain⟨M,R,S⟩:=N;rw[Aar]at M;exact P8 (yes ⟨M,λi j t s ne=>S i j t s t ne,U8 λi h=>R i h h⟩)
end
section
variable {d : Nat} (hd : d <= 2) (ih : ∀ {fu : Nat} {v : Vl}, SV d v -> 1000000003000 + 20 * d < fu -> Ok (TF fu v) λr => r = Bp ↔ DN d v)
section
variable{fu:Nat}
include ih
theorem E5{x:A9}(e:SW d x)(j:1000000003000+20*d+1<fu):Ok (Q0 fu x) λr=>r=Bp↔Dk d x:=by
 obtain⟨f,rfl⟩:∃f,fu=f+1:=⟨fu-1,by omega⟩;rw[show Q0 (f+1) x=_ from d345 f x];unfold yC;refine OH (ih e.1 (by omega)) λr g=>P3 (λa=>OH (ih e.2 (by omega)) λs h=>P3 (λc=>OH (H6 e.2 e.1 (by omega)) λb i=>MP (i.trans ⟨λq=>⟨⟨g.1 a,h.1 c⟩,q⟩,λq=>q.2⟩)) λc=>AQ λq=>?_) λa=>AQ λq=>?_;· rw[h.2 q.1.2]at c;cases c
 ·rw[g.2 q.1.1]at a;cases a
theorem SA{c:GZ}(hc:LX d c)(A:1000000003000+20*d+2<fu):Ok (eb fu c) λr=>r=Bp↔Zk (Dk d) c:=by
 obtain⟨f,rfl⟩:∃f,fu=f+1:=⟨fu-1,by omega⟩;rw[show eb (f+1) c=_ from d346 f c];unfold yB;have B:=hc.n1;have C:=hc.n2;refine V_ (λk=> ∀x∈c.1.take k,NB x.1/\Dk d x) c.1.length (by simp) (by omega) (λk nx n g z=>?_) (λnx g=>?_)
 ·have m:=AN n;have s:=hc.vs _ (AS.2 (.inl m));refine P7 (Aah n (OH (I3 s.1 (by omega)) λr i=>P3 (λh=>AQ λq=>i.1 h (q.1 _ m).1) λh=>Aah n (OH (E5 ih s (by omega)) λt o=>P3 (λl=>AQ λq=>?_) λl=>z λx e=>?_)));· rw[o.2 (q.1 _ m).2]at l;cases l
  ·rcases(Af n).1 e with e|rfl;· exact g x e
   ·exact⟨GB λp=>(by rw[i.2 p]at h;cases h),o.1 (by simpa using l)⟩
 ·rw[Aar]at g;refine P8 (Ob (λh=>MP ⟨λ_=>⟨g,λx e=>?_⟩,λ_=>rfl⟩) λh=>?_);· rw[OF.1 (by omega:c.2.length=0)]at e;cases e
  obtain⟨y,j⟩:=P6 (by omega:c.2.length=1);have s:=hc.vs y (AS.2 (.inr (by rw[j];exact Aaf.2 rfl)));rw[j];have mem:∀x∈c.2,x=y:=λx e=>by rw[j]at e;exact Aaf.1 e
  have u:y∈c.2:=by rw[j];exact Aaf.2 rfl
  refine BY (a:=y) rfl (OH (I3 s.1 (by omega)) λr i=>P3 (λh=>BY (a:=y) rfl (OH (E5 ih s (by omega)) λt o=>MP (o.trans ⟨λq=>⟨g,λx e=>?_⟩,λq=>(q.2 y u).2⟩))) λh=>AQ λq=>i.1 (by simpa using h) (q.2 y u).1);rw[mem x e];exact⟨GB λp=>(by rw[i.2 p]at h;cases h),q⟩
end
end
section
variable{fu:Nat}
theorem Xz{w v:Aq} :Ok (eh fu (w,v)) λr=>r=Bp↔EJ w v<0:=by
 rw[eh];refine Ob (λh=>MP ⟨λ_=>?_,λ_=>rfl⟩) λh=>Ob (λk=>MP ?_) λk=>AQ ?_;· have e:D8 w.length v.length= -1:=if_pos h;unfold EJ;rw[e,if_neg (by decide)];decide
 ·unfold EJ;rw[if_pos (BE.2 (by omega))];unfold FL;cases a:Op.bytesLess w v with
  |true=>exact⟨λ_=>by rw[if_pos rfl];decide,λ_=>rfl⟩
  |false=>
   refine⟨λh=>(by cases h),λh=>?_⟩;rw[if_neg (by simp)]at h;split at h<;>exact absurd h (by decide)
 ·have e:D8 w.length v.length=1:=(if_neg h).trans (if_pos (by omega));unfold EJ;rw[e,if_neg (by decide)];decide
theorem aR{a b:Tb}(c:CD a (Av a 0) 14641)(d:CD b (Av b 0) 14641)(na:a≠ [])(nb:b≠ [])(i:∀w,¬(Av a 0 w=Bp/\Av b 0 w=Bp))(p:1000000000000<fu):
  ∃w v,Ve fu a=Ac w/\Ve fu b=Ac v/\Ok (eh fu (w,v)) λr=>r=Bp↔Ff a b<0:=by
 have one:∀ {a:Tb},CD a (Av a 0) 14641->a≠ []->∃w,LQ a=Ac w/\Ve fu a=Ac w:=λ{a} h n=>by
  cases e:LQ a with
  |none=>exact absurd (MQ h e) n
  |some w=>
   refine⟨w,rf,(Ok.eq ?_)⟩;rw[Ve];exact BY (IY (n:=14641) h ⟨h.len,λs o=>Aan (h.wf s o).len (by decide)⟩ (by decide) (by omega)) (MP (by rw[e];rfl))
 obtain⟨w,j,k⟩:=one c na;obtain⟨v,l,m⟩:=one d nb;have rfl:O5 a b=a:=Qy (q:=14641) (c.congr (funext λu=>by
  rw[c.gL,d.gL];have:=i u;cases f:Av a 0 u<;>cases g:Av b 0 u<;>simp[f,g]at this⊢));have d2:O5 b a=b:=Qy (q:=14641) (d.congr (funext λu=>by
  rw[c.gL,d.gL];have:=i u;cases f:Av a 0 u<;>cases g:Av b 0 u<;>simp[f,g]at this⊢));have e:Ff a b=EJ w v:=by unfold Ff;rw[rfl,d2,j,l];rfl
 rw[e];exact⟨w,v,k,m,Xz⟩
theorem O0{d:Nat}{x y:A9}(a:SW d x)(b:SW d y)(c:d<=3)(h:1000000003000<fu):Ok (TG fu (x,y)) λr=>r=Bp↔x=y:=by rw[TG];refine OH (IJ ⟨a.1.1,a.2.1⟩ c (by omega)) λr f=>?_;rw[f.2 ⟨a.1.2,a.2.2⟩];refine VP rfl (OH (IJ ⟨b.1.1,b.2.1⟩ c (by omega)) λs g=>?_);rw[g.2 ⟨b.1.2,b.2.2⟩];refine VP rfl (BY (HQ HL a b (by omega)) (MP ?_));rw[decide_eq_true_iff];have k:=HM (R:=BA d) HN a b;refine⟨k.2,λe=>?_⟩;subst e;have:=k.1;omega
end
section
variable {d : Nat} (hd : d <= 2) (ih : ∀ {fu : Nat} {v : Vl}, SV d v -> 1000000003000 + 20 * d < fu -> Ok (TF fu v) λr => r = Bp ↔ DN d v)
include hd ih
theorem NU{fu:Nat}{c:Bz}(hc:CX d c)(hF:1000000003000+20*d+2<fu):Ok (d_ fu c) λr=>r=Bp↔Vd (Dk d) c:=by
 obtain⟨f,rfl⟩:∃f,fu=f+1:=⟨fu-1,by omega⟩;rw[show d_ (f+1) c=_ from d347 f c];unfold yA;have n1:=hc.bd.nf;have n2:=hc.bd.nc;refine V_ (λk=> ∀x∈c.1.take k,NB x.2.2.1/\Dk d x.2.2) c.1.length (by simp) (by omega) (λk nx b G K=>?_) (λnx G=>?_)
 ·have m:=AN b;have s:=hc.vs _ (AS.2 (.inl (By.2 ⟨_,m,rfl⟩)));refine P7 (Aah b (OH (I3 s.1 (by omega)) λr u=>P3 (λh=>AQ λq=>u.1 h (q.1 _ m).1) λh=>Aah b (OH (E5 ih s (by omega)) λt V=>P3 (λl=>AQ λq=>?_) λl=>K λx C=>?_)));· rw[V.2 (q.1 _ m).2]at l;cases l
  ·rcases(Af b).1 C with C|rfl;· exact G x C
   ·exact⟨GB λnb=>(by rw[u.2 nb]at h;cases h),V.1 (by simpa using l)⟩
 rw[Aar]at G;refine Qh (by omega) ?_;have T:∀k∈c.2,CD k.1 (Av k.1 0) 14641:=λk b=>by have g:=hc.gd.1 k b;have:=Pt b;have:=hc.bd.st;unfold J_ at*;exact⟨g.2.1,g.2.2,rfl,by omega⟩
 have S:∀k∈c.2,SW d k.2:=λk b=>hc.vs _ (AS.2 (.inr (By.2 ⟨k,b,rfl⟩)));refine V_ (λk=>(∀x∈c.2.take k,Dk d x.2)/\(∀i (h:i+1<c.2.length),i+1<k->Ff c.2[i].1 c.2[i+1].1<0)/\∀i j (B:i<c.2.length) (n:j<c.2.length),i<k->j<i->c.2[i].2≠c.2[j].2) c.2.length ⟨by simp,λi h k=>by omega,λi j _ _ h=>by omega⟩ (by omega) (λk nx b A K=>?_) (λnx A=>?_)
 ·have m:=AN b;obtain⟨H,N,O⟩:=A;have inner:Dk d c.2[k].2->(∀i (h:i+1<c.2.length),i+1<k+1->Ff c.2[i].1 c.2[i+1].1<0)->Ok (Ad f (λ(o:Int) y=>
      bif Di (o<(k:Int))then
       Ab (idx c.2 (k:Int)) λP=>
       Ab (idx c.2 o) λQ=>
       Ab (TG f (P.2,Q.2)) λR=>
       bif R then
        Ac (Aj)
       else
        Aa (Lr.i64) (o+(1:Int))<|
        y ((o+(1:Int)))
      else
       nx (k+1)) ((0:Int))) λr=>r=Bp↔Vd (Dk d) c:=λF X=>by
   refine XD (λz=>(0<=z/\z<=(k:Int))/\∀j (n:j<c.2.length),(j:Int)<z->c.2[k].2≠c.2[j].2) (λz=>((k:Int)-z).toNat) ⟨⟨by omega,by omega⟩,λj _ h=>by omega⟩ (by omega) λz y hI _ L=>?_;obtain⟨⟨z0,z1⟩,W⟩:=hI;refine Ob (λhz=>Aah b (Adg z0 (by omega) (OH (O0 (S _ m) (S _ (AN (by omega:z.toNat<c.2.length))) (by omega) (by omega)) λr u=>P3 (λh=>AQ λq=>?_) λh=>Aao (L _ ⟨by omega,λj n hjz=>?_⟩ (by omega))))) λhz=>K ⟨λx C=>?_,X,λi j B n D J=>?_⟩;· exact Aaw.1 q.2.2.2 z.toNat k (by omega) b (by omega) (u.1 h).symm
   ·rcases Aeg (j:Int) z with q|q;· exact W j n q
    ·obtain rfl:z=(j:Int):=by omega
     intro e;rw[u.2 (by simpa using e)]at h;cases h
   ·rcases(Af b).1 C with C|rfl;· exact H x C
    ·exact F
   ·rcases Aam i k with q|q;· exact O i j B n q J
    ·obtain rfl:i=k:=by omega
     exact W j n (by omega)
  refine P7 (Aah b (OH (E5 ih (S _ m) (by omega)) λr u=>P3 (λh=>AQ λq=>?_) λh=>?_));· rw[u.2 (q.2.1 _ m)]at h;cases h
  have F:=u.1 (by simpa using h);refine Ob (λh0=>?_) λh0=>inner F λi B D=>by omega
  obtain⟨p,rfl⟩:∃p,k=p+1:=⟨k-1,by omega⟩;have M:p<c.2.length:=by omega
  have mp:=AN M;have Y:((p+1:Nat):Int)-1=(p:Nat):=by omega
  obtain⟨w,v,Z,ev,hl⟩:=aR (fu:=f) (T _ mp) (T _ m) (hc.gd.1 _ mp).1 (hc.gd.1 _ m).1 (hc.gd.Iz M b (by omega)) (by omega);refine Abx (by omega) ?_;rw[Y];refine Aah M (BY Z (Aah b (BY ev (OH hl λs U=>P3 (λl=>AQ λq=>?_) λl=>inner F λi B D=>?_))));· rw[U.2 (QS q.2.2.1 p b)]at l;cases l
  ·rcases Aam i p with q|q;· exact N i B (by omega)
   ·obtain rfl:i=p:=by omega
    exact U.1 (by simpa using l)
 ·obtain⟨H,N,O⟩:=A;rw[Aar]at H;exact P8 (MP ⟨λ_=>⟨G,H,U8 λi h=>N i h h,Aaw.2 λi j B n I e=>O j i n B n I e.symm⟩,λ_=>rfl⟩)
end
section
variable{d:Nat}{v:A9}{fu n:Nat}
theorem Sz:∀ {d fu:Nat} {v:Vl},d<=3->SV d v->1000000003000+20*d<fu->Ok (TF fu v) λr=>r=Bp↔DN d v
 |0,_,_,_,h,_=>h.1.elim
 |d+1,fu,v,w,e,u=>by
  obtain⟨f,rfl⟩:∃f,fu=f+1:=⟨fu-1,by omega⟩;have z:∀ {fu:Nat} {v:Vl},SV d v->1000000003000+20*d<fu->Ok (TF fu v) λr=>r=Bp↔DN d v:=λh u=>Sz (by omega) h u;obtain⟨A,⟨J,_⟩,⟨K,_⟩,_⟩:=id e.1;rw[show TF (f+1) v=_ from d348 f v];unfold yz;have nil:v.any=Bp->v.lists=[]/\v.structs=[]:=λh=>(e.2.1.an h).2;have t:∀ {α:Type} {G:α->Prop} {B:α->α->Prop} {c:α->α->Int},Cs G B c []:=⟨by simp,λi j I=>by simp at I,trivial⟩;have E:DN (d+1) v->Cs (Zk (Dk d)) (W9 (Df d)) (DI (BA d)) v.lists:=λq=>by
   cases h:v.any with
   |true=>rw[(nil h).1];exact t
   |false=>have g:=q h;exact⟨g.ls,g.la,g.lo⟩
  have F:DN (d+1) v->Cs (Vd (Dk d)) (Vb (Df d)) (Et (BA d)) v.structs:=λq=>by
   cases h:v.any with
   |true=>rw[(nil h).2];exact t
   |false=>have g:=q h;exact⟨g.ss,g.sa,g.so⟩
  refine Th (G:=Zk (Dk d)) (B:=W9 (Df d)) (c:=DI (BA d)) (g:=λx=>eb f x) (wr:=λx=>jX f x) (cmp:=λa b=>Vf f (a,b)) (le:=λx y=>TL f (x,y)) (by omega) (by omega) (λx k=>SA z (e.lx x k) (by omega)) (λx k y l=>⟨oe x,oe y,rfl,rfl,?_⟩) (λx k y l=>R8 H6 (e.lx x k).n1 (e.lx x k).vs (e.lx y l).vs (by omega)) (λm=>?_) λn=>⟨λh=>(by cases h),λq=>absurd (E q) n⟩;· rw[JX (Mh (e.lx x k)) (Mh (e.lx y l)) w (by omega),WK]
  refine Th (G:=Vd (Dk d)) (B:=Vb (Df d)) (c:=Et (BA d)) (g:=λx=>d_ f x) (wr:=λx=>jP f x) (cmp:=λa b=>Vf f (a,b)) (le:=λx y=>TK f (x,y)) (by omega) (by omega) (λx k=>NU (by omega) z (e.cx x k) (by omega)) (λx k y l=>⟨od x,od y,rfl,rfl,?_⟩) (λx k y l=>Mj H6 (e.cx x k).bd (e.cx y l).bd (e.cx x k).gd (e.cx y l).gd (e.cx x k).vs (e.cx y l).vs (by omega)) (λo=>?_) λn=>⟨λh=>(by cases h),λq=>absurd (F q) n⟩;· rw[JX (Mg (e.cx x k)) (Mg (e.cx y l)) w (by omega),WJ]
  refine OH (Yh (Dt A e.2.1.sc) (by decide) (by decide) (by omega)) λr p=>MP ⟨λh H=>⟨m.1,o.1,m.2.1,m.2.2,o.2.1,o.2.2,λq=>?_⟩,λq=>?_⟩;· rw[p.2 ⟨H,q⟩]at h;cases h
  ·cases r with
   |false=>rfl
   |true=>exact absurd (p.1 rfl).2 (q (p.1 rfl).1).ev
theorem Xl{x:A9}{F:Nat->A9->Option Bool}(a:Iq d x)(c:d<=3)(b:1000000005000<fu)(e:F fu x=Ab (Vh fu x) λj=>bif j then Ab (Q0 fu x) λk=>Ac k else Ac Aj):Ok (F fu x) λr=>r=Bp↔FB d x:=by
 rw[e];refine OH (IJ a c (by omega)) λr f=>P3 (λh=>?_) λh=>AQ λq=>?_;· have s:=f.1 h;have g:SW d x:=⟨⟨a.1,s.1⟩,a.2,s.2⟩;exact OH (E5 (λh b=>Sz c h b) g (by omega)) λt i=>MP (i.trans ⟨λq=>⟨g,q⟩,λq=>q.2⟩)
 ·rw[f.2 ⟨q.1.1.2,q.1.2.2⟩]at h;cases h
open Classical in
noncomputable def Db(v:A9):Vl:=if NB v.2 then v.2 else v.1
open Classical in
noncomputable def alt(D:Vl):Nat:=D.lists.length+D.structs.length+if D.sc=EL then 0 else 1
open Classical in
noncomputable def err(d:Nat)(v:A9)(n:Nat):Int:=if¬FB d v then 11 else if¬NB v.1 then 12 else if(Db v).any=Bp\/0<n/\1<alt (Db v)then 14 else if n=0 then 11 else 0
theorem JJ{α:Type}{l:List α}{d:α}(h:0<l.length):l[0]=l.headD d:=by
 cases l with
 |nil=>grind
 |cons c l=>rfl
theorem SV.n3{v:Vl}(h:SV d v):v.lists.length<=3/\v.structs.length<=3:=by
 cases d with
 |zero=>exact h.1.elim
 |succ d=>exact⟨h.1.2.1.1,h.1.2.2.1.1⟩
theorem SV.scv{v:Vl}(h:SV d v):Ij 5 12 v.sc:=by
 cases d with
 |zero=>exact h.1.elim
 |succ d=>exact Dt h.1.1 h.2.1.sc
theorem IL(h:FB d v):SV d (Db v):=by
 unfold Db;split;· exact h.1.2
 ·exact h.1.1
theorem ZV(h:FB d v):DN d (Db v):=by
 unfold Db;split;· exact h.2.1.2
 ·exact h.2.1.1
theorem OA(b:d<=3)(f:Iq d v)(h:FB d v)(a:1000000005000<fu):TO fu v=Ac (v,0):=by obtain⟨r,e,_,_,c⟩:=R5 (fu:=fu) f b a;grind
theorem LI(f:d<=3)(g:Iq d v)(c:1000000005000<fu):(FB d v/\Q4 fu v=Ac Bp)\/(¬FB d v/\Q4 fu v=Ac Aj):=by obtain⟨b,e,a⟩:=Xk (fu:=fu) g f c;grind
theorem Ug(g:d<=3)(i:Iq d v)(h:FB d v)(c:1000000005000<fu):tt fu v=Ac (Db v):=by have e:Q4 fu v=Ac Bp:=((LI g i c).resolve_right λk=>k.1 h).2;refine(Ok.eq ?_);refine BY (OA g i h c) (Qh (by simp) (BY e (Qb rfl (OH (Er h.1.2.sb (by omega)) λb f=>P3 (λq=>MP ?_) λq=>MP ?_))));all_goals grind[Db]
theorem of_eq(f:d<=3)(i:Iq d v)(a:1000000005000<fu):Ok (kx fu v) λr=>(¬FB d v/\r.2=11)\/(FB d v/\¬NB v.1/\r.2=12)\/(FB d v/\NB v.1/\r.2=0/\r.1.1=Db v/\(r.1.2=Bp↔(Db v).sc≠EL)):=by
 rcases LI f i a with⟨h,e⟩|⟨h,e⟩
 ·refine BY e (Qb rf (OH (Er h.1.1.sb (by omega)) λb c=>P3 (λq=>MP (.inr (.inl ⟨h,c.1 q,rf⟩))) λq=>BY (Ug f i h a) ?_));have j:NB v.1:=GB λn=>by grind
  have s:=IL h;refine OH (I0 (s.scv) (by simp) (by simp) (by omega)) λr g=>MP (.inr (.inr ⟨h,j,rfl,rfl,?_⟩));grind
 ·exact BY e (VP rf (MP (.inl ⟨h,rf⟩)))
theorem Rp{s:Bool}(h:FB d v)(nb:NB v.1)(b:s=Bp↔(Db v).sc≠EL)(g:n<=3):kv fu ((Db v,s),(n:Int))=Ac (err d v n):=by
 have sv:=IL h;have i:=sv.n3.1;have j:=sv.n3.2;have e:tq fu (Db v,s)=Ac (alt (Db v):Int):=by refine(Ok.eq ?_);refine Aao (P3 (λq=>Aao (MP ?_)) λq=>MP ?_);all_goals grind[alt]
 have c:err d v n=if(Db v).any=Bp\/0<n/\1<alt (Db v)then 14 else if n=0 then 11 else 0:=by grind[err]
 rw[c];refine(Ok.eq ?_);refine P3 (λa=>MP (if_pos (.inl a)).symm) λa=>Ob (λf=>BY e (Ob (λq=>MP (if_pos (.inr ⟨by omega,by omega⟩)).symm) λq=>P8 (MP ?_))) λf=>P7 (MP ?_)
 all_goals grind
theorem Qt(h:err d v n=0):FB d v/\NB v.1/\0<n/\(Db v).any=Aj:=by grind[err]
noncomputable def Dr(d:Nat)(v:A9):Bz×Int:=if err d v (Db v).structs.length=0 then((Db v).structs.headD ([],[]),0)else(([],[]),err d v (Db v).structs.length)
noncomputable def Fc(d:Nat)(v:A9):GZ×Int:=if err d v (Db v).lists.length=0 then((Db v).lists.headD ([],[]),0)else(([],[]),err d v (Db v).lists.length)
theorem Pz(j:d<=3)(m:Iq d v)(i:1000000005000<fu):tp fu v=Ac (Dr d v):=by
 refine(Ok.eq ?_);refine OH (of_eq j m i) λr l=>?_;rcases l with⟨h,e⟩|⟨h,c,e⟩|⟨h,c,e,f,g⟩;· have b:∀n,err d v n=11:=λn=>if_pos h;simp_all[Dr,P8,P7,MP,if_neg]
 ·have b:∀n,err d v n=12:=λn=>(if_neg (λk=>k h)).trans (if_pos c);simp_all[Dr,P8,P7,MP,if_neg]
 ·obtain⟨⟨D,s⟩,z⟩:=r;dsimp only at e f g⊢;subst f;have o:=(IL h).n3.2;refine T3 e (BY (Rp h c g o) (Ob (λk=>MP ?_) λk=>?_));· simp_all[Dr]
  ·have k:err d v (Db v).structs.length=0:=GB k;have p:=(Qt k).2.2.1;refine Adg (by decide) (by omega) (MP ?_);unfold Dr;rw[if_pos k];exact congrArg (·,(0:Int)) (JJ p)
theorem T4(j:d<=3)(m:Iq d v)(i:1000000005000<fu):tj fu v=Ac (Fc d v):=by
 refine(Ok.eq ?_);refine OH (of_eq j m i) λr l=>?_;rcases l with⟨h,e⟩|⟨h,c,e⟩|⟨h,c,e,f,g⟩;· have a:∀n,err d v n=11:=λn=>if_pos h;simp_all[Fc,P8,P7,MP,if_neg]
 ·have a:∀n,err d v n=12:=λn=>(if_neg (λk=>k h)).trans (if_pos c);simp_all[Fc,P8,P7,MP,if_neg]
 ·obtain⟨⟨D,s⟩,z⟩:=r;dsimp only at e f g⊢;subst f;have o:=(IL h).n3.1;refine T3 e (BY (Rp h c g o) (Ob (λk=>MP ?_) λk=>?_));· grind[Fc]
  ·have k:err d v (Db v).lists.length=0:=GB k;have p:=(Qt k).2.2.1;refine Adg (by decide) (by omega) (MP ?_);unfold Fc;rw[if_pos k];exact congrArg (·,(0:Int)) (JJ p)
noncomputable def TU(d:Nat)(v:A9)(s:Aq):A9×Int:=if(Dr d v).2=0 then match(Dr d v).1.1.find? (λf=>Di (f.1=s))with
 |some f=>(f.2.2,0)
 |none=>((v0,v0),13)else((v0,v0),(Dr d v).2)
noncomputable def ind(d:Nat)(v:A9)(i:Int):A9×Int:=if(Fc d v).2=0 then if i<0 then((v0,v0),1)else if h:i.toNat<(Fc d v).1.1.length then((Fc d v).1.1[i.toNat],0)else if 0<(Fc d v).1.2.length then((v0,v0),14)else((v0,v0),13)else((v0,v0),(Fc d v).2)
end
section
variable {d : Nat} (hd : d <= 3) {v : A9} {fu : Nat} (hx : Iq d v) (hF : 1000000005000 < fu)
section
variable{e:Int}
theorem Me{c:Bz}(h:Dr d v=(c,e)):(e≠0->c=([],[]))/\(e=0->FB d v/\NB v.1/\(Db v).any=Aj/\c∈(Db v).structs):=by
 unfold Dr at h;split at h;· rename_i k;obtain⟨f,g,b,i⟩:=Qt k;cases h;refine⟨λq=>absurd rfl q,λ_=>⟨f,g,i,?_⟩⟩;cases j:(Db v).structs with
  |nil=>grind
  |cons c l=>simp
 grind
theorem Zz{c:GZ}(h:Fc d v=(c,e)):(e≠0->c=([],[]))/\(e=0->FB d v/\NB v.1/\(Db v).any=Aj/\c∈(Db v).lists):=by
 unfold Fc at h;split at h;· rename_i k;obtain⟨f,g,b,i⟩:=Qt k;cases h;refine⟨λq=>absurd rfl q,λ_=>⟨f,g,i,?_⟩⟩;cases j:(Db v).lists with
  |nil=>grind
  |cons c l=>simp
 grind
theorem Qa(h:FB (d+1) v)(j:(Db v).any=Aj):(∀c∈(Db v).structs,c.1.length<=4/\(∀f∈c.1,FB d f.2.2/\NB f.2.2.1))/\∀c∈(Db v).lists,c.1.length<=3/\c.2.length<=1/\∀x∈AY c,FB d x/\NB x.1:=by
 have sv:=IL h;have g:GdV d (Dk d) (Db v):=ZV h j;refine⟨λc hc=>⟨(sv.cx c hc).bd.nf,λf i=>?_⟩,λc hc=>⟨(sv.lx c hc).n1,(sv.lx c hc).n2,λx hx=>?_⟩⟩;· have k:=(g.ss c hc).1 f i;exact⟨⟨(sv.cx c hc).vs _ (AS.2 (.inl (By.2 ⟨f,i,rfl⟩))),k.2⟩,k.1⟩
 ·have s:=(sv.lx c hc).vs x hx;rcases AS.1 hx with q|q;· have k:=(g.ls c hc).1 x q;exact⟨⟨s,k.2⟩,k.1⟩
  ·have k:=(g.ls c hc).2 x q;exact⟨⟨s,k.2⟩,k.1⟩
include hd hx hF
theorem XA{s:Aq} :Vk fu (v,s)=Ac (TU d v s):=by
 refine Ok.eq ?_;refine BY (Pz hd hx hF) (Ob (λh=>MP (if_neg h).symm) λh=>?_);have h:(Dr d v).2=0:=GB h;have o:(Dr d v).1.1.length<=4:=by
  have k:=(Me (d:=d) (v:=v) rfl).2 h;exact match d,k with
  |0,k=>k.1.1.1.1.elim
  |d+1,k=>((Qa k.1 k.2.2.1).1 _ k.2.2.2).1
 refine V_ (λk=> ∀f∈(Dr d v).1.1.take k,f.1≠s) (Dr d v).1.1.length (by simp) (by omega) (λk nx i c m=>?_) (λnx c=>?_)
 ·refine P7 (Aah i (Ob (λq=>MP ?_) λq=>m λf g=>?_))
  ·unfold TU;rw[if_pos h];have e:(Dr d v).1.1.find? (λf=>Di (f.1=s))=Ac (Dr d v).1.1[k]:=by
    rw[Acn];exact⟨by grind,k,i,rfl,λj n=>by have:=c _ (Adi.2 ⟨j,by omega,rfl⟩);grind⟩
   rw[e]
  ·rcases(Af i).1 g with g|rfl;· exact c f g
   ·exact q
 ·rw[Aar]at c;refine P8 (MP ?_);unfold TU;rw[if_pos h];have e:(Dr d v).1.1.find? (λf=>Di (f.1=s))=C7:=by
   rw[Acu];intro f g;simpa using c f g
  rw[e];rfl
theorem X5{i:Int} :ku fu (v,i)=Ac (ind d v i):=by refine Ok.eq ?_;refine BY (T4 hd hx hF) (Ob (λh=>MP (if_neg h).symm) λh=>?_);have h:(Fc d v).2=0:=GB h;unfold ind;rw[if_pos h];refine Ob (λq=>MP (if_pos q).symm) λq=>?_;rw[if_neg q];refine Ob (λk=>Adg (by omega) k (MP (by grind))) λk=>?_;rw[dif_neg (by omega)];exact Ob (λm=>MP (if_pos (by omega)).symm) λm=>MP (if_neg (by omega)).symm
end
end
theorem oK{d:Nat}{v:A9}{s:Aq} :((TU (d+1) v s).2=0->FB d (TU (d+1) v s).1/\NB (TU (d+1) v s).1.1)/\((TU (d+1) v s).2≠0->(TU (d+1) v s).1=(v0,v0)):=by
 unfold TU;split
 ·rename_i h;have k:=(Me (d:=d+1) (v:=v) rfl).2 h;split;· rename_i f e;exact⟨λ_=>((Qa k.1 k.2.2.1).1 _ k.2.2.2).2 f (Aca e),λq=>absurd rfl q⟩
  simp
 grind
theorem qS{d:Nat}{v:A9}{i:Int} :((ind (d+1) v i).2=0->FB d (ind (d+1) v i).1/\NB (ind (d+1) v i).1.1)/\((ind (d+1) v i).2≠0->(ind (d+1) v i).1=(v0,v0)):=by
 unfold ind;split
 ·rename_i h;have k:=(Zz (d:=d+1) (v:=v) rfl).2 h;split;· simp
  split;· exact⟨λ_=>((Qa k.1 k.2.2.1).2 _ k.2.2.2).2.2 _ (AS.2 (.inl (AN _))),λq=>absurd rfl q⟩
  grind
 grind
def Nz(s:Aq×Int):Prop:=(s.1≠ []->s.2=0)/\(s.1=[]->0<=s.2/\s.2<=1000000)
open Classical in
noncomputable def one(d:Nat)(v:A9)(s:Aq×Int):A9×Int:=if¬Nz s then((v0,v0),1)else if s.1≠ []then TU d v s.1 else ind d v s.2
noncomputable def Nr:Nat->A9->List (Aq×Int)->A9×Int
 |_,v,[]=>(v,0)
 |d,v,s::l=>if(one d v s).2≠0 then((v0,v0),(one d v s).2)else Nr (d-1) (one d v s).1 l
theorem Uo{d:Nat}{v:A9}{s:Aq×Int} :(one (d+1) v s).2=0->FB d (one (d+1) v s).1/\NB (one (d+1) v s).1.1:=by grind[one,oK,qS]
theorem W1:∀ {l:List (Aq×Int)} {d:Nat} {v:A9},(Nr d v l).2≠0->(Nr d v l).1=(v0,v0)
 | [],_,_,h=>absurd rfl h
 |s::l,d,v,h=>by
  unfold Nr at h⊢
  split
  ·rfl
  ·rename_i k
   rw[if_neg k]at h
   exact W1 h
theorem dA:∀ {l:List (Aq×Int)} {d:Nat} {v:A9},FB d v->(Nr d v l).2=0->∃e,e<=d/\e=d-l.length/\FB e (Nr d v l).1
 | [],d,v,h,_=>⟨d,Aac _,rfl,h⟩
 |s::l,0,v,h,_=>h.1.1.1.elim
 |s::l,d+1,v,h,k=>by
  unfold Nr at k⊢
  by_cases q:(one (d+1) v s).2=0
  ·rw[if_neg (λn=>n q)]at k⊢
   obtain⟨e,h1,h2,h3⟩:=dA (l:=l) (d:=d) (Uo q).1 k
   grind
  grind
section
variable {d : Nat} (hd : d <= 3) {v : A9} {fu : Nat} (hx : Iq d v) (hF : 1000000005000 < fu)
include hd hx hF
theorem HW:(FB d v/\sW fu v=Ac Bp)\/(¬FB d v/\sW fu v=Ac Aj):=by
 obtain⟨b,e,hb⟩:=Xl (F:=sW) hx hd hF rfl
 cases b with
 |true=>exact .inl ⟨hb.1 rfl,e⟩
 |false=>exact .inr ⟨λh=>(by cases hb.2 h),e⟩
theorem ga(h:FB d v):FRo fu v=Ac (Db v):=by
 have e:=((HW hd hx hF).resolve_right λk=>k.1 h).2
 refine Ok.eq ?_;rw[FRo]
 refine BY e (Qb rf (OH (Kw h.1.2 (by omega)) λb hb=>P3 (λq=>MP ?_) λq=>MP ?_))
 ·unfold Db;rw[if_neg (hb.1 q)]
 ·unfold Db;rw[if_pos (GB λn=>by rw[hb.2 n]at q;cases q)]
theorem Jl:(¬FB d v/\jL fu v=Ac (v0,11))\/(FB d v/\¬NB v.1/\jL fu v=Ac (v0,12))\/(FB d v/\NB v.1/\jL fu v=Ac (Db v,0)):=by
 rcases HW hd hx hF with⟨h,e⟩|⟨h,e⟩
 ·obtain⟨b,e1,hb⟩:=Kw (fu:=fu) h.1.1 (by omega)
  have er:=ga hd hx hF h
  cases b with
  |true=>exact .inr (.inl ⟨h,hb.1 rfl,by refine Ok.eq ?_;rw[jL];exact BY e (Qb rfl (BY e1 (VP rfl (MP rfl))))⟩)
  |false=>exact .inr (.inr ⟨h,GB λn=>(by cases hb.2 n),by refine Ok.eq ?_;rw[jL];exact BY e (Qb rfl (BY e1 (Qb rfl (BY er (MP rfl)))))⟩)
 ·exact .inl ⟨h,by refine Ok.eq ?_;rw[jL];exact BY e (VP rf (MP rf))⟩
open Classical in
omit hd hx in
theorem Ry{w:Vl}(h:SV d w):xW fu w=Ac (if w.sc=EL then 0 else 1):=by
 refine Ok.eq ?_;rw[xW]
 refine OH (KF h.scv (by decide) (by decide) (by omega)) λr hr=>P3 (λq=>MP ?_) λq=>MP ?_
 ·rw[if_pos (hr.1 q)]
 ·rw[if_neg λk=>by rw[hr.2 k]at q;cases q]
open Classical in
theorem PC:FRu fu v=Ac (Dr d v):=by
 refine Ok.eq ?_;rw[FRu]
 rcases Jl hd hx hF with⟨h,e⟩|⟨h,nb,e⟩|⟨h,nb,e⟩
 ·have e0:∀n,err d v n=11:=λn=>if_pos h
  refine BY e (T3 (by decide) (MP ?_));unfold Dr;rw[e0,if_neg (by decide)]
 ·have e0:∀n,err d v n=12:=λn=>(if_neg (λk=>k h)).trans (if_pos nb)
  refine BY e (T3 (by decide) (MP ?_));unfold Dr;rw[e0,if_neg (by decide)]
 ·have sv:=IL h
  have l1:=sv.n3.1;have l2:=sv.n3.2
  have e0:∀n,err d v n=if(Db v).any=Bp\/0<n/\1<alt (Db v)then 14 else if n=0 then 11 else 0:=λn=>(if_neg (λk=>k h)).trans (if_neg (λk=>k nb))
  have bad:∀z:Int,err d v (Db v).structs.length=z->z≠0->Ok (Ac ((([],[]):Bz),z)) λr=>r=Dr d v:=λz k n=>MP (by unfold Dr;rw[k,if_neg n])
  have ha:((alt (Db v):Nat):Int)=(if(Db v).sc=EL then 0 else 1)+((Db v).lists.length:Int)+((Db v).structs.length:Int):=by unfold alt;split<;>omega
  have E6:(Db v).any≠Bp->¬(0<(Db v).structs.length/\1<alt (Db v))->Ok (bif Di (((Db v).structs.length:Int)=0)then Ac ((([],[]):Bz),(11:Int))else Ab (idx (Db v).structs 0) λr=>Ac (r,(0:Int))) λr=>r=Dr d v:=λa b=>by
   refine Ob (λq=>bad 11 ?_ (by decide)) λq=>?_
   ·rw[e0,if_neg (by rintro(k|k);exact a k;exact b k),if_pos (by omega)]
   ·refine Adg (by decide) (by omega) (MP ?_)
    unfold Dr;rw[if_pos (by rw[e0,if_neg (by rintro(k|k);exact a k;exact b k),if_neg (by omega)])]
    exact congrArg (·,(0:Int)) (JJ (by omega))
  refine BY e ?_
  dsimp only
  refine Qh (λk=>k rf) (P3 (λa=>bad 14 ?_ (by decide)) λa=>?_)
  ·rw[e0,if_pos (.inl a)]
  have a:(Db v).any≠Bp:=by simpa using a
  refine Ob (λp=>BY (Ry hF sv) ?_) λp=>E6 a λk=>p (by omega)
  generalize hs:(if(Db v).sc=EL then(0:Int)else 1)=s at ha
  have s0:0<=s/\s<=1:=by rw[<-hs];split<;>omega
  refine Aao (Aao (Ob (λq=>bad 14 ?_ (by decide)) λq=>E6 a λk=>q (by omega)))
  rw[e0,if_pos (.inr ⟨by omega,by omega⟩)]
open Classical in
theorem UA:FRl fu v=Ac (Fc d v):=by
 refine Ok.eq ?_;rw[FRl]
 rcases Jl hd hx hF with⟨h,e⟩|⟨h,nb,e⟩|⟨h,nb,e⟩
 ·have e0:∀n,err d v n=11:=λn=>if_pos h
  refine BY e (T3 (by decide) (MP ?_));unfold Fc;rw[e0,if_neg (by decide)]
 ·have e0:∀n,err d v n=12:=λn=>(if_neg (λk=>k h)).trans (if_pos nb)
  refine BY e (T3 (by decide) (MP ?_));unfold Fc;rw[e0,if_neg (by decide)]
 ·have sv:=IL h
  have l1:=sv.n3.1;have l2:=sv.n3.2
  have e0:∀n,err d v n=if(Db v).any=Bp\/0<n/\1<alt (Db v)then 14 else if n=0 then 11 else 0:=λn=>(if_neg (λk=>k h)).trans (if_neg (λk=>k nb))
  have bad:∀z:Int,err d v (Db v).lists.length=z->z≠0->Ok (Ac ((([],[]):GZ),z)) λr=>r=Fc d v:=λz k n=>MP (by unfold Fc;rw[k,if_neg n])
  have ha:((alt (Db v):Nat):Int)=(if(Db v).sc=EL then 0 else 1)+((Db v).lists.length:Int)+((Db v).structs.length:Int):=by unfold alt;split<;>omega
  have E6:(Db v).any≠Bp->¬(0<(Db v).lists.length/\1<alt (Db v))->Ok (bif Di (((Db v).lists.length:Int)=0)then Ac ((([],[]):GZ),(11:Int))else Ab (idx (Db v).lists 0) λr=>Ac (r,(0:Int))) λr=>r=Fc d v:=λa b=>by
   refine Ob (λq=>bad 11 ?_ (by decide)) λq=>?_
   ·rw[e0,if_neg (by rintro(k|k);exact a k;exact b k),if_pos (by omega)]
   ·refine Adg (by decide) (by omega) (MP ?_)
    unfold Fc;rw[if_pos (by rw[e0,if_neg (by rintro(k|k);exact a k;exact b k),if_neg (by omega)])]
    exact congrArg (·,(0:Int)) (JJ (by omega))
  refine BY e ?_
  dsimp only
  refine Qh (λk=>k rf) (P3 (λa=>bad 14 ?_ (by decide)) λa=>?_)
  ·rw[e0,if_pos (.inl a)]
  have a:(Db v).any≠Bp:=by simpa using a
  refine Ob (λp=>BY (Ry hF sv) ?_) λp=>E6 a λk=>p (by omega)
  generalize hs:(if(Db v).sc=EL then(0:Int)else 1)=s at ha
  have s0:0<=s/\s<=1:=by rw[<-hs];split<;>omega
  refine Aao (Aao (Ob (λq=>bad 14 ?_ (by decide)) λq=>E6 a λk=>q (by omega)))
  rw[e0,if_pos (.inr ⟨by omega,by omega⟩)]
theorem fQ{s:Aq} :FRe fu (v,s)=Ac (TU d v s):=by
 refine Ok.eq ?_;rw[FRe]
 refine BY (PC hd hx hF) (Ob (λh=>MP (if_neg h).symm) λh=>?_)
 have h:(Dr d v).2=0:=GB h
 have hl:(Dr d v).1.1.length<=4:=by
  have k:=(Me (d:=d) (v:=v) rfl).2 h
  exact match d,k with
  |0,k=>k.1.1.1.1.elim
  |d+1,k=>((Qa k.1 k.2.2.1).1 _ k.2.2.2).1
 refine V_ (λk=> ∀f∈(Dr d v).1.1.take k,f.1≠s) (Dr d v).1.1.length (by simp) (by omega) (λk nx hk hJ hn=>?_) (λnx hJ=>?_)
 ·refine P7 (Aah hk (Ob (λq=>Aah hk (MP ?_)) λq=>hn λf hf=>?_))
  ·unfold TU;rw[if_pos h]
   have e:(Dr d v).1.1.find? (λf=>Di (f.1=s))=Ac (Dr d v).1.1[k]:=by
    rw[Acn]
    exact⟨by simpa using q,k,hk,rf,λj hj=>by
     have:=hJ _ (Adi.2 ⟨j,by omega,rfl⟩)
     simpa using this⟩
   rw[e]
  ·rcases(Af hk).1 hf with hf|rfl
   ·exact hJ f hf
   ·exact q
 ·rw[Aar]at hJ
  refine P8 (MP ?_)
  unfold TU;rw[if_pos h]
  have e:(Dr d v).1.1.find? (λf=>Di (f.1=s))=C7:=by rw[Acu];intro f hf;simpa using hJ f hf
  rw[e];rfl
theorem ig{i:Int} :FRi fu (v,i)=Ac (ind d v i):=by
 refine Ok.eq ?_;rw[FRi]
 refine BY (UA hd hx hF) (Ob (λh=>MP (if_neg h).symm) λh=>?_)
 have h:(Fc d v).2=0:=GB h
 unfold ind
 rw[if_pos h]
 refine Ob (λq=>MP (if_pos q).symm) λq=>?_
 rw[if_neg q]
 refine Ob (λk=>Adg (by omega) k (MP (by rw[dif_pos (by omega:i.toNat<(Fc d v).1.1.length)]))) λk=>?_
 rw[dif_neg (by omega)]
 exact Ob (λm=>MP (if_pos (by omega)).symm) λm=>MP (if_neg (by omega)).symm
end
section
variable{fu:Nat}
def KZ(fu:Nat):Nat->Vl->Prop
 |0,_=>True
 |d+1,v=>((∀s∈v.sc.2.2.2.1.1,Es s)/\∀s∈v.sc.2.2.2.1.2,Es s)/\(N6 v.sc.2.2.2.2/\v.sc.2.2.2.2.length<fu)/\(∀c∈v.structs,∀k∈c.2,N6 k.1/\k.1.length<fu)/\∀x∈kids v,KZ fu d x.1/\KZ fu d x.2
theorem Wb{l:Tb}(h:l.length<fu):Ok (F0 fu l) λr=>r=Bp->l.length<=8/\∀s∈l,s.2.length<=12:=by
 refine V_ (λk=> ∀s∈l.take k,s.2.length<=12) l.length (by simp) h (λk nx d b e=>?_) (λnx b=>?_)
 ·refine P7 (Aah d (Ob (λ_=>MP λh=>by grind) λh=>e λs c=>?_));rcases(Af d).1 c with c|rfl;all_goals grind
 ·rw[Al]at b;exact P8 (MP λh=>⟨by grind,b⟩)
theorem Ub{s:Sc}(h1:(∀t∈s.2.2.2.1.1,Es t)/\∀t∈s.2.2.2.1.2,Es t)(h2:N6 s.2.2.2.2/\s.2.2.2.2.length<fu):Ok (F1 fu s) λr=>r=Bp->dQ 5 12 s:=by
 have no:Ok (Ac Aj) λr=>r=Bp->dQ 5 12 s:=MP λh=>by grind
 rw[F1];refine Ob (λa=>Ob (λb=>OH (Wb h2.2) λr d=>MP λh=>?_) λ_=>no) λ_=>no;have:=d h;exact⟨⟨h1.1,h1.2,by omega,by omega⟩,by omega,by omega,h2.1,by omega,this.2⟩
def mB:Nat->Nat
 |0=>61
 |d+1=>1+6*(60+2*mB d)
theorem nz:∀ {d:Nat},d<=3->61<=mB d/\mB d<=1000000
 |0,_=>by decide
 |1,_=>by decide
 |2,_=>by decide
 |3,_=>by decide
 |n+4,h=>by omega
end
section
variable {d : Nat} (hd : d <= 3) (ih : ∀ {fu gu : Nat} {v : Vl} {m : Int}, KZ gu d v -> gu + 10 * d <= fu -> 1000000000000 + 10 * d < fu -> (0 <= m /\ m <= 60) -> Ok (F3 fu (v, (d : Int), m)) λr => (1 <= r /\ r <= mB d) /\ (r <= m -> Bd d v))
include hd ih
theorem Iv{fu gu:Nat}{l:List A9}{m:Int}(h:∀x∈l,KZ gu d x.1/\KZ gu d x.2)(H:gu+10*d+1<=fu)(G:1000000000000+10*d+1<fu)(I:l.length<=1000)(J: -100000000<=m/\m<=60):
  Ok (F2 fu (l,(d:Int),m)) λr=>(0<=r/\r<=60+2*mB d)/\(r<=m->∀x∈l,Iq d x):=by
 have F:=nz (d:=d) (by omega);obtain⟨f,rfl⟩:∃f,fu=f+1:=⟨fu-1,by omega⟩;rw[show F2 (f+1) (l,(d:Int),m)=_ from d2 f l d m];unfold D2;refine SE (λk (n:Int)=>(0<=n/\n<=60+2*mB d)/\(n<=m->∀x∈l.take k,Iq d x)) l.length ⟨⟨by simp,by omega⟩,λ_=>by simp⟩ (by omega) (λk n nx g j q=>?_) (λn nx j=>?_)
 ·obtain⟨⟨o,z⟩,i⟩:=j;have s:=h _ (AN g);refine P7 (Ob (λc=>?_) λc=>MP ⟨⟨o,z⟩,λb=>absurd b c⟩);refine Aah g (Aao (OH (ih (m:=m-n) s.1 (by omega) (by omega) (by omega)) λp w=>?_));obtain⟨⟨B,C⟩,t⟩:=w;refine Aao (Ob (λb=>?_) λb=>q _ ⟨⟨by omega,by omega⟩,λe=>absurd e b⟩);refine Aah g (Aao (OH (ih (m:=m-(n+p)) s.2 (by omega) (by omega) (by omega)) λA y=>?_));obtain⟨⟨D,E⟩,u⟩:=y;refine Aao (q _ ⟨⟨by omega,by omega⟩,λe x a=>?_⟩);rcases(Af g).1 a with a|rfl;· exact i c x a
  ·exact⟨t (by omega),u (by omega)⟩
 ·obtain⟨o,i⟩:=j;rw[Al]at i;exact P8 (MP ⟨o,i⟩)
end
section
variable{fu d gu:Nat}{v:A9}{l:List (Aq×Int)}
theorem KZ.lv{v:Vl}(h:KZ gu (d+1) v){c:GZ}(hc:c∈v.lists):∀x∈AY c,KZ gu d x.1/\KZ gu d x.2:=λx a=>
 h.2.2.2 x (AS.2 (.inl (Aad.2 ⟨c,hc,a⟩)))
theorem KZ.sv{v:Vl}(h:KZ gu (d+1) v){c:Bz}(hc:c∈v.structs):∀x∈Br c,KZ gu d x.1/\KZ gu d x.2:=λx a=>
 h.2.2.2 x (AS.2 (.inr (Aad.2 ⟨c,hc,a⟩)))
theorem MN:∀ {d fu gu:Nat} {v:Vl} {m:Int},d<=3->KZ gu d v->gu+10*d<=fu->1000000000000+10*d<fu->(0<=m/\m<=60)->Ok (F3 fu (v,(d:Int),m)) λr=>(1<=r/\r<=mB d)/\(r<=m->Bd d v)
 |0,fu,gu,v,m,_,_,_,O,S=>by obtain⟨f,rfl⟩:∃f,fu=f+1:=⟨fu-1,by omega⟩;rw[show F3 (f+1) (v,((0:Nat):Int),m)=_ from d3 f v _ m];unfold D3;exact T3 (by simp) (Aao (MP ⟨⟨by omega,by have:mB 0=61:=rfl;omega⟩,λh=>by omega⟩))
 |d+1,fu,gu,v,m,hd,h,hg,O,S=>by
  obtain⟨f,rfl⟩:∃f,fu=f+1:=⟨fu-1,by omega⟩;have ih:∀ {fu gu:Nat} {v:Vl} {m:Int},KZ gu d v->gu+10*d<=fu->1000000000000+10*d<fu->(0<=m/\m<=60)->Ok (F3 fu (v,(d:Int),m)) λr=>(1<=r/\r<=mB d)/\(r<=m->Bd d v):=λh hg O S=>MN (by omega) h hg O S;have all:∀ {l:List A9} {q:Int},(∀x∈l,KZ gu d x.1/\KZ gu d x.2)->l.length<=1000-> -100000000<=q/\q<=60->Ok (F2 f (l,((d+1:Nat):Int)-1,q)) λr=>(0<=r/\r<=60+2*mB d)/\(r<=q->∀x∈l,Iq d x):=λu hl F=>by rw[show((d+1:Nat):Int)-1=(d:Int) by omega];exact Iv (by omega) ih u (by omega) (by omega) hl F
  have hB:=nz (d:=d) (by omega);have hB1:mB (d+1)=1+6*(60+2*mB d):=rfl;rw[show F3 (f+1) (v,((d+1:Nat):Int),m)=_ from d3 f v _ m];unfold D3;have j:Ok (Aa Lr.i64 (m+1) (Ac (m+1))) λr=>(1<=r/\r<=mB (d+1))/\(r<=m->Bd (d+1) v):=Aao (MP ⟨⟨by omega,by omega⟩,λh=>by omega⟩);refine P8 (Ob (λ_=>j) λhm1=>OH (Ub h.1 ⟨h.2.1.1,by have:=h.2.1.2;omega⟩) λr1 W=>P3 (λ_=>j) λh1=>Ob (λ_=>j) λh2=>Ob (λ_=>j) λG=>?_);have sc:=W (by simpa using h1);refine SE (λk (n:Int)=>(1<=n/\n<=1+k*(60+2*mB d))/\(n<=m->∀c∈v.lists.take k,(c.1.length<=3/\c.2.length<=2)/\∀x∈AY c,Iq d x)) v.lists.length ⟨⟨by simp,by omega⟩,λ_=>by simp⟩ (by omega) (λk n nx A B T=>?_) (λn nx B=>?_)
  ·obtain⟨⟨j1,j2⟩,J⟩:=B;have hc:=h.lv (AN A);have Q:(k:Int)*(60+2*mB d)<=3*(60+2*mB d):=Aed (by omega) (by omega);refine P7 (Aah A (Ob (λ_=>j) λK=>Aah A (Ob (λ_=>j) λL=>Aah A ?_)));dsimp only at K L⊢;refine Abw (Aah A (PK (by rw[Ach];omega) (Aao (Abx (by omega) ?_))));refine OH (all (l:=v.lists[k].1++v.lists[k].2) (q:=m-n) hc (by rw[Aaa];omega) (by omega)) λr8 h8=>Abx (by omega) (T _ ⟨⟨by omega,?_⟩,λG c p=>?_⟩)
   ·have:((k+1:Nat):Int)*(60+2*mB d)=k*(60+2*mB d)+(60+2*mB d):=by rw[Int.natCast_add,Int.add_mul];omega
    omega
   ·rcases(Af A).1 p with p|rfl;· exact J (by omega) c p
    ·exact⟨⟨by omega,by omega⟩,h8.2 (by omega)⟩
  obtain⟨⟨j1,j2⟩,J⟩:=B;rw[Al]at J;have Q:(v.lists.length:Int)*(60+2*mB d)<=3*(60+2*mB d):=Aed (by omega) (by omega);refine Qh (by omega) ?_;refine SE (λk (q:Int)=>(1<=q/\q<=1+3*(60+2*mB d)+k*(60+2*mB d))/\(q<=m->n<=m/\∀c∈v.structs.take k,NY c/\∀x∈Br c,Iq d x)) v.structs.length ⟨⟨j1,by omega⟩,λh=>⟨h,by simp⟩⟩ (by omega) (λk q nx A B T=>?_) (λq nx B=>?_)
  ·obtain⟨⟨i1,i2⟩,I⟩:=B;have E:=AN A;have hc:=h.sv E;have D:=h.2.2.1 _ E;have R:(k:Int)*(60+2*mB d)<=3*(60+2*mB d):=Aed (by omega) (by omega);refine P7 (Ob (λF=>?_) λF=>MP ⟨⟨by dsimp only;omega,by dsimp only;omega⟩,λh=>absurd h F⟩);refine Aah A ?_;have go:(NY v.structs[k])->(∀w:Int,(0<=w/\w<=60+2*mB d)/\(w<=m-q->∀x∈Br v.structs[k],Iq d x)->Ok (nx (q+w,k+1)) λr=>(1<=r/\r<=mB (d+1))/\(r<=m->Bd (d+1) v)):=λP w hw=>by
    refine T _ ⟨⟨by(try dsimp only);omega,?_⟩,λG=>?_⟩
    ·have:((k+1:Nat):Int)*(60+2*mB d)=k*(60+2*mB d)+(60+2*mB d):=by rw[Int.natCast_add,Int.add_mul];omega
     (try dsimp only);omega
    ·have G:q+w<=m:=G;obtain⟨a1,a2⟩:=I (by omega);refine⟨a1,λc p=>?_⟩;rcases(Af A).1 p with p|rfl;· exact a2 c p
     ·exact⟨P,hw.2 (by omega)⟩
   generalize v.structs[k]=c at E hc D go;refine Ob (λ_=>j) λK=>Ob (λ_=>j) λL=>?_;refine SE (λi (s:List A9)=>s=(c.1.take i).map (·.2.2)/\∀g∈c.1.take i,g.1.length<=60) c.1.length ⟨rfl,by simp⟩ (by omega) (λi s X z C U=>?_) (λs X C=>?_)
   ·refine P7 (Aah z (Ob (λ_=>j) λk3=>Aah z (PK (by dsimp only;rw[C.1,Aaq,Abh];omega) (U _ ⟨by dsimp only;rw[C.1,IN z,Aap];rfl,λg b=>?_⟩))));rcases(Af z).1 b with b|rfl;· exact C.2 g b
    ·have k3:¬(60:Int)<(c.1[i]).1.length:=k3;omega
   rw[Al]at C;refine Qh (by dsimp only;omega) ?_;refine SE (λi (s:List A9)=>s=c.1.map (·.2.2)++(c.2.take i).map (·.2)/\∀g∈c.2.take i,g.1.length<=8/\∀t∈g.1,t.2.length<=12) c.2.length ⟨by rw[C.1];simp,by simp⟩ (by omega) (λi s Y z o V=>?_) (λs Y o=>?_)
   ·have H:=D _ (AN z);refine P7 (Aah z (OH (Wb (Abq H.2 (by omega))) λr19 M=>P3 (λ_=>j) λk4=>Aah z (PK (by dsimp only;rw[o.1,Aaa,Aaq,Aaq,Abh];omega) (V _ ⟨by dsimp only;rw[o.1,IN z,Aap,<-Aal];rfl,λg b=>?_⟩))));rcases(Af z).1 b with b|rfl;· exact o.2 g b
    ·exact M (by simpa using k4)
   rw[Al]at o;have e:s=Br c:=o.1;have P:NY c:=⟨by omega,by omega,C.2,?_,λg b=>(D g b).1,λg b t ht=>Aan ((o.2 g b).2 t ht) (by decide)⟩;· refine P8 (Aao (Abx (by omega) ?_));dsimp only;rw[e];refine OH (all (l:=Br c) (q:=m-q) hc (by unfold Br;rw[Aaa,Aaq,Aaq];omega) (by omega)) λZ N=>Aao (go P Z N)
   ·refine Aan (Uj (g:=λ_=>11) λg b=>by have:=(o.2 g b).1;omega) ?_;rw[Oo];exact Aan (Ags (by decide) (by omega:c.2.length<=4)) (by decide)
  ·obtain⟨⟨i1,i2⟩,I⟩:=B;rw[Al]at I;refine P8 (MP ⟨⟨i1,?_⟩,λF=>?_⟩);· have R:(v.structs.length:Int)*(60+2*mB d)<=3*(60+2*mB d):=Aed (by omega) (by omega);dsimp only;omega
   ·obtain⟨h4,h5⟩:=I F;have h6:=J h4;refine⟨sc,⟨by omega,λc hc=>(h6 c hc).1⟩,⟨by omega,λc hc=>(h5 c hc).1⟩,λx u=>?_⟩;rcases AS.1 u with u|u;· obtain⟨c,hc,u⟩:=Aad.1 u;exact(h6 c hc).2 x u
    ·obtain⟨c,hc,u⟩:=Aad.1 u;exact(h5 c hc).2 x u
theorem step_eq{s:Aq×Int} :Ok (FSt fu s) λr=>r=Bp↔Nz s:=by
 rw[FSt]
 unfold Nz
 by_cases h:s.1=[]
 ·rw[decide_eq_true h]
  refine Qb rf (Ob (λa=>MP ?_) λa=>MP ?_)
  all_goals grind
 ·rw[decide_eq_false h]
  refine VP rf (MP ?_)
  grind
theorem xG(hd:d<=3)(h:FB d v)(hl:l.length<=100)(hF:1000000005000<fu):FAt fu (v,l)=Ac (Nr d v l):=by
 refine Ok.eq ?_
 have bx:∀ {e:Nat} {w:A9},FB e w->Iq e w:=λk=>⟨k.1.1.1,k.1.2.1⟩
 refine BY ((LI hd (bx h) hF).resolve_right λk=>k.1 h).2 (Qb rf ?_)
 refine XZ (λk (z:A9) (c:Int)=>c=0/\k<=d/\FB (d-k) z/\Nr d v l=Nr (d-k) z (l.drop k)) l.length ⟨rf,Abe _,h,rf⟩ (by omega) (λk z c nx hk hJ hn=>?_) (λz c nx hJ=>?_)
 ·obtain⟨_,j1,j2,j3⟩:=hJ
  obtain⟨m,hm⟩:∃m,d-k=m+1:=⟨d-k-1,by
   have:d-k≠0:=λq=>by rw[q]at j2;exact j2.1.1.1.elim
   omega⟩
  have hm2:d-(k+1)=m:=by omega
  rw[hm,Aak hk]at j3
  rw[hm]at j2
  have e:Nr (m+1) z (l[k]::l.drop (k+1))=if(one (m+1) z l[k]).2≠0 then((v0,v0),(one (m+1) z l[k]).2)else Nr m (one (m+1) z l[k]).1 (l.drop (k+1)):=rfl
  have bad:(one (m+1) z l[k]).2≠0->Nr d v l=((v0,v0),(one (m+1) z l[k]).2):=λq=>by grind
  have E6:∀x,one (m+1) z l[k]=x->x.2=0->Ok (nx (x.1,x.2,k+1)) λr=>r=Nr d v l:=λx hx q=>by
   subst hx
   refine hn _ _ ⟨q,by omega,?_,?_⟩
   all_goals simp_all[Uo,if_neg]
  have b2:=bx j2
  refine P7 (Aah hk (OH step_eq λr hr=>P3 (λq=>MP ?_) λq=>?_))
  ·have n:¬Nz l[k]:=λy=>by rw[hr.2 y]at q;cases q
   have o:one (m+1) z l[k]=((v0,v0),1):=if_pos n
   rw[bad (by rw[o];decide),o];rfl
  have y:=hr.1 (by simpa using q)
  by_cases n:l[k].1=[]
  ·rw[decide_eq_true n]
   have o:one (m+1) z l[k]=ind (m+1) z l[k].2:=(if_neg (λw=>w y)).trans (if_neg λw=>w n)
   refine Qb rf (BY (X5 (by omega) b2 hF) (Ob (λq=>T3 q (MP ?_)) λq=>?_))
   ·rw[bad (by rw[o];exact q),o];rfl
   ·exact E6 _ o (GB q)
  ·rw[decide_eq_false n]
   have o:one (m+1) z l[k]=TU (m+1) z l[k].1:=(if_neg (λw=>w y)).trans (if_pos n)
   refine VP rf (BY (XA (by omega) b2 hF) (Ob (λq=>T3 q (MP ?_)) λq=>?_))
   ·rw[bad (by rw[o];exact q),o];rfl
   ·exact E6 _ o (GB q)
 ·obtain⟨j0,j1,j2,j3⟩:=hJ
  rw[Adk]at j3
  refine P8 (Qh (λq=>q j0) (BY (OA (by omega) (bx j2) j2 hF) (MP ?_)))
  rw[j3];rfl
theorem sn(hv:Iq 3 v)(h:¬FB 3 v)(hF:1000000005000<fu):FAt fu (v,l)=Ac ((v0,v0),11):=by
 refine Ok.eq ?_
 exact BY ((LI (Aac _) hv hF).resolve_left λk=>h k.1).2 (VP rf (MP rf))
theorem v_(hl:l.length<fu):Ok (FS0 fu l) λ_=>True:=by exact V_ (λ_=>True) l.length trivial hl (λk nx hk _ hn=>P7 (Aah hk (Ob (λ_=>MP trivial) λ_=>hn trivial))) λnx _=>P8 (MP trivial)
theorem Xy(h:KZ gu 3 v.1/\KZ gu 3 v.2)(hg:gu+100<=fu)(hF:1000000010000<fu):Ok (FSm fu v) λr=>r=Bp->Iq 3 v:=by
 have ih:∀ {fu gu:Nat} {v:Vl} {m:Int},KZ gu 3 v->gu+10*3<=fu->1000000000000+10*3<fu->(0<=m/\m<=60)->Ok (F3 fu (v,((3:Nat):Int),m)) λr=>(1<=r/\r<=mB 3)/\(r<=m->Bd 3 v):=λh hg hF hm=>MN (by omega) h hg hF hm
 exact OH (Iv (d:=3) (l:=[v]) (by simp) ih (λy hy=>by rw[Aaf.1 hy];omega) (by omega) (by omega) (by simp) (by simp)) λr hr=>MP λh2=>hr.2 (of_decide_eq_true h2) v (Aaf.2 rf)
theorem ly:SW (d+1) (v0,v0):=⟨Vy d,Vy d⟩
theorem Rz{x:A9}(hx:SW d x)(hd:d<=3)(hF:1000000003000<fu):TG fu (x,x)=Ac Bp:=by
 obtain⟨b,e,h⟩:=O0 (fu:=fu) hx hx hd hF
 rw[e,h.2 rfl]
end
section
variable {v : A9} {fu gu : Nat} (hx : Vj fu () = Ac Bp) (h : KZ gu 3 v.1 /\ KZ gu 3 v.2) (hg : gu + 100 <= fu) (hF : 1000000010000 < fu)
include hx h hg hF
end
section
variable{fu:Nat}{v:A9}{l:List (Aq×Int)}
theorem qO{s:Aq×Int} :Ok (FIs fu s) λr=>r=Bp↔Nz s:=by
 rw[FIs]
 unfold Nz
 by_cases h:s.1=[]
 ·rw[decide_eq_true h]
  refine Qb rf (Ob (λa=>MP ?_) λa=>MP ?_)
  ·rw[decide_eq_true_iff];exact⟨λb=>⟨λn=>absurd h n,λ_=>⟨a,b⟩⟩,λb=>(b.2 h).2⟩
  ·exact⟨λb=>(by cases b),λb=>absurd (b.2 h).1 a⟩
 ·rw[decide_eq_false h]
  refine VP rf (MP ?_)
  rw[decide_eq_true_iff];exact⟨λb=>⟨λ_=>b,λn=>absurd n h⟩,λb=>b.1 h⟩
theorem su{d:Nat}(hd:d<=3)(h:FB d v)(hl:l.length<=100)(hF:1000000005000<fu):vD fu (v,l)=Ac (Nr d v l):=by
 refine Ok.eq ?_;rw[vD]
 have bx:∀ {e:Nat} {w:A9},FB e w->Iq e w:=λk=>⟨k.1.1.1,k.1.2.1⟩
 refine BY ((HW hd (bx h) hF).resolve_right λk=>k.1 h).2 (Qb rf ?_)
 refine SE (λk (z:A9)=>k<=d/\FB (d-k) z/\Nr d v l=Nr (d-k) z (l.drop k)) l.length ⟨Abe _,h,rf⟩ (by omega) (λk z nx hk hJ hn=>?_) (λz nx hJ=>?_)
 ·obtain⟨j1,j2,j3⟩:=hJ
  obtain⟨m,hm⟩:∃m,d-k=m+1:=⟨d-k-1,by
   have:d-k≠0:=λq=>by rw[q]at j2;exact j2.1.1.1.elim
   omega⟩
  have hm2:d-(k+1)=m:=by omega
  rw[hm,Aak hk]at j3
  rw[hm]at j2
  have e:Nr (m+1) z (l[k]::l.drop (k+1))=if(one (m+1) z l[k]).2≠0 then((v0,v0),(one (m+1) z l[k]).2)else Nr m (one (m+1) z l[k]).1 (l.drop (k+1)):=rfl
  have bad:(one (m+1) z l[k]).2≠0->Nr d v l=((v0,v0),(one (m+1) z l[k]).2):=λq=>by rw[j3,e,if_pos q]
  have E6:∀x,one (m+1) z l[k]=x->x.2=0->Ok (nx (x.1,k+1)) λr=>r=Nr d v l:=λx hx q=>by
   subst hx
   refine hn _ ⟨by omega,?_,?_⟩
   ·rw[hm2];exact(Uo q).1
   ·rw[j3,e,if_neg (λn=>n q),hm2]
  have b2:=bx j2
  refine P7 (Aah hk (OH qO λr hr=>P3 (λq=>MP ?_) λq=>Aah hk ?_))
  ·have n:¬Nz l[k]:=λy=>by rw[hr.2 y]at q;cases q
   have o:one (m+1) z l[k]=((v0,v0),1):=if_pos n
   rw[bad (by rw[o];decide),o];rfl
  have y:=hr.1 (by simpa using q)
  by_cases n:l[k].1=[]
  ·rw[decide_eq_true n]
   have o:one (m+1) z l[k]=ind (m+1) z l[k].2:=(if_neg (λw=>w y)).trans (if_neg λw=>w n)
   refine Qb rf (Aah hk (BY (ig (by omega) b2 hF) (Ob (λq=>MP ?_) λq=>?_)))
   ·rw[bad (by rw[o];exact q),o];rfl
   ·exact E6 _ o (GB q)
  ·rw[decide_eq_false n]
   have o:one (m+1) z l[k]=TU (m+1) z l[k].1:=(if_neg (λw=>w y)).trans (if_pos n)
   refine VP rf (Aah hk (BY (fQ (by omega) b2 hF) (Ob (λq=>MP ?_) λq=>?_)))
   ·rw[bad (by rw[o];exact q),o];rfl
   ·exact E6 _ o (GB q)
 ·obtain⟨j1,j2,j3⟩:=hJ
  rw[Adk]at j3
  refine P8 (MP ?_)
  rw[j3];rfl
theorem jw(hv:Iq 3 v)(h:¬FB 3 v)(hF:1000000005000<fu):vD fu (v,l)=Ac ((v0,v0),11):=by
 refine Ok.eq ?_;rw[vD]
 exact BY ((HW (Aac _) hv hF).resolve_left λk=>h k.1).2 (VP rf (MP rf))
theorem aa{gu:Nat}(hx:Vj fu () =Ac Bp)(h:KZ gu 3 v.1/\KZ gu 3 v.2)(hg:gu+100<=fu)(hF:1000000010000<fu):FLp fu (v,l)=Ac Bp:=by
 refine Ok.eq ?_;rw[FLp]
 have ex:Ok (Ab (Vj fu ()) λr2=>Ac r2) λr=>r=Bp:=BY hx (MP rfl)
 refine OH (Xy h hg hF) λr hr=>P3 (λ_=>ex) λq=>Ob (λ_=>ex) λha=>?_
 have bx:=hr (by simpa using q)
 refine OH (v_ (by omega)) λr _=>P3 (λ_=>ex) λ_=>?_
 by_cases va:FB 3 v
 ·have:∃d x,d<=3/\SW d x/\x=(Nr 3 v l).1:=by
   by_cases g:(Nr 3 v l).2=0
   ·obtain⟨k,h1,_,h2⟩:=dA va g
    exact⟨k,_,h1,h2.1,rf⟩
   ·exact⟨3,_,Aac _,ly,(W1 g).symm⟩
  obtain⟨k,x,hk,hs,rfl⟩:=this
  exact BY (xG (Aac _) va (by omega) (by omega)) (BY (su (Aac _) va (by omega) (by omega)) (T3 rf (BY (Rz hs hk (by omega)) (VP rf ex))))
 ·exact BY (sn bx va (by omega)) (BY (jw bx va (by omega)) (T3 rf (BY (Rz ly (Aac _) (by omega)) (VP rf ex))))
end
section
variable {v : A9} {s : Aq} {fu : Nat} (bx : Iq 3 v) (hs : s.length <= 1000) (hF : 1000000005000 < fu)
include bx hs hF
end
end Go.GL
namespace Go.GV
open Go Go.GK Go.RowKit Go.Deep
section
variable {H : Type} {enc : Gs × BZ -> H} {P : GQ} {w : IW} {base : Nat} {spare : Nat -> Bool} {held : Bool} {α β : Type}
section
variable{N:Nat}{t:Gs}{c:Cd α}{q:α->Prop}{off:Nat}{f:Field}{fs:Array Field}
def GO(enc:Gs×BZ->H)(P:GQ)(w:IW)(base:Nat)(spare:Nat->Bool)(held:Bool)(N:Nat)(c:Cd α)(q:α->Prop)(t:Gs):Prop:= ∀n,n<N->∀cs y,cs.length=c.sz->DataW.trod enc P w base spare held n t cs=Ac y->∃a,c.BO (Hp.of w) a cs/\q a
theorem GO.le{M:Nat}(h:GO enc P w base spare held N c q t)(e:M<=N):GO enc P w base spare held M c q t:=
 λn f a y b d=>h n (by omega) a y b d
theorem GO.imp{b:α->Prop}(h:GO enc P w base spare held N c q t)(k:∀a,q a->b a):GO enc P w base spare held N c b t:=
 λn i d y g j=>by obtain⟨a,e,f⟩:=h n i d y g j;grind
theorem GO.i64(ht:P.underlying t=Ac (.int .i64)):GO enc P w base spare held N rQ GK.DW t:=λn _ d y _ c=>by
 obtain⟨m,a,_,b⟩:=DataW.trod_int ht c;have e: -9223372036854775808<=m/\m<=9223372036854775807:=by grind[Lit.wf,Lr.min,Lr.max,Lr.signed,Lr.bits]
 exact⟨m,a,by omega⟩
theorem GO.u8(ht:P.underlying t=Ac (.int .u8)):GO enc P w base spare held N cU8 (λm=>0<=m/\m<=255) t:=λn _ e y _ d=>by
 obtain⟨m,b,_,c⟩:=DataW.trod_int ht d;have a:0<=m/\m<=255:=by grind[Lit.wf,Lr.min,Lr.max,Lr.signed,Lr.bits]
 exact⟨m,⟨b,a⟩,a⟩
theorem GO.b(ht:P.underlying t=Ac .bool):GO enc P w base spare held N cB (λ_=>True) t:=λn _ d y _ c=>by obtain⟨b,a,_⟩:=DataW.trod_bool ht c;exact⟨b,a,trivial⟩
theorem GO.s(ht:P.underlying t=Ac .string):GO enc P w base spare held N cS (λ_=>True) t:=λn _ c y _ b=>by obtain⟨s,a,_⟩:=DataW.trod_string ht b;exact⟨s.data.toList,a,trivial⟩
theorem GO.sl{e:Gs}(ht:P.underlying t=Ac (.slice e))(G:P.cellsOf e=c.sz)(h:GO enc P w base spare held N c q e):GO enc P w base spare held (N+1) (cL c) (λl=> ∀x∈l,q x) t:=λn hn X y _ R=>by
 have A:∃v,X=[v]/\∃l:List α,G8 c (Hp.of w) l v/\∀x∈l,q x:=by
  rcases DataW.trod_slice ht R with⟨E,_⟩|⟨a,len,cap,f,W,n',hfu,E,_,hb,hl,hm,V,K,_,_⟩;· exact⟨_,E,[],G8.nil,by simp⟩
  ·obtain⟨l,z,C⟩:=Ll (Q:=λi (b:α×List BZ)=>(c.BO (Hp.of w) b.1 b.2/\q b.1)/\∀j u,b.2[j]?=Ac u->w.cell? (a.add (i*c.sz+j))=Ac u) len λi r=>by
    have J:=K i r;rw[show f[i]?=Ac f[i] by simp]at J;simp only[Agc]at J;obtain⟨s,I,O⟩:=J;obtain⟨hbl,d,g⟩:=IW.cells?_some I;rw[G]at d;obtain⟨b,Z⟩:=h n' (by omega) s _ d O;refine⟨(b,s),Z,λj u T=>?_⟩;grind[List.getElem?_eq_some_iff,C8]
   have F:∀x∈l,c.BO (Hp.of w) x.1 x.2/\q x.1:=λx p=>by obtain⟨i,r,rfl⟩:=Aat p;exact(C i _ (IS r)).1
   have o:∀x∈l,x.2.length=c.sz:=λx p=>c.len (F x p).1;refine⟨_,E,l.map (·.1),⟨⟨l.flatMap (·.2),⟨by grind[KB], .inr ⟨a,cap,by rw[Aaq,z],by rw[Aaq,z];exact hl⟩,λk u U=>?_⟩,W_ λx p=>(F x p).1⟩,by rw[Aaq,z];unfold maxLen at hm;omega⟩,λx p=>?_⟩
   ·have m:k<l.length*c.sz:=by rw[<-KB o];exact(No.1 U).1
    have M:0<c.sz:=Nat.pos_of_ne_zero λh=>by rw[h]at m;simp at m
    have r:k/c.sz<l.length:=Nat.div_lt_of_lt_mul (by rw[Adb];exact m);have B:k=k/c.sz*c.sz+k %c.sz:=by rw[Adb];exact(Agn k c.sz).symm
    have S:=OY o (k/c.sz) (k %c.sz) l[k/c.sz] (IS r) (Nat.mod_lt _ M);rw[<-B,U]at S;have:=(C (k/c.sz) l[k/c.sz] (IS r)).2 (k %c.sz) u S.symm;rw[<-B]at this;exact Ajn this
   grind
 obtain⟨v,z,l,C,Y⟩:=A;exact⟨l,⟨v,z,C⟩,Y⟩
def fk(enc:Gs×BZ->H)(P:GQ)(w:IW)(base:Nat)(spare:Nat->Bool)(held:Bool)(N:Nat)(c:Cd α)(q:α->Prop)(off:Nat)(fs:List Field):Prop:= ∀n,n<N->∀cs:List BZ,(∀f∈fs,∃y,DataW.trod enc P w base spare held n f.type ((cs.drop f.offset).take (P.cellsOf f.type))=Ac y)->off+c.sz<=cs.length->∃a,c.BO (Hp.of w) a ((cs.drop off).take c.sz)/\q a
theorem fk.one(h:GO enc P w base spare held N c q f.type)(b:P.cellsOf f.type=c.sz)(g:f.offset=off):fk enc P w base spare held N c q off [f]:=λn e i d j=>by obtain⟨y,a⟩:=d f (by simp);rw[b,g]at a;exact h n e _ y (by grind) a
theorem fk.cons{d:Cd β}{m:β->Prop}{fs:List Field}(h:GO enc P w base spare held N c q f.type)(s:P.cellsOf f.type=c.sz)(t:f.offset=off)(u:fk enc P w base spare held N d m (off+c.sz) fs):
  fk enc P w base spare held N (cP c d) (λx=>q x.1/\m x.2) off (f::fs):=λn l e j k=>by
 have k:off+(c.sz+d.sz)<=e.length:=k;obtain⟨a,p,v⟩:=fk.one h s t n l e (λg i=>j g (by grind)) (by omega);obtain⟨b,r,y⟩:=u n l e (λg i=>j g (by grind)) (by omega);refine⟨(a,b),⟨_,_,?_,p,r⟩,v,y⟩;show(e.drop off).take (c.sz+d.sz)=_;rw[List.take_add,Adf]
theorem GO.st(ht:P.underlying t=Ac (.struct fs))(h:fk enc P w base spare held N c q 0 fs.toList):GO enc P w base spare held (N+1) c q t:=λn x l y v r=>by
 obtain⟨k,s,o,_,j,d,p⟩:=DataW.trod_struct ht r;obtain⟨a,e,u⟩:=h s (by omega) l (λf m=>by obtain⟨i,g,rfl⟩:=Aat m;have:=p i fs.toList[i] (by simp);grind) (by omega);grind
theorem GO.xL{r:Reach}{b:Nat}{v:BZ}{d:DataW H}{p:List MemPlace}(ht:P.underlying t=Ac (.struct fs))(e:P.cellsOf t=c.sz)(h:∀N,GO enc P w base spare held N c q t)
  (k:BZ.okWide P w r b t v) (f:DataW.Trod enc P w base spare held t v d p):∃cs:Array BZ,∃l,v= .agg cs/\c.BO (Hp.of w) l cs.toList/\q l:=by
 obtain⟨cs,rfl,j⟩:=Go.WideShapes.okWide_struct ht k;obtain⟨a,g⟩:=f;obtain⟨l,i⟩:=h (a+1) a (by omega) cs.toList _ (by grind) g;grind
end
end
def Zj(q:Vl->Prop):(t:Ty)->(t.den λ_=>Vl)->Prop
 | .int .i64,n=>GK.DW n
 | .int .u8,n=>(0:Int)<=(show Int from n)/\(show Int from n)<=255
 | .sl t,l=> ∀x∈(show List (t.den λ_=>Vl)from l),Zj q t x
 | .st t,x=>Zj q t x
 | .pr a b,x=>Zj q a x.1/\Zj q b x.2
 | .nm 0,x=>q x
 |_,_=>True
def QV:Nat->Vl->Prop
 |0,_=>True
 |d+1,v=>Zj (QV d) vo (vO v)
mutual
def Lu(P:GQ)(tn:Gs):Nat->Ty->Gs->Bool
 |0,_,_=>Aj
 |k+1, .int .i64,u=>match P.underlying u with|some (.int .i64)=>Bp|_=>Aj
 |k+1, .int .u8,u=>match P.underlying u with|some (.int .u8)=>Bp|_=>Aj
 |k+1, .bool,u=>match P.underlying u with|some .bool=>Bp|_=>Aj
 |k+1, .str,u=>match P.underlying u with|some .string=>Bp|_=>Aj
 |k+1, .sl t,u=>match P.underlying u with|some (.slice e)=>Hj (P.cellsOf e) (Zd 9 t)&&Lu P tn k t e|_=>Aj
 |k+1, .st t,u=>match P.underlying u with|some (.struct fs)=>wA P tn k t 0 fs.toList|_=>Aj
 |k+1, .nm 0,u=>Hj u tn
 |_,_,_=>Aj
def wA(P:GQ)(tn:Gs):Nat->Ty->Nat->List Field->Bool
 |0,_,_,_=>Aj
 |k+1,t,off,[f]=>Lu P tn k t f.type&&(Hj (P.cellsOf f.type) (Zd 9 t)&&Hj f.offset off)
 |k+1, .pr a b,off,f::fs=>Lu P tn k a f.type&&(Hj (P.cellsOf f.type) (Zd 9 a)&&(Hj f.offset off&&wA P tn k b (off+Zd 9 a) fs))
 |_,_,_,_=>Aj
end
section
variable {H : Type} {enc : Gs × BZ -> H} {P : GQ} {w : IW} {base : Nat} {spare : Nat -> Bool} {held : Bool}
theorem UX(t:Ty):(KN TV t).sz=Zd 9 t:=FN (s:=9) rfl t
mutual
theorem Js{tn:Gs}{q:Vl->Prop}{N:Nat}(h:GO enc P w base spare held N TV q tn):∀ {k:Nat} {t:Ty} {u:Gs},Lu P tn k t u=Bp->GO enc P w base spare held N (KN TV t) (Zj q t) u
 |0,_,_,e=>by cases e
 |k+1, .int .i64,u,e=>by
  unfold Lu at e;split at e
  ·rename_i hu;exact GO.i64 hu
  grind
 |k+1, .int .u8,u,e=>by
  unfold Lu at e;split at e
  ·rename_i hu;exact GO.u8 hu
  grind
 |k+1, .bool,u,e=>by
  unfold Lu at e;split at e
  ·rename_i hu;exact GO.b hu
  grind
 |k+1, .str,u,e=>by
  unfold Lu at e;split at e
  ·rename_i hu;exact GO.s hu
  grind
 |k+1, .sl t,u,e=>by
  unfold Lu at e;split at e
  ·rename_i x hu
   rw[AT]at e
   exact(GO.sl hu (by grind[UX,Nat.eq_of_beq_eq_true]) (Js h e.2)).le (Agt _)
  grind
 |k+1, .st t,u,e=>by
  unfold Lu at e;split at e
  ·rename_i fs hu
   exact(GO.st (c:=KN TV t) (q:=Zj q t) hu (Up h e)).le (Agt _)
  trivial
 |k+1, .nm 0,u,e=>by
  have:=AI e
  subst this;exact h
 |k+1, .nm (n+1),u,e=>by cases e
 |k+1, .pr _ _,u,e=>by cases e
 |k+1, .un,u,e=>by cases e
 |k+1, .bs,u,e=>by cases e
 |k+1, .ar _ _,u,e=>by cases e
 |k+1, .int .i8,u,e=>by cases e
 |k+1, .int .i16,u,e=>by cases e
 |k+1, .int .i32,u,e=>by cases e
 |k+1, .int .u16,u,e=>by cases e
 |k+1, .int .u32,u,e=>by cases e
 |k+1, .int .u64,u,e=>by cases e
theorem Up{tn:Gs}{q:Vl->Prop}{N:Nat}(h:GO enc P w base spare held N TV q tn):∀ {k:Nat} {t:Ty} {off:Nat} {fs:List Field},wA P tn k t off fs=Bp->fk enc P w base spare held N (KN TV t) (Zj q t) off fs
 |0,_,_,_,e=>by cases e
 |k+1,t,off,[],e=>by cases t<;>(cases e)
 |k+1,t,off,[f],e=>by
  unfold wA at e
  simp only[AT]at e
  exact fk.one (Js h e.1) (by rw[UX];exact AI e.2.1) (AI e.2.2)
 |k+1, .pr a b,off,f::g::fs,e=>by
  unfold wA at e
  simp only[AT]at e
  have hs:Zd 9 a=(KN TV a).sz:=(UX a).symm
  exact fk.cons (Js h e.1) (by rw[<-hs];exact AI e.2.1) (AI e.2.2.1) (hs▸Up h e.2.2.2)
 |k+1, .int _,off,f::g::fs,e=>by cases e
 |k+1, .bool,off,f::g::fs,e=>by cases e
 |k+1, .str,off,f::g::fs,e=>by cases e
 |k+1, .sl _,off,f::g::fs,e=>by cases e
 |k+1, .st _,off,f::g::fs,e=>by cases e
 |k+1, .nm _,off,f::g::fs,e=>by cases e
 |k+1, .un,off,f::g::fs,e=>by cases e
 |k+1, .bs,off,f::g::fs,e=>by cases e
 |k+1, .ar _ _,off,f::g::fs,e=>by cases e
end
theorem Z4{tn:Gs}{k:Nat}(e:Lu P tn (k+1) vo tn=Bp):∀(N d:Nat),GO enc P w base spare held N TV (QV d) tn
 |0,_=>λn f=>by omega
 |N+1,d=>by
  have step:∀d,GO enc P w base spare held (N+1) TV (QV (d+1)) tn:=λd=>by
   have b:=e;unfold Lu at b;split at b;· rename_i o l;have:=GO.st (c:=KN TV (.pr .bool (.pr scB (.pr (.sl lcB) (.sl oA))))) (q:=Zj (QV d) (.pr .bool (.pr scB (.pr (.sl lcB) (.sl oA))))) l (Up (Z4 e N d) b);intro n f g y j m;obtain⟨a,h,i⟩:=this n f g y j m;exact⟨vlI a,Zu.2 h,i⟩
   grind
  cases d with
  |zero=>exact(step 0).imp λ_ _=>trivial
  |succ d=>grind
end
end Go.GV
namespace Go.GL
open Go Go.GV Go.GK Go.Proofs
theorem Qs{α:Type}{P:Nat->α->Prop} :∀ {l:List α},(∀x∈l,∃n,∀g,n<=g->P g x)->∃n,∀g,n<=g->∀x∈l,P g x
 | [],_=>⟨0,λ_ _ x hx=>by grind⟩
 |x::l,h=>by
  obtain⟨n,hn⟩:=h x (Aau ..)
  obtain⟨m,hm⟩:=Qs λy hy=>h y (Aag _ hy)
  refine⟨max n m,λg hg y hy=>?_⟩
  grind
theorem PJ:∀ {d:Nat} {v:Vl},QV d v->∃n,∀g,n<=g->KZ g d v
 |0,_,_=>⟨0,λ_ _=>trivial⟩
 |d+1,v,h=>by
  obtain⟨_,⟨_,_,_,⟨hi,hf⟩,hs⟩,hl,ht⟩:=h
  have qF:∀x∈kids v,QV d x.1/\QV d x.2:=λx hx=>by
   rcases AS.1 hx with hx|hx
   ·obtain⟨c,hc,hx⟩:=Aad.1 hx
    rcases AS.1 hx with hx|hx
    ·exact(hl c hc).1 x hx
    ·exact(hl c hc).2 x hx
   ·obtain⟨c,hc,hx⟩:=Aad.1 hx
    rcases AS.1 hx with hx|hx
    ·obtain⟨f,hf,rfl⟩:=By.1 hx
     exact((ht c hc).1 f hf).2.2
    ·obtain⟨f,hf,rfl⟩:=By.1 hx
     exact((ht c hc).2 f hf).2
  obtain⟨n1,k1⟩:=Qs (P:=λg x=>KZ g d x.1/\KZ g d x.2) (l:=kids v) λx hx=>by
   obtain⟨n,hn⟩:=PJ (qF x hx).1
   obtain⟨m,hm⟩:=PJ (qF x hx).2
   exact⟨max n m,λg hg=>⟨hn g (by omega),hm g (by omega)⟩⟩
  obtain⟨n2,k2⟩:=Qs (P:=λg (c:Bz)=> ∀k∈c.2,k.1.length<g) (l:=v.structs) λc _=>by
   obtain⟨n,hn⟩:=Qs (P:=λg (k:Tb×A9)=>k.1.length<g) (l:=c.2) λk _=>⟨k.1.length+1,λg hg=>by omega⟩
   exact⟨n,hn⟩
  have bt:∀(l:Tb),Zj (QV d) bk l->N6 l:=λl h s hs e he=>by
   have:=(h s hs).2 e he
   exact⟨this.1,this.2.1⟩
  refine⟨max (max n1 n2) (v.sc.2.2.2.2.length+1),λg hg=>⟨⟨λs hs=>hi s hs,λs hs=>hf s hs⟩,⟨bt _ hs,by omega⟩,λc hc k hk=>⟨bt _ ((ht c hc).2 k hk).1,k2 g (by omega) c hc k hk⟩,k1 g (by omega)⟩⟩
end Go.GL
namespace Go.GV
open Go Go.GK Go.RowKit Go.Deep
abbrev oB:Ty:= .sl (.st (.pr .str (.int .i64)))
theorem Ajm{H:Type}{enc:Gs×BZ->H}{P:GQ}{w:IW}{base:Nat}{spare:Nat->Bool}{held:Bool}{α:Type}{r:Reach}{b0:Nat}{c:Cd α}{q:α->Prop}{t e:Gs}{v:BZ}{d:DataW H}{p:List MemPlace}(ht:P.underlying t=Ac (.slice e))(hc:c.sz=1)(h:∀N,GO enc P w base spare held N c q t)
  (hv:BZ.okWide P w r b0 t v) (hd:DataW.Trod enc P w base spare held t v d p):∃l,c.BO (Hp.of w) l [v]/\q l:=by
 obtain⟨a,len,cap,rfl⟩:=Go.WideShapes.okWide_slice ht hv
 obtain⟨fuel,hf⟩:=hd
 exact h (fuel+1) fuel (by omega) _ _ hc.symm hf
theorem vT{f:Nat}{ps:List Ty}{F:BJ NL (NR ps).hs->Option (BJ NL (NR [.bool]).hs)}{x:BJ NL (NR ps).hs}{H:Hp}{vs:List BZ}(h:Cr TP f (qQ ps [.bool] F))(e:F x=Ac (show Bool from Bp))(hG:NL.inv H)(hl:vs.length=(z_ ps 0).length)(hv:∀p∈z_ ps 0,∃v,vs[p.1]?=Ac v/\(inst NL (NR ps).hs x p.2).is [] η0 H v):
  TB TP f vs H [] (λv _ O'=>O'=[]/\v= .bool Bp):=by
 refine(h.ok x _ e η0 H [] [] vs Aew ⟨hl,hv,rfl,λp hp=>(by cases hp),hG⟩).mono λv H' O' _ ⟨η,Y,h1,h2⟩=>?_
 have hY:Y=[]:=by
  cases Y with
  |nil=>rfl
  |cons p l=>rcases h2.ks p.1 (Aau ..)with k|k<;>cases k
 subst hY
 obtain⟨cs,h3,h4⟩:=h2.res
 have h3:cs=[.bool Bp]:=h3
 have h4:cs=[v]:=h4
 rw[h3]at h4
 cases h4
 exact⟨h1,rf⟩
end Go.GV
namespace Go.GL
open Go Go.GV Go.GK Go.Proofs
theorem walk(W:IW)(hG:HR Tryz.prog (Hp.of W)){c0:Array BZ}{x0:Vl×Vl}(hl0:(KN TV Xm).BO (Hp.of W) x0 c0.toList)(hq0:Zj (QV 3) Xm x0){l1:List (Aq×Int)}{u1:BZ}(hl1:(KN TV oB).BO (Hp.of W) l1 [u1])(_:Zj (QV 3) oB l1):
  TB Tryz.prog 8 [.agg c0,u1] (Hp.of W) [] (λv H' O'=>O'=[]/\v= .bool Bp):=by
 obtain⟨n0,hn0⟩:=PJ (show QV 3 x0.1 from hq0.1)
 obtain⟨m0,hm0⟩:=PJ (show QV 3 x0.2 from hq0.2)
 obtain⟨fu,h⟩:∃fu,FLp fu (x0,l1)=Ac Bp:=⟨(max m0 n0)+1000000010100,aa (gu:=max m0 n0) rfl ⟨hn0 _ (by omega),hm0 _ (by omega)⟩ (by omega) (by omega)⟩
 refine vT (Ko fu) h hG rf λp hp=>?_
 rcases Aav.1 hp with rfl|hp
 ·exact⟨_,rf,c0.toList,hl0,by simp[CL,Ty.agg]⟩
 rcases Aav.1 hp with rfl|hp
 ·exact⟨_,rf,[u1],hl1,rf⟩
 cases hp
end Go.GL
namespace Go.Proofs.YtimbbibpghnipaaGreatDoor
open Go
theorem wD:(Tryz.prog.funcs.toList.all λf=> !f.goes)=Bp:=by kernel_rfl
theorem gG(g:Nat):(Tryz.prog.funcs[g]?).any Func.goes=Aj:=by
 cases h:Tryz.prog.funcs[g]? with
 |none=>rfl
 |some fn=>
  have:=IT.1 wD fn (Array.mem_toList_iff.2 (Array.mem_of_getElem? h))
  simpa using this
theorem aB:Tryz.prog.funcs.any Func.goes=Aj:=by
 rw[<-Array.any_toList]
 cases h:Tryz.prog.funcs.toList.any Func.goes with
 |false=>rfl
 |true=>
  obtain⟨fn,h1,h2⟩:=Aci.1 h
  have:=IT.1 wD fn h1
  rw[h2]at this
  cases this
theorem pW(f:FuncId):Tryz.prog.goes f=Aj:=by
 unfold GQ.goes
 rw[aB,Bool.and_false,Ali]
 cases h:((Tryz.prog.closure f).any λg=>(Tryz.prog.funcs[g]?).any Func.goes)with
 |false=>rfl
 |true=>
  simp only[gG]at h
  simp at h
theorem pX:Aj=Rows.lookupPathsRow.goesBy Tryz.pinned.checked.prog:=by
 have e:Rows.lookupPathsRow.goesBy Tryz.prog=((Tryz.prog.funcNamed Rows.lookupPathsRow.func).any Tryz.prog.goes||false):=rfl
 refine Eq.trans ?_ e.symm
 generalize Tryz.prog.funcNamed Rows.lookupPathsRow.func=o
 cases o with
 |none=>rfl
 |some f=>rw[Option.any_some,pW];rfl
end Go.Proofs.YtimbbibpghnipaaGreatDoor
