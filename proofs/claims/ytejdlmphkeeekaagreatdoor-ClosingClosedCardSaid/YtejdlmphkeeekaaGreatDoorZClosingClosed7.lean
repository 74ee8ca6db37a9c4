/- Part 7 of the texts of this claim: what its theorem leans on. -/
import Derived.Test.YtejdlmphkeeekaaGreatDoorZClosingClosed6
import Derived.Test.YtejdlmphkeeekaaGreatDoorZClosingClosed5
set_option linter.all false
open Option renaming some→Ac,none→Dc
open Bool renaming false→Ak,true→Br
open Go renaming Value→Ce,Operand→Er,TypeId→Gn,Program→GO,World→IK,execOp→Kr,Oper→K5,IntKind→Lm
open Decidable renaming decide→Ds
open List renaming length→FB,replicate→T9,range→aO,set→lh
open Int renaming toNat→ae,natAbs→xc
open Go.Op renaming bytesLess→fX
namespace Go.GL
open Go Go.GV Go.GK Go.Proofs
section
variable{d:Nat}{v:Vl}{c:BC}{fu:Nat}
theorem Q8{s:Ay}(h:NS c)(C:s.length<=1000)(B:1000000000000<fu):dV fu (c,s)=Ac (vw c s):=by
 have D:=h.nf;have E:=h.nc;refine(Ok.eq ?_);rw[dV];refine TV (λk=> ∀i (d:i<c.1.length),i<k->Ds (c.1[i].1=s)=Ak) c.1.length (λi _ h=>by omega) (by omega) (λk nx l q x=>?_) (λnx q=>?_)
 ·refine P2 (Aah l (N7 (λo=>Aah l (Aah l (MI ?_))) λo=>x λi d v=>?_));· have e:c.1.find? (λf=>Ds (f.1=s))=Ac c.1[k]:=Adg.2 ⟨decide_eq_true o,k,l,rf,λj w=>by simp only[q j (by omega) w];rfl⟩;unfold vw;rw[e]
  ·rcases Aal i k with p|p;· exact q i d p
   ·obtain rfl:i=k:=by omega
    exact decide_eq_false o
 ·have e:c.1.find? (λf=>Ds (f.1=s))=Dc:=Adh.2 λf u=>by
   obtain⟨i,d,rfl⟩:=Aau u;rw[q i d d];decide
  refine Qb (by omega) ?_;refine TV (λk=> ∀i (d:i<c.2.length),i<k->I3 c.2[i].1 s=Ak) c.2.length (λi _ h=>by omega) (by omega) (λk nx l g x=>?_) (λnx g=>?_)
  ·have m:=AN l;have A:=h.each _ m;have y:dW fu (c.2[k].1,s)=Ac (I3 c.2[k].1 s):=(Tu (n:=14641) (h.bt _ m) ⟨A,λt z=>by have:=h.ed _ m t z;omega⟩ (by omega) (by omega) (by omega) (by omega)).eq;refine P2 (Aah l (BY y (PY (λo=>Aah l (MI ?_)) λo=>x λi d v=>?_)));· have r:c.2.find? (λk=>I3 k.1 s)=Ac c.2[k]:=Adg.2 ⟨o,k,l,rfl,λj w=>by simp only[g j (by omega) w];rfl⟩;unfold vw;rw[e,r]
   ·rcases Aal i k with p|p;· exact g i d p
    ·obtain rfl:i=k:=by omega
     exact o
  ·have r:c.2.find? (λk=>I3 k.1 s)=Dc:=Adh.2 λf u=>by
    obtain⟨i,d,rfl⟩:=Aau u;rw[g i d d];decide
   refine P3 (MI ?_);unfold vw;rw[e,r];rfl
theorem bg{c:Ig}{i:Nat} :Ok (Yz fu (c,(i:Int))) λr=>r.1=XM c i:=by
 rw[Yz];unfold XM;refine P3 (N7 (λh=>Aah (by omega) (MI ?_)) λh=>?_);· rw[IN (by omega)]
 ·rw[Acy (by omega)];cases hc:c.2 with
  |nil=>exact Qb (by simp) (MI rfl)
  |cons x l=>exact VB (by simp) (BY (a:=x) rfl (MI rfl))
def SV(d:Nat)(v:Vl):Prop:=Bd d v/\Ea d v
def SW(d:Nat)(x:Bs):Prop:=SV d x.1/\SV d x.2
theorem DD{k m:Nat}{s:Sc}(h:dz k m s)(a:vA s):Il k m s:=⟨a.1,h.n1,h.n2,⟨a.2.1,a.2.2,rfl,h.sh.1⟩⟩
theorem kX(d:Nat):SV (d+1) v0:=⟨(KY d).1,⟨λh=>(by cases h),Q5,λc hc=>(by cases hc),λc hc=>(by cases hc)⟩,λx a=>by cases a⟩
theorem SV.qK(h:SV (d+1) v):∀x∈kids v,SW d x:=λx a=>⟨⟨(h.1.2.2.2 x a).1,(h.2.2 x a).1⟩,⟨(h.1.2.2.2 x a).2,(h.2.2 x a).2⟩⟩
theorem SV.lv(h:SV (d+1) v){c:Ig}(hc:c∈v.lists):∀x∈AK c,SW d x:=λx a=>h.qK x (AT.2 (.inl (Pe.2 ⟨c,hc,a⟩)))
theorem SV.sv(h:SV (d+1) v)(hc:c∈v.structs):∀x∈Bm c,SW d x:=λx a=>h.qK x (AT.2 (.inr (Pe.2 ⟨c,hc,a⟩)))
theorem SW.v0{x:Bs}(h:SW d x):SW d (v0,v0):=by
 cases d with
 |zero=>trivial
 |succ d=>exact⟨kX d,kX d⟩
end
section
variable {d : Nat} (ih : ∀ {fu : Nat} {a b : Vl}, SV d a -> SV d b -> 1000000000000 + 20 * d < fu -> Ok (TD fu (a, b)) λr => r = Br ↔ Dk d a b)
section
variable{fu:Nat}
include ih
theorem JY{x y:Bs}(e:SW d x)(g:SW d y)(j:1000000000000+20*d+1<fu):Ok (Nw fu (x,y)) λr=>r=Br↔KR (Dk d) x y:=by
 obtain⟨f,rfl⟩:∃f,fu=f+1:=⟨fu-1,by omega⟩;rw[show Nw (f+1) (x,y)=_ from d309 f x y];unfold zb;refine Oz (ih e.1 g.1 (by omega)) λr c=>PY (λh=>Oz (ih e.2 g.2 (by omega)) λs i=>MI ?_) λh=>AV λk=>?_;· exact i.trans ⟨λk=>⟨c.1 h,k⟩,λk=>k.2⟩
 ·rw[c.2 k.1]at h;cases h
theorem R1{x y:Ig}(h1:x.1.length<=3)(G:∀w∈AK x,SW d w)(H:∀w∈AK y,SW d w)(Q:1000000000000+20*d+2<fu):Ok (TF fu (x,y)) λr=>r=Br↔WW (Dk d) x y:=by
 obtain⟨
     f,rfl⟩:∃f,fu=f+1:=⟨fu-1,by omega⟩;rw[show TF (f+1) (x,y)=_ from d310 f x y];unfold za;have loop:(y.1.length<=x.1.length)->(y.2=[]->x.1.length<=y.1.length/\x.2=[])->Ok (Ad f (λ(n:Nat) j=>
    bif Ds ((n:Int)<(x.1.length:Int))then
     Ab (Yz f (y,(n:Int))) λz=>
     Ab (idx x.1 (n:Int)) λv=>
     Ab (Nw f (v,z.1)) λA=>
     bif !A then
      Ac Ak
     else
      j (n+1)
    else
     bif Ds ((x.2.length:Int)=0)then
      Ac Br
     else
      Ab (idx x.2 0) λB=>
      Ab (idx y.2 0) λC=>
      Ab (Nw f (B,C)) λD=>
      Ac D) 0) λr=>r=Br↔WW (Dk d) x y:=λF s=>by
  refine TV (λk=> ∀i (h:i<x.1.length),i<k->KR (Dk d) x.1[i] (XM y i)) x.1.length (λi h k=>by omega) (by omega) (λk nx q p M=>?_) (λnx p=>?_)
  ·have m:=G _ (AT.2 (.inl (AN q)));refine P2 (Oz bg λr t=>Aah q ?_);rw[t];refine Oz (JY ih m (bf m.v0 H) (by omega)) λb l=>PY (λh=>AV λN=>?_) λh=>M λi K L=>?_;· rw[l.2 (N.it k q)]at h;cases h
   ·rcases Aal i k with o|o;· exact p i K o
    ·obtain rfl:i=k:=by omega
     exact l.1 (by simpa using h)
  ·have I:∀i (h:i<x.1.length),KR (Dk d) x.1[i] (XM y i):=λi h=>p i h h;refine P3 (N7 (λO=>MI ⟨λ_=>⟨F,s,I,λh=>by omega⟩,λ_=>rfl⟩) λh=>?_);have u:0<x.2.length:=by omega
   have J:0<y.2.length:=by
    rcases Ahs y.2.length with e|e;· have:=(s (OF.1 e)).2;rw[this]at u;exact absurd u (by decide)
    ·exact e
   refine Adq (by decide) (by omega) (Adq (by decide) (by omega) (Oz (JY ih (G _ (AT.2 (.inr (AN _)))) (H _ (AT.2 (.inr (AN _)))) (by omega)) λb l=>MI (l.trans ⟨λk=>⟨F,s,I,λ_=>?_⟩,λk=>?_⟩)));· rw[show y.2.getD 0 (v0,v0)=y.2[0]from AO J];exact k
   ·have:=k.rs u;rwa [show y.2.getD 0 (v0,v0)=y.2[0]from AO J]at this
 refine N7 (λh=>AV λk=>by have:=k.ln;omega) λo=>N7 (λe=>?_) λe=>loop (by omega) λE=>absurd (by rw[E];rfl) e;have e:y.2=[]:=OF.1 (by omega);refine N7 (λh=>AV λk=>by have:=(k.cl e).1;omega) λE=>N7 (λh=>AV λk=>by have:=(k.cl e).2;rw[this]at h;exact absurd h (by decide)) λP=>loop (by omega) λ_=>⟨by omega,OF.1 (by omega)⟩
theorem Mb{x y:BC}(B:NS x)(o:NS y)(V:DB x)(W:DB y)(M:∀w∈Bm x,SW d w)(N:∀w∈Bm y,SW d w)(Y:1000000000000+20*d+3<fu):Ok (TE fu (x,y)) λr=>r=Br↔U2 (Dk d) x y:=by
 obtain⟨f,rfl⟩:∃f,fu=f+1:=⟨fu-1,by omega⟩;rw[show TE (f+1) (x,y)=_ from d312 f x y];unfold yZ;have n1:=B.nf;have n2:=B.nc;have n3:=o.nf;have n4:=o.nc;have A:∀s:Ay,s.length<=60->SW d (v0,v0)->Ok (dU f (x,y,s)) λr=>r=Br↔(vw x s).2<=(vw y s).2/\KR (Dk d) (vw x s).1 (vw y s).1:=λs Z R=>by obtain⟨g,rfl⟩:∃g,f=g+1:=⟨f-1,by omega⟩;rw[show dU (g+1) (x,y,s)=_ from d311 g x y s];unfold y_;refine BY (Q8 B (by omega) (by omega)) (BY (Q8 o (by omega) (by omega)) (N7 (λh=>Oz (JY ih (Vj R M) (Vj R N) (by omega)) λb i=>MI (i.trans ⟨λk=>⟨h,k⟩,λk=>k.2⟩)) λh=>AV λk=>h k.1))
 refine TV (λk=> ∀g∈x.1.take k,(vw x g.1).2<=(vw y g.1).2/\KR (Dk d) (vw x g.1).1 (vw y g.1).1) x.1.length (by simp) (by omega) (λk nx n H E=>?_) (λnx H=>?_)
 ·have m:=AN n;refine P2 (Aah n (Oz (A _ (B.lb _ m) (M _ (AT.2 (.inl (By.2 ⟨_,m,rfl⟩)))).v0) λb i=>PY (λh=>AV λG=>?_) λh=>E λg z=>?_));· rw[i.2 (G.fa _ m)]at h;cases h
  ·rcases(Ag n).1 z with z|rfl;· exact H g z
   ·exact i.1 (by simpa using h)
 rw[Ai]at H;refine Qb (by omega) ?_;refine TV (λk=> ∀g∈y.1.take k,(vw x g.1).2<=(vw y g.1).2/\KR (Dk d) (vw x g.1).1 (vw y g.1).1) y.1.length (by simp) (by omega) (λk nx n p E=>?_) (λnx p=>?_)
 ·have m:=AN n;refine P2 (Aah n (Oz (A _ (o.lb _ m) (N _ (AT.2 (.inl (By.2 ⟨_,m,rfl⟩)))).v0) λb i=>PY (λh=>AV λG=>?_) λh=>E λg z=>?_));· rw[i.2 (G.fb _ m)]at h;cases h
  ·rcases(Ag n).1 z with z|rfl;· exact p g z
   ·exact i.1 (by simpa using h)
 rw[Ai]at p;refine Qb (by omega) ?_;refine TV (λk=> ∀a∈x.2.take k,∀b∈y.2,KR (Dk d) a.2 b.2\/∀w,¬(Au a.1 0 w=Br/\Au b.1 0 w=Br)) x.2.length (by simp) (by omega) (λk nx n q E=>?_) (λnx q=>?_)
 ·have m:=AN n;refine VB (by omega) ?_;refine TV (λj=> ∀b∈y.2.take j,KR (Dk d) (x.2[k]).2 b.2\/∀w,¬(Au (x.2[k]).1 0 w=Br/\Au b.1 0 w=Br)) y.2.length (by simp) (by omega) (λj O I u F=>?_) (λO u=>?_)
  ·have J:=AN I;have P:=V.1 _ m;have Q:=W.1 _ J;have U:CK (x.2[k]).1 (Au (x.2[k]).1 0) 14641:=⟨P.2.1,P.2.2,rfl,B.each _ m⟩;have lb:CK (y.2[j]).1 (Au (y.2[j]).1 0) 14641:=⟨Q.2.1,Q.2.2,rfl,o.each _ J⟩;refine P2 (Aah n (Aah I (Oz (dk (Gy (fu:=f) U lb (by decide) (by omega))) λt S=>?_)));rw[U.gL,lb.gL]at S;have C:ti f t=Ac (Ds ((t.length:Int)=0)):=(rfl);refine BY C ?_;have v:(KR (Dk d) (x.2[k]).2 (y.2[j]).2\/∀w,¬(Au (x.2[k]).1 0 w=Br/\Au (y.2[j]).1 0 w=Br))->∀b∈y.2.take (j+1),KR (Dk d) (x.2[k]).2 b.2\/∀w,¬(Au (x.2[k]).1 0 w=Br/\Au b.1 0 w=Br):=λh b i=>by
    rcases(Ag I).1 i with i|rfl;· exact u b i
    ·exact h
   have emp:t=[]↔∀w,¬(Au (x.2[k]).1 0 w=Br/\Au (y.2[j]).1 0 w=Br):=by
    rw[S.Gx];constructor;· intro e w T;have:=congrFun e w;rw[T.1,T.2]at this;cases this
    ·intro e;funext w;have:=e w;cases X:Au (x.2[k]).1 0 w<;>cases D:Au (y.2[j]).1 0 w<;>simp_all
   refine PY (λh=>Aah n (Aah I (Oz (JY ih (M _ (AT.2 (.inr (By.2 ⟨_,m,rf⟩)))) (N _ (AT.2 (.inr (By.2 ⟨_,J,rf⟩)))) (by omega)) λb i=>PY (λD=>AV λG=>?_) λD=>F (v (.inl (i.1 (by simpa using D))))))) λh=>F (v (.inr (emp.1 ?_)))
   ·rcases G.cl _ m _ J with K|K;· rw[i.2 K]at D;cases D
    ·rw[emp.2 K]at h;cases h
   ·have h:Ds ((t.length:Int)=0)=Br:=by simpa using h
    have:=of_decide_eq_true h;exact OF.1 (by omega)
  ·rw[Ai]at u;refine P3 (E λa L=>?_);rcases(Ag n).1 L with L|rfl;· exact q a L
   ·exact u
 ·rw[Ai]at q;exact P3 (MI ⟨λ_=>⟨H,p,q⟩,λ_=>rfl⟩)
end
end
section
variable{α:Type}{P:α->Prop}{fu:Nat}
theorem SF{n bs:List α}{g:α->α->Option Bool}{k:Nat}{Q:Bool->Prop}{nx:Option Bool}(v:k<n.length)(t:bs.length<fu)(u:∀b∈bs,Ok (g n[k] b) λr=>r=Br↔P b)(a:(∃b∈bs,P b)->Ok nx Q)(o:(¬ ∃b∈bs,P b)->Q Ak):
  Ok (
    Ad fu (λ(f:Bool×Nat) c=>
   bif Ds ((f.2:Int)<(bs.length:Int))then
    bif !f.1 then
     Ab (idx n (k:Int)) λy=>
     Ab (idx bs (f.2:Int)) λz=>
     Ab (g y z) λA=>
     c (A,f.2+1)
    else
     bif !f.1 then Ac Ak else nx
   else
    bif !f.1 then Ac Ak else nx) (Ak,0)) Q:=by
 refine SA (λj (s:Bool)=>s=Br↔∃b∈bs.take j,P b) bs.length ⟨λh=>(by cases h),λh=>by simp at h⟩ t (λj s c l d w=>?_) (λs c d=>?_)
 ·have m:=AN l;refine P2 (PY (λh=>Aah v (Aah l (Oz (u _ m) λr x=>w _ ?_))) λh=>PY (λq=>absurd q (by dsimp only at h⊢;rw[h];decide)) λ_=>a ?_)
  ·have p:s=Ak:=by simpa using h
   rw[x];constructor;· intro e;exact⟨_,(Ag l).2 (.inr rfl),e⟩
   ·rintro⟨b,i,e⟩;rcases(Ag l).1 i with i|rfl;· have:=d.2 ⟨b,i,e⟩;rw[p]at this;cases this
    ·exact e
  ·have p:s=Br:=by simpa using h
   obtain⟨b,i,e⟩:=d.1 p;exact⟨b,Ack i,e⟩
 ·rw[Ai]at d;refine P3 (PY (λh=>MI (o λk=>?_)) λh=>a (d.1 (by simpa using h)));rw[d.2 k]at h;cases h
theorem H0:∀ {d fu:Nat} {a b:Vl},SV d a->SV d b->1000000000000+20*d<fu->Ok (TD fu (a,b)) λr=>r=Br↔Dk d a b
 |0,_,_,_,h,_,_=>h.1.elim
 |d+1,0,_,_,_,_,h=>by omega
 |d+1,f+1,a,b,n,o,G=>by
  have A:∀ {fu:Nat} {a b:Vl},SV d a->SV d b->1000000000000+20*d<fu->Ok (TD fu (a,b)) λr=>r=Br↔Dk d a b:=H0;have D:=DD n.1.1 n.2.1.sc;have sb:=DD o.1.1 o.2.1.sc;have B:=n.1.2.1;have F:=o.1.2.1;have u:=n.1.2.2.1;have v:=o.1.2.2.1;rw[show TD (f+1) (a,b)=_ from d313 f a b];unfold yY;refine PY (λh=>MI ⟨λk=> .inl k,λk=>?_⟩) λh=>PY (λq=>MI ⟨λk=> .inl k,λ_=>q⟩) λq=>Oz (Ma D sb (by decide) (by decide) (by omega)) λr z=>PY (λs=>AV λk=>?_) λs=>?_
  ·rcases k with k|k;· exact k
   ·rw[h]at k;exact absurd k.1 (by decide)
  ·rcases k with k|k;· rw[q]at k;cases k
   ·rw[z.2 k.2.1]at s;cases s
  have C:=z.1 (by simpa using s);refine TV (λk=> ∀c∈a.lists.take k,∃l∈b.lists,WW (Dk d) c l) a.lists.length (by simp) (by omega) (λk nx p t w=>?_) (λnx t=>?_)
  ·have m:=AN p;refine P2 (SF (g:=λx y=>TF f (x,y)) (P:=λl=>WW (Dk d) a.lists[k] l) p (by omega) (λc hc=>R1 A (B.2 _ m).1 (n.lv m) (o.lv hc) (by omega)) (λh=>w λc hc=>?_) λh=>⟨λe=>(by cases e),λi=>?_⟩)
   ·rcases(Ag p).1 hc with hc|rfl;· exact t c hc
    ·exact h
   ·rcases i with i|i;· rw[q]at i;cases i
    ·exact absurd (i.2.2.1 _ m) h
  rw[Ai]at t;refine Qb (by omega) ?_;refine TV (λk=> ∀c∈a.structs.take k,∃l∈b.structs,U2 (Dk d) c l) a.structs.length (by simp) (by omega) (λk nx p j w=>?_) (λnx j=>?_)
  ·have m:=AN p;refine P2 (SF (g:=λx y=>TE f (x,y)) (P:=λl=>U2 (Dk d) a.structs[k] l) p (by omega) (λc hc=>Mb A (u.2 _ m) (v.2 _ hc) (n.2.1.st _ m).2 (o.2.1.st _ hc).2 (n.sv m) (o.sv hc) (by omega)) (λh=>w λc hc=>?_) λh=>⟨λe=>(by cases e),λi=>?_⟩)
   ·rcases(Ag p).1 hc with hc|rfl;· exact j c hc
    ·exact h
   ·rcases i with i|i;· rw[q]at i;cases i
    ·exact absurd (i.2.2.2 _ m) h
  ·rw[Ai]at j;exact P3 (MI ⟨λ_=> .inr ⟨h,C,t,j⟩,λ_=>rfl⟩)
theorem contains_eq{l:List α}{x:α}{g:α->α->Option (Bool×α)}(n:l.length<fu)(o:∀y∈l,Ok (g y x) λr=>r.2=x/\(r.1=Br↔P y)):
  Ok (Ad fu (λ(b:α×Nat) i=>bif Ds ((b.2:Int)<(l.length:Int))then Ab (idx l (b.2:Int)) λq=>Ab (g q b.1) λj=>bif j.1 then Ac ((b.2:Int),j.2)else i (j.2,b.2+1)else Ac ((-1:Int),b.1)) (x,0)) λr=>r.2=x/\(0<=r.1↔∃y∈l,P y):=by
 refine SA (λk s=>s=x/\∀y∈l.take k,¬P y) l.length ⟨rf,by simp⟩ n (λk s nx e a p=>?_) (λs nx a=>?_)
 ·obtain⟨rfl,a⟩:=a;have m:=AN e;refine P2 (Aah e (Oz (o _ m) λr d=>PY (λh=>MI ⟨d.1,λ_=>⟨_,m,d.2.1 h⟩,λ_=>by omega⟩) λh=>p _ ⟨d.1,λy c=>?_⟩));rcases(Ag e).1 c with c|rfl;all_goals grind
 ·obtain⟨rfl,a⟩:=a;rw[Ai]at a;exact P3 (MI ⟨rfl,λh=>by omega,λ⟨y,c,f⟩=>absurd f (a y c)⟩)
theorem M6{a:List α}{g:α->Option (Bool×α)}(j:a.length<fu)(l:∀x∈a,Ok (g x) λr=>r.1=Br↔P x):
  Ok (Ad fu (λ(f:Nat) e=>bif Ds ((f:Int)<(a.length:Int))then Ab (idx a (f:Int)) λo=>Ab (g o) λp=>bif !p.1 then Ac Ak else e (f+1)else Ac Br) 0) λr=>r=Br↔∀x∈a,P x:=by
 refine TV (λk=> ∀x∈a.take k,P x) a.length (by simp) j (λk nx c b n=>?_) (λnx b=>?_)
 ·have m:=AN c;refine P2 (Aah c (Oz (l _ m) λr i=>PY (λh=>AV λk=>?_) λh=>n λx d=>?_));· grind
  ·rcases(Ag c).1 d with d|rfl;all_goals grind
 ·rw[Ai]at b;exact P3 (MI ⟨λ_=>b,λ_=>rfl⟩)
end
section
variable {d : Nat} (ih : ∀ {fu : Nat} {a b : Vl}, SV d a -> SV d b -> 1000000000000 + 20 * d < fu -> Ok (TK fu (a, b)) λr => r = Br ↔ Dk d a b)
section
variable{fu:Nat}
include ih
theorem P0{x y:Bs}(e:SW d x)(g:SW d y)(j:1000000000000+20*d+1<fu):Ok (LA fu (x,y)) λr=>r=Br↔KR (Dk d) x y:=by
 obtain⟨f,rfl⟩:∃f,fu=f+1:=⟨fu-1,by omega⟩;rw[show LA (f+1) (x,y)=_ from d189 f x y];refine Oz (ih e.1 g.1 (by omega)) λr c=>PY (λh=>Oz (ih e.2 g.2 (by omega)) λs i=>MI ?_) λh=>AV λk=>?_;· exact i.trans ⟨λk=>⟨c.1 h,k⟩,λk=>k.2⟩
 ·rw[c.2 k.1]at h;grind
theorem Jv{x y:Ig}(h1:x.1.length<=3)(G:∀w∈AK x,SW d w)(H:∀w∈AK y,SW d w)(Q:1000000000000+20*d+2<fu):Ok (Va fu (x,y)) λr=>r=Br↔WW (Dk d) x y:=by
 obtain⟨
     f,rfl⟩:∃f,fu=f+1:=⟨fu-1,by omega⟩;rw[show Va (f+1) (x,y)=_ from d190 f x y];have loop:(y.1.length<=x.1.length)->(y.2=[]->x.1.length<=y.1.length/\x.2=[])->Ok (Ad f (λ(n:Nat) j=>
    bif Ds ((n:Int)<(x.1.length:Int))then
     Ab (idx x.1 (n:Int)) λv=>
     Ab (YK f (y,(n:Int))) λz=>
     Ab (LA f (v,z.1)) λA=>
     bif !A then
      Ac Ak
     else
      j (n+1)
    else
     bif Ds ((x.2.length:Int)=0)then
      Ac Br
     else
      Ab (idx x.2 0) λB=>
      Ab (idx y.2 0) λC=>
      Ab (LA f (B,C)) λD=>
      Ac D) 0) λr=>r=Br↔WW (Dk d) x y:=λF s=>by
  refine TV (λk=> ∀i (h:i<x.1.length),i<k->KR (Dk d) x.1[i] (XM y i)) x.1.length (λi h k=>by omega) (by omega) (λk nx q p M=>?_) (λnx p=>?_)
  ·have m:=G _ (AT.2 (.inl (AN q)));refine P2 (Aah q (Oz gS λr t=>?_));rw[t];refine Oz (P0 ih m (bf m.v0 H) (by omega)) λb l=>PY (λh=>AV λN=>?_) λh=>M λi K L=>?_;· rw[l.2 (N.it k q)]at h;grind
   ·rcases Aal i k with o|o;· simp_all
    grind
  ·have I:∀i (h:i<x.1.length),KR (Dk d) x.1[i] (XM y i):=λi h=>p i h h;refine P3 (N7 (λO=>MI ⟨λ_=>⟨F,s,I,λh=>by omega⟩,λ_=>rfl⟩) λh=>?_);have u:0<x.2.length:=by omega
   have J:0<y.2.length:=by grind
   refine Adq (by decide) (by omega) (Adq (by decide) (by omega) (Oz (P0 ih (G _ (AT.2 (.inr (AN _)))) (H _ (AT.2 (.inr (AN _)))) (by omega)) λb l=>MI (l.trans ⟨λk=>⟨F,s,I,λ_=>?_⟩,λk=>?_⟩)));· rw[show y.2.getD 0 (v0,v0)=y.2[0]from AO J];exact k
   ·have:=k.rs u;rwa [show y.2.getD 0 (v0,v0)=y.2[0]from AO J]at this
 refine N7 (λh=>AV λk=>by have:=k.ln;omega) λo=>PY (λh=>?_) λh=>loop (by omega) λE=>absurd h (by rw[E];decide);have e:y.2=[]:=by
  rcases Ahs y.2.length with e|e;· exact OF.1 e
  ·rw[show Ds ((0:Int)<(y.2.length:Int))=Br from decide_eq_true (by omega)]at h;cases h
 exact N7 (λh=>AV λk=>by have:=(k.cl e).1;omega) λE=>N7 (λh=>AV λk=>by have:=(k.cl e).2;rw[this]at h;exact absurd h (by decide)) λP=>loop (by omega) λ_=>⟨by omega,OF.1 (by omega)⟩
theorem G7{x y:BC}(C:NS x)(i:NS y)(M:DB x)(N:DB y)(V:∀w∈Bm x,SW d w)(W:∀w∈Bm y,SW d w)(hF:1000000000000+20*d+2<fu):Ok (Vb fu (x,y)) λr=>r=Br↔U2 (Dk d) x y:=by
 obtain⟨f,rfl⟩:∃f,fu=f+1:=⟨fu-1,by omega⟩;rw[show Vb (f+1) (x,y)=_ from d183 f x y];have n1:=C.nf;have n2:=C.nc;have n3:=i.nf;have n4:=i.nc;refine PC ⟨rfl,rfl⟩ ?_;let P:=λg:Ay×Int×Bs=>(vw x g.1).2<=(vw y g.1).2/\KR (Dk d) (vw x g.1).1 (vw y g.1).1;refine TV (λk=>(1<=k->∀g∈x.1,P g)/\(2<=k->∀g∈y.1,P g)) 2 ⟨λh=>by omega,λh=>by omega⟩ (by omega) (λk nx I H J=>?_) (λnx H=>?_)
 ·have inner:∀(l:List (Ay×Int×Bs)),l.length<=4->(∀g∈l,g.1.length<=60/\SW d (v0,v0))->(U2 (Dk d) x y->∀g∈l,P g)->((∀g∈l,P g)->Ok (nx (k+1)) λr=>r=Br↔U2 (Dk d) x y)->
    Ok (
      Ad f (λ(Y:Nat) B=>
     bif Ds ((Y:Int)<(l.length:Int))then
      Ab (idx l (Y:Int)) λr6=>
      Ab (YG f (x,r6.1)) λr7=>
      Ab (YG f (y,r6.1)) λr8=>
      bif Ds (r8.2<r7.2)then
       Ac Ak
      else
       Ab (LA f (r7.1,r8.1)) λr9=>
       bif !r9 then
        Ac Ak
       else
        B (Y+1)
     else
      nx (k+1)) 0) λr=>r=Br↔U2 (Dk d) x y:=λl hl v hP U=>by
   refine TV (λj=> ∀g∈l.take j,P g) l.length (by simp) (by omega) (λj B A u T=>?_) (λB u=>?_)
   ·have m:=AN A;obtain⟨q1,q2⟩:=v _ m;refine P2 (Aah A (BY (Vk C (by omega) (by omega)) (BY (Vk i (by omega) (by omega)) (N7 (λh=>AV λp=>by have:=(hP p _ m).1;omega) λD=>Oz (P0 ih (Vj q2 V) (Vj q2 W) (by omega)) λr G=>PY (λh=>AV λp=>?_) λh=>T λg z=>?_))));· rw[G.2 (hP p _ m).2]at h;cases h
    rcases(Ag A).1 z with E|rfl;· exact u g E
    ·exact⟨by omega,G.1 (by simpa using h)⟩
   ·exact P3 (U λg z=>u g (by rw[Ai];omega))
  have M:∀g∈x.1,g.1.length<=60/\SW d (v0,v0):=λg v=>⟨C.lb g v,(V _ (AT.2 (.inl (By.2 ⟨g,v,rfl⟩)))).v0⟩;have N:∀g∈y.1,g.1.length<=60/\SW d (v0,v0):=λg v=>⟨i.lb g v,(W _ (AT.2 (.inl (By.2 ⟨g,v,rfl⟩)))).v0⟩;refine VB (by omega) ?_;rcases(by omega:k=0\/k=1)with rfl|rfl;· exact BY (a:=x.1) rfl (inner x.1 n1 M (λp=>p.fa) λh=>J ⟨λ_=>h,λh=>by omega⟩)
  ·exact BY (a:=y.1) rf (inner y.1 n3 N (λp=>p.fb) λh=>J ⟨λ_=>H.1 (by omega),λ_=>h⟩)
 ·have O:=H.1 (by omega);have Q:=H.2 (by omega);refine TV (λk=> ∀a∈x.2.take k,∀b∈y.2,KR (Dk d) a.2 b.2\/∀w,¬(Au a.1 0 w=Br/\Au b.1 0 w=Br)) x.2.length (by simp) (by omega) (λk nx I n J=>?_) (λnx n=>?_)
  ·have K:=AN I;refine P2 (Aah I ?_);refine TV (λj=> ∀b∈y.2.take j,KR (Dk d) (x.2[k]).2 b.2\/∀w,¬(Au (x.2[k]).1 0 w=Br/\Au b.1 0 w=Br)) y.2.length (by simp) (by omega) (λj X A o F=>?_) (λX o=>?_)
   ·have L:=AN A;have s1:=V _ (AT.2 (.inr (By.2 ⟨_,K,rfl⟩)));have s2:=W _ (AT.2 (.inr (By.2 ⟨_,L,rfl⟩)));have Z:=M.1 _ K;have gb:=N.1 _ L;have la:CK (x.2[k]).1 (Au (x.2[k]).1 0) 14641:=⟨Z.2.1,Z.2.2,rfl,C.each _ K⟩;have lb:CK (y.2[j]).1 (Au (y.2[j]).1 0) 14641:=⟨gb.2.1,gb.2.2,rfl,i.each _ L⟩;have q:(KR (Dk d) (x.2[k]).2 (y.2[j]).2\/∀w,¬(Au (x.2[k]).1 0 w=Br/\Au (y.2[j]).1 0 w=Br))->∀b∈y.2.take (j+1),KR (Dk d) (x.2[k]).2 b.2\/∀w,¬(Au (x.2[k]).1 0 w=Br/\Au b.1 0 w=Br):=λh b S=>by
     rcases(Ag A).1 S with S|rfl;· exact o b S
     trivial
    refine P2 (Aah A (Oz (P0 ih s1 s2 (by omega)) λr G=>PY (λh=>Oz (jl (Gy la lb (by decide) (by omega))) λt ht=>?_) λh=>F (q (.inl (G.1 (by simpa using h))))));rw[la.gL,lb.gL]at ht;have emp:t=[]↔∀w,¬(Au (x.2[k]).1 0 w=Br/\Au (y.2[j]).1 0 w=Br):=by
     rw[ht.Gx];constructor;· intro e w hw;have:=congrFun e w;rw[hw.1,hw.2]at this;cases this
     ·intro e;funext w;have:=e w;cases h1:Au (x.2[k]).1 0 w<;>cases D:Au (y.2[j]).1 0 w<;>simp_all
    refine N7 (λD=>AV λp=>?_) λD=>F (q (.inr (emp.1 (OF.1 (by omega)))));rcases p.cl _ K _ L with E|E;· rw[G.2 E]at h;cases h
    ·rw[emp.2 E]at D;exact absurd D (by decide)
   ·rw[Ai]at o;refine P3 (J λa R=>?_);rcases(Ag I).1 R with R|rfl;· exact n a R
    ·exact o
  ·rw[Ai]at n;exact P3 (MI ⟨λ_=>⟨O,Q,n⟩,λ_=>rfl⟩)
end
end
section
variable{n fu N:Nat}{r:Tb}{L:Nat}{g:Nat->Nat->Bool}{l:Tb}{w:Ay}{m:Nat}{x y:Int}{i:Nat}
theorem JZ:∀ {d fu:Nat} {a b:Vl},SV d a->SV d b->1000000000000+20*d<fu->Ok (TK fu (a,b)) λr=>r=Br↔Dk d a b
 |0,_,_,_,h,_,_=>h.1.elim
 |d+1,fu,a,b,j,l,C=>by
  obtain⟨f,rfl⟩:∃f,fu=f+7:=⟨fu-7,by omega⟩;have u:∀ {fu:Nat} {a b:Vl},SV d a->SV d b->1000000000000+20*d<fu->Ok (TK fu (a,b)) λr=>r=Br↔Dk d a b:=JZ;have z:=DD j.1.1 j.2.1.sc;have sb:=DD l.1.1 l.2.1.sc;rw[show TK (f+7) (a,b)=_ from d188 (f+6) a b];refine PY (λh=>MI ⟨λk=> .inl k,λk=>?_⟩) λh=>PY (λn=>MI ⟨λk=> .inl k,λ_=>n⟩) λn=>?_
  ·rcases k with k|k;all_goals grind
  refine Oz (Mj (d:=d+1) (x:=(a,v0)) (y:=(b,v0)) ⟨j.1,(KY d).1⟩ ⟨l.1,(KY d).1⟩ (by omega)) λr c=>PY (λh=>MI ⟨λ_=>?_,λ_=>rfl⟩) λ_=>?_;· have e:a=b:=congrArg Prod.fst (c.1 h);subst e;exact Dk.refl j.2
  have v:=j.1.2.1;have B:=l.1.2.1;have q:=j.1.2.2.1;have s:=l.1.2.2.1;refine Oz (Xc z sb (by simp) (by simp) (by omega)) λr c=>PY (λi=>AV λk=>?_) λi=>?_
  ·rcases k with k|k;· rw[n]at k;cases k
   ·rw[c.2 k.2.1]at i;cases i
  have w:=c.1 (by simpa using i);have L:Ok (kx (f+6) (a.lists,b.lists)) λr=>r=Br↔∀x∈a.lists,∃y∈b.lists,WW (Dk d) x y:=by
   rw[show kx (f+6) (a.lists,b.lists)=_ from d182 (f+5) _ _];refine M6 (g:=λx=>kA (f+5) (b.lists,x)) (by omega) λx m=>?_;rw[show kA (f+5) (b.lists,x)=_ from d181 (f+4) _ _];have:Ok (kB (f+4) (b.lists,x)) λr=>r.2=x/\(0<=r.1↔∃y∈b.lists,WW (Dk d) x y):=by rw[show kB (f+4) (b.lists,x)=_ from d180 (f+3) _ _];refine contains_eq (g:=λy x=>kC (f+3) (y,x)) (by omega) λy p=>?_;rw[show kC (f+3) (y,x)=_ from d179 (f+2) _ _];exact Oz (Jv u (v.2 x m).1 (j.lv m) (l.lv p) (by omega)) λr c=>MI ⟨rfl,c⟩
   exact Oz this λr c=>MI (decide_eq_true_iff.trans c.2)
  have S:Ok (ko (f+6) (a.structs,b.structs)) λr=>r=Br↔∀x∈a.structs,∃y∈b.structs,U2 (Dk d) x y:=by
   rw[show ko (f+6) (a.structs,b.structs)=_ from d187 (f+5) _ _];refine M6 (g:=λx=>kq (f+5) (b.structs,x)) (by omega) λx m=>?_;rw[show kq (f+5) (b.structs,x)=_ from d186 (f+4) _ _];have:Ok (ku (f+4) (b.structs,x)) λr=>r.2=x/\(0<=r.1↔∃y∈b.structs,U2 (Dk d) x y):=by rw[show ku (f+4) (b.structs,x)=_ from d185 (f+3) _ _];refine contains_eq (g:=λy x=>kv (f+3) (y,x)) (by omega) λy p=>?_;rw[show kv (f+3) (y,x)=_ from d184 (f+2) _ _];exact Oz (G7 u (q.2 x m) (s.2 y p) (j.2.1.st x m).2 (l.2.1.st y p).2 (j.sv m) (l.sv p) (by omega)) λr c=>MI ⟨rfl,c⟩
   exact Oz this λr c=>MI (decide_eq_true_iff.trans c.2)
  refine Oz L λD o=>PY (λi=>Oz S λE t=>MI (t.trans ⟨λk=> .inr ⟨h,w,o.1 i,k⟩,λk=>?_⟩)) λi=>AV λk=>?_
  ·rcases k with k|k;· rw[n]at k;cases k
   ·exact k.2.2.2
  ·rcases k with k|k;· rw[n]at k;cases k
   ·rw[o.2 k.2.2.1]at i;cases i
def Cr(L N:Nat)(g:Nat->Nat->Bool):List (Bool×List Bool):=Bi L λi=>(Br,Bi (N+1) (g i))
theorem ij:(Cr L N g).length=L:=Az _ _
theorem Wh(h:i<L):idx (Cr L N g) (i:Int)=Ac (Br,Bi (N+1) (g i)):=by unfold Cr;rw[Bl (by rw[Az];exact h),Bo]
theorem EP{a:Nat->Nat->Bool}(h:∀i,i<L->∀j,j<N+1->g i j=a i j):Cr L N g=Cr L N a:=
 AP λi b=>by rw[AP (h i b)]
theorem ig:(Cr L N g).set i (Br,(Bi (N+1) (g i)).set n Br)=Cr L N λa j=>if a=i then if j=n then Br else g i j else g a j:=by
 unfold Cr;rw[Bb,Bb];refine AP λa _=>?_;by_cases h:a=i;· simp only[if_pos h]
 ·simp only[if_neg h]
theorem oE{α:Type}{f:Nat->α}(h:n<N):idx (Bi N f) (n:Int)=Ac (f n):=by rw[Bl (by rw[Az];exact h),Bo]
theorem iW(hw:Bg l)(L:DW l n)(hn:n<4294967295)(hN:N<4294967295)(hf:n<fu)(S:N+1<fu):
  jH fu (l,(N:Int))=Ac (Bi l.length λi=>Bi (N+1) λk=>Em l k i):=by
 have W:=L.1;refine(Ok.eq ?_);rw[jH];refine PC (by unfold Aj;omega) ?_;have O:ae ((N:Int)+1)=N+1:=by omega
 rw[O];refine SA (λk (s:List (Bool×List Bool))=>s=Bi l.length λi=>if i<k then(Br,Bi (N+1) λj=>Ds (j<1)&&Em l j i)else(Ak,[])) l.length ?_ (by omega) (λk s nx D r I=>?_) (λs nx r=>?_);· rw[Aff,DC];exact AP λi _=>by simp
 ·have sl:s.length=l.length:=by rw[r,Az]
  have J:lh s k (Br,T9 (N+1) Ak)=Bi l.length λi=>if i=k then(Br,Bi (N+1) λ_=>Ak)else if i<k then(Br,Bi (N+1) λj=>Ds (j<1)&&Em l j i)else(Ak,[]):=by rw[r,Bb,DC]
  have F:idx (lh s k (Br,T9 (N+1) Ak)) (k:Int)=Ac (Br,Bi (N+1) λ_=>Ak):=by rw[J,Bl (by rw[Az];exact D),Bo,if_pos rfl]
  refine P2 (Aaq (Abw (PC (by unfold Aj;omega) (PC ⟨by omega,by dsimp only;omega⟩ (Abw (PC ⟨by omega,by rw[Abp];dsimp only;omega⟩ (BY F (PC rf (Aah D (BY F (PC ⟨rf,by decide,by dsimp only;rw[Az];omega⟩ (BY F (PC ⟨rf,by dsimp only;rw[Az];simp⟩ (I _ ?_))))))))))))));dsimp only;rw[J,Bb,Bb];refine AP λi _=>?_;by_cases h:i=k
  ·subst h;rw[if_pos rfl,if_pos (by omega)];refine congrArg (Prod.mk Br) (AP λj _=>?_);by_cases C:j=0;· subst C;refine(if_pos rfl).trans ?_;rw[He,Eg (by omega) (by omega)];rfl
   ·rw[if_neg (by exact C),decide_eq_false (by omega)];rfl
  ·rw[if_neg h,if_neg h];by_cases d:i<k;· rw[if_pos d,if_pos (by omega)]
   ·rw[if_neg d,if_neg (by omega)]
 have r:s=Cr l.length N λi j=>Ds (j<1)&&Em l j i:=by rw[r];exact AP λi f=>by rw[if_pos f]
 refine Qb (by dsimp only;omega) ?_;refine Xn (X:=List (Bool×List Bool)×Int) (λx=> ∃k:Nat,x.2=(k:Int)/\1<=k/\k<=N+1/\x.1=Cr l.length N λi j=>Ds (j<k)&&Em l j i) (λx=>N+1-x.2.toNat) ⟨1,rfl,by omega,by omega,r⟩ (by dsimp only;omega) λx nx8 Q _ u=>?_;obtain⟨s,z⟩:=x;obtain⟨k,M,U,V,B⟩:=Q;dsimp only at M B u;subst M;dsimp only;refine N7 (λD=>?_) λD=>?_
 ·refine SA (λi (s:List (Bool×List Bool))=>s=Cr l.length N λa j=>(Ds (j<k)||(Ds (j=k)&&Ds (a<i)))&&Em l j a) l.length ?_ (by omega) (λi s w f p t=>?_) (λs w p=>?_);· rw[B];exact EP λa _ j _=>by simp
  ·have Y:(l[i]).2.length<=n:=L.2 _ (AN f);have T:=hw _ (AN f);have v:Ij l i=(l[i]).2:=Hc f;refine VB (by dsimp only;omega) ?_;refine SA (λm (s:List (Bool×List Bool))=>s=Cr l.length N λa j=>if a=i/\j=k then((l[i]).2.take m).any (λe=>Em l (k-1) e.2.2.toNat)else(Ds (j<k)||(Ds (j=k)&&Ds (a<i)))&&Em l j a) (l[i]).2.length ?_ (by omega) (λm s y E c o=>?_) (λs y c=>?_)
   ·rw[p];exact EP λa _ j _=>by
     by_cases h:a=i/\j=k;· rw[if_pos h,h.1,h.2];simp
     ·rw[if_neg h]
   ·have K:=T.rg _ (AN E);have sl:s.length=l.length:=by rw[c,ij]
    have Z:((l[i]).2[m]).2.2.toNat<l.length:=by omega
    have H:=(congrArg (λs=>idx s ((((l[i]).2[m]).2.2.toNat:Nat):Int)) c).trans (Wh Z);have G:=(congrArg (λs=>idx s (i:Int)) c).trans (Wh f);have P:ae ((k:Int)-1)=k-1:=by omega
    refine Aah f (P2 (Aah f (Aah E (PC ⟨K.2.2.2.1,by dsimp only;rw[sl];exact K.2.2.2.2⟩ (BY H (PC rf (Aaq (BY H (PC ⟨rf,by omega,by dsimp only;rw[Az];omega⟩ (BY H (PC rf ?_)))))))))));rw[P];have ev:(if((l[i]).2[m]).2.2.toNat=i/\k-1=k then((l[i]).2.take m).any (λe=>Em l (k-1) e.2.2.toNat)else(Ds (k-1<k)||(Ds (k-1=k)&&Ds (((l[i]).2[m]).2.2.toNat<i)))&&Em l (k-1) ((l[i]).2[m]).2.2.toNat)=Em l (k-1) ((l[i]).2[m]).2.2.toNat:=by rw[if_neg (by omega),decide_eq_true (by omega:k-1<k)];simp
    refine BY ((oE (by omega)).trans (congrArg Ac ev)) ?_;refine PY (λh=>PC ⟨by omega,by dsimp only;omega⟩ (BY G (PC rf (BY G (PC ⟨rf,by omega,by dsimp only;rw[Az];omega⟩ (BY G (PC ⟨rf,by dsimp only;rw[Az];omega⟩ (o _ ?_)))))))) λh=>o _ ?_
    ·dsimp only;rw[show ae (k:Int)=k by omega];conv=>lhs;rw[c]
     rw[ig];refine EP λa _ j _=>?_;by_cases b:a=i
     ·by_cases d:j=k;· rw[if_pos b,if_pos d,if_pos ⟨b,d⟩,GB E,Afn];simp[h]
      ·rw[if_pos b,if_neg d,if_neg (λh=>d h.2),if_neg (λh=>d h.2),b]
     ·rw[if_neg b,if_neg (λh=>b h.1),if_neg (λh=>b h.1)]
    ·dsimp only;rw[c];refine EP λa _ j _=>?_;by_cases b:a=i/\j=k;· rw[if_pos b,if_pos b,GB E,Afn];simp[h]
     ·rw[if_neg b,if_neg b]
   ·refine Aah f (P3 (t _ ?_));rw[c,Ai];refine EP λa _ j _=>?_;by_cases b:a=i/\j=k;· obtain⟨rfl,rfl⟩:=b;rw[if_pos ⟨rfl,rfl⟩,decide_eq_true (by omega:a<a+1)];obtain⟨q,rfl⟩:∃q,j=q+1:=⟨j-1,by omega⟩;rw[Hf,v];simp
    ·rw[if_neg b];by_cases d:j=k;· have:a≠i:=λh=>b ⟨h,d⟩;rw[show Ds (a<i+1)=Ds (a<i) by simp;omega]
     ·rw[decide_eq_false d];simp
  ·refine P3 (Aaq (u _ ⟨k+1,by dsimp only;omega,by omega,by omega,?_⟩ (by dsimp only;omega)));dsimp only;rw[p];refine EP λa R j _=>?_;rw[decide_eq_true R,Bool.and_true,show Ds (j<k+1)=(Ds (j<k)||decide (j=k)) by
    rcases Acw j k with h|h|h;· rw[decide_eq_true h,decide_eq_true (by omega)];rfl
    ·rw[decide_eq_true h,decide_eq_true (by omega),Bool.or_true]
    ·rw[decide_eq_false (by omega),decide_eq_false (by omega),decide_eq_false (by omega)];rfl]
 ·obtain rfl:k=N+1:=by omega
  refine PC ?_ (MI ?_);· rw[B];refine IT.2 λx hx=>?_;obtain⟨i,_,rfl⟩:=EG.1 hx;rfl
  ·rw[B];unfold Cr Bi;rw[Aaj];refine Abr λi _=>?_;show(aO (N+1)).map _=_;refine Abr λj C=>?_;show(Ds (j<N+1)&&Em l j i)=_;rw[decide_eq_true (Abf.1 C),Ali]
def wl(pre:Ay)(o:Option Ay):List Ay:=match o with
 |some w=>[pre++w]
 |none=>[]
theorem Zh{pre:Ay}{o:Option Ay} :(wl pre o).length<=1:=by cases o<;>simp[wl]
theorem N2{l:Tb}{n N:Nat}(V:Bg l)(U:DW l n)(hn:n<4294967295):∀ {k fu i:Nat} {pre:Ay},k<=N->n+300+k<fu->pre.length+k<4294967296->i<l.length->
  Yy fu (l,Bi l.length (λi=>Bi (N+1) λk=>Em l k i),(i:Int),(k:Int),1,pre)=Ac (wl pre (lw l k i))
 |_,0,_,_,_,h,_,_=>by omega
 |k,fu+1,i,pre,hk,hf,hp,A=>by
  refine(d322 fu _ _ _ _ _ _).trans (Ok.eq ?_);unfold yX;refine BY (oE A) ?_;refine BY (oE (by omega)) (PY (λh=>MI ?_) λh=>Qb (by decide) ?_)
  ·have h:(lw l k i).isSome=Ak:=by
    have:Em l k i=Ak:=by simpa using h
    exact this
   rw[Ald.1 h |> Alh.1];rfl
  cases k with
  |zero=>
   have h:Em l 0 i=Br:=by simpa using h
   obtain⟨w,e⟩:=Abk.1 h;have:w=[]:=OF.1 (Um e);subst this;refine VB rfl (MI ?_);rw[e];show [pre]=[pre++[]];rw[Adf]
  |succ k=>
   refine Qb (by omega) ?_;have hs2:(l[i]).2.length<=n:=U.2 _ (AN A);have K:=V _ (AN A);have G:Ij l i=(l[i]).2:=Hc A;let f:=λe:Cu=>(lw l k e.2.2.toNat).map λw=>UInt8.ofNat e.1.toNat::w;have hl:lw l (k+1) i=(l[i]).2.findSome? f:=by rw[<-G];rfl
   rw[hl];refine SA (λm (s:List Ay)=>s=wl pre (((l[i]).2.take m).findSome? f)) (l[i]).2.length rfl (by omega) (λm s nx Q B R=>?_) (λs nx B=>?_)
   ·have D:=K.rg _ (AN Q);have P:=D.1;have O:=D.2.1;have L:=D.2.2.1;have H:=D.2.2.2.1;have I:=D.2.2.2.2;have W:(l[i]).2.findSome? f=(((l[i]).2.take m).findSome? f).or (((l[i]).2.drop m).findSome? f):=by
     rw[<-Agr,Ace]
    have st:((l[i]).2.take (m+1)).findSome? f=(((l[i]).2.take m).findSome? f).or (f (l[i]).2[m]):=by rw[GB Q,Agr,List.findSome?_singleton]
    refine Aah A (VB (by dsimp only;omega) ?_);cases T:((l[i]).2.take m).findSome? f with
    |some w=>
     rw[T]at B W;subst B;refine Qb (by show¬((([pre++w]:List Ay).length:Int)<1);simp) (MI ?_);rw[W];rfl
    |none=>
     rw[T]at B st;subst B;refine VB (by show(0:Int)<1;decide) (Aah A (Aah Q ?_));generalize hE:(l[i]).2[m]=e at*;obtain⟨C,q,t⟩:=e;dsimp only at P O L H I⊢;have y:=λ{g:Nat} (c:Int) (K:n+300+k<g)=>N2 V U hn (N:=N) (k:=k) (fu:=g) (i:=t.toNat) (pre:=pre++[UInt8.ofNat c.toNat]) (by omega) K (by rw[Aab,Acm];omega) (by omega);rw[Abd H]at y;have Y:((k+1:Nat):Int)-1=(k:Int):=by omega
     have u:Ok (nx (wl pre (f (C,q,t)),m+1)) λr=>r=wl pre ((l[i]).2.findSome? f):=R _ (by rw[st];rfl);have fe:f (C,q,t)=(lw l k t.toNat).map λw=>UInt8.ofNat C.toNat::w:=rfl;refine Xn (X:=List Ay×Int) (λx=>C<=x.2/\x.2<=q+1/\(x.1=wl pre (f (C,q,t))\/x.1=[]/\x.2=C)) (λx=>(q+1-x.2).toNat) ⟨Abn _,by dsimp only;omega, .inr ⟨rfl,rfl⟩⟩ (by dsimp only;omega) λx nx9 hI _ F=>?_;obtain⟨s,z⟩:=x;obtain⟨Z,h2,d⟩:=hI;dsimp only at Z h2 d F⊢;refine N7 (λhz=>N7 (λhlt=>?_) λE=>?_) λhz=>?_
     ·have S:s=[]:=OF.1 (by omega);subst S;have hr:Yy fu (l,Bi l.length (λi=>Bi (N+1) λk=>Em l k i),t,((k+1:Nat):Int)-1,1-((([]:List Ay).length:Nat):Int),pre++UInt8.ofNat z.toNat::[])=Ac (wl (pre++[UInt8.ofNat z.toNat]) (lw l k t.toNat)):=by
       rw[Y];exact y z (by omega)
      refine Aaq (Abx (by decide) (PC (p:=GK.F8 _) (by unfold GK.F8;omega) (PC (by simp;omega) (BY hr (PC (by have:=Zh (pre:=pre++[UInt8.ofNat z.toNat]) (o:=lw l k t.toNat);simp[Aj];omega) (Aaq (F _ ⟨by dsimp only;omega,by dsimp only;omega, .inl ?_⟩ (by dsimp only;omega))))))));dsimp only;rw[Aci];rcases d with d|d;· rw[fe]at d⊢;cases M:lw l k t.toNat with
       |none=>rfl
       |some v=>rw[M]at d;cases d
      ·rw[d.2,fe];cases lw l k t.toNat with
       |none=>rfl
       |some v=>show [_]=[_];rw[Aak];rfl
     ·rcases d with d|d;· rw[d];exact u
      ·rw[d.1]at E;exact absurd (by decide) E
     ·rcases d with d|d;· rw[d];exact u
      ·omega
   ·refine Aah A (P3 (MI ?_));rw[B,Ai]
def LK(r:Tb):Option Ay:=(aO r.length).findSome? λk=>lw r k 0
def lsO(o:Option Ay):Ay×Bool:=match o with
 |some w=>(w,Br)
 |none=>([],Ak)
theorem MY{f:Nat->Option Ay}{k:Nat}(c:k<n)(h:f k=Ac w)(d:∀j,j<k->f j=Dc):(aO n).findSome? f=Ac w:=by
 have:(aO n)=(aO n).take k++k::(aO n).drop (k+1):=by
  conv=>lhs;rw[<-Ace k (aO n)]
  simp_all[Aar,Aip,List.getElem_range]
 grind
theorem Un{r:Tb}{k:Nat}{w:Ay}(b:k<r.length)(h:lw r k 0=Ac w)(c:∀j,j<k->Em r j 0=Ak):LK r=Ac w:=MY b h λj a=>by simp_all[Em]
theorem IM{L:Lg}(h:CK r L m)(g:DW r n)(I:n<1500000000)(H:3*n+600<fu):Yx fu r=Ac (lsO (LK r)):=by
 have G:=g.1;refine(Ok.eq ?_);rw[Yx];have key:jG fu (r,1)=Ac (wl [] (LK r)):=by
  refine(Ok.eq ?_);rw[jG];refine BY (MW h.wf.by g (by omega) (by omega) (by omega)) ?_;rw[h.IU];refine N7 (λq=>MI ?_) λq=>?_;· have:r=[]:=OF.1 (by omega);rw[this];rfl
  have y:(if(1000:Int)<1 then(1000:Int)else 1)=1:=rfl;have A:(if(0:Int)>1 then(0:Int)else 1)=1:=rfl;have B:((r.length:Int)+1)*(1+1)=((2*r.length+2:Nat):Int):=by omega
  rw[y,A,B];refine Aaq (Aaq (Aaq (Aaq (Aaq (BY (iW h.wf g (by omega) (by omega) (by omega) (by omega)) ?_)))));have F:r≠ []:=λe=>q (by rw[e];rfl);obtain⟨k,E,l,c⟩:=H7 (Jy h F);obtain⟨w,u⟩:=Abk.1 l;have C:=Un E u c;rw[C];refine Xn (X:=List Ay×Int) (λx=> ∃j:Nat,x.2=(j:Int)/\(j<=k/\x.1=[]\/j=k+1/\x.1=wl [] (Ac w))) (λx=>k+2-x.2.toNat) ⟨0,rfl, .inl ⟨by omega,rfl⟩⟩ (by dsimp only;omega) λx nx f _ d=>?_;obtain⟨s,z⟩:=x;obtain⟨j,v,f⟩:=f;dsimp only at v f d;subst v;dsimp only;rcases f with⟨D,rfl⟩|⟨D,rfl⟩
  ·have p:Yy fu (r,Bi r.length (λi=>Bi (2*r.length+2+1) λk=>Em r k i),(0:Int),(j:Int),1-((([]:List Ay).length:Nat):Int),[])=Ac (wl [] (lw r j 0)):=
    N2 h.wf g (by omega) (N:=2*r.length+2) (k:=j) (fu:=fu) (i:=0) (pre:=[]) (by omega) (by omega) (by simp;omega) (by omega);refine P2 (VB (by decide) (Abx (by decide) (BY p (PC (by have:=Zh (pre:=[]) (o:=lw r j 0);simp[Aj];omega) (Aaq (d _ ⟨j+1,by dsimp only;omega,?_⟩ (by dsimp only;omega)))))));dsimp only;rw[Aci];rcases Aal j k with t|t;· left;have:=c j t;unfold Em at this;rw[Alh.1 (Ald.1 this)];exact⟨by omega,rfl⟩
   ·obtain rfl:j=k:=by omega
    right;rw[u];exact⟨rfl,rfl⟩
  ·refine N7 (λ_=>Qb (by show¬((([[]++w]:List Ay).length:Int)<1);simp) (MI rf)) λ_=>MI rf
 refine BY key ?_;cases LK r with
 |none=>exact VB rfl (MI rfl)
 |some w=>exact Qb (by show¬((([[]++w]:List Ay).length:Int)=0);simp) (BY (a:=w) rfl (MI rfl))
theorem Ze{f:Nat}(J:Bg l)(I:DW l n)(hn:n<4294967295)(h0:0<l.length)(C:f<l.length)(M:Em l f 0=Br)(v:∀j,j<f->Em l j 0=Ak)(hf:2*n+400<fu):
  Ok (TL fu l) λr=>r.1.head?=lw l f 0:=by
 have O:=WD;obtain⟨Z,y⟩:=Abk.1 M;have V:=I.1;refine SA (λk (s:List Bool)=>s=(Bi k λi=>fin l (i:Int))) l.length rfl (by omega) (λk s nx C B H=>?_) (λs nx B=>?_);· refine P2 (Aah C (PC (by grind[Az]) (H _ ?_)));grind[Dl,Eg]
 refine P3 (PC (by omega) ?_);have t:s=Cv l 0:=by rw[B];exact AP λi _=>(He l i).symm
 refine Xn (X:=List (List Bool)×Int) (λx=> ∃k:Nat,x.2=k/\k<=f/\x.1=Bi (max k 1) (Cv l)) (λx=>f+1-x.2.toNat) ⟨0,rfl,by omega,by rw[t];rfl⟩ (by omega) λx Y P _ m=>?_;obtain⟨e,z⟩:=x;obtain⟨k,N,T,c⟩:=P;dsimp only at N c m;subst N;have q:((Cv l k).any λb=>b)=Br:=by obtain⟨j,S,E⟩:=Mt J (k:=k) (d:=f-k) (i:=0) (by rw[show k+(f-k)=f by omega];exact M);exact Vz S E
 have u:(Cv l k).length<fu:=by unfold Cv;rw[Az];omega
 have p:∀ {R:List (List Bool)} {kb:Bool->Option (List (List UInt8)×Bool)},R=Bi (k+1) (Cv l)->
   (k<f->Ok (kb Br) λr=>r.1.head?=lw l f 0)->
   Ok (Ab (YQ fu (l,ae (k:Int),ae ((k:Int)+1-(k:Int)),(k:Int),R)) λA=>rG kb A.1 A.2) λr=>r.1.head?=lw l f 0:=λ{R kb} Q F=>by
  rw[Q,show ae (k:Int)=k by omega,show ae ((k:Int)+1-(k:Int))=1 by omega];refine Oz (Rq J I (by omega) h0 (by omega) (by omega)) λr w=>?_;rcases Aal k f with h|h;· rw[w.1 (v k h)];have:=F h;exact this
  ·obtain rfl:k=f:=by omega
   exact(Wl (w.2 Z y)).mono λo U=>U.trans y.symm
 dsimp only;refine P2 (N7 (λC=>?_) λC=>?_)
 ·have W:idx e ((k:Int)-1)=Ac (Cv l (k-1)):=by
   rw[show((k:Int)-1)=((k-1:Nat):Int) by omega,c,Bl (by rw[Az];omega),Bo]
  have hc:=cR (l:=l) (k:=k-1) (fu:=fu) J I (by omega) (by omega);rw[show k-1+1=k by omega]at hc;have a:e++[Cv l k]=Bi (k+1) (Cv l):=by rw[c,show max k 1=k by omega,Dl]
  have L:e.length=k:=by rw[c,Az];omega
  have K:idx (e++[Cv l k]) (k:Int)=Ac (Cv l k):=by rw[a,Bl (by rw[Az];omega),Bo]
  refine Aaq (BY W (BY hc (Abw (BY K (BY (LO u) ?_)))));rw[q];refine P6 rf (Aaq (Aaq (PC ⟨⟨by omega,by omega⟩,rf,by rw[a,Az];omega⟩ ?_)));refine p a λG=>P6 rf (Aaq (m _ ⟨k+1,by dsimp only;omega,by omega,by dsimp only;rw[a,show max (k+1) 1=k+1 by omega]⟩ (by dsimp only;omega)))
 ·obtain rfl:k=0:=by omega
  have a:e=Bi (0+1) (Cv l):=c;have K:idx e ((0:Nat):Int)=Ac (Cv l 0):=by rw[a,Bl (by rw[Az];omega),Bo]
  refine BY K (BY (LO u) ?_);rw[q];refine P6 rf (Aaq (Aaq (PC ⟨⟨by omega,by omega⟩,rf,by rw[a,Az];omega⟩ ?_)));refine p a λG=>P6 rf (Aaq (m _ ⟨1,by dsimp only;omega,by omega,by dsimp only;rw[a];rfl⟩ (by dsimp only;omega)))
theorem Oy{L:Lg}(h:CK r L m)(j:DW r n)(u:n<4294967295)(s:2*n+4000<fu):Ve fu r=Ac (lsO (LK r)):=by
 have key:YP fu (r,1)=Ac (wl [] (LK r)):=by
  refine(Ok.eq ?_);rw[YP,k_ (by omega)];refine Qb (by simp) (BY (Gc h.wf.by j (by omega) (by omega) (by omega)) ?_);rw[h.IU];refine BY (rf) ?_;by_cases g:r=[]
  ·subst g;have:TL fu []=Ac ([],Br):=by
    refine(Ok.eq ?_);have q:=WD;rw[TL];obtain⟨f,rfl⟩:∃f,fu=f+1:=⟨fu-1,by omega⟩;rw[Ad];exact Qb (by simp) (MI rfl)
   refine BY this ?_;exact MI rf
  ·have t:0<r.length:=Aea.2 g;obtain⟨k,i,c,d⟩:=H7 (Jy h g);obtain⟨w,p⟩:=Abk.1 c;rw[Un i p d];refine Oz (Ze h.wf j u t i c d (by omega)) λo e=>?_;rw[p]at e;obtain⟨l,b⟩:=o;cases l with
   |nil=>grind
   |cons y l=>
    cases e;exact PC (by trivial) (Abx (by decide) (VB (by simp) (MI rfl)))
 refine(Ok.eq ?_);refine BY key ?_;cases LK r with
 |none=>exact VB rfl (MI rfl)
 |some w=>exact Qb (by simp[wl]) (BY (a:=w) rfl (MI rfl))
theorem nA{l:Tb}(h:Bg l):∀ {k i:Nat} {w:Ay},lw l k i=Ac w->Au l (i:Int) w=Br
 |0,i,w,e=>by
  unfold lw at e;split at e;· cases e;trivial
  grind
 |k+1,i,w,e=>by
  obtain⟨d,c,e⟩:=Afa e;obtain⟨v,g,rfl⟩:=Pd.1 e;have a:=(Py h i).rg d c;show Au l (Bn l i (UInt8.ofNat d.1.toNat).toNat) v=Br;have b:Bn l i (UInt8.ofNat d.1.toNat).toNat=d.2.2:=by rw[show(UInt8.ofNat d.1.toNat).toNat=d.1.toNat by grind[UInt8.toNat_ofNat']];rw[show Bn l i d.1.toNat=AQ (Ij l i) d.1.toNat by rfl];grind[Ob,Py]
  rw[b];have:=nA h g;grind
theorem ax(h:Bg r)(e:LK r=Ac w):Au r 0 w=Br:=by obtain⟨k,_,e⟩:=Afa e;grind[nA]
theorem MJ{L:Lg}(h:CK r L m)(e:LK r=Dc):r=[]:=IS λd=>by obtain⟨k,c,a,b⟩:=H7 (Jy h d);obtain⟨w,f⟩:=Abk.1 a;grind[Un]
theorem UN:∀ {w:Ay},fX w w=Ak
 | []=>rfl
 |a::w=>by unfold fX;rw[UN];simp
theorem cZ:∀ {w v:Ay},fX w v=Br->fX v w=Ak
 |_,[],h=>by grind[fX]
 | [],_::_,_=>by rfl
 |a::w,b::v,h=>by
  unfold fX at h⊢;simp only[Adw,AS,decide_eq_true_eq,beq_iff_eq,Bool.or_eq_false_iff,Ags,decide_eq_false_iff_not]at h⊢;rcases h with h|⟨rfl,h⟩
  ·grind
  ·exact⟨λk=>by grind, .inr (cZ h)⟩
theorem UM:∀ {w v:Ay},fX w v=Ak->fX v w=Ak->w=v
 | [],[],_,_=>rfl
 |a::_,[],_,h=>by trivial
 | [],_::_,h,_=>by trivial
 |a::w,b::v,h,k=>by
  unfold fX at h k;simp only[Bool.or_eq_false_iff,Ags,decide_eq_false_iff_not,beq_eq_false_iff_ne]at h k;have e:a=b:=by grind
  subst e;rw[UM (h.2.resolve_left λq=>q rfl) (k.2.resolve_left λq=>q rfl)]
def D_(x y:Int):Int:=if x<y then-1 else if y<x then 1 else 0
def FH(x y:Ay):Int:=if fX x y=Br then-1 else if fX y x=Br then 1 else 0
def EJ(x y:Ay):Int:=if D_ x.length y.length=0 then FH x y else D_ x.length y.length
def rO(p q:Option Ay):Int:=match p,q with
 |none,Dc=>0
 |none,Ac _=>1
 |some _,Dc=> -1
 |some w,Ac v=>EJ w v
theorem M_(x y:Int):D_ y x= -D_ x y:=by grind[D_]
theorem BD:D_ x y=0↔x=y:=by grind[D_]
theorem S5(x y:Ay):FH y x= -FH x y:=by
 unfold FH;by_cases h:fX x y=Br;· simp_all[if_neg,cZ,if_pos]
 grind
theorem KG{x y:Ay} :FH x y=0↔x=y:=by
 unfold FH;constructor
 ·grind[fX,UM]
 ·grind[UN]
theorem cz(x y:Ay):EJ y x= -EJ x y:=by
 unfold EJ;rw[M_ x.length y.length];by_cases h:D_ x.length y.length=0;· rw[if_pos h,if_pos (by omega),S5]
 omega
theorem OZ{x y:Ay} :EJ x y=0↔x=y:=by
 unfold EJ;constructor
 ·grind[KG]
 ·rintro rfl;rw[if_pos (BD.2 rfl),KG.2 rfl]
theorem cG(p q:Option Ay):rO q p= -rO p q:=by
 cases p<;>cases q;· rfl
 ·rfl
 ·rfl
 ·exact cz _ _
theorem QC:Vd fu (x,y)=Ac (D_ x y):=by refine(Ok.eq ?_);rw[Vd];unfold D_;have e:∀z,eA fu z=Ac Ak:=λz=>(by simp[eA]);refine BY (e x) (BY (e y) (P6 rf (P6 rf ?_)));exact N7 (λh=>MI (by omega)) λh=>N7 (λk=>MI (by omega)) λk=>MI (by omega)
theorem KH{x y:Ay}{P:Int->Prop}(h:P (FH x y)):Ok (bif fX x y then Ac (-1:Int)else bif !(fX x y||decide (x=y))then Ac (1:Int)else Ac (0:Int)) P:=by
 unfold FH at h;refine PY (λk=>MI (by grind)) λk=>?_;rw[k]at h;by_cases e:x=y;· simp_all[UN,P6,MI]
 ·refine VX (by grind) (MI ?_);grind[fX,absurd,UM]
theorem WA{x y:Ay} :YN fu (x,y)=Ac (FH x y):=by refine(Ok.eq ?_);rw[YN];refine BY (rf) (BY (rf) ?_);rw[decide_eq_true (rf:x=x),decide_eq_true (rf:y=y)];exact P6 rf (P6 rf (KH rf))
theorem Zy{v:Ay} :dS fu (w,v)=Ac (EJ w v):=by
 refine(Ok.eq ?_);rw[dS];refine N7 (λh=>N7 (λk=>MI ?_) λk=>MI ?_) λh=>KH ?_;· have e:D_ w.length v.length= -1:=if_pos k;unfold EJ;rw[e];rfl
 ·have e:D_ w.length v.length=1:=(if_neg k).trans (if_pos (by omega));unfold EJ;rw[e];rfl
 ·unfold EJ;rw[if_pos (BD.2 (by omega))]
open Classical in
noncomputable def OW(a b:Tb):Tb:=if h:∃t m,CK t (λw=>gL a w&& !gL b w) m then h.choose else []
theorem Qv{a b:Tb}{q:Nat}(h:CK r (λw=>gL a w&& !gL b w) q):OW a b=r:=by have e:∃t m,CK t (λw=>gL a w&& !gL b w) m:=⟨r,q,h⟩;unfold OW;rw[dif_pos e];obtain⟨m,c⟩:=e.choose_spec;exact c.unique h
noncomputable def Fb(a b:Tb):Int:=rO (LK (OW a b)) (LK (OW b a))
theorem JW(a b:Tb):Fb b a= -Fb a b:=cG _ _
theorem cH(x y:Int):D_ x y= -1\/D_ x y=0\/D_ x y=1:=by
 unfold D_;split;· exact .inl rfl
 ·split;· exact .inr (.inr rfl)
  ·exact .inr (.inl rf)
theorem cD(x y:Ay):FH x y= -1\/FH x y=0\/FH x y=1:=by
 unfold FH;split;· exact .inl rfl
 ·split;· exact .inr (.inr rfl)
  ·exact .inr (.inl rf)
theorem cC(w v:Ay):EJ w v= -1\/EJ w v=0\/EJ w v=1:=by
 unfold EJ;split;· exact cD _ _
 ·exact cH _ _
theorem ic(c:2<fu):ew fu [x,y]=Ac (if x=0 then y else x):=by
 refine(Ok.eq ?_);rw[ew];obtain⟨f,rfl⟩:∃f,fu=f+3:=⟨fu-3,by omega⟩;rw[Ad];refine VB (by simp) (Aah (by simp) (N7 (λh=>MI ?_) λh=>?_));· grind
 have a:x=0:=IS h;rw[Ad];refine VB (by simp) (Aah (by simp) (N7 (λh=>MI ?_) λh=>?_));· simp_all
 have b:y=0:=IS h;simp_all[Ad,Qb,MI,if_pos]
end
section
variable {a b : Tb} {L M : Lg} {m p fu : Nat} (ha : CK a L m) (hb : CK b M p) (hm : (m + 2) * (p + 2) <= 1000000000) (hF : 1000000000000 < fu)
include ha hb hm hF
theorem HF:CK (OW a b) (λw=>L w&& !M w) (GY a b)/\GY a b<=1000000000/\YO fu (a,b)=Ac (OW a b)/\W0 fu (a,b)=Ac (OW a b):=by
 have e:=Gy (fu:=fu) ha hb (by omega) hF;have j:GY a b<=(m+2)*(p+2):=Abv (by have:=ha.len;omega) (by have:=hb.len;omega);obtain⟨r,g,c⟩:=Oo e;obtain⟨t,h,i⟩:=MC e;have d:=Qv c;have f:=Qv i;rw[d];refine⟨?_,by omega,g,?_⟩;· rw[ha.gL,hb.gL]at c;omega
 grind
theorem Fu:YM fu (a,b)=Ac (Fb a b):=by
 have c:=Gy (fu:=fu) ha hb (by omega) hF;have f:(p+2)*(m+2)<=1000000000:=by grind
 obtain⟨d,k,h,_⟩:=HF ha hb hm hF;obtain⟨e,o,i,_⟩:=HF hb ha f hF;have g:∀ {l:Tb} {K:Lg} {q:Nat},CK l K q->N0 l->DW l (max (max m p) 256)->Q4 fu l=Ac l:=λ{l K q} d e j=>by rw[Gc e j c.hn c.hf (by omega),d.IU]
 refine(Ok.eq ?_);refine BY (g ha c.ha c.sa) (BY (g hb c.hb c.sb) (BY h (BY (Oy (n:=max (GY a b) 256) d (d.wf.sh (Aam d.len (by omega)) (by omega)) (by omega) (by omega)) (BY i (BY (Oy (n:=max (GY b a) 256) e (e.wf.sh (Aam e.len (by omega)) (by omega)) (by omega) (by omega)) ?_)))));unfold Fb;cases LK (OW a b)with
 |none=>cases LK (OW b a)with
  |none=>exact VX rfl (VX rfl (MI rfl))
  |some v=>exact VX rfl (P6 rfl (P6 rfl (VX rfl (MI rfl))))
 |some w=>cases LK (OW b a)with
  |none=>exact P6 rfl (VX rfl (MI rfl))
  |some v=>exact P6 rfl (P6 rfl (P6 rfl (BY QC (BY WA (BY (ic (by omega)) (MI rfl))))))
theorem b6{w v:Ay}(h1:LK (OW a b)=Ac w)(h2:LK (OW b a)=Ac v):w≠v:=λe=>by
 have c:(p+2)*(m+2)<=1000000000:=by grind
 obtain⟨d,_⟩:=HF ha hb hm hF;obtain⟨f,_⟩:=HF hb ha c hF;have g:=ax d.wf h1;have h:=ax f.wf h2;rw[d.lg]at g;rw[f.lg]at h;grind
theorem JT:dR fu (a,b)=Ac (Fb a b):=by
 have e:(p+2)*(m+2)<=1000000000:=by rw[Ada];exact hm
 obtain⟨c,o,_,g⟩:=HF ha hb hm hF;obtain⟨d,q,_,i⟩:=HF hb ha e hF;have ne:=λw v=>b6 ha hb hm hF (w:=w) (v:=v);refine(Ok.eq ?_);rw[dR];refine BY g (BY (IM (n:=max (GY a b) 256) c (c.wf.sh (Aam c.len (by omega)) (by omega)) (by omega) (by omega)) (BY i (BY (IM (n:=max (GY b a) 256) d (d.wf.sh (Aam d.len (by omega)) (by omega)) (by omega) (by omega)) ?_)));unfold Fb;cases j:LK (OW a b)with
 |none=>cases f:LK (OW b a)with
  |none=>exact VX rfl (VX rfl (MI rfl))
  |some v=>exact VX rfl (P6 rfl (P6 rfl (MI rfl)))
 |some w=>cases f:LK (OW b a)with
  |none=>exact P6 rfl (VX rfl (VX rfl (MI rfl)))
  |some v=>
   have k:EJ w v≠0:=λh=>ne w v j f (OZ.1 h);have l:=cC w v;refine P6 rfl (VX rfl (P6 rfl (BY Zy (N7 (λh=>MI ?_) λh=>MI ?_))));· have h:EJ w v<0:=h;show-1=EJ w v;omega
   ·have h:¬EJ w v<0:=h;show 1=EJ w v;omega
theorem KI:Fb a b=0↔a=b:=by
 have c:(p+2)*(m+2)<=1000000000:=by grind
 obtain⟨e,_⟩:=HF ha hb hm hF;obtain⟨f,_⟩:=HF hb ha c hF;have ne:=λw v=>b6 ha hb hm hF (w:=w) (v:=v);constructor;· unfold Fb;cases g:LK (OW a b)with
  |none=>cases d:LK (OW b a)with
   |none=>
    intro _;have i:=e.Gx.1 (MJ e g);have j:=f.Gx.1 (MJ f d);refine ha.unique (hb.congr (funext λw=>?_));have n:=congrFun i w;have o:=congrFun j w;cases k:L w<;>cases l:M w<;>simp_all
   |some v=>intro h;cases h
  |some w=>cases d:LK (OW b a)with
   |none=>intro h;cases h
   |some v=>intro h;exact absurd (OZ.1 h) (ne w v g d)
 ·grind[JW]
end
section
variable{fu:Nat}{a b:Bool}{x y:Sc}{l:List Int}{P:Int->Prop}{k m p:Nat}
theorem Qz{x y:List Sp×List Sp}(N:Lw x)(O:Lw y)(S:x.1.length+y.1.length<=11/\x.2.length+y.2.length<=11)(F:20<fu):
  ∃c,Lz fu (x,y)=Ac c/\Lz fu (y,x)=Ac (-c)/\(c=0->(∀n,A8 x n↔A8 y n)/\∀n,A6 x n↔A6 y n):=by
 obtain⟨p,_,i,t,V,W⟩:=Ga (fu:=fu) (gu:=200) N O S F (by omega);obtain⟨q,_,j,B,X,Y⟩:=Ga (fu:=fu) (gu:=200) O N (by omega) F (by omega);have T:=t.sm (by omega) (by omega);have U:=B.sm (by omega) (by omega);obtain⟨Q,v,f,z,_,ev,P⟩:=H8 (fu:=fu) (gu:=200) T F (by omega);obtain⟨R,w,g,C,_,o,lw⟩:=H8 (fu:=fu) (gu:=200) U F (by omega);have A:∀u,C6 Q u->C6 x u/\ -1000000000000000<=u/\u<=1000000000000000:=λu k=>by
  rcases(E3 z u).1 k with⟨a,b⟩|⟨a,b⟩;· have b:=(t.A8 _).1 b;exact⟨.inl ⟨a,b.1.1.1⟩,by omega⟩
  ·have b:=(t.A6 _).1 b;have c:=b.1.1.1;rw[Im a]at c b;exact⟨.inr ⟨a,c⟩,b.2⟩
 have D:∀u,C6 R u->¬C6 x u/\ -1000000000000000<=u/\u<=1000000000000000:=λu k=>by
  rcases(E3 C u).1 k with⟨a,b⟩|⟨a,b⟩
  ·have b:=(B.A8 _).1 b;refine⟨λk=>?_,by omega⟩;rcases k with⟨_,k⟩|⟨k,_⟩;· exact b.1.2 ⟨k,b.2⟩
   omega
  ·have b:=(B.A6 _).1 b;have K:=b.2;rw[Im a]at K;refine⟨λk=>?_,K⟩;rcases k with⟨k,_⟩|⟨_,k⟩;· omega
   ·exact b.1.2 ⟨by grind[Im],b.2⟩
 have E:∀u,C6 Q u\/C6 R u-> -2000000000000000<=u/\u<=2000000000000000:=λu k=>k.elim (λk=>by have:=(A u k).2;omega) (λk=>by have:=(D u k).2;omega);have m:∀c,Ok (Lz fu (x,y)) (λr=>r=c)->Lz fu (x,y)=Ac c:=λc k=>k.eq;have d:∀c,Ok (Lz fu (y,x)) (λr=>r=c)->Lz fu (y,x)=Ac c:=λc k=>k.eq;have nil:∀ {r H:List Sp×List Sp},Ei r (A8 r) (A6 r)->Ei H (A8 r) (A6 r)->(∀u,¬C6 H u)->r=([],[]):=λ{r H} h M no=>(h.unique M).trans ((Agj M).1 no);cases f with
 |false=>
  cases g with
  |false=>
   refine⟨0,m _ ?_,d _ ?_,λ_=>?_⟩;· exact BY i (BY ev (BY j (BY o (VX rf (VX rf (MI rf))))))
   ·exact BY j (BY o (BY i (BY ev (VX rf (VX rf (MI rf))))))
   ·have a:=(Km t).1 (nil (t.self (λn h=>h.1.2) (λn h=>h.1.2)) z (P.no rfl).2);have b:=(Km B).1 (nil (B.self (λn h=>h.1.2) (λn h=>h.1.2)) C (lw.no rfl).2);exact⟨λn=>⟨a.1 n,b.1 n⟩,λn=>⟨a.2 n,b.2 n⟩⟩
  |true=>
   refine⟨1,m _ ?_,d _ ?_,λh=>by omega⟩;· exact BY i (BY ev (BY j (BY o (VX rf (P6 rf (P6 rf (P6 rf (MI rf))))))))
   ·exact BY j (BY o (BY i (BY ev (P6 rf (VX rf (MI rf))))))
 |true=>
  have I:=P.yes rfl;cases g with
  |false=>
   refine⟨-1,m _ ?_,d _ ?_,λh=>by omega⟩;· exact BY i (BY ev (BY j (BY o (P6 rf (VX rf (MI rf))))))
   ·exact BY j (BY o (BY i (BY ev (VX rf (P6 rf (P6 rf (P6 rf (MI rf))))))))
  |true=>
   have J:=lw.yes rfl;have L:=VR (fu:=fu) (E v (.inl I.1)) (E w (.inr J.1));have s:=VR (fu:=fu) (E w (.inr J.1)) (E v (.inl I.1));have ne:v≠w:=λe=>(D w J.1).1 (e▸(A v I.1).1);by_cases c:Cw v w
   ·have G:¬Cw w v:=λk=>by unfold Cw ab at c k;omega
    refine⟨-1,m _ ?_,d _ ?_,λh=>by omega⟩;· exact BY i (BY ev (BY j (BY o (P6 rf (P6 rf (VX rf (BY L (VX (decide_eq_true c) (MI rf)))))))))
    ·exact BY j (BY o (BY i (BY ev (P6 rf (P6 rf (VX rf (BY s (P6 (decide_eq_false G) (MI rf)))))))))
   ·have G:Cw w v:=IS λk=>ne (MB c k);refine⟨1,m _ ?_,d _ ?_,λh=>by omega⟩;· exact BY i (BY ev (BY j (BY o (P6 rfl (P6 rfl (VX rfl (BY L (P6 (decide_eq_false c) (MI rfl)))))))))
    ·exact BY j (BY o (BY i (BY ev (P6 rf (P6 rf (VX rf (BY s (VX (decide_eq_true G) (MI rf)))))))))
def Dj(a b:Bool):Int:=if a=b then 0 else if a=Br then-1 else 1
theorem HM(a b:Bool):Dj b a= -Dj a b:=by cases a<;>cases b<;>rfl
theorem ER:Dj a b=0↔a=b:=by cases a<;>cases b<;>decide
theorem QD:dT fu (a,b)=Ac (Dj a b):=by cases a<;>cases b<;>rfl
def fz:List Int->Int
 | []=>0
 |x::l=>if x=0 then fz l else x
theorem Uy:∀l:List Int,fz (l.map λx=> -x)= -fz l
 | []=>rfl
 |x::l=>by
  show(if-x=0 then fz (l.map λx=> -x)else-x)= -(if x=0 then fz l else x);by_cases h:x=0;· rw[if_pos (by omega),if_pos h,Uy l]
  omega
theorem Fq:∀ {l:List Int},fz l=0->∀x∈l,x=0
 | [],_,x,a=>by grind
 |y::l,h,x,a=>by
  have h:(if y=0 then fz l else y)=0:=h;by_cases k:y=0
  ·rw[if_pos k]at h;rcases Aao.1 a with rfl|a;· omega
   ·exact Fq h x a
  omega
theorem Sz(i:l.length<fu)(h:P (fz l)):
  Ok (Ad fu (λ(d:Nat) c=>bif Ds ((d:Int)<(l.length:Int))then Ab (idx l (d:Int)) λg=>bif Ds (g≠(0:Int))then Ac g else c (d+1)else Ac (0:Int)) 0) P:=by
 refine TV (λk=>fz (l.drop k)=fz l) l.length rf i (λk nx f a j=>?_) (λnx a=>?_)
 ·have e:fz (l.drop k)=if l[k]=0 then fz (l.drop (k+1))else l[k]:=by rw[Aar f];rfl
  refine P2 (Aah f (N7 (λb=>MI ?_) λb=>j ?_));all_goals grind
 simp_all[fz,Aec,P3,MI]
theorem bD{K:Option Int}(h1:Dj a b≠0->P (Dj a b))(h2:Dj a b=0->Ok K P):
  Ok (bif Ds ((a::[b])=(Br::[Ak]))then Ac (-1:Int)else bif Ds ((a::[b])=(Ak::[Br]))then Ac (1:Int)else K) P:=by
 cases a<;>cases b;· exact P6 rfl (P6 rfl (h2 rfl))
 ·exact P6 rf (VX rf (MI (h1 (by decide))))
 ·exact VX rf (MI (h1 (by decide)))
 ·exact P6 rf (P6 rf (h2 rf))
theorem GI{gu H:Nat}(d:Il k m x)(g:Il H p y)(hk:k+H<=11)(t:(m+2)*(p+2)<=100000000)(r:1000000000000<fu)(F:1000000000000<gu):
  ∃c,TJ fu (x,y)=Ac c/\Yw gu (x,y)=Ac c/\TJ fu (y,x)=Ac (-c)/\(c=0->x=y):=by
 have q1:m<=(m+2)*(p+2):=Aam (by omega:m<=(m+2)*1) (Abv (Aaf _) (by omega));have q2:p<=(m+2)*(p+2):=Aam (by omega:p<=1*(p+2)) (Abv (by omega) (Aaf _));have G:(p+2)*(m+2)<=100000000:=by rw[Ada];exact t
 have x1:=d.n1;have x2:=d.n2;have y1:=g.n1;have y2:=g.n2;have w:=d.sc (by omega:k<=12);have A:=g.sc (by omega:H<=12);have L:dL fu x=Ac Br:=by obtain⟨b,e,j⟩:=HW (fu:=fu) w (by omega) r;rw[e,j.2 ⟨d.nu,d.ln.wf,d.ln.can⟩]
 have M:dL fu y=Ac Br:=by obtain⟨b,e,j⟩:=HW (fu:=fu) A (by omega) r;rw[e,j.2 ⟨g.nu,g.ln.wf,g.ln.can⟩]
 have T:NW gu x=Ac Br:=by obtain⟨b,e,j⟩:=N5 (fu:=gu) w (by omega) F;rw[e,j.2 ⟨d.nu,d.ln.wf,d.ln.can⟩]
 have U:NW gu y=Ac Br:=by obtain⟨b,e,j⟩:=N5 (fu:=gu) A (by omega) F;rw[e,j.2 ⟨g.nu,g.ln.wf,g.ln.can⟩]
 obtain⟨n,K,B,zn⟩:=Qz (fu:=fu) w.sm A.sm (by omega) (by omega);obtain⟨S,P,C⟩:=S1 (fu:=fu) (gu:=gu) w.sm A.sm (by omega) (by omega) (by omega);obtain rfl:n=S:=Abs (K.symm.trans C);have J:=Fu d.ln g.ln (Aam t (by decide)) r;have o:=Fu g.ln d.ln (Aam G (by decide)) r;have q:=JT d.ln g.ln (Aam t (by decide)) F;have O:=KI d.ln g.ln (Aam t (by decide)) r;have sl:=JW x.2.2.2.2 y.2.2.2.2;generalize Fb x.2.2.2.2 y.2.2.2.2=l at J q O sl;generalize Fb y.2.2.2.2 x.2.2.2.2=l' at o sl;subst sl;have i:∀ {u v:Sc} {n l:Int},dL fu u=Ac Br->dL fu v=Ac Br->Lz fu (u.2.2.2.1,v.2.2.2.1)=Ac n->YM fu (u.2.2.2.2,v.2.2.2.2)=Ac l->TJ fu (u,v)=Ac (fz [Dj u.1 v.1,Dj u.2.1 v.2.1,Dj u.2.2.1 v.2.2.1,n,l]):=λ{u v n l} s E Q R=>by
  refine(Ok.eq ?_);rw[TJ];refine BY s (P6 rfl (BY E (P6 rfl ?_)));obtain⟨f,rfl⟩:∃f,fu=f+4:=⟨fu-4,by omega⟩;rw[Ad];refine VB (by decide) (PC (by decide) (BY (a:=(u.1,v.1)) rfl (bD (λh=>(if_neg h).symm) λD=>Abx (by decide) ?_)));rw[Ad];refine VB (by decide) (PC (by decide) (BY (a:=(u.2.1,v.2.1)) rfl (bD (λh=>((if_pos D).trans (if_neg h)).symm) λs=>Abx (by decide) ?_)));rw[Ad];refine VB (by decide) (PC (by decide) (BY (a:=(u.2.2.1,v.2.2.1)) rfl (bD (λh=>((if_pos D).trans ((if_pos s).trans (if_neg h))).symm) λE=>Abx (by decide) ?_)));rw[Ad];have I:fz [Dj u.1 v.1,Dj u.2.1 v.2.1,Dj u.2.2.1 v.2.2.1,n,l]=fz [n,l]:=(if_pos D).trans ((if_pos s).trans (if_pos E));refine Qb (by decide) (BY Q (N7 (λh=>MI ?_) λh=>BY R (MI ?_)));· rw[I];exact(if_neg h).symm
  ·rw[I];refine Eq.trans ?_ (if_pos (IS h)).symm;show l=if l=0 then 0 else l;split;· assumption
   ·rfl
 refine⟨fz [Dj x.1 y.1,Dj x.2.1 y.2.1,Dj x.2.2.1 y.2.2.1,n,l],i L M K J,?_,?_,λh=>?_⟩;· refine(Ok.eq ?_);rw[Yw];exact BY T (P6 rf (BY U (P6 rf (BY QD (BY QD (BY QD (BY P (BY q (Sz (l:=[Dj x.1 y.1,Dj x.2.1 y.2.1,Dj x.2.2.1 y.2.2.1,n,l]) (by simp;omega) rf)))))))))
 ·rw[i M L B o,<-Uy];simp only[Aat,Aee];rw[HM x.1,HM x.2.1,HM x.2.2.1]
 ·have z:=Fq h;have V:=ER.1 (z (Dj x.1 y.1) (by simp));have W:=ER.1 (z (Dj x.2.1 y.2.1) (by simp));have X:=ER.1 (z (Dj x.2.2.1 y.2.2.1) (by simp));have N:=zn (z n (by simp));have Y:=O.1 (z l (by simp));have Z:=d.nu.unique (g.nu.congr (λn=>(N.1 n).symm) λn=>(N.2 n).symm);exact Aby V (Aby W (Aby X (Aby Z Y)))
noncomputable def E8(x y:Sc):Int:=(Yw 2000000000000 (x,y)).getD 0
theorem Gi{j:Nat}(e:Il k m x)(f:Il j p y)(i:k+j<=11)(b:(m+2)*(p+2)<=100000000)(a:1000000000000<fu):
  TJ fu (x,y)=Ac (E8 x y)/\Yw fu (x,y)=Ac (E8 x y)/\E8 y x= -E8 x y/\(E8 x y=0->x=y):=by
 have d:(p+2)*(m+2)<=100000000:=by rw[Ada];exact b
 obtain⟨c,g,n,o,q⟩:=GI (fu:=fu) (gu:=2000000000000) e f i b a (by decide);obtain⟨w,r,s,_⟩:=GI (fu:=fu) (gu:=fu) e f i b a a;obtain⟨l,t,u,_⟩:=GI (fu:=fu) (gu:=2000000000000) f e (by omega) d a (by decide);have h:E8 x y=c:=by unfold E8;rw[n];rfl
 have v:E8 y x=l:=by unfold E8;rw[u];rfl
 rw[h,v];exact⟨g,by rw[s,<-r,g],Abs (t.symm.trans o),q⟩
def A7{α:Type}(c:α->α->Int):List α->List α->Int
 | [],[]=>0
 | [],_::_=> -1
 |_::_,[]=>1
 |x::a,y::b=>if c x y=0 then A7 c a b else c x y
theorem Gj{α:Type}{c:α->α->Int} :∀ {a b:List α},(∀x∈a,∀y∈b,c y x= -c x y)->A7 c b a= -A7 c a b
 | [],[],_=>rfl
 | [],_::_,_=>rfl
 |_::_,[],_=>rfl
 |x::a,y::b,h=>by have g:=Gj (a:=a) (b:=b) λu d v f=>h u (Aag _ d) v (Aag _ f);grind[A7]
theorem D9{α:Type}{c:α->α->Int} :∀ {a b:List α},(∀x∈a,∀y∈b,c x y=0->x=y)->A7 c a b=0->a=b
 | [],[],_,_=>rfl
 | [],_::_,_,h=>by cases h
 |_::_,[],_,h=>by cases h
 |x::a,y::b,h,e=>by have i:=D9 (a:=a) (b:=b) λu f v g=>h u (Aag _ f) v (Aag _ g);grind[A7,absurd]
def JU(R:Vl->Vl->Int)(x y:Bs):Int:=fz [R x.1 y.1,R x.2 y.2]
def DL(R:Vl->Vl->Int)(c b:Ig):Int:=fz [D_ c.1.length b.1.length,Dj (Ds (0<c.2.length)) (Ds (0<b.2.length)),A7 (JU R) (AK c) (AK b)]
def S6(R:Vl->Vl->Int)(f a:Ay×Int×Bs):Int:=fz [FH f.1 a.1,D_ f.2.1 a.2.1,JU R f.2.2 a.2.2]
noncomputable def S7(R:Vl->Vl->Int)(k a:Tb×Bs):Int:=fz [Fb k.1 a.1,JU R k.2 a.2]
noncomputable def Et(R:Vl->Vl->Int)(c a:BC):Int:=fz [A7 (S6 R) c.1 a.1,A7 (S7 R) c.2 a.2]
noncomputable def BA:Nat->Vl->Vl->Int
 |0,_,_=>0
 |d+1,a,b=>fz [Dj a.any b.any,E8 a.sc b.sc,A7 (DL (BA d)) a.lists b.lists,A7 (Et (BA d)) a.structs b.structs]
theorem Kw{a:List Int}(h:a=l.map λx=> -x):fz a= -fz l:=by rw[h,Uy]
end
section
variable {R : Vl -> Vl -> Int} {d : Nat} (hs : ∀ {a b : Vl}, SV d a -> SV d b -> R b a = - R a b /\ (R a b = 0 -> a = b))
include hs
theorem HK{x y:Bs}(f:SW d x)(g:SW d y):JU R y x= -JU R x y/\(JU R x y=0->x=y):=by have c:=hs f.1 g.1;have e:=hs f.2 g.2;refine⟨Kw (by simp_all),λh=>?_⟩;have z:=Fq h;exact Aby (c.2 (z _ (by simp))) (e.2 (z _ (by simp)))
theorem O4{c f:Ig}(hc:∀x∈AK c,SW d x)(g:∀x∈AK f,SW d x):DL R f c= -DL R c f/\(DL R c f=0->c=f):=by
 refine⟨Kw ?_,λh=>?_⟩;· simp only[Aat,Aee];grind[M_,HM,Gj,HK]
 ·have z:=Fq h;have l:=BD.1 (z (D_ c.1.length f.1.length) (by simp));have k:=D9 (λx i y j=>(HK hs (hc x i) (g y j)).2) (z (A7 (JU R) (AK c) (AK f)) (by simp));have:=Alb k (by omega);grind
theorem cJ{f c:Ay×Int×Bs}(h:SW d f.2.2)(e:SW d c.2.2):S6 R c f= -S6 R f c/\(S6 R f c=0->f=c):=by
 have k:=HK hs h e;refine⟨Kw ?_,λh=>?_⟩;· grind[S5,M_]
 ·have z:=Fq h;have g:=KG.1 (z (FH f.1 c.1) (by simp));have i:=BD.1 (z (D_ f.2.1 c.2.1) (by simp));have j:=k.2 (z (JU R f.2.2 c.2.2) (by simp));grind
theorem cM{k c:Tb×Bs}(l:CK k.1 (Au k.1 0) 14641)(f:CK c.1 (Au c.1 0) 14641)(h:SW d k.2)(e:SW d c.2):S7 R c k= -S7 R k c/\(S7 R k c=0->k=c):=by
 have q:=HK hs h e;refine⟨Kw ?_,λh=>?_⟩;· grind[JW]
 ·have z:=Fq h;have g:=(KI (fu:=2000000000000) l f (by simp) (by decide)).1 (z (Fb k.1 c.1) (by simp));exact Aby g (q.2 (z (JU R k.2 c.2) (by simp)))
theorem O0{c j:BC}(b:NS c)(b':NS j)(g:DB c)(m:DB j)(hc:∀x∈Bm c,SW d x)(l:∀x∈Bm j,SW d x):Et R j c= -Et R c j/\(Et R c j=0->c=j):=by
 have f:=λx (e:x∈c.1) y (i:y∈j.1)=>cJ hs (hc _ (AT.2 (.inl (By.2 ⟨x,e,rfl⟩)))) (l _ (AT.2 (.inl (By.2 ⟨y,i,rfl⟩))));have k:=λx (e:x∈c.2) y (i:y∈j.2)=>cM hs ⟨(g.1 x e).2.1,(g.1 x e).2.2,rfl,b.each x e⟩ ⟨(m.1 y i).2.1,(m.1 y i).2.2,rfl,b'.each y i⟩ (hc _ (AT.2 (.inr (By.2 ⟨x,e,rfl⟩)))) (l _ (AT.2 (.inr (By.2 ⟨y,i,rfl⟩))));refine⟨Kw ?_,λh=>?_⟩;· simp only[Aat,Aee];grind[Gj]
 ·have z:=Fq h;exact Aby (D9 (λx e y i=>(f x e y i).2) (z (A7 (S6 R) c.1 j.1) (by simp))) (D9 (λx e y i=>(k x e y i).2) (z (A7 (S7 R) c.2 j.2) (by simp)))
end
section
variable{α:Type}{fu:Nat}{b:List α}{c:α->α->Int}{a:List α}{f:α->α->Option Int}{g1 g2:α×α->Option (Int×α×α)}{x y:α}{g3:α×α->Option (Int×α×α)}{h:Int}{E:Option Int}{P:Int->Prop}
theorem Ait{a b:Vl}(h1:a.any=b.any)(h2:a.sc=b.sc)(h3:a.lists=b.lists)(c:a.structs=b.structs):a=b:=by cases a;cases b;grind[Vl.any,Vl.sc,Vl.lists,Vl.structs]
theorem HL:∀ {d:Nat} {a b:Vl},SV d a->SV d b->BA d b a= -BA d a b/\(BA d a b=0->a=b)
 |0,_,_,h,_=>h.1.elim
 |d+1,a,b,f,g=>by
  have k:=DD f.1.1 f.2.1.sc;have sb:=DD g.1.1 g.2.1.sc;obtain⟨_,_,i,j⟩:=Gi (fu:=2000000000000) k sb (by decide) (by decide) (by decide);have l:=λx (c:x∈a.lists) y (e:y∈b.lists)=>O4 HL (f.lv c) (g.lv e);have s:=λx (c:x∈a.structs) y (e:y∈b.structs)=>O0 HL (f.1.2.2.1.2 x c) (g.1.2.2.1.2 y e) (f.2.1.st x c).2 (g.2.1.st y e).2 (f.sv c) (g.sv e);refine⟨Kw ?_,λh=>?_⟩;· simp only[Aat,Aee];rw[<-HM,i,<-Gj λx c y e=>(l x c y e).1,<-Gj λx c y e=>(s x c y e).1]
  ·have z:=Fq h;exact Ait (ER.1 (z (Dj a.any b.any) (by simp))) (j (z (E8 a.sc b.sc) (by simp))) (D9 (λx c y e=>(l x c y e).2) (z (A7 (DL (BA d)) a.lists b.lists) (by simp))) (D9 (λx c y e=>(s x c y e).2) (z (A7 (Et (BA d)) a.structs b.structs) (by simp)))
theorem E9(o:a.length<fu)(h:∀x∈a,∀y∈b,f x y=Ac (c x y)):
  Ok (Ad fu (λ(g:Nat) l=>bif Ds ((g:Int)<(a.length:Int))then Ab (idx a (g:Int)) λq=>bif Ds ((b.length:Int)<=(g:Int))then Ac (1:Int)else Ab (idx b (g:Int)) λs=>Ab (f q s) λm=>bif Ds (m≠(0:Int))then Ac m else l (g+1)else bif Ds ((a.length:Int)<(b.length:Int))then Ac (-1:Int)else Ac (0:Int)) 0) λr=>r=A7 c a b:=by
 refine TV (λk=>k<=b.length/\A7 c (a.drop k) (b.drop k)=A7 c a b) a.length ⟨Abg _,rf⟩ o (λk nx j d p=>?_) (λnx d=>?_)
 ·obtain⟨n,d⟩:=d;rw[Aar j]at d;refine P2 (Aah j (N7 (λe=>MI ?_) λe=>?_));· rw[Afc (by omega:b.length<=k)]at d;exact d
  ·have e:k<b.length:=by omega
   rw[Aar e]at d;refine Aah e (BY (h _ (AN j) _ (AN e)) (N7 (λi=>MI ?_) λi=>p ⟨by omega,?_⟩));· rw[<-d];exact(if_neg i).symm
   ·rw[<-d];exact(if_pos (IS i)).symm
 ·obtain⟨n,d⟩:=d;rw[Aec]at d;refine P3 (N7 (λe=>MI ?_) λe=>MI ?_);· rw[Aar (by omega:a.length<b.length)]at d;exact d
  ·rw[Afc (by omega:b.length<=a.length)]at d;exact d
theorem Kz{d e:Int}(h1:g1 (x,y)=Ac (d,x,y))(h2:g2 (x,y)=Ac (e,x,y)):
  Ok (bif Ds ((0:Int)<(↑2:Int))then Ah ((0:Int)<=(0:Int)/\(0:Int)<(↑2:Int))<|Ab (g1 (x,y)) λa=>bif Ds (a.1≠(0:Int))then Ac (a.1,a.2.1,a.2.2)else Aa (Lm.i64) ((0:Int)+(1:Int))<|bif Ds ((0:Int)+(1:Int)<(↑2:Int))then Ah ((0:Int)<=(0:Int)+(1:Int)/\(0:Int)+(1:Int)<(↑2:Int))<|Ab (g2 (a.2.1,a.2.2)) λb=>bif Ds (b.1≠(0:Int))then Ac (b.1,b.2.1,b.2.2)else Aa (Lm.i64) ((0:Int)+(1:Int)+(1:Int))<|bif Ds ((0:Int)+(1:Int)+(1:Int)<(↑2:Int))then Ah ((0:Int)<=(0:Int)+(1:Int)+(1:Int)/\(0:Int)+(1:Int)+(1:Int)<(↑2:Int))<|none else Ac ((0:Int),b.2.1,b.2.2)else Ac ((0:Int),a.2.1,a.2.2)else Ac ((0:Int),x,y)) λr=>r.1=fz [d,e]:=by
 refine VB (by simp) (PC (by simp) (BY h1 (N7 (λk=>MI (if_neg k).symm) λc=>Abx (by simp) ?_)));refine VB (by simp) (PC (by simp) (BY h2 (N7 (λk=>MI ((if_pos (IS c)).trans (if_neg k)).symm) λf=>Abx (by simp) ?_)));exact Qb (by simp) (MI ((if_pos (IS c)).trans (if_pos (IS f))).symm)
theorem OS{f g:Int}(h1:g1 (x,y)=Ac (f,x,y))(h2:g2 (x,y)=Ac (g,x,y))(h3:g3 (x,y)=Ac (h,x,y)):
  Ok (bif Ds ((0:Int)<(↑3:Int))then Ah ((0:Int)<=(0:Int)/\(0:Int)<(↑3:Int))<|Ab (g1 (x,y)) λa=>bif Ds (a.1≠(0:Int))then Ac (a.1,a.2.1,a.2.2)else Aa (Lm.i64) ((0:Int)+(1:Int))<|bif Ds ((0:Int)+(1:Int)<(↑3:Int))then Ah ((0:Int)<=(0:Int)+(1:Int)/\(0:Int)+(1:Int)<(↑3:Int))<|Ab (g2 (a.2.1,a.2.2)) λb=>bif Ds (b.1≠(0:Int))then Ac (b.1,b.2.1,b.2.2)else Aa (Lm.i64) ((0:Int)+(1:Int)+(1:Int))<|bif Ds ((0:Int)+(1:Int)+(1:Int)<(↑3:Int))then Ah ((0:Int)<=(0:Int)+(1:Int)+(1:Int)/\(0:Int)+(1:Int)+(1:Int)<(↑3:Int))<|Ab (g3 (b.2.1,b.2.2)) λc=>bif Ds (c.1≠(0:Int))then Ac (c.1,c.2.1,c.2.2)else Aa (Lm.i64) ((0:Int)+(1:Int)+(1:Int)+(1:Int))<|bif Ds ((0:Int)+(1:Int)+(1:Int)+(1:Int)<(↑3:Int))then Ah ((0:Int)<=(0:Int)+(1:Int)+(1:Int)+(1:Int)/\(0:Int)+(1:Int)+(1:Int)+(1:Int)<(↑3:Int))<|none else Ac ((0:Int),c.2.1,c.2.2)else Ac ((0:Int),b.2.1,b.2.2)else Ac ((0:Int),a.2.1,a.2.2)else Ac ((0:Int),x,y)) λr=>r.1=fz [f,g,h]:=by
 refine VB (by simp) (PC (by simp) (BY h1 (N7 (λk=>MI (if_neg k).symm) λd=>Abx (by simp) ?_)));refine VB (by simp) (PC (by simp) (BY h2 (N7 (λk=>MI ((if_pos (IS d)).trans (if_neg k)).symm) λe=>Abx (by simp) ?_)));refine VB (by simp) (PC (by simp) (BY h3 (N7 (λk=>MI ((if_pos (IS d)).trans ((if_pos (IS e)).trans (if_neg k))).symm) λi=>Abx (by simp) ?_)));exact Qb (by simp) (MI ((if_pos (IS d)).trans ((if_pos (IS e)).trans (if_pos (IS i)))).symm)
theorem XY{g4:α×α->Option (Int×α×α)}{i j l:Int}(h1:g1 (x,y)=Ac (h,x,y))(h2:g2 (x,y)=Ac (i,x,y))(h3:g3 (x,y)=Ac (j,x,y))(m:g4 (x,y)=Ac (l,x,y)):
  Ok (bif Ds ((0:Int)<(↑4:Int))then Ah ((0:Int)<=(0:Int)/\(0:Int)<(↑4:Int))<|Ab (g1 (x,y)) λa=>bif Ds (a.1≠(0:Int))then Ac (a.1,a.2.1,a.2.2)else Aa (Lm.i64) ((0:Int)+(1:Int))<|bif Ds ((0:Int)+(1:Int)<(↑4:Int))then Ah ((0:Int)<=(0:Int)+(1:Int)/\(0:Int)+(1:Int)<(↑4:Int))<|Ab (g2 (a.2.1,a.2.2)) λb=>bif Ds (b.1≠(0:Int))then Ac (b.1,b.2.1,b.2.2)else Aa (Lm.i64) ((0:Int)+(1:Int)+(1:Int))<|bif Ds ((0:Int)+(1:Int)+(1:Int)<(↑4:Int))then Ah ((0:Int)<=(0:Int)+(1:Int)+(1:Int)/\(0:Int)+(1:Int)+(1:Int)<(↑4:Int))<|Ab (g3 (b.2.1,b.2.2)) λc=>bif Ds (c.1≠(0:Int))then Ac (c.1,c.2.1,c.2.2)else Aa (Lm.i64) ((0:Int)+(1:Int)+(1:Int)+(1:Int))<|bif Ds ((0:Int)+(1:Int)+(1:Int)+(1:Int)<(↑4:Int))then Ah ((0:Int)<=(0:Int)+(1:Int)+(1:Int)+(1:Int)/\(0:Int)+(1:Int)+(1:Int)+(1:Int)<(↑4:Int))<|Ab (g4 (c.2.1,c.2.2)) λd=>bif Ds (d.1≠(0:Int))then Ac (d.1,d.2.1,d.2.2)else Aa (Lm.i64) ((0:Int)+(1:Int)+(1:Int)+(1:Int)+(1:Int))<|bif Ds ((0:Int)+(1:Int)+(1:Int)+(1:Int)+(1:Int)<(↑4:Int))then Ah ((0:Int)<=(0:Int)+(1:Int)+(1:Int)+(1:Int)+(1:Int)/\(0:Int)+(1:Int)+(1:Int)+(1:Int)+(1:Int)<(↑4:Int))<|none else Ac ((0:Int),d.2.1,d.2.2)else Ac ((0:Int),c.2.1,c.2.2)else Ac ((0:Int),b.2.1,b.2.2)else Ac ((0:Int),a.2.1,a.2.2)else Ac ((0:Int),x,y)) λr=>r.1=fz [h,i,j,l]:=by
 refine VB (by simp) (PC (by simp) (BY h1 (N7 (λk=>MI (if_neg k).symm) λe=>Abx (by simp) ?_)));refine VB (by simp) (PC (by simp) (BY h2 (N7 (λk=>MI ((if_pos (IS e)).trans (if_neg k)).symm) λf=>Abx (by simp) ?_)));refine VB (by simp) (PC (by simp) (BY h3 (N7 (λk=>MI ((if_pos (IS e)).trans ((if_pos (IS f)).trans (if_neg k))).symm) λg=>Abx (by simp) ?_)));refine VB (by simp) (PC (by simp) (BY m (N7 (λk=>MI ((if_pos (IS e)).trans ((if_pos (IS f)).trans ((if_pos (IS g)).trans (if_neg k)))).symm) λn=>Abx (by simp) ?_)));exact Qb (by simp) (MI ((if_pos (IS e)).trans ((if_pos (IS f)).trans ((if_pos (IS g)).trans (if_pos (IS n))))).symm)
theorem Wd{a b:Bool} :kj fu (a,b)=Ac (Dj a b):=by cases a<;>cases b<;>rfl
theorem Yp{x:Option (Int×α)}{n:Int}(h:Ok x λr=>r.1=n):GK.Ab x (λr=>Ac r.1)=Ac n:=by obtain⟨r,rfl,h⟩:=h;rw[<-h];rfl
theorem IW:∀ {d fu:Nat} {a b:Vl},SV d a->SV d b->1000000000000+20*d<fu->ep fu (a,b)=Ac (BA d a b)
 |0,_,_,_,h,_,_=>h.1.elim
 |d+1,fu,a,b,j,k,X=>by
  obtain⟨f,rfl⟩:∃f,fu=f+15:=⟨fu-15,by omega⟩;have c:∀ {g:Nat} {x y:Bs},SW d x->SW d y->1000000000000+20*d+3<g->YF g (x,y)=Ac (JU (BA d) x y):=λ{g x y} z A Y=>by
   obtain⟨e,rfl⟩:∃e,g=e+3:=⟨g-3,by omega⟩;refine(d205 (e+2) x y).trans (Yp ?_);rw[show ug (e+2) (x,y)=_ from d204 (e+1) x y];refine Kz (g1:=ui (e+1)) (g2:=uh (e+1)) ?_ ?_;· refine(d202 e x y).trans (Ok.eq ?_);exact BY (IW z.1 A.1 (by omega)) (MI rfl)
   ·refine(d203 e x y).trans (Ok.eq ?_);exact BY (IW z.2 A.2 (by omega)) (MI rf)
  have O:=DD j.1.1 j.2.1.sc;have sb:=DD k.1.1 k.2.1.sc;obtain⟨R,⟨S,E⟩,⟨T,F⟩,_⟩:=id j.1;obtain⟨U,⟨V,G⟩,⟨W,H⟩,_⟩:=id k.1;refine(d227 (f+14) a b).trans (Yp ?_);rw[show tG (f+14) (a,b)=_ from d226 (f+13) a b];refine XY (g1:=uo (f+13)) (g2:=um (f+13)) (g3:=tZ (f+13)) (g4:=tH (f+13)) ?_ ?_ ?_ ?_;· refine(Ok.eq ?_);exact BY Wd (MI rfl)
  ·refine(Ok.eq ?_);exact BY (Gi O sb (by simp) (by simp) (by omega)).1 (MI rf)
  ·refine(d211 (f+12) a b).trans (Ok.eq ?_);refine Oz (Q:=λr=>r=A7 (DL (BA d)) a.lists b.lists) ?_ λr i=>MI (by rw[i]);rw[show t_ (f+12) (a.lists,b.lists)=_ from d210 (f+11) _ _];refine E9 (f:=λx y=>ua (f+11) (x,y)) (by omega) λx l y m=>?_;have q:=E _ l;have B:=G _ m;have s:=j.lv l;have t:=k.lv m;refine(d209 (f+10) x y).trans (Yp ?_);rw[show uc (f+10) (x,y)=_ from d208 (f+9) x y];refine OS (g1:=uk (f+9)) (g2:=uj (f+9)) (g3:=ue (f+9)) ?_ ?_ ?_;· refine(Ok.eq ?_);exact BY QC (MI rf)
   ·refine(Ok.eq ?_);refine BY Wd (MI ?_);simp
   ·refine(d207 (f+8) x y).trans (Ok.eq ?_);refine BY (Hl (by omega) (by omega)) (BY (Hl (by omega) (by omega)) (Oz (Q:=λr=>r=A7 (JU (BA d)) (AK x) (AK y)) ?_ λr i=>MI (by rw[i])));rw[show uf (f+8) (AK x,AK y)=_ from d206 (f+7) _ _];exact E9 (f:=λx y=>YF (f+7) (x,y)) (by unfold AK;rw[Aab];omega) λu I v J=>c (s _ I) (t _ J) (by omega)
  ·refine(d225 (f+12) a b).trans (Ok.eq ?_);unfold zc;refine Oz (Q:=λr=>r=A7 (Et (BA d)) a.structs b.structs) ?_ λr i=>MI (by rw[i]);rw[show tI (f+12) (a.structs,b.structs)=_ from d224 (f+11) _ _];unfold ze;refine E9 (f:=λx y=>tK (f+11) (x,y)) (by omega) λx l y m=>?_;have q:=F _ l;have B:=H _ m;have C:=(j.2.1.st _ l).2.1;have D:=(k.2.1.st _ m).2.1;have s:=j.sv l;have t:=k.sv m;have Z:=q.nf;have l2:=q.nc;refine(d223 (f+10) x y).trans (Yp ?_);rw[show tL (f+10) (x,y)=_ from d222 (f+9) x y];unfold zf;refine Kz (g1:=tT (f+9)) (g2:=tM (f+9)) ?_ ?_
   ·refine(d216 (f+8) x y).trans (Ok.eq ?_);unfold zk;refine Oz (Q:=λr=>r=A7 (S6 (BA d)) x.1 y.1) ?_ λr i=>MI (by rw[i]);rw[show tU (f+8) (x.1,y.1)=_ from d215 (f+7) _ _];unfold zl;refine E9 (f:=λx y=>tW (f+7) (x,y)) (by omega) λu M v N=>?_;have w:=s _ (AT.2 (.inl (By.2 ⟨_,M,rf⟩)));have t2:=t _ (AT.2 (.inl (By.2 ⟨_,N,rf⟩)));refine(d214 (f+6) u v).trans (Yp ?_);rw[show tX (f+6) (u,v)=_ from d213 (f+5) u v];unfold zm;refine OS (g1:=kg (f+5)) (g2:=kf (f+5)) (g3:=tY (f+5)) ?_ ?_ ?_;· refine(Ok.eq ?_);rw[kg];exact BY WA (MI rf)
    ·refine(Ok.eq ?_);rw[kf];exact BY QC (MI rf)
    ·refine(d212 (f+4) u v).trans (Ok.eq ?_);unfold zo;exact BY (c w t2 (by omega)) (MI rf)
   ·refine(d221 (f+8) x y).trans (Ok.eq ?_);unfold zg;refine Oz (Q:=λr=>r=A7 (S7 (BA d)) x.2 y.2) ?_ λr i=>MI (by rw[i]);rw[show tN (f+8) (x.2,y.2)=_ from d220 (f+7) _ _];unfold zh;refine E9 (f:=λx y=>tO (f+7) (x,y)) (by omega) λu o v p=>?_;have w:=s _ (AT.2 (.inr (By.2 ⟨_,o,rf⟩)));have t2:=t _ (AT.2 (.inr (By.2 ⟨_,p,rf⟩)));have K:CK u.1 (Au u.1 0) 14641:=⟨(C _ o).2.1,(C _ o).2.2,rf,q.each _ o⟩;have L:CK v.1 (Au v.1 0) 14641:=⟨(D _ p).2.1,(D _ p).2.2,rf,B.each _ p⟩;refine(d219 (f+6) u v).trans (Yp ?_);rw[show tR (f+6) (u,v)=_ from d218 (f+5) u v];unfold zi;refine Kz (g1:=kc (f+5)) (g2:=tS (f+5)) ?_ ?_;· refine(Ok.eq ?_);rw[kc];exact BY (Fu K L (by decide) (by omega)) (MI rf)
    ·refine(d217 (f+4) u v).trans (Ok.eq ?_);unfold zj;exact BY (c w t2 (by omega)) (MI rf)
theorem M'{x y:Int} :G3 fu (x,y)=Ac (D_ x y):=by refine(Ok.eq ?_);rw[G3];unfold D_;exact N7 (λh=>MI (by rw[if_pos h])) λh=>N7 (λk=>MI (by rw[if_neg h,if_pos k])) λk=>MI (by rw[if_neg h,if_neg k])
theorem xF{x y:Ay} :jF fu (x,y)=Ac (FH x y):=by refine(Ok.eq ?_);rw[jF];exact KH rf
theorem O3{α:Type}{c:α->α->Int}{b b':List α} :∀ {a a':List α},a.length=a'.length->A7 c (a++b) (a'++b')=if A7 c a a'=0 then A7 c b b' else A7 c a a'
 | [],[],_=>rfl
 |x::a,y::a',h=>by
  have d:=O3 (c:=c) (b:=b) (b':=b') (a:=a) (a':=a') (by simpa using h);show(if c x y=0 then A7 c (a++b) (a'++b')else c x y)=if(if c x y=0 then A7 c a a' else c x y)=0 then A7 c b b' else if c x y=0 then A7 c a a' else c x y;by_cases k:c x y=0;· simp only[if_pos k];exact d
  ·simp only[if_neg k]
theorem Jp(q:a.length<fu)(h:∀x∈a,∀y∈b,f x y=Ac (c x y))
  (h1:A7 c a b≠0->P (A7 c a b)) (n:A7 c a b=D_ a.length b.length->Ok E P):
  Ok (Ad fu (λ(i:Nat) m=>bif Ds ((i:Int)<(a.length:Int))then bif Ds ((i:Int)<(b.length:Int))then Ab (idx a (i:Int)) λs=>Ab (idx b (i:Int)) λt=>Ab (f s t) λo=>bif Ds (o≠(0:Int))then Ac o else m (i+1)else E else E) 0) P:=by
 refine TV (λk=>k<=b.length/\A7 c (a.drop k) (b.drop k)=A7 c a b) a.length ⟨Abg _,rf⟩ q (λk nx l d r=>?_) (λnx d=>?_)
 ·obtain⟨p,d⟩:=d;rw[Aar l]at d;refine P2 (N7 (λg=>?_) λg=>n ?_)
  ·have g:k<b.length:=by omega
   rw[Aar g]at d;refine Aah l (Aah g (BY (h _ (AN l) _ (AN g)) (N7 (λj=>MI ?_) λj=>r ⟨by omega,?_⟩)));· have e:A7 c a b=c a[k] b[k]:=d.symm.trans (if_neg j);rw[<-e];exact h1 (by rw[e];exact j)
   ·rw[<-d];exact(if_pos (IS j)).symm
  ·rw[Afc (by omega:b.length<=k)]at d;rw[<-d];exact((if_neg (by omega)).trans (if_pos (by omega))).symm
 ·obtain⟨p,d⟩:=d;rw[Aec]at d;refine P3 (n ?_);rw[<-d];rcases Aal a.length b.length with g|g;· rw[Aar g];exact(if_pos (by omega)).symm
  ·rw[Afc g];exact(BD.2 (by omega)).symm
theorem Vx(p:a.length<fu)(q:a.length=b.length)(h:∀x∈a,∀y∈b,f x y=Ac (c x y))
  (h1:A7 c a b≠0->P (A7 c a b)) (o:A7 c a b=0->Ok E P):
  Ok (Ad fu (λ(i:Nat) m=>bif Ds ((i:Int)<(a.length:Int))then Ab (idx a (i:Int)) λs=>Ab (idx b (i:Int)) λt=>Ab (f s t) λn=>bif Ds (n≠(0:Int))then Ac n else m (i+1)else E) 0) P:=by
 refine TV (λk=>A7 c (a.drop k) (b.drop k)=A7 c a b) a.length rf p (λk nx l d r=>?_) (λnx d=>?_)
 ·have j:k<b.length:=by omega
  rw[Aar l,Aar j]at d;refine P2 (Aah l (Aah j (BY (h _ (AN l) _ (AN j)) (N7 (λg=>MI ?_) λg=>r ?_))));· have e:A7 c a b=c a[k] b[k]:=d.symm.trans (if_neg g);rw[<-e];exact h1 (by rw[e];exact g)
  ·rw[<-d];exact(if_pos (IS g)).symm
 ·rw[Aec,q,Aec]at d;exact P3 (o d.symm)
end
section
variable {d : Nat} (ih : ∀ {fu : Nat} {a b : Vl}, SV d a -> SV d b -> 1000000000000 + 20 * d < fu -> TC fu (a, b) = Ac (BA d a b))
section
variable{fu:Nat}
include ih
theorem HO{x y:Bs}(c:SW d x)(e:SW d y)(g:1000000000000+20*d+1<fu):QY fu (x,y)=Ac (JU (BA d) x y):=by
 obtain⟨f,rfl⟩:∃f,fu=f+1:=⟨fu-1,by omega⟩;refine(d330 f x y).trans (Ok.eq ?_);unfold yW;refine BY (ih c.1 e.1 (by omega)) (N7 (λh=>MI (if_neg h).symm) λh=>BY (ih c.2 e.2 (by omega)) (MI ?_));refine Eq.trans ?_ (if_pos (IS h)).symm;show _=if _=0 then 0 else _;split;· assumption
 ·rfl
theorem aB{x y:Ig}(h1:x.1.length<=3)(z:x.2.length<=1)(A:y.2.length<=1)(o:∀w∈AK x,SW d w)(p:∀w∈AK y,SW d w)(t:1000000000000+20*d+2<fu):jE fu (x,y)=Ac (DL (BA d) x y):=by
 obtain⟨f,rfl⟩:∃f,fu=f+1:=⟨fu-1,by omega⟩;refine(d331 f x y).trans (Ok.eq ?_);unfold yV;refine N7 (λh=>BY M' (MI (if_neg λk=>h (BD.1 k)).symm)) λh=>?_;have n:x.1.length=y.1.length:=by omega
 have q:D_ x.1.length y.1.length=0:=BD.2 (by omega);have j:D_ y.2.length x.2.length=Dj (Ds (0<x.2.length)) (Ds (0<y.2.length)):=by rcases(by omega:x.2.length=0\/x.2.length=1)with e|e<;>rcases(by omega:y.2.length=0\/y.2.length=1)with l|l<;>rw[e,l]<;>rfl
 refine N7 (λm=>BY M' (MI ?_)) λm=>?_;· rw[j];exact((if_pos q).trans (if_neg (by rw[<-j];exact λk=>m (BD.1 k).symm))).symm
 have s:Dj (Ds (0<x.2.length)) (Ds (0<y.2.length))=0:=by rw[<-j];exact BD.2 (by omega)
 have e:DL (BA d) x y=A7 (JU (BA d)) (AK x) (AK y):=by
  refine(if_pos q).trans ((if_pos s).trans ?_);show(if _=0 then 0 else _)=_;split;· exact(by assumption:_=(0:Int)).symm
  ·rfl
 have r:A7 (JU (BA d)) (AK x) (AK y)=_:=O3 n;rw[e,r];refine Vx (f:=λu v=>QY f (u,v)) (by omega) n (λu g v i=>HO ih (o _ (AT.2 (.inl g))) (p _ (AT.2 (.inl i))) (by omega)) (λk=>(if_neg k).symm) λk=>?_;rw[if_pos k];exact Vx (f:=λu v=>QY f (u,v)) (by omega) (by omega) (λu g v i=>HO ih (o _ (AT.2 (.inr g))) (p _ (AT.2 (.inr i))) (by omega)) (λk=>rfl) λk=>MI k.symm
end
end
theorem xg(x:Int):fz [x]=x:=by show(if x=0 then 0 else x)=x;omega
theorem BZ{x:Int}{l:List Int}(h:x=0):fz (x::l)=fz l:=if_pos h
theorem Dn{x:Int}{l:List Int}(h:x≠0):fz (x::l)=x:=if_neg h
section
variable {d : Nat} (ih : ∀ {fu : Nat} {a b : Vl}, SV d a -> SV d b -> 1000000000000 + 20 * d < fu -> TC fu (a, b) = Ac (BA d a b))
section
variable{fu:Nat}
include ih
theorem X2{x y:Ay×Int×Bs}(c:SW d x.2.2)(e:SW d y.2.2)(g:1000000000000+20*d+2<fu):jD fu (x,y)=Ac (S6 (BA d) x y):=by
 obtain⟨f,rfl⟩:∃f,fu=f+1:=⟨fu-1,by omega⟩;refine(d332 f x y).trans (Ok.eq ?_);unfold yU S6;refine BY xF (N7 (λh=>MI (Dn h).symm) λh=>BY M' (N7 (λk=>MI ?_) λk=>BY (HO ih c e (by omega)) (MI ?_)));· rw[BZ (IS h),Dn k]
 ·rw[BZ (IS h),BZ (IS k),xg]
theorem Yf{x y:Tb×Bs}(g:CK x.1 (Au x.1 0) 14641)(i:CK y.1 (Au y.1 0) 14641)(c:SW d x.2)(e:SW d y.2)(j:1000000000000+20*d+2<fu):dQ fu (x,y)=Ac (S7 (BA d) x y):=by obtain⟨f,rfl⟩:∃f,fu=f+1:=⟨fu-1,by omega⟩;refine(d333 f x y).trans (Ok.eq ?_);unfold yT S7;refine BY (JT g i (by decide) (by omega)) (N7 (λh=>MI (Dn h).symm) λh=>BY (HO ih c e (by omega)) (MI ?_));rw[BZ (IS h),xg]
theorem TW{x y:BC}(i:NS x)(j:NS y)(l:DB x)(m:DB y)(n:∀w∈Bm x,SW d w)(o:∀w∈Bm y,SW d w)(r:1000000000000+20*d+3<fu):dP fu (x,y)=Ac (Et (BA d) x y):=by
 obtain⟨f,rfl⟩:∃f,fu=f+1:=⟨fu-1,by omega⟩;have s:=i.nf;have t:=i.nc;have p:=λu (c:u∈x.1) v (g:v∈y.1)=>X2 ih (fu:=f) (n _ (AT.2 (.inl (By.2 ⟨u,c,rfl⟩)))) (o _ (AT.2 (.inl (By.2 ⟨v,g,rfl⟩)))) (by omega);have q:=λu (c:u∈x.2) v (g:v∈y.2)=>Yf ih (fu:=f) ⟨(l.1 u c).2.1,(l.1 u c).2.2,rfl,i.each u c⟩ ⟨(m.1 v g).2.1,(m.1 v g).2.2,rfl,j.each v g⟩ (n _ (AT.2 (.inr (By.2 ⟨u,c,rfl⟩)))) (o _ (AT.2 (.inr (By.2 ⟨v,g,rfl⟩)))) (by omega);refine(d334 f x y).trans (Ok.eq ?_);unfold yS Et;refine Jp (f:=λu v=>jD f (u,v)) (by omega) p (λk=>(Dn k).symm) λe=>?_;refine N7 (λh=>BY M' (MI ?_)) λh=>?_;· rw[Dn (by rw[e];exact λk=>h (BD.1 k)),e]
 rw[BZ (by rw[e];exact BD.2 (by omega)),xg];exact Jp (f:=λu v=>dQ f (u,v)) (by omega) q (λk=>rfl) λe=>BY M' (MI e.symm)
end
end
section
variable{fu:Nat}{α:Type}{d:Nat}{c:α->α->Int}{l:List α}{B:α->α->Prop}{cmp:α->α->Option Int}{m k:Nat}{a b:Vl}{x y:Ig}{s:Sc}{v:Vl}
theorem HJ:∀ {d fu:Nat} {a b:Vl},SV d a->SV d b->1000000000000+20*d<fu->TC fu (a,b)=Ac (BA d a b)
 |0,_,_,_,h,_,_=>h.1.elim
 |d+1,fu,a,b,c,g,y=>by
  obtain⟨f,rfl⟩:∃f,fu=f+1:=⟨fu-1,by omega⟩;have o:∀ {fu:Nat} {a b:Vl},SV d a->SV d b->1000000000000+20*d<fu->TC fu (a,b)=Ac (BA d a b):=HJ;have w:=DD c.1.1 c.2.1.sc;have sb:=DD g.1.1 g.2.1.sc;have p:=c.1.2.1;have l:=c.1.2.2.1;have m:=g.1.2.2.1;refine(d335 f a b).trans (Ok.eq ?_);unfold yR BA;have r:=λu (i:u∈a.lists) v (j:v∈b.lists)=>aB o (fu:=f) (p.2 u i).1 (c.2.1.rs u i) (g.2.1.rs v j) (c.lv i) (g.lv j) (by omega);have s:=λu (i:u∈a.structs) v (j:v∈b.structs)=>TW o (fu:=f) (l.2 u i) (m.2 v j) (c.2.1.st u i).2 (g.2.1.st v j).2 (c.sv i) (g.sv j) (by omega);refine PY (λh=>?_) λh=>?_
  ·have n:a.any≠b.any:=λe=>by rw[e]at h;revert h;cases b.any<;>decide
   rw[Dn (λk=>n (ER.1 k))];unfold Dj;rw[if_neg n];exact PY (λk=>MI (by rw[if_pos k])) λk=>MI (by rw[if_neg (by rw[k];decide)])
  have q:a.any=b.any:=by revert h;cases a.any<;>cases b.any<;>decide
  rw[BZ (ER.2 q)];refine BY (Gi w sb (by decide) (by decide) (by omega)).2.1 (N7 (λk=>MI (Dn k).symm) λk=>?_);rw[BZ (IS k)];refine Jp (f:=λu v=>jE f (u,v)) (by omega) r (λk=>(Dn k).symm) λe=>?_;refine N7 (λh=>BY M' (MI ?_)) λh=>?_;· rw[Dn (by rw[e];exact λk=>h (BD.1 k)),e]
  rw[BZ (by rw[e];exact BD.2 (by omega)),xg];exact Jp (f:=λu v=>dP f (u,v)) (by omega) s (λk=>rfl) λe=>BY M' (MI e.symm)
def ES{α:Type}(R:α->α->Prop):List α->Prop
 | []=>True
 | [_]=>True
 |x::y::l=>R x y/\ES R (y::l)
theorem LW{α:Type}{R:α->α->Prop}{p:α}{B:List α} :∀ {A:List α},ES R (A++p::B)↔ES R (A++[p])/\ES R (p::B)
 | []=>⟨λh=>⟨trivial,h⟩,λh=>h.2⟩
 | [x]=>⟨λh=>⟨⟨h.1,trivial⟩,h.2⟩,λh=>⟨h.1.1,h.2⟩⟩
 |x::y::A=>by have a:=LW (R:=R) (p:=p) (B:=B) (A:=y::A);grind[ES]
theorem QO{α:Type}{R:α->α->Prop} :∀ {l:List α},ES R l->∀i (h:i+1<l.length),R l[i] l[i+1]
 | [],_,i,h=>by grind
 | [_],_,i,h=>by grind
 |x::y::l,a,0,_=>a.1
 |x::y::l,a,i+1,h=>QO a.2 i (by grind)
theorem gV(v:∀x∈l,∀y∈l,c x y<0->¬c y x<0)
  (hc:∀x∈l,∀y∈l,cmp x y=Ac (c x y))  (X:l.length<1099511627776) (W:l.length+1<fu):
  Ok (So cmp fu 0 l.length l) λr=>r.Perm l/\ES (λp q=> ¬c q p<0) r:=by
 refine Xn (λz:List α×Int=>z.1.Perm l/\1<=z.2/\∃A C,z.1=A++C/\ES (λp q=> ¬c q p<0) A/\((A.length:Int)=z.2\/(C=[]/\A.length<z.2))) (λz=>l.length+1-z.2.toNat) ?_ (by omega) ?_;· refine⟨.refl _,by omega,?_⟩;cases l with
  |nil=>exact⟨[],[],rfl,trivial, .inr ⟨rfl,by simp⟩⟩
  |cons x l=>exact⟨[x],l,rfl,trivial, .inl (by simp)⟩
 ·rintro⟨
      m,i⟩ nx ⟨e,S,A,C,a,k,f⟩ R G;have s:m.length=l.length:=e.length_eq;refine N7 (λn=>?_) (λn=>?_)
  ·have o:(A.length:Int)=i:=by
    grind
   obtain⟨q,C,rfl⟩:∃q N,C=q::N:=by
    cases C with
    |nil=>grind
    |cons q C=>simp
   refine Xn (λz:List α×Int=>z.1.Perm l/\∃A q B C,z.1=A++q::(B++C)/\(A.length:Int)=z.2/\ES (λp q=> ¬c q p<0) (A++B)/\ES (λp q=> ¬c q p<0) (q::B)/\(A.length:Int)+B.length=i) (λz=>z.2.toNat) ⟨e,A,q,[],C,a,o,by grind,trivial,by simpa using o⟩ (by omega) ?_;rintro⟨m,j⟩ V ⟨e,A,q,B,C,a,E,k,J,D⟩ _ t;dsimp only at e a E;have out:ES (λp q=> ¬c q p<0) (A++q::B)->Ok (nx (m,i+1)) (λr=>r.Perm l/\ES (λp q=> ¬c q p<0) r):=λU=>
    G (m,i+1) ⟨e,by omega,A++q::B,C,by simp[a],U, .inl (by simp only[Aab,Abo];omega)⟩ (by omega);refine N7 (λn=>?_) (λn=>?_)
   ·obtain⟨A,p,rfl⟩:∃u p,A=u++[p]:=by
     rcases Aek A with h|⟨u,p,h⟩;· subst h;simp at E;omega
     ·exact⟨u,p,by simpa using h⟩
    have b:m=A++p::q::(B++C):=by simp[a]
    simp only[Aab,Abo,Ado]at E D;have w:idx m j=Ac q:=by unfold idx;rw[if_pos (by omega),b,Aac (by omega)];rw[show j.toNat-A.length=1 by omega];rfl
    have I:idx m (j-1)=Ac p:=by unfold idx;rw[if_pos (by omega),b,Aac (by omega)];rw[show(j-1).toNat-A.length=0 by omega];rfl
    have K:=e.mem_iff.1 (by simp[a]:q∈m);have mp:=e.mem_iff.1 (by simp[a]:p∈m);refine BY w (Aaq (BY I (BY (hc q K p mp) ?_)));rw[Aak,List.singleton_append,LW]at k;refine N7 (λd=>?_) (λd=>?_)
    ·have O:¬c p q<0:=v q K p mp d;refine Aaq (Aaq (BY I (BY w (BY w ?_))));have L:m.set j.toNat p=A++p::p::(B++C):=by
      rw[b,Acx _ _ (by omega),show j.toNat-A.length=1 by omega];rfl
     have M:(m.set j.toNat p).set (j-1).toNat q=A++q::p::(B++C):=by rw[L,Acx _ _ (by omega),show(j-1).toNat-A.length=0 by omega];rfl
     have P:idx (m.set j.toNat p) (j-1)=Ac p:=by unfold idx;rw[if_pos (by omega),L,Aac (by omega)];rw[show(j-1).toNat-A.length=0 by omega];rfl
     refine BY P (Abx (by omega) ?_);refine t _ ⟨?_,A,q,p::B,C,?_,?_,?_,?_,?_⟩ (by show(j-1).toNat<j.toNat;omega);· show((m.set j.toNat p).set (j-1).toNat q).Perm l;rw[M];refine List.Perm.trans ?_ e;rw[b];exact List.Perm.append_left _ (List.Perm.swap ..)
     ·show(m.set j.toNat p).set (j-1).toNat q=_;rw[M];simp
     ·show(A.length:Int)=j-1;omega
     ·exact(LW).2 k
     ·exact⟨O,k.2⟩
     ·simp only[Abo];omega
    ·refine Aaq (out ?_);rw[Aak,List.singleton_append,LW];exact⟨k.1,d,J⟩
   ·have H:¬0<j:=n;obtain rfl:A=[]:=OF.1 (by omega);refine Aaq (out ?_);exact J
  grind[MI,List.length_eq_zero_iff]
theorem gU(a:ES (λp q=> ¬c q p<0) l)
  (hc:∀x∈l,∀y∈l,cmp x y=Ac (c x y))  (u:l.length<1099511627776) (t:l.length+1<fu):
  Ok (So cmp fu 0 l.length l) λr=>r=l:=by
 refine Xn (λz:List α×Int=>z.1=l/\1<=z.2) (λz=>l.length+1-z.2.toNat) ⟨rfl,by omega⟩ (by omega) ?_;rintro⟨m,i⟩ nx ⟨e,s⟩ o b;subst e;refine N7 (λg=>?_) (λ_=>MI rfl);have n:i<m.length:=g;obtain⟨f,rfl⟩:∃f,fu=f+1:=⟨fu-1,by omega⟩;have out:Ok (nx (m,i+1)) (λr=>r=m):=b (m,i+1) ⟨rfl,by omega⟩ (by omega);refine VB (by omega) ?_;have h:idx m i=Ac (m[i.toNat]'(by omega)):=Fp (by omega) (by omega);have j:idx m (i-1)=Ac (m[(i-1).toNat]'(by omega)):=Fp (by omega) (by omega);have d:=QO a (i-1).toNat (by omega);have k:(i-1).toNat+1=i.toNat:=by omega
 simp only[k]at d;refine BY h (Aaq (BY j (BY (hc _ (AN _) _ (AN _)) ?_)));exact Qb d (Aaq out)
theorem P7(a:∀x∈l,∀y∈l,c x y<0->¬c y x<0)
  (hc:∀x∈l,∀y∈l,cmp x y=Ac (c x y))  (g:l.length<1099511627776) (f:l.length+1<fu):
  Ok (So cmp fu 0 l.length l) λr=>(r.Perm l/\ES (λp q=> ¬c q p<0) r)/\(ES (λp q=> ¬c q p<0) l->r=l):=by
 obtain⟨r,e,h⟩:=gV a hc g f;refine⟨r,e,h,λb=>?_⟩;obtain⟨j,d,i⟩:=gU b hc g f;grind
theorem Zx{l:List (Tb×Bs)}(h:l.length<=12)(b:20<fu){c:_->_->Int}(a:∀x∈l,∀y∈l,c x y<0->¬c y x<0)(hc:∀x∈l,∀y∈l,kI fu (x,y)=Ac (c x y)):Ok (kH fu l) λr=>(r.Perm l/\ES (λp q=> ¬c q p<0) r)/\(ES (λp q=> ¬c q p<0) l->r=l):=by
 rw[kH];have e:(Int.ofNat (l.length %xc (18446744073709551616:Int)))=(l.length:Nat):=by grind
 rw[e];refine Oz (GJ h) λr _=>?_;rw[uI];obtain⟨f,rfl⟩:∃f,fu=f+1:=⟨fu-1,by omega⟩;refine Oz (Q:=λr:List (Tb×Bs)=>(r.Perm l/\ES (λp q=> ¬c q p<0) r)/\(ES (λp q=> ¬c q p<0) l->r=l)) ?_ λr h=>MI h;refine Aaq (VB (by omega) ?_);refine Oz (Q:=λr:List (Tb×Bs)=>(r.Perm l/\ES (λp q=> ¬c q p<0) r)/\(ES (λp q=> ¬c q p<0) l->r=l)) ?_ λr h=>MI h;exact P7 a hc (by omega) (by omega)
theorem Zw{l:List (Ig)}(h:l.length<=12)(b:20<fu){c:_->_->Int}(a:∀x∈l,∀y∈l,c x y<0->¬c y x<0)(hc:∀x∈l,∀y∈l,eo fu (x,y)=Ac (c x y)):Ok (ej fu l) λr=>(r.Perm l/\ES (λp q=> ¬c q p<0) r)/\(ES (λp q=> ¬c q p<0) l->r=l):=by
 rw[ej];have e:(Int.ofNat (l.length %xc (18446744073709551616:Int)))=(l.length:Nat):=by grind
 rw[e];refine Oz (GJ h) λr _=>?_;rw[tF];obtain⟨f,rfl⟩:∃f,fu=f+1:=⟨fu-1,by omega⟩;refine Oz (Q:=λr:List (Ig)=>(r.Perm l/\ES (λp q=> ¬c q p<0) r)/\(ES (λp q=> ¬c q p<0) l->r=l)) ?_ λr h=>MI h;refine Aaq (VB (by omega) ?_);refine Oz (Q:=λr:List (Ig)=>(r.Perm l/\ES (λp q=> ¬c q p<0) r)/\(ES (λp q=> ¬c q p<0) l->r=l)) ?_ λr h=>MI h;exact P7 a hc (by omega) (by omega)
theorem Zv{l:List (BC)}(h:l.length<=12)(b:20<fu){c:_->_->Int}(a:∀x∈l,∀y∈l,c x y<0->¬c y x<0)(hc:∀x∈l,∀y∈l,eh fu (x,y)=Ac (c x y)):Ok (eg fu l) λr=>(r.Perm l/\ES (λp q=> ¬c q p<0) r)/\(ES (λp q=> ¬c q p<0) l->r=l):=by
 rw[eg];have e:(Int.ofNat (l.length %xc (18446744073709551616:Int)))=(l.length:Nat):=by grind
 rw[e];refine Oz (GJ h) λr _=>?_;rw[tC];obtain⟨f,rfl⟩:∃f,fu=f+1:=⟨fu-1,by omega⟩;refine Oz (Q:=λr:List (BC)=>(r.Perm l/\ES (λp q=> ¬c q p<0) r)/\(ES (λp q=> ¬c q p<0) l->r=l)) ?_ λr h=>MI h;refine Aaq (VB (by omega) ?_);refine Oz (Q:=λr:List (BC)=>(r.Perm l/\ES (λp q=> ¬c q p<0) r)/\(ES (λp q=> ¬c q p<0) l->r=l)) ?_ λr h=>MI h;exact P7 a hc (by omega) (by omega)
theorem Lc(c:SV d a)(e:SV d b)(f:d<=3)(k:1000000002000<fu):j_ fu (a,b)=Ac (BA d a b):=by obtain⟨s,g,i⟩:=Jh (fu:=fu) c.1 f (by omega);obtain⟨t,h,j⟩:=Jh (fu:=fu) e.1 f (by omega);refine(Ok.eq ?_);refine BY g ?_;rw[i.2 c.2];refine P6 rfl (BY h ?_);rw[j.2 e.2];exact P6 rfl (BY (IW c e (by omega)) (MI rfl))
theorem JS(c:SV d a)(e:SV d b)(j:d<=3)(i:1000000002000<fu):U8 fu (a,b)=Ac (BA d a b):=by
 have one:∀ {v:Vl},SV d v->TH fu v=Ac Br:=λ{v} f=>by obtain⟨s,g,h⟩:=HV (fu:=fu) (lv:=1) f.1 (by omega) (by omega);refine(Ok.eq ?_);rw[TH];exact BY g (MI (h.2 f.2))
 refine(Ok.eq ?_);rw[U8];exact BY (one c) (P6 rf (BY (one e) (P6 rf (BY (HJ c e (by omega)) (MI rf)))))
def oq(x:Ig):Vl:=Vl.mk Ak FO [x] []
def oo(x:BC):Vl:=Vl.mk Ak FO [] [x]
theorem Wz:E8 FO FO=0:=by have h:Il 5 12 FO:=L0;obtain⟨_,_,s,_⟩:=Gi (fu:=2000000000000) h h (by decide) (by decide) (by decide);omega
theorem Wy{x y:α} :A7 c [x] [y]=c x y:=by show(if c x y=0 then 0 else c x y)=c x y;omega
theorem Wx:BA (d+1) (oq x) (oq y)=DL (BA d) x y:=by
 show fz [Dj Ak Ak,E8 FO FO,A7 (DL (BA d)) [x] [y],A7 (Et (BA d)) [] []]=_;rw[BZ (rfl:Dj Ak Ak=0),BZ Wz,Wy];by_cases h:DL (BA d) x y=0;· rw[BZ h,h];rfl
 grind[Dn]
theorem Ww{x y:BC} :BA (d+1) (oo x) (oo y)=Et (BA d) x y:=by show fz [Dj Ak Ak,E8 FO FO,A7 (DL (BA d)) [] [],A7 (Et (BA d)) [x] [y]]=_;rw[BZ (rfl:Dj Ak Ak=0),BZ Wz,BZ (rfl:A7 (DL (BA d)) [] []=0),Wy,xg]
theorem xG:4294967296<=Aj:=by decide
theorem nN:4294967296<=Aj:=by decide
def AC(B:α->α->Prop)(l:List α):Prop:= ∀i j (a:i<l.length) (b:j<l.length),i≠j->¬B l[i] l[j]
theorem max_eq{P:List α->Prop}{g:α->α->Option Bool}{srt:List α->Option (List α)}{cap:Nat}(N:4294967296<=cap)(hl:l.length<=12)(hf:20<fu)(O:∀x∈l,∀y∈l,Ok (g x y) λr=>r=Br↔B x y)
  (X:∀m:List α,m.Sublist l->m.Pairwise (λx y=> ¬B x y/\¬B y x)->(AC B l->m=l)->Ok (srt m) P):
  Ok (Ad fu (λ(a:List α×Nat) t=>
  bif Ds (
        (a.2:Int)<(l.length:Int))then
   Ab (idx l (a.2:Int)) λL=>
   Ad fu (
        λ(u:Nat) d=>
    bif Ds ((u:Int)<(l.length:Int))then
     Ab (idx l (u:Int)) λU=>
     bif Ds ((a.2:Int)≠(u:Int))then
      Ab (g L U) λY=>
      bif Y then
       bif Ds ((u:Int)<(a.2:Int))then
        t ((a.1,a.2+1))
       else
        Ab (g U L) λZ=>
        bif !Z then
         t ((a.1,a.2+1))
        else
         d (u+1)
      else
       d (u+1)
     else
      d (u+1)
    else
     Ah (FB a.1+1<=cap)<|
     t (((a.1++[L]),a.2+1))) (0)
  else
   Ab (srt a.1) λr9=>
   Ac (r9)) (([],0))) P:=by
 refine SA (λk (s:List α)=>s.Sublist (l.take k)/\s.Pairwise (λx y=> ¬B x y/\¬B y x)/\(∀x∈s,∃i,∃e:i<l.length,i<k/\l[i]=x/\∀j (o:j<l.length),j≠i->B l[i] l[j]->i<j/\B l[j] l[i])/\(AC B l->s=l.take k)) l.length ⟨by simp,by simp,by simp,λ_=>by simp⟩ (by omega) (λk s nx v G Q=>?_) (λs nx G=>?_)
 ·have m:=AN v;obtain⟨w,E,J,F⟩:=G;have M:l.take (k+1)=l.take k++[l[k]]:=GB v;have skip:(¬AC B l)->Ok (nx (s,k+1)) P:=λh=>Q _ ⟨by grind,E,λx b=>by
   obtain⟨i,e,z,A⟩:=J x b;exact⟨i,e,by omega,A⟩,λq=>absurd q h⟩;refine P2 (Aah v ?_);refine TV (λn=> ∀j (o:j<l.length),j<n->j≠k->B l[k] l[j]->k<j/\B l[j] l[k]) l.length (λj _ h=>by omega) (by omega) (λj d o f p=>?_) (λd f=>?_)
  ·have S:=AN o;have c:(j≠k->B l[k] l[j]->k<j/\B l[j] l[k])->∀i (e:i<l.length),i<j+1->i≠k->B l[k] l[i]->k<i/\B l[i] l[k]:=λh i e W=>by
    rcases Aal i j with z|z;· exact f i e z
    ·obtain rfl:i=j:=by omega
     omega
   refine P2 (Aah o (N7 (λne=>?_) λne=>p (c λh=>absurd h (by omega))));have K:k≠j:=by omega
   refine Oz (O _ m _ S) λr D=>PY (λh=>?_) λh=>p (c λ_ C=>by rw[D.2 C]at h;cases h);have na:¬AC B l:=λq=>q k j v o K (D.1 h);refine N7 (λ_=>skip na) λH=>Oz (O _ S _ m) λr2 I=>PY (λ_=>skip na) λA=>p (c λ_ _=>⟨by omega,I.1 (by simpa using A)⟩)
  ·have sl:=w.length_le;rw[Abh]at sl;refine P3 (Abw (Q _ ⟨?_,?_,λx b=>?_,λq=>?_⟩));· rw[M];exact w.append (List.Sublist.refl _)
   ·refine Abb.2 ⟨E,Acg ..,λx b y R=>?_⟩;rw[Aae]at R;subst R;obtain⟨i,e,z,rfl,V⟩:=J x b;have T:¬B l[k] l[i]:=λC=>by have:=(f i e e (by omega) C).1;omega
    exact⟨λC=>T (V k v (by omega) C).2,T⟩
   ·rcases AT.1 b with b|b;· obtain⟨i,e,z,A⟩:=J x b;exact⟨i,e,by omega,A⟩
    ·rw[Aae]at b;exact⟨k,v,by omega,b.symm,λj o=>f j o o⟩
   ·rw[M,F q]
 ·obtain⟨w,E,_,F⟩:=G;rw[Aav]at w F;exact P3 (Oz (X s w E F) λr D=>MI D)
structure LX(d:Nat)(c:Ig):Prop where
 n1:c.1.length<=3
 n2:c.2.length<=1
 vs:∀w∈AK c,SW d w
structure CX(d:Nat)(c:BC):Prop where
 bd:NS c
 fl:QW c.1
 gd:DB c
 vs:∀w∈Bm c,SW d w
theorem Zo{ls:List Ig}{ss:List BC}(h1:dz 5 12 s)(g:vA s)(h2:ls.length<=3)(h3:ss.length<=3)(b:∀c∈ls,LX d c)(e:∀c∈ss,CX d c):SV (d+1) (.mk Ak s ls ss):=by
 have f:∀x∈kids (.mk Ak s ls ss),SW d x:=λx a=>by
  rcases AT.1 a with h|h;· obtain⟨c,hc,h⟩:=Pe.1 h;exact(b c hc).vs x h
  ·obtain⟨c,hc,h⟩:=Pe.1 h;exact(e c hc).vs x h
 exact⟨⟨h1,⟨h2,λc hc=>⟨(b c hc).n1,Aam (b c hc).n2 (by simp)⟩⟩,⟨h3,λc hc=>(e c hc).bd⟩,λx a=>⟨(f x a).1.1,(f x a).2.1⟩⟩,⟨λh=>(by cases h),g,λc hc=>(b c hc).n2,λc hc=>⟨(e c hc).fl,(e c hc).gd⟩⟩,λx a=>⟨(f x a).1.2,(f x a).2.2⟩⟩
theorem kT:dz 5 12 FO:=(KY 0).1.1
theorem L_{c:Ig}(h:LX d c):SV (d+1) (oq c):=Zo kT Q5 (by simp) (by simp) (λx a=>by grind) (λx a=>by grind)
theorem L9{c:BC}(h:CX d c):SV (d+1) (oo c):=Zo kT Q5 (by simp) (by simp) (λx a=>by grind) (λx a=>by grind)
theorem aN{c:Ig}(h:LX d c):WW (Dk d) c c:=by
 rcases Dk.refl (L_ h).2 with k|k;· cases k
 ·obtain⟨b,a,f⟩:=k.2.2.1 c (Aae.2 rfl);have e:b=c:=Aae.1 a;grind
theorem aM{c:BC}(h:CX d c):U2 (Dk d) c c:=by
 rcases Dk.refl (L9 h).2 with k|k;· cases k
 ·obtain⟨b,a,f⟩:=k.2.2.2 c (Aae.2 rfl);have e:b=c:=Aae.1 a;grind
theorem Yd(c:LX d x)(e:LX d y)(f:d<=2)(b:1000000002000<fu):eo fu (x,y)=Ac (DL (BA d) x y):=by refine(Ok.eq ?_);rw[eo];refine BY (a:=oq x) (rf) (BY (a:=oq y) (rf) (BY (Lc (L_ c) (L_ e) (by omega) b) (MI ?_)));exact Wx
theorem Yb{x y:BC}(c:CX d x)(e:CX d y)(f:d<=2)(b:1000000002000<fu):eh fu (x,y)=Ac (Et (BA d) x y):=by refine(Ok.eq ?_);rw[eh];refine BY (a:=oo x) (rf) (BY (a:=oo y) (rf) (BY (Lc (L9 c) (L9 e) (by omega) b) (MI ?_)));exact Ww
theorem Np{α:Type}{B:α->α->Prop}{c:α->α->Int} :∀ {l:List α},(∀x∈l,∀y∈l,c y x= -c x y/\(c x y=0->x=y))->(∀x∈l,B x x)->l.Pairwise (λx y=> ¬B x y/\¬B y x)->ES (λp q=> ¬c q p<0) l->ES (λp q=>c p q<0) l
 | [],_,_,_,_=>trivial
 | [_],_,_,_,_=>trivial
 |x::y::l,h,r,p,a=>by have d:x∈x::y::l:=Aas ..;have i:y∈x::y::l:=Aag _ (Aas ..);have f:=Abj.1 p;refine⟨?_,Np (λu b v g=>h u (Aag _ b) v (Aag _ g)) (λu b=>r u (Aag _ b)) f.2 a.2⟩;have j:=a.1;grind
theorem Nn{α:Type}{c:α->α->Int} :∀ {l:List α},(∀x∈l,∀y∈l,c y x= -c x y)->ES (λp q=>c p q<0) l->ES (λp q=> ¬c q p<0) l
 | [],_,_=>trivial
 | [_],_,_=>trivial
 |x::y::l,h,a=>by have k:=h x (Aas ..) y (Aag _ (Aas ..));have e:=a.1;exact⟨by omega,Nn (λu b v d=>h u (Aag _ b) v (Aag _ d)) a.2⟩
def Mx(B:α->α->Prop)(c:α->α->Int)(l r:List α):Prop:=(r.length<=l.length/\∀x∈r,x∈l)/\r.Pairwise (λx y=> ¬B x y/\¬B y x)/\ES (λp q=>c p q<0) r/\(AC B l->ES (λp q=>c p q<0) l->r=l)
theorem nw{m r:List α}(h:∀x∈l,∀y∈l,c y x= -c x y/\(c x y=0->x=y))(n:∀x∈l,B x x)(h1:m.Sublist l)(h2:m.Pairwise (λx y=> ¬B x y/\¬B y x))(h3:AC B l->m=l)(b:r.Perm m)(j:ES (λp q=> ¬c q p<0) r)(k:ES (λp q=> ¬c q p<0) m->r=m):Mx B c l r:=by have mem:∀x∈r,x∈l:=λx a=>h1.subset (b.mem_iff.1 a);have f:r.Pairwise (λx y=> ¬B x y/\¬B y x):=(b.pairwise_iff (λ{x y} q=>⟨q.2,q.1⟩)).2 h2;refine⟨⟨by rw[b.length_eq];grind,mem⟩,f,Np (λx a y d=>h x (mem x a) y (mem y d)) (λx a=>n x (mem x a)) f j,λg i=>?_⟩;have e:=h3 g;subst e;exact k (Nn (λx a y d=>(h x a y d).1) i)
theorem gB{l:List Ig}(s:l.length<=12)(h:∀c∈l,LX d c)(p:d<=2)(t:1000000003000<fu):Ok (tE fu l) (Mx (WW (Dk d)) (DL (BA d)) l):=by have e:=λx (a:x∈l) y (b:y∈l)=>O4 (R:=BA d) HL (h x a).vs (h y b).vs;refine max_eq (g:=λx y=>Va fu (x,y)) (srt:=λm=>ej fu m) xG s (by omega) (λx a y b=>Jv JZ (h x a).n1 (h x a).vs (h y b).vs (by omega)) λm i n o=>?_;have u:=i.length_le;have f:∀x∈m,x∈l:=λx a=>i.subset a;exact(Zw (c:=DL (BA d)) (by omega) (by omega) (λx a y b q=>by grind) λx a y b=>Yd (h x (f x a)) (h y (f y b)) p (by omega)).mono λr j=>nw e (λx a=>aN (h x a)) i n o j.1.1 j.1.2 j.2
theorem gA{l:List BC}(u:l.length<=12)(h:∀c∈l,CX d c)(t:d<=2)(v:1000000003000<fu):Ok (tB fu l) (Mx (U2 (Dk d)) (Et (BA d)) l):=by have e:=λx (a:x∈l) y (b:y∈l)=>O0 (R:=BA d) HL (h x a).bd (h y b).bd (h x a).gd (h y b).gd (h x a).vs (h y b).vs;refine max_eq (g:=λx y=>Vb fu (x,y)) (srt:=λm=>eg fu m) nN u (by omega) (λx a y b=>G7 JZ (h x a).bd (h y b).bd (h x a).gd (h y b).gd (h x a).vs (h y b).vs (by omega)) λm k p s=>?_;have w:=k.length_le;have f:∀x∈m,x∈l:=λx a=>k.subset a;exact(Zv (c:=Et (BA d)) (by omega) (by omega) (λx a y b q=>by grind) λx a y b=>Yb (h x (f x a)) (h y (f y b)) t (by omega)).mono λr n=>nw e (λx a=>aM (h x a)) k p s n.1.1 n.1.2 n.2
def Ts:List Sp×List Sp:=([(-100000000000,100000000000)],[(-999999999999999,999999999999999)])
def J1:Sc:=(Br,Br,Br,Ts,KN)
theorem allI{n:Int} :A8 Ts n↔ -100000000000<=n/\n<=100000000000:=by show(A0 [(-100000000000,100000000000)] n/\_)↔_;grind[AJ]
theorem xT{y:Int} :A6 Ts y↔ -1000000000000000<=ur y/\ur y<=1000000000000000:=by show(A0 [(-999999999999999,999999999999999)] (ur y)/\_)↔_;grind[ur,AJ]
theorem nQ:Ei Ts (A8 Ts) (A6 Ts):=by
 refine⟨[(rk (-999999999999999),rk 999999999999999)],?_,?_,?_,?_,?_,λn=>?_,λy=>?_⟩;· rfl
 ·exact⟨λt b=>by rw[Aae.1 b];simp,Acg ..⟩
 ·intro s a;rw[Aae.1 a];trivial
 ·exact⟨λt b=>by rw[Aae.1 b];decide,Acg ..⟩
 ·intro s a;rw[Aae.1 a];trivial
 ·rw[allI];show A0 [(-100000000000,100000000000)] n↔_;grind[AJ,Bc]
 grind[ur,rk,xT,AJ,Bc]
theorem Tr:Il 1 12 J1:=⟨nQ,by decide,by decide,sR,dp,rfl,by decide⟩
theorem WS(h:Il k m s):Rh J1 s↔s=J1:=by
 constructor;· rintro⟨e,f,g,i,j,l⟩;have c:s.2.2.2.1=Ts:=h.nu.unique (nQ.congr (λn=>⟨i n,λq=>allI.2 ((h.nu.A8 n).1 q).2⟩) λy=>⟨j y,λq=>xT.2 ((h.nu.A6 y).1 q).2⟩);have d:s.2.2.2.2=KN:=h.ln.unique (Tr.ln.congr (funext λw=>by
   have a:Au KN 0 w=Br:=by rw[dm]
   have b:=l w a;rw[b];exact a));exact Aby (e rfl) (Aby (f rfl) (Aby (g rfl) (Aby c d)))
 ·rintro rfl;exact Oa _
def EvL(c:Ig):Prop:=c.1=[]/\∃x,c.2=[x]/\x.1.any=Br/\x.2.any=Br
def EvS(c:BC):Prop:=c.1=[]/\∃k,c.2=[k]/\k.2.1.any=Br/\k.2.2.any=Br
def EvX(v:Vl):Prop:=v.sc=J1/\∃c s,v.lists=[c]/\v.structs=[s]/\EvL c/\EvS s
theorem P1(h:l.length=1):∃x,l=[x]:=by
 match l,h with
 | [x],_=>simp
theorem Zl{x:Bs} :Ok (U' fu x) λr=>r=Br↔x.1.any=Br/\x.2.any=Br:=by simp_all[U',PY,MI,And.right,AV]
theorem Vo{x:Bs} :Ok (U6 fu x) λr=>r=Br↔x.1.any=Br/\x.2.any=Br:=by rw[U6];exact PY (λh=>MI ⟨λk=>⟨h,k⟩,And.right⟩) λh=>AV λk=>by rw[k.1]at h;cases h
theorem rn{c:Ig} :Ok (tA fu c) λr=>r=Br↔EvL c:=by refine N7 (λf=>N7 (λg=>?_) λg=>AV λk=>g (by obtain⟨_,x,e,_⟩:=k;grind)) λf=>AV λk=>f (by rw[k.1];rfl);obtain⟨x,e⟩:=P1 (l:=c.2) (by omega);have h:c.1=[]:=OF.1 (by omega);refine BY (a:=x) (by rw[e];rfl) (Oz Zl λb i=>MI (i.trans ⟨λk=>⟨h,x,e,k⟩,λk=>?_⟩));obtain⟨_,y,d,k⟩:=k;grind
theorem rm{c:BC} :Ok (tz fu c) λr=>r=Br↔EvS c:=by refine N7 (λf=>N7 (λg=>?_) λg=>AV λk=>g (by obtain⟨_,x,e,_⟩:=k;grind)) λf=>AV λk=>f (by rw[k.1];rfl);obtain⟨x,e⟩:=P1 (l:=c.2) (by omega);have h:c.1=[]:=OF.1 (by omega);refine BY (a:=x) (by rw[e];rfl) (Oz Zl λb i=>MI (i.trans ⟨λk=>⟨h,x,e,k⟩,λk=>?_⟩));obtain⟨_,y,d,k⟩:=k;grind
theorem bO(h:Il k m v.sc)(G:k<=10)(H:m<=100000)(F:1000000002000<fu):Ok (j8 fu v) λr=>r=Br↔EvX v:=by
 rw[j8];refine N7 (λt=>N7 (λu=>?_) λu=>AV λk=>u (by obtain⟨_,c,s,_,e,_⟩:=k;rw[e];rfl)) λt=>AV λk=>t (by obtain⟨_,c,s,e,_⟩:=k;rw[e];rfl);have y:j9 fu () =Ac J1:=by
  refine(Ok.eq ?_);rw[j9];have z:Vc fu () =Ac Ts:=by refine(Ok.eq ?_);rw[Vc];exact BY (rf) (MI rf)
  exact BY z (BY (rf) (MI rf))
 obtain⟨q,_,_,A⟩:=Gi (fu:=fu) h Tr (by omega) (by omega) (by omega);have D:v.sc=J1->E8 v.sc J1=0:=λe=>by rw[e];obtain⟨_,_,s,_⟩:=Gi (fu:=fu) Tr Tr (by decide) (by decide) (by omega);omega
 obtain⟨c,j⟩:=P1 (l:=v.lists) (by omega);obtain⟨s,n⟩:=P1 (l:=v.structs) (by omega);refine BY y (BY q (N7 (λo=>?_) λo=>AV λk=>o (D k.1)));have C:=A o;have g:∀ {f},v.lists=[f]->c=f:=λe=>by rw[j]at e;exact Adm e
 have d:∀ {f},v.structs=[f]->s=f:=λe=>by rw[n]at e;exact Adm e
 refine BY (a:=c) (by rw[j];rfl) (Oz rn λb w=>PY (λi=>BY (a:=s) (by rw[n];rfl) (Oz rm λE p=>MI (p.trans ⟨λk=>⟨C,c,s,j,n,w.1 i,k⟩,λk=>?_⟩))) λi=>AV λk=>?_);· obtain⟨_,f,B,e,x,_,k⟩:=k;rw[d x];exact k
 ·obtain⟨_,f,B,e,_,k,_⟩:=k;rw[<-g e]at k;rw[w.2 k]at i;cases i
theorem X4(h:Il k m v.sc)(O:k<=10)(P:m<=100000)(N:1000000002000<fu):Ok (jA fu v) λr=>r=Br↔v.any=Ak/\EvX v:=by
 rw[jA];refine PY (λd=>AV λk=>by rw[k.1]at d;cases d) λd=>N7 (λA=>AV λk=>A (by obtain⟨_,_,c,s,e,_⟩:=k;rw[e];rfl)) λA=>N7 (λB=>AV λk=>B (by obtain⟨_,_,c,s,_,e,_⟩:=k;rw[e];rfl)) λB=>?_;have H:jB fu () =Ac J1:=by refine(Ok.eq ?_);rw[jB];exact BY (rf) (BY (jm fu) (MI rf))
 obtain⟨c,i⟩:=P1 (l:=v.lists) (by omega);obtain⟨s,j⟩:=P1 (l:=v.structs) (by omega);have ab:EvX v->v.sc=J1/\EvL c/\EvS s:=λk=>by obtain⟨u,M,Q,e,w,I,J⟩:=k;rw[i]at e;rw[j]at w;rw[Adm e,Adm w];exact⟨u,I,J⟩
 refine BY H (Oz (Ma Tr h (by omega) (by omega) (by omega)) λr F=>PY (λf=>AV λk=>?_) λf=>?_);· rw[F.2 ((WS h).2 (ab k.2).1)]at f;cases f
 have u:=(WS h).1 (F.1 (by simpa using f));refine BY (a:=c) (by rw[i];rfl) (BY (a:=s) (by rw[j];rfl) ?_);refine N7 (λp=>AV λk=>by rw[(ab k.2).2.1.1]at p;exact absurd p (by decide)) λp=>N7 (λC=>AV λk=>?_) λC=>N7 (λq=>AV λk=>by rw[(ab k.2).2.2.1]at q;exact absurd q (by decide)) λq=>N7 (λD=>AV λk=>?_) λD=>?_;· obtain⟨_,x,e,_⟩:=(ab k.2).2.1;exact C (by rw[e];rfl)
 ·obtain⟨_,x,e,_⟩:=(ab k.2).2.2;exact D (by rw[e];rfl)
 obtain⟨x,n⟩:=P1 (l:=c.2) (by omega);obtain⟨y,o⟩:=P1 (l:=s.2) (by omega);have G:c.1=[]:=OF.1 (by omega);have K:s.1=[]:=OF.1 (by omega);refine BY (a:=x) (by rw[n];rfl) (Oz Vo λb E=>PY (λg=>BY (a:=y) (by rw[o];rfl) (Oz Vo λL t=>MI (t.trans ⟨λk=>⟨d,u,c,s,i,j,⟨G,x,n,E.1 g⟩,K,y,o,k⟩,λk=>?_⟩))) λg=>AV λk=>?_);· obtain⟨_,z,e,k⟩:=(ab k.2).2.2;rw[o]at e;rw[Adm e];exact k
 ·obtain⟨_,z,e,k⟩:=(ab k.2).2.1;rw[n]at e;rw[<-Adm e]at k;rw[E.2 k]at g;cases g
theorem Jm(l:List α)(d:α)(p:α->Bool):((aO l.length).filter λi=>p (l.getD i d)).length=(l.filter p).length:=by
 have e:l=(aO l.length).map λi=>l.getD i d:=oD l d;conv=>rhs;rw[e]
 rw[Akz,Aap];rfl
theorem XP{c:BC}(w:Ay):Lo c (Gv c w) c.2.length=(c.2.filter λk=>Au k.1 0 w).length:=by rw[<-Jm c.2 dK];unfold Lo;congr 1;refine Afy λi b=>?_;rw[Vy (Abf.1 b) w];rfl
theorem fH{c:BC}{j:Nat}(f:j<c.1.length)(w:Ay):(Gv c w).getD (c.2.length+j) 0=runT (Bx (c.1.getD j dF).1) 0 w/\ -1<=runT (Bx (c.1.getD j dF).1) 0 w/\runT (Bx (c.1.getD j dF).1) 0 w<=(c.1.getD j dF).1.length:=by
 have:∀l:Ay,(Gv c l.reverse).getD (c.2.length+j) 0=runT (Bx (c.1.getD j dF).1) 0 l.reverse/\ -1<=runT (Bx (c.1.getD j dF).1) 0 l.reverse/\runT (Bx (c.1.getD j dF).1) 0 l.reverse<=(c.1.getD j dF).1.length:=λl=>by
  induction l with
  |nil=>
   refine⟨?_,?_,?_⟩;· show(CS c).getD (c.2.length+j) 0=0;grind[CS]
   ·show(-1:Int)<=0;simp
   ·show(0:Int)<=_;omega
  |cons x l d=>
   have e:runT (Bx (c.1.getD j dF).1) 0 (l.reverse++[x])=YW (c.1.getD j dF).1 (runT (Bx (c.1.getD j dF).1) 0 l.reverse) x.toNat:=by rw[<-Q6 d.2];unfold runT;rw[Adc];rfl
   rw[Aew,e];refine⟨?_,aQ d.2.2⟩;rw[FY,(Hk c _ _).fd j f];simp_all[Uh]
 have:=this w.reverse;grind
theorem XQ{c:BC}(w:Ay):Qa c (Gv c w) c.1.length=(c.1.filter λf=>Au (Bx f.1) 0 w).length:=by rw[<-Jm c.1 dF];unfold Qa;congr 1;refine Afy λj b=>?_;have h:=fH (Abf.1 b) w;simp_all[Au,N3]
theorem Su(c:BC)(w:Ay):MS c (Gv c w)=(c.2.filter λk=>Au k.1 0 w).length+(c.1.filter λf=>Au (Bx f.1) 0 w).length:=by grind[MS,XP,XQ]
def Dy(l:List (Tb×Bs))(w:Ay):Nat:=(l.filter λk=>Au k.1 0 w).length
theorem DK(a b:List (Tb×Bs))(w:Ay):Dy (a++b) w=Dy a w+Dy b w:=by simp[Dy]
theorem E7(k:Tb×Bs)(w:Ay):Dy [k] w=if Au k.1 0 w=Br then 1 else 0:=by grind[Dy,Au]
theorem Ya{a b:List (Tb×Bs)}(h:a.Perm b)(w:Ay):Dy a w=Dy b w:=(h.filter _).length_eq
theorem cy{z:List (Tb×Bs)}{i:Nat}(hi:i<z.length){k x:Tb×Bs}{w:Ay}(ht:Au x.1 0 w=(Au z[i].1 0 w||Au k.1 0 w))(f:¬(Au z[i].1 0 w=Br/\Au k.1 0 w=Br)):Dy (z.set i x) w=Dy z w+Dy [k] w:=by
 have c:z=z.take i++([z[i]]++z.drop (i+1)):=by simp
 have b:z.set i x=z.take i++([x]++z.drop (i+1)):=by rw[Adv,if_pos hi];rfl
 have a:Dy z w=Dy (z.take i) w+(Dy [z[i]] w+Dy (z.drop (i+1)) w):=by grind[DK]
 rw[b,DK,DK,a,E7,E7,E7,ht];all_goals grind
theorem Ll.of{c b:BC}(h:Ll c)(e:b.1.map (·.1)=c.1.map (·.1))(k:∀w,Dy b.2 w=Dy c.2 w):Ll b:=λw=>by
 have lb:∀l:List (Ay×Int×Bs),(l.filter λf=>Au (Bx f.1) 0 w).length=((l.map (·.1)).filter λs=>Au (Bx s) 0 w).length:=λl=>by rw[Akz,Aap];rfl
 have:=h w;simp_all[Dy,Su]
theorem ZV{a b:List Nat}(h:a.Perm b):GZ a=GZ b:=by
 induction h with
 |nil=>rfl
 |cons x _ e=>grind[GZ]
 |swap x y l=>grind[GZ]
 |trans _ _ c d=>omega
theorem eK.of{l m:List (Ay×Int×Bs)}(h:eK l)(e:m.map (·.1)=l.map (·.1)):eK m:=by
 have f:m.length=l.length:=by simpa using congrArg FB e
 have c:∀i (b:i<m.length),m[i].1=(l[i]'(by omega)).1:=λi b=>by have:=List.getElem_of_eq e (by grind:i<(m.map (·.1)).length);grind
 intro i d;rw[c i (by omega),c (i+1) d];exact h i (by omega)
end
section
variable {d : Nat} (hd : d <= 2) (ih : ∀ {fu : Nat} {x : Bs}, SX d x -> 1000000003000 + 10 * d + 1 < fu -> Ok (Ly fu x) λr => r.2 = Br -> SX d r.1)
include hd ih
structure COk(d:Nat)(k:Tb×Bs):Prop where
 wf:Bg k.1
 cn:Cb k.1=k.1
 vs:SX d k.2
def J7(l:List (Tb×Bs)):Nat:=GZ (l.map λk=>k.1.length+3)
omit hd ih in
theorem HS(a b:List (Tb×Bs)):J7 (a++b)=J7 a*J7 b:=by simp_all[J7,Aan,VH]
omit hd ih in
theorem Pl(a:List (Tb×Bs)):0<J7 a:=VF λn b=>by grind
omit hd ih in
theorem LB(k:Tb×Bs):J7 [k]=k.1.length+3:=by simp[J7,GZ]
omit hd ih in
theorem Pm{l:List (Tb×Bs)}{k:Tb×Bs}(h:k∈l):k.1.length+3<=J7 l:=
 VG (λn b=>by grind) (By.2 ⟨k,h,rfl⟩)
omit hd ih in
theorem Tt{fu j:Nat}{c z:List (Tb×Bs)}(s:j<c.length)(f:J7 z*J7 (c.drop j)<=14641)(D:∀k∈z,COk d k)(hc:COk d c[j])(I:1000000003000<fu):
  Vh fu (c[j].1,[])=Ac c[j].1/\(∀v,J7 (z++[(c[j].1,v)])*J7 (c.drop (j+1))<=14641)/\∀i (hi:i<z.length),Ok (Vh fu (z[i].1,c[j].1)) λt=>(Bg t/\Cb t=t/\Au t 0=λw=>Au z[i].1 0 w||Au c[j].1 0 w)/\∀v,J7 (z.set i (t,v))*J7 (c.drop (j+1))<=14641:=by
 have l:J7 (c.drop j)=(c[j].1.length+3)*J7 (c.drop (j+1)):=by rw[Aar s,show c[j]::c.drop (j+1)=[c[j]]++c.drop (j+1)from rfl,HS,LB]
 have E:=Pl (c.drop (j+1));have F:=Pl z;have G:c[j].1.length+3<=14641:=Aam (by simp_all[Aet]) (Aam (Nat.le_mul_of_pos_left _ F) f);have h:CK c[j].1 (Au c[j].1 0) 14641:=⟨hc.wf,hc.cn,rfl,by omega⟩;refine⟨?_,λv=>?_,λi hi=>?_⟩;· obtain⟨t,p,b⟩:=Uc (Gy (fu:=fu) h (CK.nil (m:=0)) (by simp) (by omega));have:c[j].1=t:=h.unique (b.congr (funext λw=>by rw[h.gL,Hx,Alj]));grind
 ·simp_all[HS,LB,Aej]
 ·have g:=D _ (AN hi);have H:z[i].1.length+3<=14641:=Aam (Pm (AN hi)) (Aam (Aet _ (Pl _)) f);have ii:CK z[i].1 (Au z[i].1 0) 14641:=⟨g.wf,g.cn,rfl,by omega⟩;refine(Uc (Gy (fu:=fu) ii h (by simp) (by omega))).mono λt b=>⟨⟨b.wf,b.can,b.lg.trans (by rw[ii.gL,h.gL])⟩,λv=>?_⟩;have u:t.length+3<=(z[i].1.length+3)*(c[j].1.length+3):=by
   have:=b.len;grind[GY]
  have q:z=z.take i++([z[i]]++z.drop (i+1)):=by simp
  have o:z.set i (t,v)=z.take i++([(t,v)]++z.drop (i+1)):=by rw[Adv,if_pos hi];rfl
  rw[o,HS,HS,LB];have n:J7 (z.take i)*((z[i].1.length+3)*J7 (z.drop (i+1)))*((c[j].1.length+3)*J7 (c.drop (j+1)))<=14641:=by rw[q,HS,HS,LB,l]at f;exact f
  refine Aam ?_ n;generalize J7 (z.take i)=A,J7 (z.drop (i+1))=B,J7 (c.drop (j+1))=C at*;calc A*((t.length+3)*B)*C<=A*(((z[i].1.length+3)*(c[j].1.length+3))*B)*C:=Abi _ (Nat.mul_le_mul_left _ (Abi _ u))
   _=A*((z[i].1.length+3)*B)*((c[j].1.length+3)*C):=by generalize z[i].1.length+3=x,c[j].1.length+3=y;rw[Aej,Aej,Aej A];rw[Aej,Aej,Nat.mul_left_comm y]
end
theorem SV.sb:∀ {d:Nat} {v:Vl},SV d v->SB d v
 |0,_,h=>h.1.elim
 |d+1,v,h=>⟨h.1,DD h.1.1 h.2.1.sc,h.2.1.rs,λc hc=>⟨(h.2.1.st c hc).1.2,λk b=>((h.2.1.st c hc).2.1 k b).2⟩,λx a=>⟨(h.qK x a).1.sb.2,(h.qK x a).2.sb.2⟩⟩
def Y9(G:Bs->Prop)(c:Ig):Prop:=(∀x∈c.1,NB x.1/\G x)/\∀x∈c.2,NB x.1/\G x
section
variable {d : Nat} {G : Bs -> Prop} (hd : d <= 2) (ih : ∀ {fu : Nat} {x : Bs}, SW d x -> 1000000003000 + 10 * d + 1 < fu -> Ok (Ly fu x) λr => (r.2 = Br -> SW d r.1 /\ G r.1) /\ (G x -> r = (x, Br)))
include hd ih
theorem iX{fu:Nat}{c:Ig}(h:LX d c)(T:1000000003000+10*d+2<fu):Ok (j7 fu c) λr=>(r.2.2=Br->r.2.1=Br->LX d r.1/\Y9 G r.1)/\(Y9 G c->r=(c,Br,Br)):=by
 obtain⟨f,rfl⟩:∃f,fu=f+1:=⟨fu-1,by omega⟩;rw[show j7 (f+1) c=_ from d246 f c];have U:=h.n1;have V:=h.n2;refine XJ (λk (s:List Bs) (t:Bool)=>s.length=k/\(∀w∈s,SW d w/\G w)/\(t=Br->∀w∈s,NB w.1)/\(Y9 G c->s=c.1.take k/\t=Br)) c.1.length ⟨rfl,by simp,by simp,λ_=>by simp⟩ (by omega) (λk s t nx v I E=>?_) (λs t nx I=>?_)
 ·have j:=AN v;have m:=h.vs _ (AT.2 (.inl j));obtain⟨N,F,M,z⟩:=I;refine P2 (Aah v (Oz (ih m (by omega)) λr n=>PY (λg=>MI ⟨λq=>(by simp),λq=>?_⟩) λg=>?_));· rw[n.2 (q.1 _ j).2]at g;grind
  have g:r.2=Br:=by grind
  have i:=n.1 g;have add:∀b,(b=Br->NB r.1.1/\t=Br)->(Y9 G c->b=Br)->Ok (nx (s++[r.1],b,k+1)) λr=>(r.2.2=Br->r.2.1=Br->LX d r.1/\Y9 G r.1)/\(Y9 G c->r=(c,Br,Br)):=λb p J=>E _ _ ⟨by rw[Aab,Acm,N],λw a=>by
   rcases AT.1 a with a|a;· exact F w a
   ·rw[Aae.1 a];exact i,λq w a=>by
   rcases AT.1 a with a|a;· exact M (p q).2 w a
   ·rw[Aae.1 a];exact(p q).1,λq=>⟨by
    have e:r=(c.1[k],Br):=n.2 (q.1 _ j).2;rw[(z q).1,e,GB v],J q⟩⟩;refine PY (λB=>Oz (Hq i.1.1.sb (by omega)) λb p=>Abw (add _ (λq=>⟨?_,B⟩) λq=>?_)) λB=>Abw (add _ (λq=>by cases q) λq=>?_);· refine IS λy=>?_;rw[p.2 y]at q;cases q
  ·have e:r=(c.1[k],Br):=n.2 (q.1 _ j).2;have y:=(q.1 _ j).1;cases K:b with
   |false=>rfl
   |true=>exact absurd (by rw[e];exact y) (p.1 K)
  grind
 ·obtain⟨N,F,M,z⟩:=I;rw[Aav]at z;refine Qb (by dsimp only;omega) ?_;refine SA (λk (C:List Bs)=>C.length<=k/\(∀w∈C,SW d w/\NB w.1/\G w)/\(Y9 G c->C=c.2.take k)) c.2.length ⟨by simp,by simp,λ_=>by simp⟩ (by omega) (λk C nx v u E=>?_) (λC nx u=>?_)
  ·have j:=AN v;have m:=h.vs _ (AT.2 (.inr j));obtain⟨S,A,H⟩:=u;refine P2 (Aah v (Oz (ih m (by omega)) λr n=>PY (λg=>MI ⟨λq=>(by cases q),λq=>?_⟩) λg=>?_));· rw[n.2 (q.2 _ j).2]at g;cases g
   have g:r.2=Br:=by simpa using g
   have i:=n.1 g;refine Oz (Hq i.1.1.sb (by omega)) λb p=>PY (λl=>Abw (E _ ⟨by dsimp only;rw[Aab,Acm];omega,λw a=>?_,λq=>?_⟩)) λl=>E _ ⟨by dsimp only;omega,A,λq=>?_⟩
   ·rcases AT.1 a with a|a;· exact A w a
    ·rw[Aae.1 a];refine⟨i.1,IS λy=>?_,i.2⟩;rw[p.2 y]at l;cases l
   ·have e:r=(c.2[k],Br):=n.2 (q.2 _ j).2;rw[H q,e,GB v]
   ·have e:r=(c.2[k],Br):=n.2 (q.2 _ j).2;have y:=(q.2 _ j).1;have L:b=Br:=by simpa using l
    exact absurd (by rw[e];exact y) (p.1 L)
  ·obtain⟨S,A,H⟩:=u;rw[Aav]at H;refine P3 (MI ⟨λ_ B=>⟨⟨by dsimp only;omega,by dsimp only;omega,λw a=>?_⟩,λw a=>⟨M B w a,(F w a).2⟩,λw a=>⟨(A w a).2.1,(A w a).2.2⟩⟩,λq=>?_⟩)
   ·rcases AT.1 a with a|a;· exact(F w a).1
    ·exact(A w a).1
   ·have P:=(z q).1;have Q:=(z q).2;have R:=H q;rw[P,Q,R]
end
section
variable{d fu:Nat}{α:Type}{v:Vl}{B:α->α->Prop}{c:BC}{G:Bs->Prop}{k:Tb×Bs}{x:Bs}{l:List α}
theorem bk{l:List (Tb×Bs)}{v:Bs}(h:∀k∈l,SW d k.2)(j:SW d v)(p:l.length<=12)(o:1000000003000+10*d<fu):
  Ok (uM fu (l,v)) λr=>r.2=(l,v)/\((∃i,∃hi:i<l.length,r.1=(i:Int)/\l[i].2=v)\/r.1= -1/\∀k∈l,k.2≠v):=by
 refine SA (λk s=>s=v/\∀x∈l.take k,x.2≠v) l.length ⟨rf,by simp⟩ (by omega) (λk s nx f a n=>?_) (λs nx a=>?_)
 ·obtain⟨rfl,a⟩:=a;have m:=h _ (AN f);have e:Ok (uN fu (l[k],s)) λr=>r.2=s/\(r.1=Br↔l[k].2=s):=by
   exact Oz (Mj (d:=d) ⟨m.1.1,m.2.1⟩ ⟨j.1.1,j.2.1⟩ (by omega)) λr b=>MI ⟨rf,b⟩
  refine P2 (Aah f (Oz e λr b=>PY (λc=>MI ⟨by grind, .inl ⟨k,f,rfl,b.2.1 c⟩⟩) λc=>n _ ⟨b.1,λx g=>?_⟩));rcases(Ag f).1 g with g|rfl;all_goals grind
 ·obtain⟨rfl,a⟩:=a;rw[Ai]at a;exact P3 (MI ⟨rfl, .inr ⟨rfl,a⟩⟩)
def U4(G:Bs->Prop)(c:BC):Prop:=(∀f∈c.1,NB f.2.2.1/\G f.2.2)/\(∀k∈c.2,G k.2)/\ES (λk b=>Fb k.1 b.1<0) c.2/\c.2.Pairwise (λk b=>k.2≠b.2)
theorem Lk{α:Type}{B:α->α->Prop}{c:α->α->Int} :∀ {l:List α},(∀x∈l,∀y∈l,c y x= -c x y/\(c x y=0->B x y))->l.Pairwise (λx y=> ¬B x y)->ES (λp q=> ¬c q p<0) l->ES (λp q=>c p q<0) l
 | [],_,_,_=>trivial
 | [_],_,_,_=>trivial
 |x::y::l,h,p,a=>by have b:=Abj.1 p;refine⟨?_,Lk (λu d v f=>h u (Aag _ d) v (Aag _ f)) b.2 a.2⟩;have g:=a.1;grind
structure KX(d:Nat)(G:Bs->Prop)(k:Tb×Bs):Prop where
 ne:k.1≠ []
 wf:Bg k.1
 cn:Cb k.1=k.1
 vs:SW d k.2
 gd:G k.2
theorem KX.cok(h:KX d G k):COk d k:=⟨h.wf,h.cn,h.vs.1.sb,h.vs.2.sb⟩
theorem CX.cok(h:CX d c):∀k∈c.2,COk d k:=λk a=>by have g:=h.gd.1 k a;have v:=h.vs _ (AT.2 (.inr (By.2 ⟨k,a,rfl⟩)));exact⟨g.2.1,g.2.2,v.1.sb,v.2.sb⟩
theorem Wt{l:List (Tb×Bs)}{k:Tb×Bs}(a:k∈l){w:Ay}(h:Au k.1 0 w=Br):0<Dy l w:=
 Agm (Aax.2 ⟨a,h⟩)
theorem Wv(h:Ll c)(w:Ay):Dy c.2 w<=1:=by have:=h w;grind[Dy,Su]
theorem dw(h0:k.1≠ [])(h1:Bg k.1)(h2:Cb k.1=k.1):∃w,Au k.1 0 w=Br:=IS λb=>by refine h0 ((CK.Gx (⟨h1,h2,rf,Aaf _⟩:CK k.1 (Au k.1 0) k.1.length)).2 (funext λw=>?_));grind
theorem Wu:∀ {l:List (Tb×Bs)},(∀k∈l,∃w,Au k.1 0 w=Br)->(∀w,Dy l w<=1)->l.Pairwise λx y=>x.1≠y.1
 | [],_,_=> .nil
 |x::l,h,hc=>by
  have e:∀w,Dy (x::l) w=Dy [x] w+Dy l w:=λw=>DK [x] l w;refine Abj.2 ⟨λy c q=>?_,Wu (λk b=>h k (Aag _ b)) λw=>?_⟩;· obtain⟨w,a⟩:=h x (Aas ..);have:=hc w;rw[e,E7,if_pos a]at this;grind[Wt]
  grind
theorem KX.is(h:KX d G k){m:Nat}(b:k.1.length<=m):CK k.1 (Au k.1 0) m:=⟨h.wf,h.cn,rfl,b⟩
theorem iV(hd:d<=2)(ih:∀ {fu:Nat} {x:Bs},SW d x->1000000003000+10*d+1<fu->Ok (Ly fu x) λr=>(r.2=Br->SW d r.1/\G r.1)/\(G x->r=(x,Br)))(h:CX d c)(hF:1000000003000+10*d+2<fu):
  Ok (j6 fu c) λr=>(r.2.2=Br->r.2.1=Br->CX d r.1/\U4 G r.1)/\(U4 G c->r=(c,Br,Br)):=by
 obtain⟨f,rfl⟩:∃f,fu=f+1:=⟨fu-1,by omega⟩;rw[show j6 (f+1) c=_ from d247 f c];have n1:=h.bd.nf;have n2:=h.bd.nc;refine XJ (λk (s:List (Ay×Int×Bs)) (t:Bool)=>(s.map (λf=>(f.1,f.2.1))=(c.1.take k).map λf=>(f.1,f.2.1))/\(∀f∈s,SW d f.2.2/\G f.2.2)/\(t=Br->∀f∈s,NB f.2.2.1)/\(U4 G c->s=c.1.take k/\t=Br)) c.1.length ⟨rfl,by simp,by simp,λ_=>by simp⟩ (by omega) (λk s t nx o hJ hn=>?_) (λs t nx hJ=>?_)
 ·have L:=AN o;have m:=h.vs _ (AT.2 (.inl (By.2 ⟨_,L,rfl⟩)));obtain⟨O,j2,j3,j4⟩:=hJ;have hsl:s.length<=4:=by have:=congrArg FB O;simp only[Aap,Abh]at this;omega
  refine P2 (Aah o (Oz (ih m (by omega)) λr Q=>PY (λM=>MI ⟨λq=>(by simp),λq=>?_⟩) λM=>?_));· rw[Q.2 (q.1 _ L).2]at M;grind
  have H:=Q.1 (by grind);have ef:U4 G c->s++[(c.1[k].1,c.1[k].2.1,r.1)]=c.1.take (k+1):=λq=>by have e:r=(c.1[k].2.2,Br):=Q.2 (q.1 _ L).2;rw[(j4 q).1,e,GB o]
  have add:∀b:Bool,(b=Br->t=Br/\NB r.1.1)->(U4 G c->b=Br)->Ok (nx (s++[(c.1[k].1,c.1[k].2.1,r.1)],b,k+1)) λr=>(r.2.2=Br->r.2.1=Br->CX d r.1/\U4 G r.1)/\(U4 G c->r=(c,Br,Br)):=λb U N=>by
   refine hn _ _ ⟨by rw[Aan,O,GB o,Aan];rfl,λw D=>?_,λhbt w D=>?_,λq=>⟨ef q,N q⟩⟩
   ·rcases AT.1 D with D|D;· exact j2 w D
    ·rw[Aae.1 D];omega
   ·obtain⟨h3,h4⟩:=U hbt;rcases AT.1 D with D|D;· exact j3 h3 w D
    ·rw[Aae.1 D];omega
  refine PY (λI=>Oz (Hq H.1.1.sb (by omega)) λb U=>Abw (add _ (λN=>⟨I,?_⟩) λq=>?_)) λI=>Abw (add Ak (λh=>by cases h) λq=>?_);· refine IS λhnb=>?_;rw[U.2 hnb]at N;cases N
  ·have e:r=(c.1[k].2.2,Br):=Q.2 (q.1 _ L).2;have nb:=(q.1 _ L).1;cases hbb:b with
   |false=>rfl
   |true=>exact absurd (by rw[e];omega) (U.1 hbb)
  ·have:=(j4 q).2;rw[show t=Ak from I]at this;cases this
 ·obtain⟨
      O,j2,j3,j4⟩:=hJ;refine Qb (by dsimp only;omega) ?_;rw[Ai]at O j4;refine SA (λj (z:List (Tb×Bs))=>z.length<=j/\(∀k∈z,KX d G k)/\J7 z*J7 (c.2.drop j)<=14641/\(∀w,Dy z w=Dy (c.2.take j) w)/\(z.Pairwise λk W=>k.2≠W.2)/\(U4 G c->z=c.2.take j)) c.2.length ⟨by simp,by simp,by simpa [J7,GZ]using h.bd.st,λw=>by simp,by simp,λ_=>by simp⟩ (by omega) (λj z nx hj T hn=>?_) (λz nx T=>?_)
  ·have L:=AN hj;have m:=h.vs _ (AT.2 (.inr (By.2 ⟨_,L,rfl⟩)));obtain⟨z1,F,z3,Z,z5,z6⟩:=T;obtain⟨a1,a2,a3⟩:=Tt (fu:=f) (d:=d) hj z3 (λk o=>(F k o).cok) (h.cok _ L) (by omega);have g:=h.gd.1 _ L;have tk:c.2.take (j+1)=c.2.take j++[c.2[j]]:=GB hj;refine P2 (Aah hj (Oz (ih m (by omega)) λr Q=>PY (λM=>MI ⟨λq=>(by cases q),λq=>?_⟩) λM=>?_));· rw[Q.2 (q.2.1 _ L)]at M;cases M
   have H:=Q.1 (by simpa using M);have rq:U4 G c->r.1=c.2[j].2:=λq=>by rw[Q.2 (q.2.1 _ L)]
   refine Oz (bk (l:=z) (λk o=>(F k o).vs) H.1 (by omega) (by omega)) λr10 R=>?_;obtain⟨i,q1,q2⟩:=r10;obtain⟨R,S⟩:=R;cases R;dsimp only at S⊢;refine N7 (λhi=>BY a1 (Abw (hn _ ⟨by rw[Aab,Acm];omega,λk o=>?_,a2 _,λw=>?_,?_,λq=>?_⟩))) λhi=>?_
   ·rcases AT.1 o with o|o;· exact F k o
    ·rw[Aae.1 o];exact⟨g.1,g.2.1,g.2.2,H.1,H.2⟩
   ·rw[tk,DK,DK,Z,E7,E7]
   ·refine Abb.2 ⟨z5,Acg ..,λx J y K=>?_⟩;rw[Aae.1 K];rcases S with⟨n,E,e,_⟩|⟨_,e⟩;· omega
    ·exact e x J
   ·rw[tk,<-z6 q,rq q]
   ·obtain⟨n,E,rfl,e⟩:=S.resolve_right λe=>hi (by rw[e.1];decide);have kz:=F _ (AN E);have sum:∀w,Dy c.2 w=Dy z w+Dy [c.2[j]] w+Dy (c.2.drop (j+1)) w:=λw=>by
     rw[Z,<-DK,<-tk,<-DK,Ace]
    refine Aah E (Oz (a3 n E) λt I=>Aah E (hn _ ⟨by rw[Abp];omega,λk o=>?_,by exact I.2 _,λw=>?_,?_,λq=>?_⟩))
    ·rcases List.mem_or_eq_of_mem_set o with o|o;· exact F k o
     ·rw[o];refine⟨λe0=>?_,I.1.1,I.1.2.1,kz.vs,kz.gd⟩;obtain⟨w,D⟩:=dw kz.ne kz.wf kz.cn;have e1:=congrFun I.1.2.2 w;dsimp only at e0;rw[e0,DG,D]at e1;cases e1
    ·have tw:Au t 0 w=(Au z[n].1 0 w||Au c.2[j].1 0 w):=congrFun I.1.2.2 w;have e5:=cy E (k:=c.2[j]) (x:=(t,z[n].2)) tw λU=>by
      have le:=Wv h.gd.2 w;have p1:=Wt (AN E) U.1;rw[sum w,E7,if_pos U.2]at le;omega
     rw[Acd,e5,Z,tk,DK]
    ·have ez:(z.set n (t,z[n].2)).map (·.2)=z.map (·.2):=by
      rw[List.map_set];have:(z.map (·.2)).set n ((z.map (·.2))[n]'(by simpa using E))=z.map (·.2):=List.set_getElem_self ..;rw[List.getElem_map]at this;exact this
     have p:(z.map (·.2)).Pairwise (· ≠ ·):=Adl.2 z5;rw[<-ez]at p;exact Adl.1 p
    ·exfalso;have e6:=z6 q;have pw:=q.2.2.2;have l6:=congrArg FB e6;rw[Abh]at l6;have nj:n<j:=by omega
     refine Aaw.1 pw n j (by omega) hj nj ?_;rw[<-rq q,<-e];have:z[n]=c.2[n]'(by omega):=by simp only[e6,List.getElem_take]
     rw[this]
  ·refine Qb (by dsimp only;omega) ?_;obtain⟨z1,F,z3,Z,z5,z6⟩:=T;rw[Ai]at Z z6;have z3:J7 z<=14641:=by simpa [J7,GZ]using z3
   have il:∀k∈z,CK k.1 (Au k.1 0) 14641:=λk o=>(F k o).is (by have:=Pm o;omega);have Y:∀x∈z,∀y∈z,Fb y.1 x.1= -Fb x.1 y.1/\(Fb x.1 y.1=0->x.1=y.1):=λx J y K=>⟨JW _ _,(KI (fu:=f) (il x J) (il y K) (by decide) (by omega)).1⟩;refine Oz (Zx (fu:=f) (l:=z) (by omega) (by omega) (c:=λk W=>Fb k.1 W.1) (λx J y K q=>by have:=(Y x J y K).1;omega) λx J y K=>?_) λr15 v=>MI ⟨λ_ I=>⟨⟨⟨?_,?_,λg hg=>?_,?_,λk o=>?_,λk o s hs=>?_⟩,⟨λg hg=>?_,h.fl.2.of ?_⟩,⟨λk o=>?_,h.gd.2.of ?_ λw=>?_⟩,λw D=>?_⟩,⟨λf hf=>⟨j3 I f hf,(j2 f hf).2⟩,λk o=>?_,?_,?_⟩⟩,λq=>?_⟩;· refine(Ok.eq ?_);rw[kI];exact BY (Fu (il x J) (il y K) (by decide) (by omega)) (MI rfl)
   ·have:=congrArg FB O;simp only[Aap]at this;dsimp only;omega
   ·dsimp only;rw[v.1.1.length_eq];omega
   ·have:(g.1,g.2.1)∈s.map (λf=>(f.1,f.2.1)):=By.2 ⟨g,hg,rfl⟩;rw[O]at this;obtain⟨g',V,e⟩:=By.1 this;rw[show g.1=g'.1 from(congrArg Prod.fst e).symm];exact h.bd.lb g' V
   ·dsimp only;rw[ZV (v.1.1.map _)];exact z3
   ·exact(F k (v.1.1.mem_iff.1 o)).wf.by
   ·exact((F k (v.1.1.mem_iff.1 o)).wf s hs).len
   ·have:(g.1,g.2.1)∈s.map (λf=>(f.1,f.2.1)):=By.2 ⟨g,hg,rfl⟩;rw[O]at this;obtain⟨g',V,e⟩:=By.1 this;rw[show g.2.1=g'.2.1 from(congrArg Prod.snd e).symm];exact h.fl.1 g' V
   ·have:=congrArg (List.map Prod.fst) O;simpa [Aaj,Function.comp_def]using this
   ·have W:=F k (v.1.1.mem_iff.1 o);exact⟨W.ne,W.wf,W.cn⟩
   ·have:=congrArg (List.map Prod.fst) O;simpa [Aaj,Function.comp_def]using this
   ·rw[Ya v.1.1,Z]
   ·rcases AT.1 D with D|D;· obtain⟨g,hg,rfl⟩:=By.1 D;exact(j2 g hg).1
    ·obtain⟨k,o,rfl⟩:=By.1 D;exact(F k (v.1.1.mem_iff.1 o)).vs
   ·exact(F k (v.1.1.mem_iff.1 o)).gd
   ·have mem:=λx=>(v.1.1.mem_iff (a:=x)).1;refine Lk (B:=λx y=>x.1=y.1) (λx J y K=>Y x (mem x J) y (mem y K)) ?_ v.1.2;exact(v.1.1.pairwise_iff (λ{x y} q e=>q e.symm)).2 (Wu (λk o=>dw (F k o).ne (F k o).wf (F k o).cn) λw=>by rw[Z];exact Wv h.gd.2 w)
   ·exact(v.1.1.pairwise_iff (λ{x y} q e=>q e.symm)).2 z5
   ·have e:=v.2 (Nn (λx J y K=>(Y x J y K).1) (by rw[z6 q];exact q.2.2.1));dsimp only;rw[e,z6 q,(j4 q).1,(j4 q).2]
structure GdV(d:Nat)(G:Bs->Prop)(v:Vl):Prop where
 ls:∀c∈v.lists,Y9 G c
 ss:∀c∈v.structs,U4 G c
 la:AC (WW (Dk d)) v.lists
 lo:ES (λp q=>DL (BA d) p q<0) v.lists
 sa:AC (U2 (Dk d)) v.structs
 so:ES (λp q=>Et (BA d) p q<0) v.structs
 ev:¬EvX v
def DQ:Nat->Vl->Prop
 |0,_=>True
 |d+1,v=>v.any=Ak->GdV d (λx=>(DQ d x.1/\DQ d x.2)/\Dk d x.2 x.1) v
def DA(d:Nat)(x:Bs):Prop:=(DQ d x.1/\DQ d x.2)/\Dk d x.2 x.1
theorem nS(h:l.Pairwise λx y=> ¬B x y/\¬B y x):AC B l:=λi j a b ne=>by grind[Nat.lt_or_ge,List.pairwise_iff_getElem]
theorem oA(d:Nat):SV (d+1) (.mk Br FO [] []):=⟨⟨(KY d).1.1,⟨Abg _,λc hc=>by cases hc⟩,⟨Abg _,λc hc=>by cases hc⟩,λx a=>by cases a⟩,⟨λ_=>⟨rfl,rfl,rfl⟩,Q5,λc hc=>(by cases hc),λc hc=>by cases hc⟩,λx a=>by cases a⟩
theorem SV.lx(h:SV (d+1) v):∀c∈v.lists,LX d c:=λc hc=>⟨(h.1.2.1.2 c hc).1,h.2.1.rs c hc,h.lv hc⟩
theorem SV.cx(h:SV (d+1) v):∀c∈v.structs,CX d c:=λc hc=>⟨h.1.2.2.1.2 c hc,(h.2.1.st c hc).1,(h.2.1.st c hc).2,h.sv hc⟩
theorem O7(k:∀ {fu:Nat} {v:Vl},SV d v->1000000003000+10*d<fu->Ok (YE fu v) λr=>(r.2=Br->SV d r.1/\DQ d r.1)/\(DQ d v->r=(v,Br)))(o:d<=3)(j:SW d x)(n:1000000003000+10*d+1<fu):
  Ok (Ly fu x) λr=>(r.2=Br->SW d r.1/\DA d r.1)/\(DA d x->r=(x,Br)):=by
 obtain⟨e,rfl⟩:∃e,fu=e+1:=⟨fu-1,by omega⟩;rw[show Ly (e+1) x=_ from d249 e x];refine Oz (k j.1 (by omega)) λr f=>Oz (k j.2 (by omega)) λs g=>?_;refine PY (λa=>PY (λc=>?_) λc=>MI ⟨λh=>(by grind),λq=>?_⟩) λa=>MI ⟨λh=>(by grind),λq=>?_⟩;· refine Oz (JZ (g.1 c).1 (f.1 a).1 (by omega)) λb i=>MI ⟨λq=>⟨⟨(f.1 a).1,(g.1 c).1⟩,⟨(f.1 a).2,(g.1 c).2⟩,i.1 q⟩,λq=>?_⟩;have l:=f.2 q.1.1;have m:=g.2 q.1.2;subst l m;rw[i.2 q.2]
 ·rw[g.2 q.1.2]at c;grind
 ·rw[f.2 q.1.1]at a;grind
theorem Tf:∀ {d fu:Nat} {v:Vl},d<=3->SV d v->1000000003000+10*d<fu->Ok (YE fu v) λr=>(r.2=Br->SV d r.1/\DQ d r.1)/\(DQ d v->r=(v,Br))
 |0,_,_,_,h,_=>h.1.elim
 |d+1,fu,v,Y,w,J=>by
  have P:=nN;obtain⟨f,rfl⟩:∃f,fu=f+3:=⟨fu-3,by omega⟩;have L:∀ {fu:Nat} {x:Bs},SW d x->1000000003000+10*d+1<fu->Ok (Ly fu x) λr=>(r.2=Br->SW d r.1/\DA d r.1)/\(DA d x->r=(x,Br)):=
   O7 (λh J=>Tf (by omega) h J) (by omega);have sb:=w.sb;obtain⟨I,⟨W,_⟩,⟨X,_⟩,_⟩:=id w.1;have O:=sb.2.1;rw[show YE (f+3) v=_ from d248 (f+2) v];refine PY (λG=>MI ⟨λ_=>⟨w,λh=>by simp_all⟩,λ_=>rfl⟩) λG=>BY (SY O (by omega) (by decide) (by omega)) ?_;have p:DQ (d+1) v->GdV d (DA d) v:=λq=>q G;refine SA (λk (s:List Ig)=>s.length<=k/\(∀c∈s,LX d c/\Y9 (DA d) c)/\(DQ (d+1) v->s=v.lists.take k)) v.lists.length ⟨by simp,by simp,λ_=>by simp⟩ (by omega) (λk s nx u H F=>?_) (λs nx H=>?_)
  ·have o:=AN u;obtain⟨T,B,C⟩:=H;refine P2 (Aah u (Oz (iX (by omega) L (w.lx _ o) (by omega)) λr n=>PY (λj=>MI ⟨λq=>(by cases q),λq=>?_⟩) λj=>PY (λm=>Abw (F _ ⟨by dsimp only;rw[Aab,Acm];omega,λc hc=>?_,λq=>?_⟩)) λm=>F _ ⟨by dsimp only;omega,B,λq=>?_⟩));· rw[n.2 ((p q).ls _ o)]at j;cases j
   ·rcases AT.1 hc with hc|hc;· exact B c hc
    ·rw[Aae.1 hc];exact n.1 (by simpa using j) m
   ·rw[C q,n.2 ((p q).ls _ o),GB u]
   ·rw[n.2 ((p q).ls _ o)]at m;cases m
  obtain⟨T,B,C⟩:=H;rw[Aav]at C;refine Qb (by omega) ?_;refine SA (λk (z:List BC)=>z.length<=k/\(∀c∈z,CX d c/\U4 (DA d) c)/\(DQ (d+1) v->z=v.structs.take k)) v.structs.length ⟨by simp,by simp,λ_=>by simp⟩ (by omega) (λk z nx u t F=>?_) (λz nx t=>?_)
  ·have o:=AN u;obtain⟨U,D,E⟩:=t;refine P2 (Aah u (Oz (iV (by omega) L (w.cx _ o) (by omega)) λr n=>PY (λj=>MI ⟨λq=>(by cases q),λq=>?_⟩) λj=>PY (λm=>Abw (F _ ⟨by dsimp only;rw[Aab,Acm];omega,λc hc=>?_,λq=>?_⟩)) λm=>F _ ⟨by dsimp only;omega,D,λq=>?_⟩));· rw[n.2 ((p q).ss _ o)]at j;cases j
   ·rcases AT.1 hc with hc|hc;· exact D c hc
    ·rw[Aae.1 hc];exact n.1 (by simpa using j) m
   ·rw[E q,n.2 ((p q).ss _ o),GB u]
   ·rw[n.2 ((p q).ss _ o)]at m;cases m
  obtain⟨U,D,E⟩:=t;rw[Aav]at E;refine P3 (Oz (gB (l:=s) (by omega) (λc hc=>(B c hc).1) (by omega) (by omega)) λy a=>Oz (gA (l:=z) (by omega) (λc hc=>(D c hc).1) (by omega) (by omega)) λA i=>?_);have sv:SV (d+1) (Vl.mk Ak v.sc y A):=Zo I w.2.1.sc (by have:=a.1.1;omega) (by have:=i.1.1;omega) (λc hc=>(B c (a.1.2 c hc)).1) λc hc=>(D c (i.1.2 c hc)).1;have whole:DQ (d+1) v->Vl.mk Ak v.sc y A=v:=λq=>by have g:=p q;have R:=a.2.2.2 (by rw[C q];exact g.la) (by rw[C q];exact g.lo);have S:=i.2.2.2 (by rw[E q];exact g.sa) (by rw[E q];exact g.so);rw[R,S,C q,E q];exact Ait (show Ak=v.any from G.symm) rfl rfl rfl
  refine Oz (bO (v:=Vl.mk Ak v.sc y A) (DD I w.2.1.sc) (by decide) (by decide) (by omega)) λb K=>PY (λh=>MI ⟨λ_=>⟨oA d,λq=>by cases q⟩,λq=>?_⟩) λh=>MI ⟨λ_=>⟨sv,λ_=>⟨λc hc=>(B c (a.1.2 c hc)).2,λc hc=>(D c (i.1.2 c hc)).2,nS a.2.1,a.2.2.1,nS i.2.1,i.2.2.1,λq=>?_⟩⟩,λq=>?_⟩;· have e:=K.1 h;rw[whole q]at e;exact absurd e (p q).ev
  ·rw[K.2 q]at h;cases h
  grind
def vz(d:Nat)(x:Bs):Prop:=SW d x/\DA d x
theorem av(c:Q0 d x)(g:d<=3)(j:1000000005000<fu):Ok (I8 fu x) λr=>(r.2=0->vz d r.1)/\(Q0 d r.1)/\(vz d x->r=(x,0)):=by
 have m:d≠0:=by rintro rfl;exact c.1.elim
 obtain⟨d,rfl⟩:∃e,d=e+1:=⟨d-1,by omega⟩;have no:(¬vz (d+1) x)->Ok (Ac ((v0,v0),(11:Int))) λr=>(r.2=0->vz (d+1) r.1)/\(Q0 (d+1) r.1)/\(vz (d+1) x->r=(x,0)):=λn=>MI ⟨λh=>(by omega),⟨(KY d).1,(KY d).1⟩,λh=>absurd h n⟩;refine Oz (Xi c g (by omega)) λb k=>PY (λh=>no λq=>?_) λh=>?_;· rw[k.2 ⟨q.1.1.2,q.1.2.2⟩]at h;grind
 have l:=k.1 (by grind);have o:SW (d+1) x:=⟨⟨c.1,l.1⟩,c.2,l.2⟩;refine Oz (O7 (λh j=>Tf g h j) g o (by omega)) λr i=>PY (λa=>no λq=>?_) λa=>?_;· rw[i.2 q.2]at a;grind
 ·have f:=i.1 (by simpa using a);exact MI ⟨λ_=>f,⟨f.1.1.1,f.1.2.1⟩,λq=>by rw[i.2 q.2]⟩
theorem W9(c:Q0 d x)(j:d<=3)(g:1000000005000<fu):Ok (tx fu x) λr=>r=Br↔vz d x:=by obtain⟨⟨y,e⟩,k,l,i,b⟩:=av (fu:=fu) c j g;refine BY k (N7 (λh=>Oz (Mj i c (by omega)) λr a=>MI ⟨λf=>?_,λq=>?_⟩) λh=>MI ⟨λq=>(by grind),λq=>?_⟩);all_goals grind
theorem XO(h:SV d v)(j:1000000000000<fu):Ok (jP fu v) λr=>r=Br↔¬NB v:=by
 cases d with
 |zero=>exact h.1.elim
 |succ d=>
  have l:Il 5 12 v.sc:=DD h.1.1 h.2.1.sc;have no:NB v->Ok (Ac Ak) λr=>r=Br↔¬NB v:=λk=>MI ⟨λh=>(by cases h),λh=>absurd k h⟩;rw[jP];refine PY (λa=>Oz (N5 (l.sc (by decide)) (by decide) j) λb o=>?_) λa=>no (.inl (by simpa using a));rw[o.2 h.2.1.sc];refine P6 rfl (Oz (OT l (by decide) (by decide) j) λr f=>PY (λc=>N7 (λi=>MI ?_) λi=>no (.inr (.inl λe=>i (by rw[e];rfl)))) λc=>no (.inr (.inr (.inr λe=>by rw[f.2 e]at c;cases c))));have m:v.lists=[]:=OF.1 (by omega);have n:=f.1 c;have a:v.any=Ak:=by simpa using a
  rw[decide_eq_true_iff];unfold NB;rw[a,m,n];exact⟨λg=>by simp[OF.1 (by omega:v.structs.length=0)],λg=>by simp at g;simp[g]⟩
theorem I0(h:SV d v)(j:1000000000000<fu):Ok (YA fu v) λr=>r=Br↔¬NB v:=by rw[YA];exact Oz (XO h j) λr f=>MI f
theorem UX{α:Type}{R:α->α->Prop} :∀ {l:List α},(∀i (h:i+1<l.length),R l[i] l[i+1])->ES R l
 | [],_=>trivial
 | [_],_=>trivial
 |x::y::l,h=>⟨h 0 (by simp),UX λi a=>h (i+1) (by simpa using a)⟩
def Cs(G:α->Prop)(B:α->α->Prop)(c:α->α->Int)(l:List α):Prop:=(∀x∈l,G x)/\AC B l/\ES (λp q=>c p q<0) l
theorem Te{G:α->Prop}{c:α->α->Int}{g:α->Option Bool}{wr:α->Option Vl}{cmp:Vl->Vl->Option Int}{le:α->α->Option Bool}{K:Option Bool}{P:Bool->Prop}(hl:l.length<=12)(hf:20<fu)
  (hg:∀x∈l,Ok (g x) λr=>r=Br↔G x) (hc:∀x∈l,∀y∈l,∃a b,wr x=Ac a/\wr y=Ac b/\cmp a b=Ac (c x y)) (O:∀x∈l,∀y∈l,Ok (le x y) λr=>r=Br↔B x y)
  (yes:Cs G B c l->Ok K P) (no:¬Cs G B c l->P Ak):
  Ok (Ad fu (λ(f:Nat) J=>
  bif Ds (
        (f:Int)<(l.length:Int))then
   Ab (idx l (f:Int)) λr3=>
   Ab (g r3) λr4=>
   bif !r4 then
    Ac (Ak)
   else
    bif Ds (
          (0:Int)<(f:Int))then
     Aa (Lm.i64) ((f:Int)-(1:Int))<|
     Ab (idx l ((f:Int)-(1:Int))) λr5=>
     Ab (wr r5) λr6=>
     Ab (idx l (f:Int)) λr7=>
     Ab (wr r7) λr8=>
     Ab (cmp r6 r8) λr9=>
     bif Ds ((0:Int)<=r9)then
      Ac (Ak)
     else
      Ad fu (λ(o:Nat) v=>
       bif Ds ((o:Int)<(l.length:Int))then
        bif Ds ((f:Int)≠(o:Int))then
         Ab (idx l (f:Int)) λT=>
         Ab (idx l (o:Int)) λU=>
         Ab (le T U) λV=>
         bif V then
          Ac (Ak)
         else
          v (o+1)
        else
         v (o+1)
       else
        J (f+1)) (0)
    else
     Ad fu (λ(e:Nat) d=>
      bif Ds ((e:Int)<(l.length:Int))then
       bif Ds ((f:Int)≠(e:Int))then
        Ab (idx l (f:Int)) λC=>
        Ab (idx l (e:Int)) λD=>
        Ab (le C D) λE=>
        bif E then
         Ac (Ak)
        else
         d (e+1)
       else
        d (e+1)
      else
       J (f+1)) (0)
  else K) 0) P:=by
 refine TV (λk=>(∀x∈l.take k,G x)/\(∀i (h:i+1<l.length),i+1<k->c l[i] l[i+1]<0)/\∀i j (t:i<l.length) (s:j<l.length),i<k->i≠j->¬B l[i] l[j]) l.length ⟨by simp,λi h k=>by omega,λi j _ _ h=>by omega⟩ (by omega) (λk nx z N hn=>?_) (λnx N=>?_)
 ·have m:=
       AN z;obtain⟨M,R,S⟩:=N;have inner:G l[k]->(∀i (h:i+1<l.length),i+1<k+1->c l[i] l[i+1]<0)->Ok (Ad fu (λ(e:Nat) d=>
      bif Ds ((e:Int)<(l.length:Int))then
       bif Ds ((k:Int)≠(e:Int))then
        Ab (idx l (k:Int)) λC=>
        Ab (idx l (e:Int)) λD=>
        Ab (le C D) λE=>
        bif E then
         Ac (Ak)
        else
         d (e+1)
       else
        d (e+1)
      else
       nx (k+1)) (0)) P:=λL W=>by
   refine TV (λn=> ∀j (s:j<l.length),j<n->k≠j->¬B l[k] l[j]) l.length (λj _ h=>by omega) (by omega) (λn d A w H=>?_) (λd w=>?_)
   ·have u:(k≠n->¬B l[k] l[n])->∀j (s:j<l.length),j<n+1->k≠j->¬B l[k] l[j]:=λh j s hjn=>by
     rcases Aal j n with q|q;· exact w j s q
     ·obtain rfl:j=n:=by omega
      exact h
    refine P2 (N7 (λne=>Aah z (Aah A (Oz (O _ m _ (AN A)) λr I=>PY (λh=>MI (no λq=>q.2.1 k n z A (by omega) (I.1 h))) λh=>H (u λ_ hB=>by rw[I.2 hB]at h;cases h)))) λne=>H (u λh=>absurd h (by omega)))
   ·refine P3 (hn ⟨λx Q=>?_,W,λi j t s F ne=>?_⟩)
    ·rcases(Ag z).1 Q with Q|rfl;· exact M x Q
     ·exact L
    ·rcases Aal i k with q|q;· exact S i j t s q ne
     ·obtain rfl:i=k:=by omega
      exact w j s s ne
  refine P2 (Aah z (Oz (hg _ m) λr I=>PY (λh=>MI (no λq=>?_)) λh=>?_));· rw[I.2 (q.1 _ m)]at h;cases h
  have L:=I.1 (by simpa using h);refine N7 (λh0=>?_) λh0=>inner L λi t F=>by omega
  obtain⟨p,rfl⟩:∃p,k=p+1:=⟨k-1,by omega⟩;obtain⟨a,b,Y,Z,ec⟩:=hc _ (AN (by omega:p<l.length)) _ m;have X:((p+1:Nat):Int)-1=(p:Nat):=by omega
  refine Abx (by omega) ?_;rw[X];refine Aah (by omega) (BY Y (Aah z (BY Z (BY ec (N7 (λh=>MI (no λq=>?_)) λh=>inner L λi t F=>?_)))));· have:=QO q.2.2 p z;omega
  ·rcases Aal i p with q|q;· exact R i t (by omega)
   ·obtain rfl:i=p:=by omega
    omega
 ·obtain⟨M,R,S⟩:=N;rw[Aav]at M;exact P3 (yes ⟨M,λi j t s ne=>S i j t s t ne,UX λi h=>R i h h⟩)
end
section
variable {d : Nat} (hd : d <= 2) (ih : ∀ {fu : Nat} {v : Vl}, SV d v -> 1000000003000 + 20 * d < fu -> Ok (QX fu v) λr => r = Br ↔ DQ d v)
section
variable{fu:Nat}
include ih
theorem GD{x:Bs}(e:SW d x)(j:1000000003000+20*d+1<fu):Ok (U5 fu x) λr=>r=Br↔DA d x:=by
 obtain⟨f,rfl⟩:∃f,fu=f+1:=⟨fu-1,by omega⟩;rw[show U5 (f+1) x=_ from d345 f x];unfold yQ;refine Oz (ih e.1 (by omega)) λr g=>PY (λa=>Oz (ih e.2 (by omega)) λs h=>PY (λc=>Oz (H0 e.2 e.1 (by omega)) λb i=>MI (i.trans ⟨λq=>⟨⟨g.1 a,h.1 c⟩,q⟩,λq=>q.2⟩)) λc=>AV λq=>?_) λa=>AV λq=>?_;· rw[h.2 q.1.2]at c;cases c
 ·rw[g.2 q.1.1]at a;cases a
theorem Sx{c:Ig}(hc:LX d c)(A:1000000003000+20*d+2<fu):Ok (dN fu c) λr=>r=Br↔Y9 (DA d) c:=by
 obtain⟨f,rfl⟩:∃f,fu=f+1:=⟨fu-1,by omega⟩;rw[show dN (f+1) c=_ from d346 f c];unfold yP;have B:=hc.n1;have C:=hc.n2;refine TV (λk=> ∀x∈c.1.take k,NB x.1/\DA d x) c.1.length (by simp) (by omega) (λk nx n g z=>?_) (λnx g=>?_)
 ·have m:=AN n;have s:=hc.vs _ (AT.2 (.inl m));refine P2 (Aah n (Oz (I0 s.1 (by omega)) λr i=>PY (λh=>AV λq=>i.1 h (q.1 _ m).1) λh=>Aah n (Oz (GD ih s (by omega)) λt o=>PY (λl=>AV λq=>?_) λl=>z λx e=>?_)));· rw[o.2 (q.1 _ m).2]at l;cases l
  ·rcases(Ag n).1 e with e|rfl;· exact g x e
   ·exact⟨IS λp=>(by rw[i.2 p]at h;cases h),o.1 (by simpa using l)⟩
 ·rw[Aav]at g;refine P3 (N7 (λh=>MI ⟨λ_=>⟨g,λx e=>?_⟩,λ_=>rfl⟩) λh=>?_);· rw[OF.1 (by omega:c.2.length=0)]at e;cases e
  obtain⟨y,j⟩:=P1 (by omega:c.2.length=1);have s:=hc.vs y (AT.2 (.inr (by rw[j];exact Aae.2 rfl)));rw[j];have mem:∀x∈c.2,x=y:=λx e=>by rw[j]at e;exact Aae.1 e
  have u:y∈c.2:=by rw[j];exact Aae.2 rfl
  refine BY (a:=y) rfl (Oz (I0 s.1 (by omega)) λr i=>PY (λh=>BY (a:=y) rfl (Oz (GD ih s (by omega)) λt o=>MI (o.trans ⟨λq=>⟨g,λx e=>?_⟩,λq=>(q.2 y u).2⟩))) λh=>AV λq=>i.1 (by simpa using h) (q.2 y u).1);rw[mem x e];exact⟨IS λp=>(by rw[i.2 p]at h;cases h),q⟩
end
end
section
variable{fu:Nat}
theorem Xk{w v:Ay} :Ok (dO fu (w,v)) λr=>r=Br↔EJ w v<0:=by
 rw[dO];refine N7 (λh=>MI ⟨λ_=>?_,λ_=>rfl⟩) λh=>N7 (λk=>MI ?_) λk=>AV ?_;· have e:D_ w.length v.length= -1:=if_pos h;unfold EJ;rw[e,if_neg (by decide)];decide
 ·unfold EJ;rw[if_pos (BD.2 (by omega))];unfold FH;cases a:Op.bytesLess w v with
  |true=>exact⟨λ_=>by rw[if_pos rfl];decide,λ_=>rfl⟩
  |false=>
   refine⟨λh=>(by cases h),λh=>?_⟩;rw[if_neg (by simp)]at h;split at h<;>exact absurd h (by decide)
 ·have e:D_ w.length v.length=1:=(if_neg h).trans (if_pos (by omega));unfold EJ;rw[e,if_neg (by decide)];decide
theorem aD{a b:Tb}(c:CK a (Au a 0) 14641)(d:CK b (Au b 0) 14641)(na:a≠ [])(nb:b≠ [])(i:∀w,¬(Au a 0 w=Br/\Au b 0 w=Br))(p:1000000000000<fu):
  ∃w v,U7 fu a=Ac w/\U7 fu b=Ac v/\Ok (dO fu (w,v)) λr=>r=Br↔Fb a b<0:=by
 have one:∀ {a:Tb},CK a (Au a 0) 14641->a≠ []->∃w,LK a=Ac w/\U7 fu a=Ac w:=λ{a} h n=>by
  cases e:LK a with
  |none=>exact absurd (MJ h e) n
  |some w=>
   refine⟨w,rf,(Ok.eq ?_)⟩;rw[U7];exact BY (IM (n:=14641) h ⟨h.len,λs o=>Aam (h.wf s o).len (by decide)⟩ (by decide) (by omega)) (MI (by rw[e];rfl))
 obtain⟨w,j,k⟩:=one c na;obtain⟨v,l,m⟩:=one d nb;have rfl:OW a b=a:=Qv (q:=14641) (c.congr (funext λu=>by
  rw[c.gL,d.gL];have:=i u;cases f:Au a 0 u<;>cases g:Au b 0 u<;>simp[f,g]at this⊢));have d2:OW b a=b:=Qv (q:=14641) (d.congr (funext λu=>by
  rw[c.gL,d.gL];have:=i u;cases f:Au a 0 u<;>cases g:Au b 0 u<;>simp[f,g]at this⊢));have e:Fb a b=EJ w v:=by unfold Fb;rw[rfl,d2,j,l];rfl
 rw[e];exact⟨w,v,k,m,Xk⟩
theorem X5{d:Nat}{x y:Bs}(a:SW d x)(b:SW d y)(c:d<=3)(h:1000000003000<fu):Ok (Yv fu (x,y)) λr=>r=Br↔x=y:=by rw[Yv];refine Oz (IF ⟨a.1.1,a.2.1⟩ c (by omega)) λr f=>?_;rw[f.2 ⟨a.1.2,a.2.2⟩];refine VX rfl (Oz (IF ⟨b.1.1,b.2.1⟩ c (by omega)) λs g=>?_);rw[g.2 ⟨b.1.2,b.2.2⟩];refine VX rfl (BY (HO HJ a b (by omega)) (MI ?_));rw[decide_eq_true_iff];have k:=HK (R:=BA d) HL a b;refine⟨k.2,λe=>?_⟩;subst e;have:=k.1;omega
end
section
variable {d : Nat} (hd : d <= 2) (ih : ∀ {fu : Nat} {v : Vl}, SV d v -> 1000000003000 + 20 * d < fu -> Ok (QX fu v) λr => r = Br ↔ DQ d v)
include hd ih
theorem NO{fu:Nat}{c:BC}(hc:CX d c)(hF:1000000003000+20*d+2<fu):Ok (dM fu c) λr=>r=Br↔U4 (DA d) c:=by
 obtain⟨f,rfl⟩:∃f,fu=f+1:=⟨fu-1,by omega⟩;rw[show dM (f+1) c=_ from d347 f c];unfold yO;have n1:=hc.bd.nf;have n2:=hc.bd.nc;refine TV (λk=> ∀x∈c.1.take k,NB x.2.2.1/\DA d x.2.2) c.1.length (by simp) (by omega) (λk nx b G K=>?_) (λnx G=>?_)
 ·have m:=AN b;have s:=hc.vs _ (AT.2 (.inl (By.2 ⟨_,m,rfl⟩)));refine P2 (Aah b (Oz (I0 s.1 (by omega)) λr u=>PY (λh=>AV λq=>u.1 h (q.1 _ m).1) λh=>Aah b (Oz (GD ih s (by omega)) λt V=>PY (λl=>AV λq=>?_) λl=>K λx C=>?_)));· rw[V.2 (q.1 _ m).2]at l;cases l
  ·rcases(Ag b).1 C with C|rfl;· exact G x C
   ·exact⟨IS λnb=>(by rw[u.2 nb]at h;cases h),V.1 (by simpa using l)⟩
 rw[Aav]at G;refine Qb (by omega) ?_;have T:∀k∈c.2,CK k.1 (Au k.1 0) 14641:=λk b=>by have g:=hc.gd.1 k b;have:=Pm b;have:=hc.bd.st;unfold J7 at*;exact⟨g.2.1,g.2.2,rfl,by omega⟩
 have S:∀k∈c.2,SW d k.2:=λk b=>hc.vs _ (AT.2 (.inr (By.2 ⟨k,b,rfl⟩)));refine TV (λk=>(∀x∈c.2.take k,DA d x.2)/\(∀i (h:i+1<c.2.length),i+1<k->Fb c.2[i].1 c.2[i+1].1<0)/\∀i j (B:i<c.2.length) (n:j<c.2.length),i<k->j<i->c.2[i].2≠c.2[j].2) c.2.length ⟨by simp,λi h k=>by omega,λi j _ _ h=>by omega⟩ (by omega) (λk nx b A K=>?_) (λnx A=>?_)
 ·have m:=AN b;obtain⟨H,N,O⟩:=A;have inner:DA d c.2[k].2->(∀i (h:i+1<c.2.length),i+1<k+1->Fb c.2[i].1 c.2[i+1].1<0)->Ok (Ad f (λ(o:Int) y=>
      bif Ds (o<(k:Int))then
       Ab (idx c.2 (k:Int)) λP=>
       Ab (idx c.2 o) λQ=>
       Ab (Yv f (P.2,Q.2)) λR=>
       bif R then
        Ac (Ak)
       else
        Aa (Lm.i64) (o+(1:Int))<|
        y ((o+(1:Int)))
      else
       nx (k+1)) ((0:Int))) λr=>r=Br↔U4 (DA d) c:=λF X=>by
   refine Xn (λz=>(0<=z/\z<=(k:Int))/\∀j (n:j<c.2.length),(j:Int)<z->c.2[k].2≠c.2[j].2) (λz=>((k:Int)-z).toNat) ⟨⟨by omega,by omega⟩,λj _ h=>by omega⟩ (by omega) λz y hI _ L=>?_;obtain⟨⟨z0,z1⟩,W⟩:=hI;refine N7 (λhz=>Aah b (Adq z0 (by omega) (Oz (X5 (S _ m) (S _ (AN (by omega:z.toNat<c.2.length))) (by omega) (by omega)) λr u=>PY (λh=>AV λq=>?_) λh=>Aaq (L _ ⟨by omega,λj n hjz=>?_⟩ (by omega))))) λhz=>K ⟨λx C=>?_,X,λi j B n D J=>?_⟩;· exact Aaw.1 q.2.2.2 z.toNat k (by omega) b (by omega) (u.1 h).symm
   ·rcases Aeg (j:Int) z with q|q;· exact W j n q
    ·obtain rfl:z=(j:Int):=by omega
     intro e;rw[u.2 (by simpa using e)]at h;cases h
   ·rcases(Ag b).1 C with C|rfl;· exact H x C
    ·exact F
   ·rcases Aal i k with q|q;· exact O i j B n q J
    ·obtain rfl:i=k:=by omega
     exact W j n (by omega)
  refine P2 (Aah b (Oz (GD ih (S _ m) (by omega)) λr u=>PY (λh=>AV λq=>?_) λh=>?_));· rw[u.2 (q.2.1 _ m)]at h;cases h
  have F:=u.1 (by simpa using h);refine N7 (λh0=>?_) λh0=>inner F λi B D=>by omega
  obtain⟨p,rfl⟩:∃p,k=p+1:=⟨k-1,by omega⟩;have M:p<c.2.length:=by omega
  have mp:=AN M;have Y:((p+1:Nat):Int)-1=(p:Nat):=by omega
  obtain⟨w,v,Z,ev,hl⟩:=aD (fu:=f) (T _ mp) (T _ m) (hc.gd.1 _ mp).1 (hc.gd.1 _ m).1 (hc.gd.Iv M b (by omega)) (by omega);refine Abx (by omega) ?_;rw[Y];refine Aah M (BY Z (Aah b (BY ev (Oz hl λs U=>PY (λl=>AV λq=>?_) λl=>inner F λi B D=>?_))));· rw[U.2 (QO q.2.2.1 p b)]at l;cases l
  ·rcases Aal i p with q|q;· exact N i B (by omega)
   ·obtain rfl:i=p:=by omega
    exact U.1 (by simpa using l)
 ·obtain⟨H,N,O⟩:=A;rw[Aav]at H;exact P3 (MI ⟨λ_=>⟨G,H,UX λi h=>N i h h,Aaw.2 λi j B n I e=>O j i n B n I e.symm⟩,λ_=>rfl⟩)
end
section
variable{fu:Nat}{x:Bs}
theorem Sw:∀ {d fu:Nat} {v:Vl},d<=3->SV d v->1000000003000+20*d<fu->Ok (QX fu v) λr=>r=Br↔DQ d v
 |0,_,_,_,h,_=>h.1.elim
 |d+1,fu,v,w,e,u=>by
  obtain⟨f,rfl⟩:∃f,fu=f+1:=⟨fu-1,by omega⟩;have z:∀ {fu:Nat} {v:Vl},SV d v->1000000003000+20*d<fu->Ok (QX fu v) λr=>r=Br↔DQ d v:=λh u=>Sw (by omega) h u;obtain⟨A,⟨J,_⟩,⟨K,_⟩,_⟩:=id e.1;rw[show QX (f+1) v=_ from d348 f v];unfold yN;have nil:v.any=Br->v.lists=[]/\v.structs=[]:=λh=>(e.2.1.an h).2;have t:∀ {α:Type} {G:α->Prop} {B:α->α->Prop} {c:α->α->Int},Cs G B c []:=⟨by simp,λi j I=>by simp at I,trivial⟩;have E:DQ (d+1) v->Cs (Y9 (DA d)) (WW (Dk d)) (DL (BA d)) v.lists:=λq=>by
   cases h:v.any with
   |true=>rw[(nil h).1];exact t
   |false=>have g:=q h;exact⟨g.ls,g.la,g.lo⟩
  have F:DQ (d+1) v->Cs (U4 (DA d)) (U2 (Dk d)) (Et (BA d)) v.structs:=λq=>by
   cases h:v.any with
   |true=>rw[(nil h).2];exact t
   |false=>have g:=q h;exact⟨g.ss,g.sa,g.so⟩
  refine Te (G:=Y9 (DA d)) (B:=WW (Dk d)) (c:=DL (BA d)) (g:=λx=>dN f x) (wr:=λx=>jK f x) (cmp:=λa b=>U8 f (a,b)) (le:=λx y=>TF f (x,y)) (by omega) (by omega) (λx k=>Sx z (e.lx x k) (by omega)) (λx k y l=>⟨oq x,oq y,rfl,rfl,?_⟩) (λx k y l=>R1 H0 (e.lx x k).n1 (e.lx x k).vs (e.lx y l).vs (by omega)) (λm=>?_) λn=>⟨λh=>(by cases h),λq=>absurd (E q) n⟩;· rw[JS (L_ (e.lx x k)) (L_ (e.lx y l)) w (by omega),Wx]
  refine Te (G:=U4 (DA d)) (B:=U2 (Dk d)) (c:=Et (BA d)) (g:=λx=>dM f x) (wr:=λx=>jC f x) (cmp:=λa b=>U8 f (a,b)) (le:=λx y=>TE f (x,y)) (by omega) (by omega) (λx k=>NO (by omega) z (e.cx x k) (by omega)) (λx k y l=>⟨oo x,oo y,rfl,rfl,?_⟩) (λx k y l=>Mb H0 (e.cx x k).bd (e.cx y l).bd (e.cx x k).gd (e.cx y l).gd (e.cx x k).vs (e.cx y l).vs (by omega)) (λo=>?_) λn=>⟨λh=>(by cases h),λq=>absurd (F q) n⟩;· rw[JS (L9 (e.cx x k)) (L9 (e.cx y l)) w (by omega),Ww]
  refine Oz (X4 (DD A e.2.1.sc) (by decide) (by decide) (by omega)) λr p=>MI ⟨λh H=>⟨m.1,o.1,m.2.1,m.2.2,o.2.1,o.2.2,λq=>?_⟩,λq=>?_⟩;· rw[p.2 ⟨H,q⟩]at h;cases h
  ·cases r with
   |false=>rfl
   |true=>exact absurd (p.1 rfl).2 (q (p.1 rfl).1).ev
def QS(x:Bs):Prop:=x.1.any=Br/\x.2.any=Br
def J5:Nat->Vl->Prop
 |0,_=>True
 |d+1,v=>(∀c∈v.structs,∀k∈c.2,¬QS k.2)/\∀x∈kids v,J5 d x.1/\J5 d x.2
theorem bh:Ok (U' fu x) λr=>r=Br↔QS x:=by
 unfold QS
 exact PY (λh=>MI ⟨λk=>⟨h,k⟩,λk=>k.2⟩) λh=>MI ⟨λk=>(by cases k),λk=>by rw[k.1]at h;cases h⟩
theorem El{α:Type}{l:List α}{k:Nat}(h:k<l.length){P:α->Prop}(a:∀x∈l.take k,P x)(b:P l[k]):∀x∈l.take (k+1),P x:=λx hx=>by
 rcases(Ag h).1 hx with hx|rfl
 ·exact a x hx
 ·exact b
theorem IY:∀ {d fu:Nat} {v:Vl},Bd d v->1000000000000+2*d<fu->Ok (yj fu v) λr=>r=Br↔J5 d v
 |0,_,_,h,_=>h.elim
 |d+1,fu,v,hb,hF=>by
  obtain⟨f,rfl⟩:∃f,fu=f+2:=⟨fu-2,by omega⟩
  obtain⟨_,⟨B,w⟩,⟨E,t⟩,kd⟩:=id hb
  have val:∀ {x:Bs},x∈kids v->Ok (yh (f+1) x) λr=>r=Br↔J5 d x.1/\J5 d x.2:=λ{x} hx=>by
   have:=kd x hx
   rw[dCv];unfold DCv
   refine Oz (IY this.1 (by omega)) λa ha=>PY (λh=>Oz (IY this.2 (by omega)) λb hb=>MI ?_) λh=>MI ⟨λk=>(by cases k),λk=>?_⟩
   ·rw[hb];exact⟨λk=>⟨ha.1 h,k⟩,λk=>k.2⟩
   ·rw[ha.2 k.1]at h;cases h
  have no:¬J5 (d+1) v->Ok (Ac Ak) λr=>r=Br↔J5 (d+1) v:=λn=>MI ⟨λk=>(by cases k),λk=>(n k).elim⟩
  have bad:∀ {x:Bs} {r:Bool},x∈kids v->(r=Br↔J5 d x.1/\J5 d x.2)->(!r)=Br->¬J5 (d+1) v:=λ{x r} hx hr h k=>by rw[hr.2 (k.2 x hx)]at h;cases h
  have IU:∀ {x:Bs} {r:Bool},(r=Br↔J5 d x.1/\J5 d x.2)->(!r)=Ak->J5 d x.1/\J5 d x.2:=λ{x r} hr h=>hr.1 (by simpa using h)
  rw[dCc];unfold DCc
  refine TV (λa=> ∀c∈v.lists.take a,∀x∈AK c,J5 d x.1/\J5 d x.2) v.lists.length (by simp) (by omega) (λa nx ha I hn=>?_) λnx I=>?_
  ·have hc:=w _ (AN ha)
   have inK:∀x∈AK v.lists[a],x∈kids v:=λx hx=>AT.2 (.inl (Pe.2 ⟨_,AN ha,hx⟩))
   have cc:ta (f+1) [v.lists[a].1,v.lists[a].2]=Ac (AK v.lists[a]):=by rw[M7 (by simp;omega) (by simp;omega)];simp[AK]
   have ll:(AK v.lists[a]).length<=10:=by unfold AK;rw[Aab];omega
   refine P2 (Aah ha (BY cc ?_))
   refine TV (λe=> ∀x∈(AK v.lists[a]).take e,J5 d x.1/\J5 d x.2) (AK v.lists[a]).length (by simp) (by omega) (λe ny he J hy=>?_) λny J=>?_
   ·have m:=inK _ (AN he)
    exact P2 (Aah he (Oz (val m) λr hr=>PY (λh=>no (bad m hr h)) λh=>hy (El he J (IU hr h))))
   ·rw[Ai]at J
    exact P3 (hn (El ha I J))
  rw[Ai]at I
  refine P3 ?_
  refine TV (λj=> ∀c∈v.structs.take j,(∀x∈Bm c,J5 d x.1/\J5 d x.2)/\∀k∈c.2,¬QS k.2) v.structs.length (by simp) (by omega) (λj nx hj K hn=>?_) λnx K=>?_
  ·have hc:=t _ (AN hj)
   have n1:=hc.nf;have n2:=hc.nc
   have inK:∀x∈Bm v.structs[j],x∈kids v:=λx hx=>AT.2 (.inr (Pe.2 ⟨_,AN hj,hx⟩))
   refine P2 (Aah hj ?_)
   refine TV (λe=> ∀x∈(v.structs[j]).1.take e,J5 d x.2.2.1/\J5 d x.2.2.2) (v.structs[j]).1.length (by simp) (by omega) (λe ny he J hy=>?_) λny J=>?_
   ·have m:=inK _ (AT.2 (.inl (By.2 ⟨_,AN he,rfl⟩)))
    exact P2 (Aah he (Oz (val m) λr hr=>PY (λh=>no (bad m hr h)) λh=>hy (El he J (IU hr h))))
   rw[Ai]at J
   refine P3 ?_
   refine TV (λe=> ∀x∈(v.structs[j]).2.take e,¬QS x.2/\J5 d x.2.1/\J5 d x.2.2) (v.structs[j]).2.length (by simp) (by omega) (λe ny he L hy=>?_) λny L=>?_
   ·have m:=inK _ (AT.2 (.inr (By.2 ⟨_,AN he,rfl⟩)))
    refine P2 (Aah he (Oz bh λb hb=>PY (λh=>no λk=>k.1 _ (AN hj) _ (AN he) (hb.1 h)) λh=>Oz (val m) λr hr=>PY (λh=>no (bad m hr h)) λh2=>hy (El he L ⟨λk=>?_,IU hr h2⟩)))
    rw[hb.2 k]at h;cases h
   ·rw[Ai]at L
    refine P3 (hn (El hj K ⟨λx hx=>?_,λk hk=>(L k hk).1⟩))
    rcases AT.1 hx with hx|hx
    ·obtain⟨g,hg,rfl⟩:=By.1 hx;exact J g hg
    ·obtain⟨g,hg,rfl⟩:=By.1 hx;exact(L g hg).2
  ·rw[Ai]at K
   refine P3 (MI ⟨λ_=>⟨λc hc=>(K c hc).2,λx hx=>?_⟩,λ_=>rfl⟩)
   rcases AT.1 hx with hx|hx
   ·obtain⟨c,hc,hx⟩:=Pe.1 hx;exact I c hc x hx
   ·obtain⟨c,hc,hx⟩:=Pe.1 hx;exact(K c hc).1 x hx
theorem XN:Ok (U6 fu x) λr=>r=Br↔QS x:=by
 unfold QS
 exact PY (λh=>MI ⟨λk=>⟨h,k⟩,λk=>k.2⟩) λh=>MI ⟨λk=>(by cases k),λk=>by rw[k.1]at h;cases h⟩
theorem IX:∀ {d fu:Nat} {v:Vl},Bd d v->1000000000000+d<fu->Ok (yg fu v) λr=>r=Br↔J5 d v
 |0,_,_,h,_=>h.elim
 |d+1,fu,v,hb,hF=>by
  obtain⟨f,rfl⟩:∃f,fu=f+1:=⟨fu-1,by omega⟩
  obtain⟨_,_,⟨E,t⟩,kd⟩:=id hb
  have no:¬J5 (d+1) v->Ok (Ac Ak) λr=>r=Br↔J5 (d+1) v:=λn=>MI ⟨λk=>(by cases k),λk=>(n k).elim⟩
  rw[dRc];unfold DRc
  refine TV (λj=> ∀c∈v.structs.take j,∀k∈c.2,¬QS k.2) v.structs.length (by simp) (by omega) (λj nx hj K hn=>?_) λnx K=>?_
  ·have n2:=(t _ (AN hj)).nc
   refine P2 (Aah hj ?_)
   refine TV (λe=> ∀x∈(v.structs[j]).2.take e,¬QS x.2) (v.structs[j]).2.length (by simp) (by omega) (λe ny he L hy=>?_) λny L=>?_
   ·refine P2 (Aah he (Oz XN λb hb=>PY (λh=>no λk=>k.1 _ (AN hj) _ (AN he) (hb.1 h)) λh=>hy (El he L λk=>?_)))
    rw[hb.2 k]at h;cases h
   ·rw[Ai]at L
    exact P3 (hn (El hj K L))
  rw[Ai]at K
  have G:=hb.kids
  refine P3 (BY (Se hb (by omega)) ?_)
  refine TV (λe=> ∀x∈(kids v).take e,J5 d x.1/\J5 d x.2) (kids v).length (by simp) (by omega) (λe ny he J hy=>?_) λny J=>?_
  ·have m:=AN he
   have b:=kd _ m
   refine P2 (Aah he (Oz (IX b.1 (by omega)) λr hr=>PY (λh=>no λk=>?_) λh=>Oz (IX b.2 (by omega)) λs hs=>PY (λh=>no λk=>?_) λh2=>hy (El he J ⟨hr.1 (by simpa using h),hs.1 (by simpa using h2)⟩)))
   ·rw[hr.2 (k.2 _ m).1]at h;cases h
   ·rw[hs.2 (k.2 _ m).2]at h;cases h
  ·rw[Ai]at J
   exact P3 (MI ⟨λ_=>⟨K,J⟩,λ_=>rfl⟩)
def ND(fu:Nat):Nat->Vl->Prop
 |0,_=>True
 |d+1,v=>((∀s∈v.sc.2.2.2.1.1,Es s)/\∀s∈v.sc.2.2.2.1.2,Es s)/\(N0 v.sc.2.2.2.2/\v.sc.2.2.2.2.length<fu)/\(∀c∈v.structs,∀k∈c.2,N0 k.1/\k.1.length<fu)/\∀x∈kids v,ND fu d x.1/\ND fu d x.2
theorem V0{l:Tb}(h:l.length<fu):Ok (F0 fu l) λr=>r=Br->l.length<=8/\∀s∈l,s.2.length<=12:=by
 refine TV (λk=> ∀s∈l.take k,s.2.length<=12) l.length (by simp) h (λk nx d b e=>?_) (λnx b=>?_)
 ·refine P2 (Aah d (N7 (λ_=>MI λh=>by grind) λh=>e λs c=>?_));rcases(Ag d).1 c with c|rfl;all_goals grind
 ·rw[Ai]at b;exact P3 (MI λh=>⟨by grind,b⟩)
theorem T4{s:Sc}(h1:(∀t∈s.2.2.2.1.1,Es t)/\∀t∈s.2.2.2.1.2,Es t)(h2:N0 s.2.2.2.2/\s.2.2.2.2.length<fu):Ok (F1 fu s) λr=>r=Br->dz 5 12 s:=by
 have no:Ok (Ac Ak) λr=>r=Br->dz 5 12 s:=MI λh=>by grind
 rw[F1];refine N7 (λa=>N7 (λb=>Oz (V0 h2.2) λr d=>MI λh=>?_) λ_=>no) λ_=>no;have:=d h;exact⟨⟨h1.1,h1.2,by omega,by omega⟩,by omega,by omega,h2.1,by omega,this.2⟩
def mB:Nat->Nat
 |0=>61
 |d+1=>1+6*(60+2*mB d)
theorem nz:∀ {d:Nat},d<=3->61<=mB d/\mB d<=1000000
 |0,_=>by decide
 |1,_=>by decide
 |2,_=>by decide
 |3,_=>by decide
 |n+4,h=>by omega
end
section
variable {d : Nat} (hd : d <= 3) (ih : ∀ {fu gu : Nat} {v : Vl} {m : Int}, ND gu d v -> gu + 10 * d <= fu -> 1000000000000 + 10 * d < fu -> (0 <= m /\ m <= 60) -> Ok (F3 fu (v, (d : Int), m)) λr => (1 <= r /\ r <= mB d) /\ (r <= m -> Bd d v))
include hd ih
theorem NM{fu gu:Nat}{l:List Bs}{m:Int}(h:∀x∈l,ND gu d x.1/\ND gu d x.2)(H:gu+10*d+1<=fu)(G:1000000000000+10*d+1<fu)(I:l.length<=1000)(J: -100000000<=m/\m<=60):
  Ok (F2 fu (l,(d:Int),m)) λr=>(0<=r/\r<=60+2*mB d)/\(r<=m->∀x∈l,Q0 d x):=by
 have F:=nz (d:=d) (by omega);obtain⟨f,rfl⟩:∃f,fu=f+1:=⟨fu-1,by omega⟩;rw[show F2 (f+1) (l,(d:Int),m)=_ from d2 f l d m];unfold D2;refine SA (λk (n:Int)=>(0<=n/\n<=60+2*mB d)/\(n<=m->∀x∈l.take k,Q0 d x)) l.length ⟨⟨by simp,by omega⟩,λ_=>by simp⟩ (by omega) (λk n nx g j q=>?_) (λn nx j=>?_)
 ·obtain⟨⟨o,z⟩,i⟩:=j;have s:=h _ (AN g);refine P2 (N7 (λc=>?_) λc=>MI ⟨⟨o,z⟩,λb=>absurd b c⟩);refine Aah g (Aaq (Oz (ih (m:=m-n) s.1 (by omega) (by omega) (by omega)) λp w=>?_));obtain⟨⟨B,C⟩,t⟩:=w;refine Aaq (N7 (λb=>?_) λb=>q _ ⟨⟨by omega,by omega⟩,λe=>absurd e b⟩);refine Aah g (Aaq (Oz (ih (m:=m-(n+p)) s.2 (by omega) (by omega) (by omega)) λA y=>?_));obtain⟨⟨D,E⟩,u⟩:=y;refine Aaq (q _ ⟨⟨by omega,by omega⟩,λe x a=>?_⟩);rcases(Ag g).1 a with a|rfl;· exact i c x a
  ·exact⟨t (by omega),u (by omega)⟩
 ·obtain⟨o,i⟩:=j;rw[Ai]at i;exact P3 (MI ⟨o,i⟩)
end
section
variable{v:Vl}{gu d fu:Nat}
theorem ND.lv(h:ND gu (d+1) v){c:Ig}(hc:c∈v.lists):∀x∈AK c,ND gu d x.1/\ND gu d x.2:=λx a=>
 h.2.2.2 x (AT.2 (.inl (Pe.2 ⟨c,hc,a⟩)))
theorem ND.sv(h:ND gu (d+1) v){c:BC}(hc:c∈v.structs):∀x∈Bm c,ND gu d x.1/\ND gu d x.2:=λx a=>
 h.2.2.2 x (AT.2 (.inr (Pe.2 ⟨c,hc,a⟩)))
theorem MG:∀ {d fu gu:Nat} {v:Vl} {m:Int},d<=3->ND gu d v->gu+10*d<=fu->1000000000000+10*d<fu->(0<=m/\m<=60)->Ok (F3 fu (v,(d:Int),m)) λr=>(1<=r/\r<=mB d)/\(r<=m->Bd d v)
 |0,fu,gu,v,m,_,_,_,O,S=>by obtain⟨f,rfl⟩:∃f,fu=f+1:=⟨fu-1,by omega⟩;rw[show F3 (f+1) (v,((0:Nat):Int),m)=_ from d3 f v _ m];unfold D3;exact VB (by simp) (Aaq (MI ⟨⟨by omega,by have:mB 0=61:=rfl;omega⟩,λh=>by omega⟩))
 |d+1,fu,gu,v,m,hd,h,hg,O,S=>by
  obtain⟨f,rfl⟩:∃f,fu=f+1:=⟨fu-1,by omega⟩;have ih:∀ {fu gu:Nat} {v:Vl} {m:Int},ND gu d v->gu+10*d<=fu->1000000000000+10*d<fu->(0<=m/\m<=60)->Ok (F3 fu (v,(d:Int),m)) λr=>(1<=r/\r<=mB d)/\(r<=m->Bd d v):=λh hg O S=>MG (by omega) h hg O S;have all:∀ {l:List Bs} {q:Int},(∀x∈l,ND gu d x.1/\ND gu d x.2)->l.length<=1000-> -100000000<=q/\q<=60->Ok (F2 f (l,((d+1:Nat):Int)-1,q)) λr=>(0<=r/\r<=60+2*mB d)/\(r<=q->∀x∈l,Q0 d x):=λu hl F=>by rw[show((d+1:Nat):Int)-1=(d:Int) by omega];exact NM (by omega) ih u (by omega) (by omega) hl F
  have hB:=nz (d:=d) (by omega);have hB1:mB (d+1)=1+6*(60+2*mB d):=rfl;rw[show F3 (f+1) (v,((d+1:Nat):Int),m)=_ from d3 f v _ m];unfold D3;have j:Ok (Aa Lm.i64 (m+1) (Ac (m+1))) λr=>(1<=r/\r<=mB (d+1))/\(r<=m->Bd (d+1) v):=Aaq (MI ⟨⟨by omega,by omega⟩,λh=>by omega⟩);refine P3 (N7 (λ_=>j) λhm1=>Oz (T4 h.1 ⟨h.2.1.1,by have:=h.2.1.2;omega⟩) λr1 W=>PY (λ_=>j) λh1=>N7 (λ_=>j) λh2=>N7 (λ_=>j) λG=>?_);have sc:=W (by simpa using h1);refine SA (λk (n:Int)=>(1<=n/\n<=1+k*(60+2*mB d))/\(n<=m->∀c∈v.lists.take k,(c.1.length<=3/\c.2.length<=2)/\∀x∈AK c,Q0 d x)) v.lists.length ⟨⟨by simp,by omega⟩,λ_=>by simp⟩ (by omega) (λk n nx A B T=>?_) (λn nx B=>?_)
  ·obtain⟨⟨j1,j2⟩,J⟩:=B;have hc:=h.lv (AN A);have Q:(k:Int)*(60+2*mB d)<=3*(60+2*mB d):=Aed (by omega) (by omega);refine P2 (Aah A (N7 (λ_=>j) λK=>Aah A (N7 (λ_=>j) λL=>Aah A ?_)));dsimp only at K L⊢;refine Abw (Aah A (PC (by rw[Aci];omega) (Aaq (Abx (by omega) ?_))));refine Oz (all (l:=v.lists[k].1++v.lists[k].2) (q:=m-n) hc (by rw[Aab];omega) (by omega)) λr8 h8=>Abx (by omega) (T _ ⟨⟨by omega,?_⟩,λG c p=>?_⟩)
   ·have:((k+1:Nat):Int)*(60+2*mB d)=k*(60+2*mB d)+(60+2*mB d):=by rw[Int.natCast_add,Int.add_mul];omega
    omega
   ·rcases(Ag A).1 p with p|rfl;· exact J (by omega) c p
    ·exact⟨⟨by omega,by omega⟩,h8.2 (by omega)⟩
  obtain⟨⟨j1,j2⟩,J⟩:=B;rw[Ai]at J;have Q:(v.lists.length:Int)*(60+2*mB d)<=3*(60+2*mB d):=Aed (by omega) (by omega);refine Qb (by omega) ?_;refine SA (λk (q:Int)=>(1<=q/\q<=1+3*(60+2*mB d)+k*(60+2*mB d))/\(q<=m->n<=m/\∀c∈v.structs.take k,NS c/\∀x∈Bm c,Q0 d x)) v.structs.length ⟨⟨j1,by omega⟩,λh=>⟨h,by simp⟩⟩ (by omega) (λk q nx A B T=>?_) (λq nx B=>?_)
  ·obtain⟨⟨i1,i2⟩,I⟩:=B;have E:=AN A;have hc:=h.sv E;have D:=h.2.2.1 _ E;have R:(k:Int)*(60+2*mB d)<=3*(60+2*mB d):=Aed (by omega) (by omega);refine P2 (N7 (λF=>?_) λF=>MI ⟨⟨by dsimp only;omega,by dsimp only;omega⟩,λh=>absurd h F⟩);refine Aah A ?_;have go:(NS v.structs[k])->(∀w:Int,(0<=w/\w<=60+2*mB d)/\(w<=m-q->∀x∈Bm v.structs[k],Q0 d x)->Ok (nx (q+w,k+1)) λr=>(1<=r/\r<=mB (d+1))/\(r<=m->Bd (d+1) v)):=λP w hw=>by
    refine T _ ⟨⟨by(try dsimp only);omega,?_⟩,λG=>?_⟩
    ·have:((k+1:Nat):Int)*(60+2*mB d)=k*(60+2*mB d)+(60+2*mB d):=by rw[Int.natCast_add,Int.add_mul];omega
     (try dsimp only);omega
    ·have G:q+w<=m:=G;obtain⟨a1,a2⟩:=I (by omega);refine⟨a1,λc p=>?_⟩;rcases(Ag A).1 p with p|rfl;· exact a2 c p
     ·exact⟨P,hw.2 (by omega)⟩
   generalize v.structs[k]=c at E hc D go;refine N7 (λ_=>j) λK=>N7 (λ_=>j) λL=>?_;refine SA (λi (s:List Bs)=>s=(c.1.take i).map (·.2.2)/\∀g∈c.1.take i,g.1.length<=60) c.1.length ⟨rfl,by simp⟩ (by omega) (λi s X z C U=>?_) (λs X C=>?_)
   ·refine P2 (Aah z (N7 (λ_=>j) λk3=>Aah z (PC (by dsimp only;rw[C.1,Aap,Abh];omega) (U _ ⟨by dsimp only;rw[C.1,GB z,Aan];rfl,λg b=>?_⟩))));rcases(Ag z).1 b with b|rfl;· exact C.2 g b
    ·have k3:¬(60:Int)<(c.1[i]).1.length:=k3;omega
   rw[Ai]at C;refine Qb (by dsimp only;omega) ?_;refine SA (λi (s:List Bs)=>s=c.1.map (·.2.2)++(c.2.take i).map (·.2)/\∀g∈c.2.take i,g.1.length<=8/\∀t∈g.1,t.2.length<=12) c.2.length ⟨by rw[C.1];simp,by simp⟩ (by omega) (λi s Y z o V=>?_) (λs Y o=>?_)
   ·have H:=D _ (AN z);refine P2 (Aah z (Oz (V0 (Abq H.2 (by omega))) λr19 M=>PY (λ_=>j) λk4=>Aah z (PC (by dsimp only;rw[o.1,Aab,Aap,Aap,Abh];omega) (V _ ⟨by dsimp only;rw[o.1,GB z,Aan,<-Aak];rfl,λg b=>?_⟩))));rcases(Ag z).1 b with b|rfl;· exact o.2 g b
    ·exact M (by simpa using k4)
   rw[Ai]at o;have e:s=Bm c:=o.1;have P:NS c:=⟨by omega,by omega,C.2,?_,λg b=>(D g b).1,λg b t ht=>Aam ((o.2 g b).2 t ht) (by decide)⟩;· refine P3 (Aaq (Abx (by omega) ?_));dsimp only;rw[e];refine Oz (all (l:=Bm c) (q:=m-q) hc (by unfold Bm;rw[Aab,Aap,Aap];omega) (by omega)) λZ N=>Aaq (go P Z N)
   ·refine Aam (Ua (g:=λ_=>11) λg b=>by have:=(o.2 g b).1;omega) ?_;rw[Oh];exact Aam (Agt (by decide) (by omega:c.2.length<=4)) (by decide)
  ·obtain⟨⟨i1,i2⟩,I⟩:=B;rw[Ai]at I;refine P3 (MI ⟨⟨i1,?_⟩,λF=>?_⟩);· have R:(v.structs.length:Int)*(60+2*mB d)<=3*(60+2*mB d):=Aed (by omega) (by omega);dsimp only;omega
   ·obtain⟨h4,h5⟩:=I F;have h6:=J h4;refine⟨sc,⟨by omega,λc hc=>(h6 c hc).1⟩,⟨by omega,λc hc=>(h5 c hc).1⟩,λx u=>?_⟩;rcases AT.1 u with u|u;· obtain⟨c,hc,u⟩:=Pe.1 u;exact(h6 c hc).2 x u
    ·obtain⟨c,hc,u⟩:=Pe.1 u;exact(h5 c hc).2 x u
theorem vT(v:Vl):Dk (d+1) v0 v:= .inr ⟨rfl,⟨λh=>(by cases h),λh=>(by cases h),λh=>(by cases h),λn h=>(by simp[v0,FO,Vl.sc,A8,A0]at h),λn h=>(by simp[v0,FO,Vl.sc,A6,A0]at h),λw h=>by have:Au [] 0 w=Br:=h;rw[DG]at this;cases this⟩,λc h=>(by cases h),λc h=>by cases h⟩
theorem e_:DQ (d+1) v0:=λ_=>⟨λc h=>(by cases h),λc h=>(by cases h),λi j a=>absurd a (Nat.not_lt_zero _),trivial,λi j a=>absurd a (Nat.not_lt_zero _),trivial,λh=>by obtain⟨h,_⟩:=h;cases congrArg Prod.fst h⟩
theorem XR(h:Bd 3 v)(i:1000000010000<fu):∃b,j0 fu v=Ac b/\jz fu v=Ac b:=by
 have a:Q0 3 (v,v0):=⟨h,(KY 2).1⟩;obtain⟨b,e,f⟩:=W9 (fu:=fu) a (by decide) (by omega);refine⟨b,?_,?_⟩;· refine(Ok.eq ?_);rw[j0];exact BY e (MI rfl)
 ·refine(Ok.eq ?_);rw[jz];refine Oz (IF (x:=(v,v0)) a (by decide) (by omega)) λr c=>PY (λq=>?_) λq=>MI ?_
  ·have s:=c.1 q;refine Oz (Sw (d:=3) (by decide) ⟨h,s.1⟩ (by omega)) λt g=>MI ?_;have:b=Br↔t=Br:=by
    rw[g,f];exact⟨λk=>k.2.1.1,λk=>⟨⟨⟨h,s.1⟩,a.2,s.2⟩,⟨k,e_⟩,vT v⟩⟩
   cases b<;>cases t<;>simp_all
  ·cases b with
   |false=>rfl
   |true=>
    have k:=(f.1 rfl).1;rw[c.2 ⟨k.1.2,k.2.2⟩]at q;cases q
theorem Xj(h:ND gu 3 v)(c:gu+100<=fu)(b:1000000010000<fu):Ok (F4 fu v) λr=>r=Br->Bd 3 v:=by rw[F4];exact Oz (MG (d:=3) (m:=60) (by decide) h (by omega) (by omega) (by decide)) λr a=>MI λh=>a.2 (of_decide_eq_true h)
theorem Ye(i:FAv fu () =Ac Br)(h:ND gu 3 v)(j:gu+100<=fu)(g:1000000010000<fu):FCl fu v=Ac Br:=by
 have al:Ok (Ab (FAv fu ()) Ac) λr=>r=Br:=BY i (MI rfl)
 refine Ok.eq (Oz (Xj h j g) λc hc=>PY (λ_=>al) λq=>?_)
 have B:Bd 3 v:=hc (by simpa using q)
 obtain⟨b,e1,e2⟩:=XR B g
 obtain⟨x,x1,x2⟩:=IY B (fu:=fu) (by omega)
 obtain⟨y,y1,y2⟩:=IX B (fu:=fu) (by omega)
 have xy:x=y:=by cases x<;>cases y<;>simp_all
 have same:∃r,FCd fu v=Ac r/\FRd fu v=Ac r:=by
  refine⟨bif b then(bif v.any then Ak else x)else Ak,?_,?_⟩
  ·refine Ok.eq (BY e1 ?_)
   cases b with
   |false=>exact P6 rfl (MI rfl)
   |true=>exact VX rfl (PY (λh=>BY x1 (MI (by rw[show v.any=Ak by simpa using h];rfl))) λh=>MI (by rw[show v.any=Br by simpa using h];rfl))
  ·refine Ok.eq (BY e2 ?_)
   cases b with
   |false=>exact P6 rfl (MI rfl)
   |true=>exact VX rfl (PY (λh=>BY y1 (MI (by rw[show v.any=Ak by simpa using h,xy];rfl))) λh=>MI (by rw[show v.any=Br by simpa using h];rfl))
 obtain⟨r,r1,r2⟩:=same
 exact BY r1 (BY r2 (VX (by simp) al))
end
end Go.GL
