/- Part 9 of the texts of this claim: what its theorem leans on. -/
import Derived.Test.YtimbbibpghnipaaGreatDoorZLookupKinds8
import Derived.Test.YtimbbibpghnipaaGreatDoorZLookupKinds7
import Derived.Test.YtimbbibpghnipaaGreatDoorZLookupKinds4
import Derived.LaidMore
import Derived.Test.YtimbbibpghnipaaGreatDoorRows
import Derived.KernelRfl
import GoSem.ClaimGoes
set_option linter.all false
open Option renaming some→Ac,none→C5
open Bool renaming false→Aj,true→Bp
open Go renaming Value→BZ,Operand→El,TypeId→Gj,Program→GG,World→IG,execOp→Ki,Oper→KV,IntKind→Lc
open Decidable renaming decide→Di
open List renaming length→Fw,replicate→TO,range→av,set→kN
open Nat renaming beq→Hc
open Int renaming toNat→ZV,natAbs→wk
open Go.Op renaming bytesLess→fL
namespace Go.GL
open Go Go.GV Go.GK Go.Proofs
section
variable{d:Nat}{v:Vl}{c:BB}{fu:Nat}
theorem QR{s:Aq}(h:NM c)(C:s.length<=1000)(B:1000000000000<fu):dC fu (c,s)=Ac (vw c s):=by
 have D:=h.nf;have E:=h.nc;refine(Ok.eq ?_);rw[dC];refine Vi (λk=> ∀i (d:i<c.1.length),i<k->Di (c.1[i].1=s)=Aj) c.1.length (λi _ h=>by omega) (by omega) (λk nx l q x=>?_) (λnx q=>?_)
 ·refine PS (Aah l (N1 (λo=>Aah l (Aah l (MA ?_))) λo=>x λi d v=>?_));· have e:c.1.find? (λf=>Di (f.1=s))=Ac c.1[k]:=Adk.2 ⟨decide_eq_true o,k,l,rf,λj w=>by simp only[q j (by omega) w];rfl⟩;unfold vw;rw[e]
  ·rcases Aam i k with p|p;· exact q i d p
   ·obtain rfl:i=k:=by omega
    exact decide_eq_false o
 ·have e:c.1.find? (λf=>Di (f.1=s))=C5:=Adl.2 λf u=>by
   obtain⟨i,d,rfl⟩:=Aas u;rw[q i d d];decide
  refine P3 (by omega) ?_;refine Vi (λk=> ∀i (d:i<c.2.length),i<k->IW c.2[i].1 s=Aj) c.2.length (λi _ h=>by omega) (by omega) (λk nx l g x=>?_) (λnx g=>?_)
  ·have m:=AN l;have A:=h.each _ m;have y:dD fu (c.2[k].1,s)=Ac (IW c.2[k].1 s):=(Ta (n:=14641) (h.bt _ m) ⟨A,λt z=>by have:=h.ed _ m t z;omega⟩ (by omega) (by omega) (by omega) (by omega)).eq;refine PS (Aah l (GB y (PM (λo=>Aah l (MA ?_)) λo=>x λi d v=>?_)));· have r:c.2.find? (λk=>IW k.1 s)=Ac c.2[k]:=Adk.2 ⟨o,k,l,rfl,λj w=>by simp only[g j (by omega) w];rfl⟩;unfold vw;rw[e,r]
   ·rcases Aam i k with p|p;· exact g i d p
    ·obtain rfl:i=k:=by omega
     exact o
  ·have r:c.2.find? (λk=>IW k.1 s)=C5:=Adl.2 λf u=>by
    obtain⟨i,d,rfl⟩:=Aas u;rw[g i d d];decide
   refine PT (MA ?_);unfold vw;rw[e,r];rfl
theorem aP{c:HM}{i:Nat} :Ok (Yf fu (c,(i:Int))) λr=>r.1=Xv c i:=by
 rw[Yf];unfold Xv;refine PT (N1 (λh=>Aah (by omega) (MA ?_)) λh=>?_);· rw[BY (by omega)]
 ·rw[Aco (by omega)];cases hc:c.2 with
  |nil=>exact P3 (by simp) (MA rfl)
  |cons x l=>exact Tz (by simp) (GB (a:=x) rfl (MA rfl))
def SV(d:Nat)(v:Vl):Prop:=Bd d v/\D6 d v
def SW(d:Nat)(x:Bk):Prop:=SV d x.1/\SV d x.2
theorem Dw{k m:Nat}{s:Sc}(h:c9 k m s)(a:uM s):Ih k m s:=⟨a.1,h.n1,h.n2,⟨a.2.1,a.2.2,rfl,h.sh.1⟩⟩
theorem kI(d:Nat):SV (d+1) v0:=⟨(KN d).1,⟨λh=>(by cases h),QO,λc hc=>(by cases hc),λc hc=>(by cases hc)⟩,λx a=>by cases a⟩
theorem SV.qb(h:SV (d+1) v):∀x∈kids v,SW d x:=λx a=>⟨⟨(h.1.2.2.2 x a).1,(h.2.2 x a).1⟩,⟨(h.1.2.2.2 x a).2,(h.2.2 x a).2⟩⟩
theorem SV.lv(h:SV (d+1) v){c:HM}(hc:c∈v.lists):∀x∈AY c,SW d x:=λx a=>h.qb x (AS.2 (.inl (Aad.2 ⟨c,hc,a⟩)))
theorem SV.sv(h:SV (d+1) v)(hc:c∈v.structs):∀x∈Bq c,SW d x:=λx a=>h.qb x (AS.2 (.inr (Aad.2 ⟨c,hc,a⟩)))
theorem SW.v0{x:Bk}(h:SW d x):SW d (v0,v0):=by
 cases d with
 |zero=>trivial
 |succ d=>exact⟨kI d,kI d⟩
end
section
variable {d : Nat} (ih : ∀ {fu : Nat} {a b : Vl}, SV d a -> SV d b -> 1000000000000 + 20 * d < fu -> Ok (Ti fu (a, b)) λr => r = Bp ↔ Db d a b)
section
variable{fu:Nat}
include ih
theorem JO{x y:Bk}(e:SW d x)(g:SW d y)(j:1000000000000+20*d+1<fu):Ok (Np fu (x,y)) λr=>r=Bp↔KH (Db d) x y:=by
 obtain⟨f,rfl⟩:∃f,fu=f+1:=⟨fu-1,by omega⟩;rw[show Np (f+1) (x,y)=_ from d309 f x y];unfold x9;refine Ou (ih e.1 g.1 (by omega)) λr c=>PM (λh=>Ou (ih e.2 g.2 (by omega)) λs i=>MA ?_) λh=>AV λk=>?_;· exact i.trans ⟨λk=>⟨c.1 h,k⟩,λk=>k.2⟩
 ·rw[c.2 k.1]at h;cases h
theorem RK{x y:HM}(h1:x.1.length<=3)(G:∀w∈AY x,SW d w)(H:∀w∈AY y,SW d w)(Q:1000000000000+20*d+2<fu):Ok (Tk fu (x,y)) λr=>r=Bp↔WB (Db d) x y:=by
 obtain⟨
     f,rfl⟩:∃f,fu=f+1:=⟨fu-1,by omega⟩;rw[show Tk (f+1) (x,y)=_ from d310 f x y];unfold x8;have loop:(y.1.length<=x.1.length)->(y.2=[]->x.1.length<=y.1.length/\x.2=[])->Ok (Ad f (λ(n:Nat) j=>
    bif Di ((n:Int)<(x.1.length:Int))then
     Ab (Yf f (y,(n:Int))) λz=>
     Ab (idx x.1 (n:Int)) λv=>
     Ab (Np f (v,z.1)) λA=>
     bif !A then
      Ac Aj
     else
      j (n+1)
    else
     bif Di ((x.2.length:Int)=0)then
      Ac Bp
     else
      Ab (idx x.2 0) λB=>
      Ab (idx y.2 0) λC=>
      Ab (Np f (B,C)) λD=>
      Ac D) 0) λr=>r=Bp↔WB (Db d) x y:=λF s=>by
  refine Vi (λk=> ∀i (h:i<x.1.length),i<k->KH (Db d) x.1[i] (Xv y i)) x.1.length (λi h k=>by omega) (by omega) (λk nx q p M=>?_) (λnx p=>?_)
  ·have m:=G _ (AS.2 (.inl (AN q)));refine PS (Ou aP λr t=>Aah q ?_);rw[t];refine Ou (JO ih m (aO m.v0 H) (by omega)) λb l=>PM (λh=>AV λN=>?_) λh=>M λi K L=>?_;· rw[l.2 (N.it k q)]at h;cases h
   ·rcases Aam i k with o|o;· exact p i K o
    ·obtain rfl:i=k:=by omega
     exact l.1 (by simpa using h)
  ·have I:∀i (h:i<x.1.length),KH (Db d) x.1[i] (Xv y i):=λi h=>p i h h;refine PT (N1 (λO=>MA ⟨λ_=>⟨F,s,I,λh=>by omega⟩,λ_=>rfl⟩) λh=>?_);have u:0<x.2.length:=by omega
   have J:0<y.2.length:=by
    rcases Afv y.2.length with e|e;· have:=(s (OF.1 e)).2;rw[this]at u;exact absurd u (by decide)
    ·exact e
   refine Adu (by decide) (by omega) (Adu (by decide) (by omega) (Ou (JO ih (G _ (AS.2 (.inr (AN _)))) (H _ (AS.2 (.inr (AN _)))) (by omega)) λb l=>MA (l.trans ⟨λk=>⟨F,s,I,λ_=>?_⟩,λk=>?_⟩)));· rw[show y.2.getD 0 (v0,v0)=y.2[0]from AO J];exact k
   ·have:=k.rs u;rwa [show y.2.getD 0 (v0,v0)=y.2[0]from AO J]at this
 refine N1 (λh=>AV λk=>by have:=k.ln;omega) λo=>N1 (λe=>?_) λe=>loop (by omega) λE=>absurd (by rw[E];rfl) e;have e:y.2=[]:=OF.1 (by omega);refine N1 (λh=>AV λk=>by have:=(k.cl e).1;omega) λE=>N1 (λh=>AV λk=>by have:=(k.cl e).2;rw[this]at h;exact absurd h (by decide)) λP=>loop (by omega) λ_=>⟨by omega,OF.1 (by omega)⟩
theorem L4{x y:BB}(B:NM x)(o:NM y)(V:Du x)(W:Du y)(M:∀w∈Bq x,SW d w)(N:∀w∈Bq y,SW d w)(Y:1000000000000+20*d+3<fu):Ok (Tj fu (x,y)) λr=>r=Bp↔UJ (Db d) x y:=by
 obtain⟨f,rfl⟩:∃f,fu=f+1:=⟨fu-1,by omega⟩;rw[show Tj (f+1) (x,y)=_ from d312 f x y];unfold x6;have n1:=B.nf;have n2:=B.nc;have n3:=o.nf;have n4:=o.nc;have A:∀s:Aq,s.length<=60->SW d (v0,v0)->Ok (dB f (x,y,s)) λr=>r=Bp↔(vw x s).2<=(vw y s).2/\KH (Db d) (vw x s).1 (vw y s).1:=λs Z R=>by obtain⟨g,rfl⟩:∃g,f=g+1:=⟨f-1,by omega⟩;rw[show dB (g+1) (x,y,s)=_ from d311 g x y s];unfold x7;refine GB (QR B (by omega) (by omega)) (GB (QR o (by omega) (by omega)) (N1 (λh=>Ou (JO ih (U3 R M) (U3 R N) (by omega)) λb i=>MA (i.trans ⟨λk=>⟨h,k⟩,λk=>k.2⟩)) λh=>AV λk=>h k.1))
 refine Vi (λk=> ∀g∈x.1.take k,(vw x g.1).2<=(vw y g.1).2/\KH (Db d) (vw x g.1).1 (vw y g.1).1) x.1.length (by simp) (by omega) (λk nx n H E=>?_) (λnx H=>?_)
 ·have m:=AN n;refine PS (Aah n (Ou (A _ (B.lb _ m) (M _ (AS.2 (.inl (By.2 ⟨_,m,rfl⟩)))).v0) λb i=>PM (λh=>AV λG=>?_) λh=>E λg z=>?_));· rw[i.2 (G.fa _ m)]at h;cases h
  ·rcases(Ag n).1 z with z|rfl;· exact H g z
   ·exact i.1 (by simpa using h)
 rw[Al]at H;refine P3 (by omega) ?_;refine Vi (λk=> ∀g∈y.1.take k,(vw x g.1).2<=(vw y g.1).2/\KH (Db d) (vw x g.1).1 (vw y g.1).1) y.1.length (by simp) (by omega) (λk nx n p E=>?_) (λnx p=>?_)
 ·have m:=AN n;refine PS (Aah n (Ou (A _ (o.lb _ m) (N _ (AS.2 (.inl (By.2 ⟨_,m,rfl⟩)))).v0) λb i=>PM (λh=>AV λG=>?_) λh=>E λg z=>?_));· rw[i.2 (G.fb _ m)]at h;cases h
  ·rcases(Ag n).1 z with z|rfl;· exact p g z
   ·exact i.1 (by simpa using h)
 rw[Al]at p;refine P3 (by omega) ?_;refine Vi (λk=> ∀a∈x.2.take k,∀b∈y.2,KH (Db d) a.2 b.2\/∀w,¬(Av a.1 0 w=Bp/\Av b.1 0 w=Bp)) x.2.length (by simp) (by omega) (λk nx n q E=>?_) (λnx q=>?_)
 ·have m:=AN n;refine Tz (by omega) ?_;refine Vi (λj=> ∀b∈y.2.take j,KH (Db d) (x.2[k]).2 b.2\/∀w,¬(Av (x.2[k]).1 0 w=Bp/\Av b.1 0 w=Bp)) y.2.length (by simp) (by omega) (λj O I u F=>?_) (λO u=>?_)
  ·have J:=AN I;have P:=V.1 _ m;have Q:=W.1 _ J;have U:CB (x.2[k]).1 (Av (x.2[k]).1 0) 14641:=⟨P.2.1,P.2.2,rfl,B.each _ m⟩;have lb:CB (y.2[j]).1 (Av (y.2[j]).1 0) 14641:=⟨Q.2.1,Q.2.2,rfl,o.each _ J⟩;refine PS (Aah n (Aah I (Ou (cQ (Gu (fu:=f) U lb (by decide) (by omega))) λt S=>?_)));rw[U.gL,lb.gL]at S;have C:si f t=Ac (Di ((t.length:Int)=0)):=(rfl);refine GB C ?_;have v:(KH (Db d) (x.2[k]).2 (y.2[j]).2\/∀w,¬(Av (x.2[k]).1 0 w=Bp/\Av (y.2[j]).1 0 w=Bp))->∀b∈y.2.take (j+1),KH (Db d) (x.2[k]).2 b.2\/∀w,¬(Av (x.2[k]).1 0 w=Bp/\Av b.1 0 w=Bp):=λh b i=>by
    rcases(Ag I).1 i with i|rfl;· exact u b i
    ·exact h
   have emp:t=[]↔∀w,¬(Av (x.2[k]).1 0 w=Bp/\Av (y.2[j]).1 0 w=Bp):=by
    rw[S.Gt];constructor;· intro e w T;have:=congrFun e w;rw[T.1,T.2]at this;cases this
    ·intro e;funext w;have:=e w;cases X:Av (x.2[k]).1 0 w<;>cases D:Av (y.2[j]).1 0 w<;>simp_all
   refine PM (λh=>Aah n (Aah I (Ou (JO ih (M _ (AS.2 (.inr (By.2 ⟨_,m,rf⟩)))) (N _ (AS.2 (.inr (By.2 ⟨_,J,rf⟩)))) (by omega)) λb i=>PM (λD=>AV λG=>?_) λD=>F (v (.inl (i.1 (by simpa using D))))))) λh=>F (v (.inr (emp.1 ?_)))
   ·rcases G.cl _ m _ J with K|K;· rw[i.2 K]at D;cases D
    ·rw[emp.2 K]at h;cases h
   ·have h:Di ((t.length:Int)=0)=Bp:=by simpa using h
    have:=of_decide_eq_true h;exact OF.1 (by omega)
  ·rw[Al]at u;refine PT (E λa L=>?_);rcases(Ag n).1 L with L|rfl;· exact q a L
   ·exact u
 ·rw[Al]at q;exact PT (MA ⟨λ_=>⟨H,p,q⟩,λ_=>rfl⟩)
end
end
section
variable{α:Type}{P:α->Prop}{fu:Nat}
theorem Sh{n bs:List α}{g:α->α->Option Bool}{k:Nat}{Q:Bool->Prop}{nx:Option Bool}(v:k<n.length)(t:bs.length<fu)(u:∀b∈bs,Ok (g n[k] b) λr=>r=Bp↔P b)(a:(∃b∈bs,P b)->Ok nx Q)(o:(¬ ∃b∈bs,P b)->Q Aj):
  Ok (
    Ad fu (λ(f:Bool×Nat) c=>
   bif Di ((f.2:Int)<(bs.length:Int))then
    bif !f.1 then
     Ab (idx n (k:Int)) λy=>
     Ab (idx bs (f.2:Int)) λz=>
     Ab (g y z) λA=>
     c (A,f.2+1)
    else
     bif !f.1 then Ac Aj else nx
   else
    bif !f.1 then Ac Aj else nx) (Aj,0)) Q:=by
 refine Sb (λj (s:Bool)=>s=Bp↔∃b∈bs.take j,P b) bs.length ⟨λh=>(by cases h),λh=>by simp at h⟩ t (λj s c l d w=>?_) (λs c d=>?_)
 ·have m:=AN l;refine PS (PM (λh=>Aah v (Aah l (Ou (u _ m) λr x=>w _ ?_))) λh=>PM (λq=>absurd q (by dsimp only at h⊢;rw[h];decide)) λ_=>a ?_)
  ·have p:s=Aj:=by simpa using h
   rw[x];constructor;· intro e;exact⟨_,(Ag l).2 (.inr rfl),e⟩
   ·rintro⟨b,i,e⟩;rcases(Ag l).1 i with i|rfl;· have:=d.2 ⟨b,i,e⟩;rw[p]at this;cases this
    ·exact e
  ·have p:s=Bp:=by simpa using h
   obtain⟨b,i,e⟩:=d.1 p;exact⟨b,Acl i,e⟩
 ·rw[Al]at d;refine PT (PM (λh=>MA (o λk=>?_)) λh=>a (d.1 (by simpa using h)));rw[d.2 k]at h;cases h
theorem HX:∀ {d fu:Nat} {a b:Vl},SV d a->SV d b->1000000000000+20*d<fu->Ok (Ti fu (a,b)) λr=>r=Bp↔Db d a b
 |0,_,_,_,h,_,_=>h.1.elim
 |d+1,0,_,_,_,_,h=>by omega
 |d+1,f+1,a,b,n,o,G=>by
  have A:∀ {fu:Nat} {a b:Vl},SV d a->SV d b->1000000000000+20*d<fu->Ok (Ti fu (a,b)) λr=>r=Bp↔Db d a b:=HX;have D:=Dw n.1.1 n.2.1.sc;have sb:=Dw o.1.1 o.2.1.sc;have B:=n.1.2.1;have F:=o.1.2.1;have u:=n.1.2.2.1;have v:=o.1.2.2.1;rw[show Ti (f+1) (a,b)=_ from d313 f a b];unfold xZ;refine PM (λh=>MA ⟨λk=> .inl k,λk=>?_⟩) λh=>PM (λq=>MA ⟨λk=> .inl k,λ_=>q⟩) λq=>Ou (L3 D sb (by decide) (by decide) (by omega)) λr z=>PM (λs=>AV λk=>?_) λs=>?_
  ·rcases k with k|k;· exact k
   ·rw[h]at k;exact absurd k.1 (by decide)
  ·rcases k with k|k;· rw[q]at k;cases k
   ·rw[z.2 k.2.1]at s;cases s
  have C:=z.1 (by simpa using s);refine Vi (λk=> ∀c∈a.lists.take k,∃l∈b.lists,WB (Db d) c l) a.lists.length (by simp) (by omega) (λk nx p t w=>?_) (λnx t=>?_)
  ·have m:=AN p;refine PS (Sh (g:=λx y=>Tk f (x,y)) (P:=λl=>WB (Db d) a.lists[k] l) p (by omega) (λc hc=>RK A (B.2 _ m).1 (n.lv m) (o.lv hc) (by omega)) (λh=>w λc hc=>?_) λh=>⟨λe=>(by cases e),λi=>?_⟩)
   ·rcases(Ag p).1 hc with hc|rfl;· exact t c hc
    ·exact h
   ·rcases i with i|i;· rw[q]at i;cases i
    ·exact absurd (i.2.2.1 _ m) h
  rw[Al]at t;refine P3 (by omega) ?_;refine Vi (λk=> ∀c∈a.structs.take k,∃l∈b.structs,UJ (Db d) c l) a.structs.length (by simp) (by omega) (λk nx p j w=>?_) (λnx j=>?_)
  ·have m:=AN p;refine PS (Sh (g:=λx y=>Tj f (x,y)) (P:=λl=>UJ (Db d) a.structs[k] l) p (by omega) (λc hc=>L4 A (u.2 _ m) (v.2 _ hc) (n.2.1.st _ m).2 (o.2.1.st _ hc).2 (n.sv m) (o.sv hc) (by omega)) (λh=>w λc hc=>?_) λh=>⟨λe=>(by cases e),λi=>?_⟩)
   ·rcases(Ag p).1 hc with hc|rfl;· exact j c hc
    ·exact h
   ·rcases i with i|i;· rw[q]at i;cases i
    ·exact absurd (i.2.2.2 _ m) h
  ·rw[Al]at j;exact PT (MA ⟨λ_=> .inr ⟨h,C,t,j⟩,λ_=>rfl⟩)
theorem contains_eq{l:List α}{x:α}{g:α->α->Option (Bool×α)}(n:l.length<fu)(o:∀y∈l,Ok (g y x) λr=>r.2=x/\(r.1=Bp↔P y)):
  Ok (Ad fu (λ(b:α×Nat) i=>bif Di ((b.2:Int)<(l.length:Int))then Ab (idx l (b.2:Int)) λq=>Ab (g q b.1) λj=>bif j.1 then Ac ((b.2:Int),j.2)else i (j.2,b.2+1)else Ac ((-1:Int),b.1)) (x,0)) λr=>r.2=x/\(0<=r.1↔∃y∈l,P y):=by
 refine Sb (λk s=>s=x/\∀y∈l.take k,¬P y) l.length ⟨rf,by simp⟩ n (λk s nx e a p=>?_) (λs nx a=>?_)
 ·obtain⟨rfl,a⟩:=a;have m:=AN e;refine PS (Aah e (Ou (o _ m) λr d=>PM (λh=>MA ⟨d.1,λ_=>⟨_,m,d.2.1 h⟩,λ_=>by omega⟩) λh=>p _ ⟨d.1,λy c=>?_⟩));rcases(Ag e).1 c with c|rfl;all_goals grind
 ·obtain⟨rfl,a⟩:=a;rw[Al]at a;exact PT (MA ⟨rfl,λh=>by omega,λ⟨y,c,f⟩=>absurd f (a y c)⟩)
theorem MY{a:List α}{g:α->Option (Bool×α)}(j:a.length<fu)(l:∀x∈a,Ok (g x) λr=>r.1=Bp↔P x):
  Ok (Ad fu (λ(f:Nat) e=>bif Di ((f:Int)<(a.length:Int))then Ab (idx a (f:Int)) λo=>Ab (g o) λp=>bif !p.1 then Ac Aj else e (f+1)else Ac Bp) 0) λr=>r=Bp↔∀x∈a,P x:=by
 refine Vi (λk=> ∀x∈a.take k,P x) a.length (by simp) j (λk nx c b n=>?_) (λnx b=>?_)
 ·have m:=AN c;refine PS (Aah c (Ou (l _ m) λr i=>PM (λh=>AV λk=>?_) λh=>n λx d=>?_));· grind
  ·rcases(Ag c).1 d with d|rfl;all_goals grind
 ·rw[Al]at b;exact PT (MA ⟨λ_=>b,λ_=>rfl⟩)
end
section
variable {d : Nat} (ih : ∀ {fu : Nat} {a b : Vl}, SV d a -> SV d b -> 1000000000000 + 20 * d < fu -> Ok (To fu (a, b)) λr => r = Bp ↔ Db d a b)
section
variable{fu:Nat}
include ih
theorem PO{x y:Bk}(e:SW d x)(g:SW d y)(j:1000000000000+20*d+1<fu):Ok (Lq fu (x,y)) λr=>r=Bp↔KH (Db d) x y:=by
 obtain⟨f,rfl⟩:∃f,fu=f+1:=⟨fu-1,by omega⟩;rw[show Lq (f+1) (x,y)=_ from d189 f x y];refine Ou (ih e.1 g.1 (by omega)) λr c=>PM (λh=>Ou (ih e.2 g.2 (by omega)) λs i=>MA ?_) λh=>AV λk=>?_;· exact i.trans ⟨λk=>⟨c.1 h,k⟩,λk=>k.2⟩
 ·rw[c.2 k.1]at h;grind
theorem Jn{x y:HM}(h1:x.1.length<=3)(G:∀w∈AY x,SW d w)(H:∀w∈AY y,SW d w)(Q:1000000000000+20*d+2<fu):Ok (US fu (x,y)) λr=>r=Bp↔WB (Db d) x y:=by
 obtain⟨
     f,rfl⟩:∃f,fu=f+1:=⟨fu-1,by omega⟩;rw[show US (f+1) (x,y)=_ from d190 f x y];have loop:(y.1.length<=x.1.length)->(y.2=[]->x.1.length<=y.1.length/\x.2=[])->Ok (Ad f (λ(n:Nat) j=>
    bif Di ((n:Int)<(x.1.length:Int))then
     Ab (idx x.1 (n:Int)) λv=>
     Ab (Yp f (y,(n:Int))) λz=>
     Ab (Lq f (v,z.1)) λA=>
     bif !A then
      Ac Aj
     else
      j (n+1)
    else
     bif Di ((x.2.length:Int)=0)then
      Ac Bp
     else
      Ab (idx x.2 0) λB=>
      Ab (idx y.2 0) λC=>
      Ab (Lq f (B,C)) λD=>
      Ac D) 0) λr=>r=Bp↔WB (Db d) x y:=λF s=>by
  refine Vi (λk=> ∀i (h:i<x.1.length),i<k->KH (Db d) x.1[i] (Xv y i)) x.1.length (λi h k=>by omega) (by omega) (λk nx q p M=>?_) (λnx p=>?_)
  ·have m:=G _ (AS.2 (.inl (AN q)));refine PS (Aah q (Ou gF λr t=>?_));rw[t];refine Ou (PO ih m (aO m.v0 H) (by omega)) λb l=>PM (λh=>AV λN=>?_) λh=>M λi K L=>?_;· rw[l.2 (N.it k q)]at h;grind
   ·rcases Aam i k with o|o;· simp_all
    grind
  ·have I:∀i (h:i<x.1.length),KH (Db d) x.1[i] (Xv y i):=λi h=>p i h h;refine PT (N1 (λO=>MA ⟨λ_=>⟨F,s,I,λh=>by omega⟩,λ_=>rfl⟩) λh=>?_);have u:0<x.2.length:=by omega
   have J:0<y.2.length:=by grind
   refine Adu (by decide) (by omega) (Adu (by decide) (by omega) (Ou (PO ih (G _ (AS.2 (.inr (AN _)))) (H _ (AS.2 (.inr (AN _)))) (by omega)) λb l=>MA (l.trans ⟨λk=>⟨F,s,I,λ_=>?_⟩,λk=>?_⟩)));· rw[show y.2.getD 0 (v0,v0)=y.2[0]from AO J];exact k
   ·have:=k.rs u;rwa [show y.2.getD 0 (v0,v0)=y.2[0]from AO J]at this
 refine N1 (λh=>AV λk=>by have:=k.ln;omega) λo=>PM (λh=>?_) λh=>loop (by omega) λE=>absurd h (by rw[E];decide);have e:y.2=[]:=by
  rcases Afv y.2.length with e|e;· exact OF.1 e
  ·rw[show Di ((0:Int)<(y.2.length:Int))=Bp from decide_eq_true (by omega)]at h;cases h
 exact N1 (λh=>AV λk=>by have:=(k.cl e).1;omega) λE=>N1 (λh=>AV λk=>by have:=(k.cl e).2;rw[this]at h;exact absurd h (by decide)) λP=>loop (by omega) λ_=>⟨by omega,OF.1 (by omega)⟩
theorem G3{x y:BB}(C:NM x)(i:NM y)(M:Du x)(N:Du y)(V:∀w∈Bq x,SW d w)(W:∀w∈Bq y,SW d w)(hF:1000000000000+20*d+2<fu):Ok (UT fu (x,y)) λr=>r=Bp↔UJ (Db d) x y:=by
 obtain⟨f,rfl⟩:∃f,fu=f+1:=⟨fu-1,by omega⟩;rw[show UT (f+1) (x,y)=_ from d183 f x y];have n1:=C.nf;have n2:=C.nc;have n3:=i.nf;have n4:=i.nc;refine Pv ⟨rfl,rfl⟩ ?_;let P:=λg:Aq×Int×Bk=>(vw x g.1).2<=(vw y g.1).2/\KH (Db d) (vw x g.1).1 (vw y g.1).1;refine Vi (λk=>(1<=k->∀g∈x.1,P g)/\(2<=k->∀g∈y.1,P g)) 2 ⟨λh=>by omega,λh=>by omega⟩ (by omega) (λk nx I H J=>?_) (λnx H=>?_)
 ·have inner:∀(l:List (Aq×Int×Bk)),l.length<=4->(∀g∈l,g.1.length<=60/\SW d (v0,v0))->(UJ (Db d) x y->∀g∈l,P g)->((∀g∈l,P g)->Ok (nx (k+1)) λr=>r=Bp↔UJ (Db d) x y)->
    Ok (
      Ad f (λ(Y:Nat) B=>
     bif Di ((Y:Int)<(l.length:Int))then
      Ab (idx l (Y:Int)) λr6=>
      Ab (Yl f (x,r6.1)) λr7=>
      Ab (Yl f (y,r6.1)) λr8=>
      bif Di (r8.2<r7.2)then
       Ac Aj
      else
       Ab (Lq f (r7.1,r8.1)) λr9=>
       bif !r9 then
        Ac Aj
       else
        B (Y+1)
     else
      nx (k+1)) 0) λr=>r=Bp↔UJ (Db d) x y:=λl hl v hP U=>by
   refine Vi (λj=> ∀g∈l.take j,P g) l.length (by simp) (by omega) (λj B A u T=>?_) (λB u=>?_)
   ·have m:=AN A;obtain⟨q1,q2⟩:=v _ m;refine PS (Aah A (GB (U4 C (by omega) (by omega)) (GB (U4 i (by omega) (by omega)) (N1 (λh=>AV λp=>by have:=(hP p _ m).1;omega) λD=>Ou (PO ih (U3 q2 V) (U3 q2 W) (by omega)) λr G=>PM (λh=>AV λp=>?_) λh=>T λg z=>?_))));· rw[G.2 (hP p _ m).2]at h;cases h
    rcases(Ag A).1 z with E|rfl;· exact u g E
    ·exact⟨by omega,G.1 (by simpa using h)⟩
   ·exact PT (U λg z=>u g (by rw[Al];omega))
  have M:∀g∈x.1,g.1.length<=60/\SW d (v0,v0):=λg v=>⟨C.lb g v,(V _ (AS.2 (.inl (By.2 ⟨g,v,rfl⟩)))).v0⟩;have N:∀g∈y.1,g.1.length<=60/\SW d (v0,v0):=λg v=>⟨i.lb g v,(W _ (AS.2 (.inl (By.2 ⟨g,v,rfl⟩)))).v0⟩;refine Tz (by omega) ?_;rcases(by omega:k=0\/k=1)with rfl|rfl;· exact GB (a:=x.1) rfl (inner x.1 n1 M (λp=>p.fa) λh=>J ⟨λ_=>h,λh=>by omega⟩)
  ·exact GB (a:=y.1) rf (inner y.1 n3 N (λp=>p.fb) λh=>J ⟨λ_=>H.1 (by omega),λ_=>h⟩)
 ·have O:=H.1 (by omega);have Q:=H.2 (by omega);refine Vi (λk=> ∀a∈x.2.take k,∀b∈y.2,KH (Db d) a.2 b.2\/∀w,¬(Av a.1 0 w=Bp/\Av b.1 0 w=Bp)) x.2.length (by simp) (by omega) (λk nx I n J=>?_) (λnx n=>?_)
  ·have K:=AN I;refine PS (Aah I ?_);refine Vi (λj=> ∀b∈y.2.take j,KH (Db d) (x.2[k]).2 b.2\/∀w,¬(Av (x.2[k]).1 0 w=Bp/\Av b.1 0 w=Bp)) y.2.length (by simp) (by omega) (λj X A o F=>?_) (λX o=>?_)
   ·have L:=AN A;have s1:=V _ (AS.2 (.inr (By.2 ⟨_,K,rfl⟩)));have s2:=W _ (AS.2 (.inr (By.2 ⟨_,L,rfl⟩)));have Z:=M.1 _ K;have gb:=N.1 _ L;have la:CB (x.2[k]).1 (Av (x.2[k]).1 0) 14641:=⟨Z.2.1,Z.2.2,rfl,C.each _ K⟩;have lb:CB (y.2[j]).1 (Av (y.2[j]).1 0) 14641:=⟨gb.2.1,gb.2.2,rfl,i.each _ L⟩;have q:(KH (Db d) (x.2[k]).2 (y.2[j]).2\/∀w,¬(Av (x.2[k]).1 0 w=Bp/\Av (y.2[j]).1 0 w=Bp))->∀b∈y.2.take (j+1),KH (Db d) (x.2[k]).2 b.2\/∀w,¬(Av (x.2[k]).1 0 w=Bp/\Av b.1 0 w=Bp):=λh b S=>by
     rcases(Ag A).1 S with S|rfl;· exact o b S
     trivial
    refine PS (Aah A (Ou (PO ih s1 s2 (by omega)) λr G=>PM (λh=>Ou (iY (Gu la lb (by decide) (by omega))) λt ht=>?_) λh=>F (q (.inl (G.1 (by simpa using h))))));rw[la.gL,lb.gL]at ht;have emp:t=[]↔∀w,¬(Av (x.2[k]).1 0 w=Bp/\Av (y.2[j]).1 0 w=Bp):=by
     rw[ht.Gt];constructor;· intro e w hw;have:=congrFun e w;rw[hw.1,hw.2]at this;cases this
     ·intro e;funext w;have:=e w;cases h1:Av (x.2[k]).1 0 w<;>cases D:Av (y.2[j]).1 0 w<;>simp_all
    refine N1 (λD=>AV λp=>?_) λD=>F (q (.inr (emp.1 (OF.1 (by omega)))));rcases p.cl _ K _ L with E|E;· rw[G.2 E]at h;cases h
    ·rw[emp.2 E]at D;exact absurd D (by decide)
   ·rw[Al]at o;refine PT (J λa R=>?_);rcases(Ag I).1 R with R|rfl;· exact n a R
    ·exact o
  ·rw[Al]at n;exact PT (MA ⟨λ_=>⟨O,Q,n⟩,λ_=>rfl⟩)
end
end
section
variable{n fu N:Nat}{r:Tb}{L:Nat}{g:Nat->Nat->Bool}{l:Tb}{w:Aq}{m:Nat}{x y:Int}{i:Nat}
theorem JP:∀ {d fu:Nat} {a b:Vl},SV d a->SV d b->1000000000000+20*d<fu->Ok (To fu (a,b)) λr=>r=Bp↔Db d a b
 |0,_,_,_,h,_,_=>h.1.elim
 |d+1,fu,a,b,j,l,C=>by
  obtain⟨f,rfl⟩:∃f,fu=f+7:=⟨fu-7,by omega⟩;have u:∀ {fu:Nat} {a b:Vl},SV d a->SV d b->1000000000000+20*d<fu->Ok (To fu (a,b)) λr=>r=Bp↔Db d a b:=JP;have z:=Dw j.1.1 j.2.1.sc;have sb:=Dw l.1.1 l.2.1.sc;rw[show To (f+7) (a,b)=_ from d188 (f+6) a b];refine PM (λh=>MA ⟨λk=> .inl k,λk=>?_⟩) λh=>PM (λn=>MA ⟨λk=> .inl k,λ_=>n⟩) λn=>?_
  ·rcases k with k|k;all_goals grind
  refine Ou (Mb (d:=d+1) (x:=(a,v0)) (y:=(b,v0)) ⟨j.1,(KN d).1⟩ ⟨l.1,(KN d).1⟩ (by omega)) λr c=>PM (λh=>MA ⟨λ_=>?_,λ_=>rfl⟩) λ_=>?_;· have e:a=b:=congrArg Prod.fst (c.1 h);subst e;exact Db.refl j.2
  have v:=j.1.2.1;have B:=l.1.2.1;have q:=j.1.2.2.1;have s:=l.1.2.2.1;refine Ou (WT z sb (by simp) (by simp) (by omega)) λr c=>PM (λi=>AV λk=>?_) λi=>?_
  ·rcases k with k|k;· rw[n]at k;cases k
   ·rw[c.2 k.2.1]at i;cases i
  have w:=c.1 (by simpa using i);have L:Ok (j8 (f+6) (a.lists,b.lists)) λr=>r=Bp↔∀x∈a.lists,∃y∈b.lists,WB (Db d) x y:=by
   rw[show j8 (f+6) (a.lists,b.lists)=_ from d182 (f+5) _ _];refine MY (g:=λx=>j9 (f+5) (b.lists,x)) (by omega) λx m=>?_;rw[show j9 (f+5) (b.lists,x)=_ from d181 (f+4) _ _];have:Ok (j_ (f+4) (b.lists,x)) λr=>r.2=x/\(0<=r.1↔∃y∈b.lists,WB (Db d) x y):=by rw[show j_ (f+4) (b.lists,x)=_ from d180 (f+3) _ _];refine contains_eq (g:=λy x=>kc (f+3) (y,x)) (by omega) λy p=>?_;rw[show kc (f+3) (y,x)=_ from d179 (f+2) _ _];exact Ou (Jn u (v.2 x m).1 (j.lv m) (l.lv p) (by omega)) λr c=>MA ⟨rfl,c⟩
   exact Ou this λr c=>MA (decide_eq_true_iff.trans c.2)
  have S:Ok (jZ (f+6) (a.structs,b.structs)) λr=>r=Bp↔∀x∈a.structs,∃y∈b.structs,UJ (Db d) x y:=by
   rw[show jZ (f+6) (a.structs,b.structs)=_ from d187 (f+5) _ _];refine MY (g:=λx=>j0 (f+5) (b.structs,x)) (by omega) λx m=>?_;rw[show j0 (f+5) (b.structs,x)=_ from d186 (f+4) _ _];have:Ok (j6 (f+4) (b.structs,x)) λr=>r.2=x/\(0<=r.1↔∃y∈b.structs,UJ (Db d) x y):=by rw[show j6 (f+4) (b.structs,x)=_ from d185 (f+3) _ _];refine contains_eq (g:=λy x=>j7 (f+3) (y,x)) (by omega) λy p=>?_;rw[show j7 (f+3) (y,x)=_ from d184 (f+2) _ _];exact Ou (G3 u (q.2 x m) (s.2 y p) (j.2.1.st x m).2 (l.2.1.st y p).2 (j.sv m) (l.sv p) (by omega)) λr c=>MA ⟨rfl,c⟩
   exact Ou this λr c=>MA (decide_eq_true_iff.trans c.2)
  refine Ou L λD o=>PM (λi=>Ou S λE t=>MA (t.trans ⟨λk=> .inr ⟨h,w,o.1 i,k⟩,λk=>?_⟩)) λi=>AV λk=>?_
  ·rcases k with k|k;· rw[n]at k;cases k
   ·exact k.2.2.2
  ·rcases k with k|k;· rw[n]at k;cases k
   ·rw[o.2 k.2.2.1]at i;cases i
def Ci(L N:Nat)(g:Nat->Nat->Bool):List (Bool×List Bool):=Bg L λi=>(Bp,Bg (N+1) (g i))
theorem gY:(Ci L N g).length=L:=Az _ _
theorem V1(h:i<L):idx (Ci L N g) (i:Int)=Ac (Bp,Bg (N+1) (g i)):=by unfold Ci;rw[Bj (by rw[Az];exact h),Bm]
theorem EJ{a:Nat->Nat->Bool}(h:∀i,i<L->∀j,j<N+1->g i j=a i j):Ci L N g=Ci L N a:=
 AP λi b=>by rw[AP (h i b)]
theorem gX:(Ci L N g).set i (Bp,(Bg (N+1) (g i)).set n Bp)=Ci L N λa j=>if a=i then if j=n then Bp else g i j else g a j:=by
 unfold Ci;rw[A',A'];refine AP λa _=>?_;by_cases h:a=i;· simp only[if_pos h]
 ·simp only[if_neg h]
theorem nW{α:Type}{f:Nat->α}(h:n<N):idx (Bg N f) (n:Int)=Ac (f n):=by rw[Bj (by rw[Az];exact h),Bm]
theorem iI(hw:Be l)(L:DP l n)(hn:n<4294967295)(hN:N<4294967295)(hf:n<fu)(S:N+1<fu):
  ju fu (l,(N:Int))=Ac (Bg l.length λi=>Bg (N+1) λk=>Eh l k i):=by
 have W:=L.1;refine(Ok.eq ?_);rw[ju];refine Pv (by unfold Ah;omega) ?_;have O:ZV ((N:Int)+1)=N+1:=by omega
 rw[O];refine Sb (λk (s:List (Bool×List Bool))=>s=Bg l.length λi=>if i<k then(Bp,Bg (N+1) λj=>Di (j<1)&&Eh l j i)else(Aj,[])) l.length ?_ (by omega) (λk s nx D r I=>?_) (λs nx r=>?_);· rw[Afk,Dv];exact AP λi _=>by simp
 ·have sl:s.length=l.length:=by rw[r,Az]
  have J:kN s k (Bp,TO (N+1) Aj)=Bg l.length λi=>if i=k then(Bp,Bg (N+1) λ_=>Aj)else if i<k then(Bp,Bg (N+1) λj=>Di (j<1)&&Eh l j i)else(Aj,[]):=by rw[r,A',Dv]
  have F:idx (kN s k (Bp,TO (N+1) Aj)) (k:Int)=Ac (Bp,Bg (N+1) λ_=>Aj):=by rw[J,Bj (by rw[Az];exact D),Bm,if_pos rfl]
  refine PS (Aap (Abt (Pv (by unfold Ah;omega) (Pv ⟨by omega,by dsimp only;omega⟩ (Abt (Pv ⟨by omega,by rw[Abq];dsimp only;omega⟩ (GB F (Pv rf (Aah D (GB F (Pv ⟨rf,by decide,by dsimp only;rw[Az];omega⟩ (GB F (Pv ⟨rf,by dsimp only;rw[Az];simp⟩ (I _ ?_))))))))))))));dsimp only;rw[J,A',A'];refine AP λi _=>?_;by_cases h:i=k
  ·subst h;rw[if_pos rfl,if_pos (by omega)];refine congrArg (Prod.mk Bp) (AP λj _=>?_);by_cases C:j=0;· subst C;refine(if_pos rfl).trans ?_;rw[Ha,Ea (by omega) (by omega)];rfl
   ·rw[if_neg (by exact C),decide_eq_false (by omega)];rfl
  ·rw[if_neg h,if_neg h];by_cases d:i<k;· rw[if_pos d,if_pos (by omega)]
   ·rw[if_neg d,if_neg (by omega)]
 have r:s=Ci l.length N λi j=>Di (j<1)&&Eh l j i:=by rw[r];exact AP λi f=>by rw[if_pos f]
 refine P3 (by dsimp only;omega) ?_;refine W5 (X:=List (Bool×List Bool)×Int) (λx=> ∃k:Nat,x.2=(k:Int)/\1<=k/\k<=N+1/\x.1=Ci l.length N λi j=>Di (j<k)&&Eh l j i) (λx=>N+1-x.2.toNat) ⟨1,rfl,by omega,by omega,r⟩ (by dsimp only;omega) λx nx8 Q _ u=>?_;obtain⟨s,z⟩:=x;obtain⟨k,M,U,V,B⟩:=Q;dsimp only at M B u;subst M;dsimp only;refine N1 (λD=>?_) λD=>?_
 ·refine Sb (λi (s:List (Bool×List Bool))=>s=Ci l.length N λa j=>(Di (j<k)||(Di (j=k)&&Di (a<i)))&&Eh l j a) l.length ?_ (by omega) (λi s w f p t=>?_) (λs w p=>?_);· rw[B];exact EJ λa _ j _=>by simp
  ·have Y:(l[i]).2.length<=n:=L.2 _ (AN f);have T:=hw _ (AN f);have v:Ie l i=(l[i]).2:=G_ f;refine Tz (by dsimp only;omega) ?_;refine Sb (λm (s:List (Bool×List Bool))=>s=Ci l.length N λa j=>if a=i/\j=k then((l[i]).2.take m).any (λe=>Eh l (k-1) e.2.2.toNat)else(Di (j<k)||(Di (j=k)&&Di (a<i)))&&Eh l j a) (l[i]).2.length ?_ (by omega) (λm s y E c o=>?_) (λs y c=>?_)
   ·rw[p];exact EJ λa _ j _=>by
     by_cases h:a=i/\j=k;· rw[if_pos h,h.1,h.2];simp
     ·rw[if_neg h]
   ·have K:=T.rg _ (AN E);have sl:s.length=l.length:=by rw[c,gY]
    have Z:((l[i]).2[m]).2.2.toNat<l.length:=by omega
    have H:=(congrArg (λs=>idx s ((((l[i]).2[m]).2.2.toNat:Nat):Int)) c).trans (V1 Z);have G:=(congrArg (λs=>idx s (i:Int)) c).trans (V1 f);have P:ZV ((k:Int)-1)=k-1:=by omega
    refine Aah f (PS (Aah f (Aah E (Pv ⟨K.2.2.2.1,by dsimp only;rw[sl];exact K.2.2.2.2⟩ (GB H (Pv rf (Aap (GB H (Pv ⟨rf,by omega,by dsimp only;rw[Az];omega⟩ (GB H (Pv rf ?_)))))))))));rw[P];have ev:(if((l[i]).2[m]).2.2.toNat=i/\k-1=k then((l[i]).2.take m).any (λe=>Eh l (k-1) e.2.2.toNat)else(Di (k-1<k)||(Di (k-1=k)&&Di (((l[i]).2[m]).2.2.toNat<i)))&&Eh l (k-1) ((l[i]).2[m]).2.2.toNat)=Eh l (k-1) ((l[i]).2[m]).2.2.toNat:=by rw[if_neg (by omega),decide_eq_true (by omega:k-1<k)];simp
    refine GB ((nW (by omega)).trans (congrArg Ac ev)) ?_;refine PM (λh=>Pv ⟨by omega,by dsimp only;omega⟩ (GB G (Pv rf (GB G (Pv ⟨rf,by omega,by dsimp only;rw[Az];omega⟩ (GB G (Pv ⟨rf,by dsimp only;rw[Az];omega⟩ (o _ ?_)))))))) λh=>o _ ?_
    ·dsimp only;rw[show ZV (k:Int)=k by omega];conv=>lhs;rw[c]
     rw[gX];refine EJ λa _ j _=>?_;by_cases b:a=i
     ·by_cases d:j=k;· rw[if_pos b,if_pos d,if_pos ⟨b,d⟩,IN E,Aeu];simp[h]
      ·rw[if_pos b,if_neg d,if_neg (λh=>d h.2),if_neg (λh=>d h.2),b]
     ·rw[if_neg b,if_neg (λh=>b h.1),if_neg (λh=>b h.1)]
    ·dsimp only;rw[c];refine EJ λa _ j _=>?_;by_cases b:a=i/\j=k;· rw[if_pos b,if_pos b,IN E,Aeu];simp[h]
     ·rw[if_neg b,if_neg b]
   ·refine Aah f (PT (t _ ?_));rw[c,Al];refine EJ λa _ j _=>?_;by_cases b:a=i/\j=k;· obtain⟨rfl,rfl⟩:=b;rw[if_pos ⟨rfl,rfl⟩,decide_eq_true (by omega:a<a+1)];obtain⟨q,rfl⟩:∃q,j=q+1:=⟨j-1,by omega⟩;rw[Hb,v];simp
    ·rw[if_neg b];by_cases d:j=k;· have:a≠i:=λh=>b ⟨h,d⟩;rw[show Di (a<i+1)=Di (a<i) by simp;omega]
     ·rw[decide_eq_false d];simp
  ·refine PT (Aap (u _ ⟨k+1,by dsimp only;omega,by omega,by omega,?_⟩ (by dsimp only;omega)));dsimp only;rw[p];refine EJ λa R j _=>?_;rw[decide_eq_true R,Bool.and_true,show Di (j<k+1)=(Di (j<k)||decide (j=k)) by
    rcases Acx j k with h|h|h;· rw[decide_eq_true h,decide_eq_true (by omega)];rfl
    ·rw[decide_eq_true h,decide_eq_true (by omega),Bool.or_true]
    ·rw[decide_eq_false (by omega),decide_eq_false (by omega),decide_eq_false (by omega)];rfl]
 ·obtain rfl:k=N+1:=by omega
  refine Pv ?_ (MA ?_);· rw[B];refine No.2 λx hx=>?_;obtain⟨i,_,rfl⟩:=EC.1 hx;rfl
  ·rw[B];unfold Ci Bg;rw[Aal];refine Abs λi _=>?_;show(av (N+1)).map _=_;refine Abs λj C=>?_;show(Di (j<N+1)&&Eh l j i)=_;rw[decide_eq_true (Abf.1 C),Ahm]
def wl(pre:Aq)(o:Option Aq):List Aq:=match o with
 |some w=>[pre++w]
 |none=>[]
theorem YR{pre:Aq}{o:Option Aq} :(wl pre o).length<=1:=by cases o<;>simp[wl]
theorem NW{l:Tb}{n N:Nat}(V:Be l)(U:DP l n)(hn:n<4294967295):∀ {k fu i:Nat} {pre:Aq},k<=N->n+300+k<fu->pre.length+k<4294967296->i<l.length->
  Ye fu (l,Bg l.length (λi=>Bg (N+1) λk=>Eh l k i),(i:Int),(k:Int),1,pre)=Ac (wl pre (lw l k i))
 |_,0,_,_,_,h,_,_=>by omega
 |k,fu+1,i,pre,hk,hf,hp,A=>by
  refine(d322 fu _ _ _ _ _ _).trans (Ok.eq ?_);unfold xY;refine GB (nW A) ?_;refine GB (nW (by omega)) (PM (λh=>MA ?_) λh=>P3 (by decide) ?_)
  ·have h:(lw l k i).isSome=Aj:=by
    have:Eh l k i=Aj:=by simpa using h
    exact this
   rw[Alk.1 h |> Aln.1];rfl
  cases k with
  |zero=>
   have h:Eh l 0 i=Bp:=by simpa using h
   obtain⟨w,e⟩:=Abk.1 h;have:w=[]:=OF.1 (T5 e);subst this;refine Tz rfl (MA ?_);rw[e];show [pre]=[pre++[]];rw[Adi]
  |succ k=>
   refine P3 (by omega) ?_;have hs2:(l[i]).2.length<=n:=U.2 _ (AN A);have K:=V _ (AN A);have G:Ie l i=(l[i]).2:=G_ A;let f:=λe:Ck=>(lw l k e.2.2.toNat).map λw=>UInt8.ofNat e.1.toNat::w;have hl:lw l (k+1) i=(l[i]).2.findSome? f:=by rw[<-G];rfl
   rw[hl];refine Sb (λm (s:List Aq)=>s=wl pre (((l[i]).2.take m).findSome? f)) (l[i]).2.length rfl (by omega) (λm s nx Q B R=>?_) (λs nx B=>?_)
   ·have D:=K.rg _ (AN Q);have P:=D.1;have O:=D.2.1;have L:=D.2.2.1;have H:=D.2.2.2.1;have I:=D.2.2.2.2;have W:(l[i]).2.findSome? f=(((l[i]).2.take m).findSome? f).or (((l[i]).2.drop m).findSome? f):=by
     rw[<-Agy,Acf]
    have st:((l[i]).2.take (m+1)).findSome? f=(((l[i]).2.take m).findSome? f).or (f (l[i]).2[m]):=by rw[IN Q,Agy,List.findSome?_singleton]
    refine Aah A (Tz (by dsimp only;omega) ?_);cases T:((l[i]).2.take m).findSome? f with
    |some w=>
     rw[T]at B W;subst B;refine P3 (by show¬((([pre++w]:List Aq).length:Int)<1);simp) (MA ?_);rw[W];rfl
    |none=>
     rw[T]at B st;subst B;refine Tz (by show(0:Int)<1;decide) (Aah A (Aah Q ?_));generalize hE:(l[i]).2[m]=e at*;obtain⟨C,q,t⟩:=e;dsimp only at P O L H I⊢;have y:=λ{g:Nat} (c:Int) (K:n+300+k<g)=>NW V U hn (N:=N) (k:=k) (fu:=g) (i:=t.toNat) (pre:=pre++[UInt8.ofNat c.toNat]) (by omega) K (by rw[Aac,Acn];omega) (by omega);rw[Abd H]at y;have Y:((k+1:Nat):Int)-1=(k:Int):=by omega
     have u:Ok (nx (wl pre (f (C,q,t)),m+1)) λr=>r=wl pre ((l[i]).2.findSome? f):=R _ (by rw[st];rfl);have fe:f (C,q,t)=(lw l k t.toNat).map λw=>UInt8.ofNat C.toNat::w:=rfl;refine W5 (X:=List Aq×Int) (λx=>C<=x.2/\x.2<=q+1/\(x.1=wl pre (f (C,q,t))\/x.1=[]/\x.2=C)) (λx=>(q+1-x.2).toNat) ⟨Abo _,by dsimp only;omega, .inr ⟨rfl,rfl⟩⟩ (by dsimp only;omega) λx nx9 hI _ F=>?_;obtain⟨s,z⟩:=x;obtain⟨Z,h2,d⟩:=hI;dsimp only at Z h2 d F⊢;refine N1 (λhz=>N1 (λhlt=>?_) λE=>?_) λhz=>?_
     ·have S:s=[]:=OF.1 (by omega);subst S;have hr:Ye fu (l,Bg l.length (λi=>Bg (N+1) λk=>Eh l k i),t,((k+1:Nat):Int)-1,1-((([]:List Aq).length:Nat):Int),pre++UInt8.ofNat z.toNat::[])=Ac (wl (pre++[UInt8.ofNat z.toNat]) (lw l k t.toNat)):=by
       rw[Y];exact y z (by omega)
      refine Aap (Abx (by decide) (Pv (p:=GK.F8 _) (by unfold GK.F8;omega) (Pv (by simp;omega) (GB hr (Pv (by have:=YR (pre:=pre++[UInt8.ofNat z.toNat]) (o:=lw l k t.toNat);simp[Ah];omega) (Aap (F _ ⟨by dsimp only;omega,by dsimp only;omega, .inl ?_⟩ (by dsimp only;omega))))))));dsimp only;rw[Acd];rcases d with d|d;· rw[fe]at d⊢;cases M:lw l k t.toNat with
       |none=>rfl
       |some v=>rw[M]at d;cases d
      ·rw[d.2,fe];cases lw l k t.toNat with
       |none=>rfl
       |some v=>show [_]=[_];rw[Aaj];rfl
     ·rcases d with d|d;· rw[d];exact u
      ·rw[d.1]at E;exact absurd (by decide) E
     ·rcases d with d|d;· rw[d];exact u
      ·omega
   ·refine Aah A (PT (MA ?_));rw[B,Al]
def Lz(r:Tb):Option Aq:=(av r.length).findSome? λk=>lw r k 0
def lsO(o:Option Aq):Aq×Bool:=match o with
 |some w=>(w,Bp)
 |none=>([],Aj)
theorem MR{f:Nat->Option Aq}{k:Nat}(c:k<n)(h:f k=Ac w)(d:∀j,j<k->f j=C5):(av n).findSome? f=Ac w:=by
 have:(av n)=(av n).take k++k::(av n).drop (k+1):=by
  conv=>lhs;rw[<-Acf k (av n)]
  simp_all[Aaq,Aga,List.getElem_range]
 grind
theorem T6{r:Tb}{k:Nat}{w:Aq}(b:k<r.length)(h:lw r k 0=Ac w)(c:∀j,j<k->Eh r j 0=Aj):Lz r=Ac w:=MR b h λj a=>by simp_all[Eh]
theorem II{L:Lg}(h:CB r L m)(g:DP r n)(I:n<1500000000)(H:3*n+600<fu):Yd fu r=Ac (lsO (Lz r)):=by
 have G:=g.1;refine(Ok.eq ?_);rw[Yd];have key:jt fu (r,1)=Ac (wl [] (Lz r)):=by
  refine(Ok.eq ?_);rw[jt];refine GB (MN h.wf.by g (by omega) (by omega) (by omega)) ?_;rw[h.MO];refine N1 (λq=>MA ?_) λq=>?_;· have:r=[]:=OF.1 (by omega);rw[this];rfl
  have y:(if(1000:Int)<1 then(1000:Int)else 1)=1:=rfl;have A:(if(0:Int)>1 then(0:Int)else 1)=1:=rfl;have B:((r.length:Int)+1)*(1+1)=((2*r.length+2:Nat):Int):=by omega
  rw[y,A,B];refine Aap (Aap (Aap (Aap (Aap (GB (iI h.wf g (by omega) (by omega) (by omega) (by omega)) ?_)))));have F:r≠ []:=λe=>q (by rw[e];rfl);obtain⟨k,E,l,c⟩:=H4 (Jq h F);obtain⟨w,u⟩:=Abk.1 l;have C:=T6 E u c;rw[C];refine W5 (X:=List Aq×Int) (λx=> ∃j:Nat,x.2=(j:Int)/\(j<=k/\x.1=[]\/j=k+1/\x.1=wl [] (Ac w))) (λx=>k+2-x.2.toNat) ⟨0,rfl, .inl ⟨by omega,rfl⟩⟩ (by dsimp only;omega) λx nx f _ d=>?_;obtain⟨s,z⟩:=x;obtain⟨j,v,f⟩:=f;dsimp only at v f d;subst v;dsimp only;rcases f with⟨D,rfl⟩|⟨D,rfl⟩
  ·have p:Ye fu (r,Bg r.length (λi=>Bg (2*r.length+2+1) λk=>Eh r k i),(0:Int),(j:Int),1-((([]:List Aq).length:Nat):Int),[])=Ac (wl [] (lw r j 0)):=
    NW h.wf g (by omega) (N:=2*r.length+2) (k:=j) (fu:=fu) (i:=0) (pre:=[]) (by omega) (by omega) (by simp;omega) (by omega);refine PS (Tz (by decide) (Abx (by decide) (GB p (Pv (by have:=YR (pre:=[]) (o:=lw r j 0);simp[Ah];omega) (Aap (d _ ⟨j+1,by dsimp only;omega,?_⟩ (by dsimp only;omega)))))));dsimp only;rw[Acd];rcases Aam j k with t|t;· left;have:=c j t;unfold Eh at this;rw[Aln.1 (Alk.1 this)];exact⟨by omega,rfl⟩
   ·obtain rfl:j=k:=by omega
    right;rw[u];exact⟨rfl,rfl⟩
  ·refine N1 (λ_=>P3 (by show¬((([[]++w]:List Aq).length:Int)<1);simp) (MA rf)) λ_=>MA rf
 refine GB key ?_;cases Lz r with
 |none=>exact Tz rfl (MA rfl)
 |some w=>exact P3 (by show¬((([[]++w]:List Aq).length:Int)=0);simp) (GB (a:=w) rfl (MA rfl))
theorem YO{f:Nat}(J:Be l)(I:DP l n)(hn:n<4294967295)(h0:0<l.length)(C:f<l.length)(M:Eh l f 0=Bp)(v:∀j,j<f->Eh l j 0=Aj)(hf:2*n+400<fu):
  Ok (Tp fu l) λr=>r.1.head?=lw l f 0:=by
 have O:=Wj;obtain⟨Z,y⟩:=Abk.1 M;have V:=I.1;refine Sb (λk (s:List Bool)=>s=(Bg k λi=>fin l (i:Int))) l.length rfl (by omega) (λk s nx C B H=>?_) (λs nx B=>?_);· refine PS (Aah C (Pv (by grind[Az]) (H _ ?_)));grind[Dd,Ea]
 refine PT (Pv (by omega) ?_);have t:s=Cl l 0:=by rw[B];exact AP λi _=>(Ha l i).symm
 refine W5 (X:=List (List Bool)×Int) (λx=> ∃k:Nat,x.2=k/\k<=f/\x.1=Bg (max k 1) (Cl l)) (λx=>f+1-x.2.toNat) ⟨0,rfl,by omega,by rw[t];rfl⟩ (by omega) λx Y P _ m=>?_;obtain⟨e,z⟩:=x;obtain⟨k,N,T,c⟩:=P;dsimp only at N c m;subst N;have q:((Cl l k).any λb=>b)=Bp:=by obtain⟨j,S,E⟩:=Ml J (k:=k) (d:=f-k) (i:=0) (by rw[show k+(f-k)=f by omega];exact M);exact Vg S E
 have u:(Cl l k).length<fu:=by unfold Cl;rw[Az];omega
 have p:∀ {R:List (List Bool)} {kb:Bool->Option (List (List UInt8)×Bool)},R=Bg (k+1) (Cl l)->
   (k<f->Ok (kb Bp) λr=>r.1.head?=lw l f 0)->
   Ok (Ab (Yw fu (l,ZV (k:Int),ZV ((k:Int)+1-(k:Int)),(k:Int),R)) λA=>qM kb A.1 A.2) λr=>r.1.head?=lw l f 0:=λ{R kb} Q F=>by
  rw[Q,show ZV (k:Int)=k by omega,show ZV ((k:Int)+1-(k:Int))=1 by omega];refine Ou (Ra J I (by omega) h0 (by omega) (by omega)) λr w=>?_;rcases Aam k f with h|h;· rw[w.1 (v k h)];have:=F h;exact this
  ·obtain rfl:k=f:=by omega
   exact(V4 (w.2 Z y)).mono λo U=>U.trans y.symm
 dsimp only;refine PS (N1 (λC=>?_) λC=>?_)
 ·have W:idx e ((k:Int)-1)=Ac (Cl l (k-1)):=by
   rw[show((k:Int)-1)=((k-1:Nat):Int) by omega,c,Bj (by rw[Az];omega),Bm]
  have hc:=cm (l:=l) (k:=k-1) (fu:=fu) J I (by omega) (by omega);rw[show k-1+1=k by omega]at hc;have a:e++[Cl l k]=Bg (k+1) (Cl l):=by rw[c,show max k 1=k by omega,Dd]
  have L:e.length=k:=by rw[c,Az];omega
  have K:idx (e++[Cl l k]) (k:Int)=Ac (Cl l k):=by rw[a,Bj (by rw[Az];omega),Bm]
  refine Aap (GB W (GB hc (Abt (GB K (GB (LD u) ?_)))));rw[q];refine PW rf (Aap (Aap (Pv ⟨⟨by omega,by omega⟩,rf,by rw[a,Az];omega⟩ ?_)));refine p a λG=>PW rf (Aap (m _ ⟨k+1,by dsimp only;omega,by omega,by dsimp only;rw[a,show max (k+1) 1=k+1 by omega]⟩ (by dsimp only;omega)))
 ·obtain rfl:k=0:=by omega
  have a:e=Bg (0+1) (Cl l):=c;have K:idx e ((0:Nat):Int)=Ac (Cl l 0):=by rw[a,Bj (by rw[Az];omega),Bm]
  refine GB K (GB (LD u) ?_);rw[q];refine PW rf (Aap (Aap (Pv ⟨⟨by omega,by omega⟩,rf,by rw[a,Az];omega⟩ ?_)));refine p a λG=>PW rf (Aap (m _ ⟨1,by dsimp only;omega,by omega,by dsimp only;rw[a];rfl⟩ (by dsimp only;omega)))
theorem Ot{L:Lg}(h:CB r L m)(j:DP r n)(u:n<4294967295)(s:2*n+400<fu):UY fu r=Ac (lsO (Lz r)):=by
 have key:Yv fu (r,1)=Ac (wl [] (Lz r)):=by
  refine(Ok.eq ?_);rw[Yv];refine P3 (by simp) (GB (FZ h.wf.by j (by omega) (by omega) (by omega)) ?_);rw[h.MO];refine GB (rf) ?_;by_cases g:r=[]
  ·subst g;have:Tp fu []=Ac ([],Bp):=by
    refine(Ok.eq ?_);have q:=Wj;rw[Tp];obtain⟨f,rfl⟩:∃f,fu=f+1:=⟨fu-1,by omega⟩;rw[Ad];exact P3 (by simp) (MA rfl)
   refine GB this ?_;exact MA rf
  ·have t:0<r.length:=Aee.2 g;obtain⟨k,i,c,d⟩:=H4 (Jq h g);obtain⟨w,p⟩:=Abk.1 c;rw[T6 i p d];refine Ou (YO h.wf j u t i c d s) λo e=>?_;rw[p]at e;obtain⟨l,b⟩:=o;cases l with
   |nil=>grind
   |cons y l=>
    cases e;exact Pv (by trivial) (Abx (by decide) (Tz (by simp) (MA rfl)))
 refine(Ok.eq ?_);refine GB key ?_;cases Lz r with
 |none=>exact Tz rfl (MA rfl)
 |some w=>exact P3 (by simp[wl]) (GB (a:=w) rfl (MA rfl))
theorem mK{l:Tb}(h:Be l):∀ {k i:Nat} {w:Aq},lw l k i=Ac w->Av l (i:Int) w=Bp
 |0,i,w,e=>by
  unfold lw at e;split at e;· cases e;trivial
  grind
 |k+1,i,w,e=>by
  obtain⟨d,c,e⟩:=Aff e;obtain⟨v,g,rfl⟩:=Pd.1 e;have a:=(Pt h i).rg d c;show Av l (Bl l i (UInt8.ofNat d.1.toNat).toNat) v=Bp;have b:Bl l i (UInt8.ofNat d.1.toNat).toNat=d.2.2:=by rw[show(UInt8.ofNat d.1.toNat).toNat=d.1.toNat by grind[UInt8.toNat_ofNat']];rw[show Bl l i d.1.toNat=AQ (Ie l i) d.1.toNat by rfl];grind[N7,Pt]
  rw[b];have:=mK h g;grind
theorem Z5(h:Be r)(e:Lz r=Ac w):Av r 0 w=Bp:=by obtain⟨k,_,e⟩:=Aff e;grind[mK]
theorem MB{L:Lg}(h:CB r L m)(e:Lz r=C5):r=[]:=IT λd=>by obtain⟨k,c,a,b⟩:=H4 (Jq h d);obtain⟨w,f⟩:=Abk.1 a;grind[T6]
theorem Uv:∀ {w:Aq},fL w w=Aj
 | []=>rfl
 |a::w=>by unfold fL;rw[Uv];simp
theorem cz:∀ {w v:Aq},fL w v=Bp->fL v w=Aj
 |_,[],h=>by grind[fL]
 | [],_::_,_=>by rfl
 |a::w,b::v,h=>by
  unfold fL at h⊢;simp only[Adj,AT,decide_eq_true_eq,beq_iff_eq,Bool.or_eq_false_iff,Agz,decide_eq_false_iff_not]at h⊢;rcases h with h|⟨rfl,h⟩
  ·grind
  ·exact⟨λk=>by grind, .inr (cz h)⟩
theorem Uu:∀ {w v:Aq},fL w v=Aj->fL v w=Aj->w=v
 | [],[],_,_=>rfl
 |a::_,[],_,h=>by trivial
 | [],_::_,h,_=>by trivial
 |a::w,b::v,h,k=>by
  unfold fL at h k;simp only[Bool.or_eq_false_iff,Agz,decide_eq_false_iff_not,beq_eq_false_iff_ne]at h k;have e:a=b:=by grind
  subst e;rw[Uu (h.2.resolve_left λq=>q rfl) (k.2.resolve_left λq=>q rfl)]
def D4(x y:Int):Int:=if x<y then-1 else if y<x then 1 else 0
def FC(x y:Aq):Int:=if fL x y=Bp then-1 else if fL y x=Bp then 1 else 0
def EF(x y:Aq):Int:=if D4 x.length y.length=0 then FC x y else D4 x.length y.length
def qV(p q:Option Aq):Int:=match p,q with
 |none,C5=>0
 |none,Ac _=>1
 |some _,C5=> -1
 |some w,Ac v=>EF w v
theorem M1(x y:Int):D4 y x= -D4 x y:=by grind[D4]
theorem BD:D4 x y=0↔x=y:=by grind[D4]
theorem SE(x y:Aq):FC y x= -FC x y:=by
 unfold FC;by_cases h:fL x y=Bp;· simp_all[if_neg,cz,if_pos]
 grind
theorem Ky{x y:Aq} :FC x y=0↔x=y:=by
 unfold FC;constructor
 ·grind[fL,Uu]
 ·grind[Uv]
theorem bZ(x y:Aq):EF y x= -EF x y:=by
 unfold EF;rw[M1 x.length y.length];by_cases h:D4 x.length y.length=0;· rw[if_pos h,if_pos (by omega),SE]
 omega
theorem OV{x y:Aq} :EF x y=0↔x=y:=by
 unfold EF;constructor
 ·grind[Ky]
 ·rintro rfl;rw[if_pos (BD.2 rfl),Ky.2 rfl]
theorem b8(p q:Option Aq):qV q p= -qV p q:=by
 cases p<;>cases q;· rfl
 ·rfl
 ·rfl
 ·exact bZ _ _
theorem Qp:UW fu (x,y)=Ac (D4 x y):=by refine(Ok.eq ?_);rw[UW];unfold D4;have e:∀z,dY fu z=Ac Aj:=λz=>(by simp[dY]);refine GB (e x) (GB (e y) (PW rf (PW rf ?_)));exact N1 (λh=>MA (by omega)) λh=>N1 (λk=>MA (by omega)) λk=>MA (by omega)
theorem Kz{x y:Aq}{P:Int->Prop}(h:P (FC x y)):Ok (bif fL x y then Ac (-1:Int)else bif !(fL x y||decide (x=y))then Ac (1:Int)else Ac (0:Int)) P:=by
 unfold FC at h;refine PM (λk=>MA (by grind)) λk=>?_;rw[k]at h;by_cases e:x=y;· simp_all[Uv,PW,MA]
 ·refine VF (by grind) (MA ?_);grind[fL,absurd,Uu]
theorem Wg{x y:Aq} :Ys fu (x,y)=Ac (FC x y):=by refine(Ok.eq ?_);rw[Ys];refine GB (rf) (GB (rf) ?_);rw[decide_eq_true (rf:x=x),decide_eq_true (rf:y=y)];exact PW rf (PW rf (Kz rf))
theorem Zf{v:Aq} :dz fu (w,v)=Ac (EF w v):=by
 refine(Ok.eq ?_);rw[dz];refine N1 (λh=>N1 (λk=>MA ?_) λk=>MA ?_) λh=>Kz ?_;· have e:D4 w.length v.length= -1:=if_pos k;unfold EF;rw[e];rfl
 ·have e:D4 w.length v.length=1:=(if_neg k).trans (if_pos (by omega));unfold EF;rw[e];rfl
 ·unfold EF;rw[if_pos (BD.2 (by omega))]
open Classical in
noncomputable def OS(a b:Tb):Tb:=if h:∃t m,CB t (λw=>gL a w&& !gL b w) m then h.choose else []
theorem Qi{a b:Tb}{q:Nat}(h:CB r (λw=>gL a w&& !gL b w) q):OS a b=r:=by have e:∃t m,CB t (λw=>gL a w&& !gL b w) m:=⟨r,q,h⟩;unfold OS;rw[dif_pos e];obtain⟨m,c⟩:=e.choose_spec;exact c.unique h
noncomputable def E7(a b:Tb):Int:=qV (Lz (OS a b)) (Lz (OS b a))
theorem JM(a b:Tb):E7 b a= -E7 a b:=b8 _ _
theorem b9(x y:Int):D4 x y= -1\/D4 x y=0\/D4 x y=1:=by
 unfold D4;split;· exact .inl rfl
 ·split;· exact .inr (.inr rfl)
  ·exact .inr (.inl rf)
theorem b7(x y:Aq):FC x y= -1\/FC x y=0\/FC x y=1:=by
 unfold FC;split;· exact .inl rfl
 ·split;· exact .inr (.inr rfl)
  ·exact .inr (.inl rf)
theorem b6(w v:Aq):EF w v= -1\/EF w v=0\/EF w v=1:=by
 unfold EF;split;· exact b7 _ _
 ·exact b9 _ _
theorem gV(c:2<fu):dX fu [x,y]=Ac (if x=0 then y else x):=by
 refine(Ok.eq ?_);rw[dX];obtain⟨f,rfl⟩:∃f,fu=f+3:=⟨fu-3,by omega⟩;rw[Ad];refine Tz (by simp) (Aah (by simp) (N1 (λh=>MA ?_) λh=>?_));· grind
 have a:x=0:=IT h;rw[Ad];refine Tz (by simp) (Aah (by simp) (N1 (λh=>MA ?_) λh=>?_));· simp_all
 have b:y=0:=IT h;simp_all[Ad,P3,MA,if_pos]
end
section
variable {a b : Tb} {L M : Lg} {m p fu : Nat} (ha : CB a L m) (hb : CB b M p) (hm : (m + 2) * (p + 2) <= 1000000000) (hF : 1000000000000 < fu)
include ha hb hm hF
theorem HB:CB (OS a b) (λw=>L w&& !M w) (GP a b)/\GP a b<=1000000000/\Yt fu (a,b)=Ac (OS a b)/\WG fu (a,b)=Ac (OS a b):=by
 have e:=Gu (fu:=fu) ha hb (by omega) hF;have j:GP a b<=(m+2)*(p+2):=Abw (by have:=ha.len;omega) (by have:=hb.len;omega);obtain⟨r,g,c⟩:=Oi e;obtain⟨t,h,i⟩:=Mt e;have d:=Qi c;have f:=Qi i;rw[d];refine⟨?_,by omega,g,?_⟩;· rw[ha.gL,hb.gL]at c;omega
 grind
theorem Fk:Yq fu (a,b)=Ac (E7 a b):=by
 have c:=Gu (fu:=fu) ha hb (by omega) hF;have f:(p+2)*(m+2)<=1000000000:=by grind
 obtain⟨d,k,h,_⟩:=HB ha hb hm hF;obtain⟨e,o,i,_⟩:=HB hb ha f hF;have g:∀ {l:Tb} {K:Lg} {q:Nat},CB l K q->NU l->DP l (max (max m p) 256)->QN fu l=Ac l:=λ{l K q} d e j=>by rw[FZ e j c.hn c.hf (by omega),d.MO]
 refine(Ok.eq ?_);refine GB (g ha c.ha c.sa) (GB (g hb c.hb c.sb) (GB h (GB (Ot (n:=max (GP a b) 256) d (d.wf.sh (Aak d.len (by omega)) (by omega)) (by omega) (by omega)) (GB i (GB (Ot (n:=max (GP b a) 256) e (e.wf.sh (Aak e.len (by omega)) (by omega)) (by omega) (by omega)) ?_)))));unfold E7;cases Lz (OS a b)with
 |none=>cases Lz (OS b a)with
  |none=>exact VF rfl (VF rfl (MA rfl))
  |some v=>exact VF rfl (PW rfl (PW rfl (VF rfl (MA rfl))))
 |some w=>cases Lz (OS b a)with
  |none=>exact PW rfl (VF rfl (MA rfl))
  |some v=>exact PW rfl (PW rfl (PW rfl (GB Qp (GB Wg (GB (gV (by omega)) (MA rfl))))))
theorem bG{w v:Aq}(h1:Lz (OS a b)=Ac w)(h2:Lz (OS b a)=Ac v):w≠v:=λe=>by
 have c:(p+2)*(m+2)<=1000000000:=by grind
 obtain⟨d,_⟩:=HB ha hb hm hF;obtain⟨f,_⟩:=HB hb ha c hF;have g:=Z5 d.wf h1;have h:=Z5 f.wf h2;rw[d.lg]at g;rw[f.lg]at h;grind
theorem JK:dy fu (a,b)=Ac (E7 a b):=by
 have e:(p+2)*(m+2)<=1000000000:=by rw[Ada];exact hm
 obtain⟨c,o,_,g⟩:=HB ha hb hm hF;obtain⟨d,q,_,i⟩:=HB hb ha e hF;have ne:=λw v=>bG ha hb hm hF (w:=w) (v:=v);refine(Ok.eq ?_);rw[dy];refine GB g (GB (II (n:=max (GP a b) 256) c (c.wf.sh (Aak c.len (by omega)) (by omega)) (by omega) (by omega)) (GB i (GB (II (n:=max (GP b a) 256) d (d.wf.sh (Aak d.len (by omega)) (by omega)) (by omega) (by omega)) ?_)));unfold E7;cases j:Lz (OS a b)with
 |none=>cases f:Lz (OS b a)with
  |none=>exact VF rfl (VF rfl (MA rfl))
  |some v=>exact VF rfl (PW rfl (PW rfl (MA rfl)))
 |some w=>cases f:Lz (OS b a)with
  |none=>exact PW rfl (VF rfl (VF rfl (MA rfl)))
  |some v=>
   have k:EF w v≠0:=λh=>ne w v j f (OV.1 h);have l:=b6 w v;refine PW rfl (VF rfl (PW rfl (GB Zf (N1 (λh=>MA ?_) λh=>MA ?_))));· have h:EF w v<0:=h;show-1=EF w v;omega
   ·have h:¬EF w v<0:=h;show 1=EF w v;omega
theorem KA:E7 a b=0↔a=b:=by
 have c:(p+2)*(m+2)<=1000000000:=by grind
 obtain⟨e,_⟩:=HB ha hb hm hF;obtain⟨f,_⟩:=HB hb ha c hF;have ne:=λw v=>bG ha hb hm hF (w:=w) (v:=v);constructor;· unfold E7;cases g:Lz (OS a b)with
  |none=>cases d:Lz (OS b a)with
   |none=>
    intro _;have i:=e.Gt.1 (MB e g);have j:=f.Gt.1 (MB f d);refine ha.unique (hb.congr (funext λw=>?_));have n:=congrFun i w;have o:=congrFun j w;cases k:L w<;>cases l:M w<;>simp_all
   |some v=>intro h;cases h
  |some w=>cases d:Lz (OS b a)with
   |none=>intro h;cases h
   |some v=>intro h;exact absurd (OV.1 h) (ne w v g d)
 ·grind[JM]
end
section
variable{fu:Nat}{a b:Bool}{x y:Sc}{l:List Int}{P:Int->Prop}{k m p:Nat}
theorem Qm{x y:List Sp×List Sp}(N:Lm x)(O:Lm y)(S:x.1.length+y.1.length<=11/\x.2.length+y.2.length<=11)(F:20<fu):
  ∃c,Lp fu (x,y)=Ac c/\Lp fu (y,x)=Ac (-c)/\(c=0->(∀n,A8 x n↔A8 y n)/\∀n,A6 x n↔A6 y n):=by
 obtain⟨p,_,i,t,V,W⟩:=FX (fu:=fu) (gu:=200) N O S F (by omega);obtain⟨q,_,j,B,X,Y⟩:=FX (fu:=fu) (gu:=200) O N (by omega) F (by omega);have T:=t.sm (by omega) (by omega);have U:=B.sm (by omega) (by omega);obtain⟨Q,v,f,z,_,ev,P⟩:=H5 (fu:=fu) (gu:=200) T F (by omega);obtain⟨R,w,g,C,_,o,lw⟩:=H5 (fu:=fu) (gu:=200) U F (by omega);have A:∀u,CY Q u->CY x u/\ -1000000000000000<=u/\u<=1000000000000000:=λu k=>by
  rcases(EX z u).1 k with⟨a,b⟩|⟨a,b⟩;· have b:=(t.A8 _).1 b;exact⟨.inl ⟨a,b.1.1.1⟩,by omega⟩
  ·have b:=(t.A6 _).1 b;have c:=b.1.1.1;rw[Ii a]at c b;exact⟨.inr ⟨a,c⟩,b.2⟩
 have D:∀u,CY R u->¬CY x u/\ -1000000000000000<=u/\u<=1000000000000000:=λu k=>by
  rcases(EX C u).1 k with⟨a,b⟩|⟨a,b⟩
  ·have b:=(B.A8 _).1 b;refine⟨λk=>?_,by omega⟩;rcases k with⟨_,k⟩|⟨k,_⟩;· exact b.1.2 ⟨k,b.2⟩
   omega
  ·have b:=(B.A6 _).1 b;have K:=b.2;rw[Ii a]at K;refine⟨λk=>?_,K⟩;rcases k with⟨k,_⟩|⟨_,k⟩;· omega
   ·exact b.1.2 ⟨by grind[Ii],b.2⟩
 have E:∀u,CY Q u\/CY R u-> -2000000000000000<=u/\u<=2000000000000000:=λu k=>k.elim (λk=>by have:=(A u k).2;omega) (λk=>by have:=(D u k).2;omega);have m:∀c,Ok (Lp fu (x,y)) (λr=>r=c)->Lp fu (x,y)=Ac c:=λc k=>k.eq;have d:∀c,Ok (Lp fu (y,x)) (λr=>r=c)->Lp fu (y,x)=Ac c:=λc k=>k.eq;have nil:∀ {r H:List Sp×List Sp},Ec r (A8 r) (A6 r)->Ec H (A8 r) (A6 r)->(∀u,¬CY H u)->r=([],[]):=λ{r H} h M no=>(h.unique M).trans ((Ago M).1 no);cases f with
 |false=>
  cases g with
  |false=>
   refine⟨0,m _ ?_,d _ ?_,λ_=>?_⟩;· exact GB i (GB ev (GB j (GB o (VF rf (VF rf (MA rf))))))
   ·exact GB j (GB o (GB i (GB ev (VF rf (VF rf (MA rf))))))
   ·have a:=(Ke t).1 (nil (t.self (λn h=>h.1.2) (λn h=>h.1.2)) z (P.no rfl).2);have b:=(Ke B).1 (nil (B.self (λn h=>h.1.2) (λn h=>h.1.2)) C (lw.no rfl).2);exact⟨λn=>⟨a.1 n,b.1 n⟩,λn=>⟨a.2 n,b.2 n⟩⟩
  |true=>
   refine⟨1,m _ ?_,d _ ?_,λh=>by omega⟩;· exact GB i (GB ev (GB j (GB o (VF rf (PW rf (PW rf (PW rf (MA rf))))))))
   ·exact GB j (GB o (GB i (GB ev (PW rf (VF rf (MA rf))))))
 |true=>
  have I:=P.yes rfl;cases g with
  |false=>
   refine⟨-1,m _ ?_,d _ ?_,λh=>by omega⟩;· exact GB i (GB ev (GB j (GB o (PW rf (VF rf (MA rf))))))
   ·exact GB j (GB o (GB i (GB ev (VF rf (PW rf (PW rf (PW rf (MA rf))))))))
  |true=>
   have J:=lw.yes rfl;have L:=Vy (fu:=fu) (E v (.inl I.1)) (E w (.inr J.1));have s:=Vy (fu:=fu) (E w (.inr J.1)) (E v (.inl I.1));have ne:v≠w:=λe=>(D w J.1).1 (e▸(A v I.1).1);by_cases c:Cm v w
   ·have G:¬Cm w v:=λk=>by unfold Cm ab at c k;omega
    refine⟨-1,m _ ?_,d _ ?_,λh=>by omega⟩;· exact GB i (GB ev (GB j (GB o (PW rf (PW rf (VF rf (GB L (VF (decide_eq_true c) (MA rf)))))))))
    ·exact GB j (GB o (GB i (GB ev (PW rf (PW rf (VF rf (GB s (PW (decide_eq_false G) (MA rf)))))))))
   ·have G:Cm w v:=IT λk=>ne (Ms c k);refine⟨1,m _ ?_,d _ ?_,λh=>by omega⟩;· exact GB i (GB ev (GB j (GB o (PW rfl (PW rfl (VF rfl (GB L (PW (decide_eq_false c) (MA rfl)))))))))
    ·exact GB j (GB o (GB i (GB ev (PW rf (PW rf (VF rf (GB s (VF (decide_eq_true G) (MA rf)))))))))
def Da(a b:Bool):Int:=if a=b then 0 else if a=Bp then-1 else 1
theorem HI(a b:Bool):Da b a= -Da a b:=by cases a<;>cases b<;>rfl
theorem EK:Da a b=0↔a=b:=by cases a<;>cases b<;>decide
theorem Qq:dA fu (a,b)=Ac (Da a b):=by cases a<;>cases b<;>rfl
def fz:List Int->Int
 | []=>0
 |x::l=>if x=0 then fz l else x
theorem Uf:∀l:List Int,fz (l.map λx=> -x)= -fz l
 | []=>rfl
 |x::l=>by
  show(if-x=0 then fz (l.map λx=> -x)else-x)= -(if x=0 then fz l else x);by_cases h:x=0;· rw[if_pos (by omega),if_pos h,Uf l]
  omega
theorem Fh:∀ {l:List Int},fz l=0->∀x∈l,x=0
 | [],_,x,a=>by grind
 |y::l,h,x,a=>by
  have h:(if y=0 then fz l else y)=0:=h;by_cases k:y=0
  ·rw[if_pos k]at h;rcases Aav.1 a with rfl|a;· omega
   ·exact Fh h x a
  omega
theorem R_(i:l.length<fu)(h:P (fz l)):
  Ok (Ad fu (λ(d:Nat) c=>bif Di ((d:Int)<(l.length:Int))then Ab (idx l (d:Int)) λg=>bif Di (g≠(0:Int))then Ac g else c (d+1)else Ac (0:Int)) 0) P:=by
 refine Vi (λk=>fz (l.drop k)=fz l) l.length rf i (λk nx f a j=>?_) (λnx a=>?_)
 ·have e:fz (l.drop k)=if l[k]=0 then fz (l.drop (k+1))else l[k]:=by rw[Aaq f];rfl
  refine PS (Aah f (N1 (λb=>MA ?_) λb=>j ?_));all_goals grind
 simp_all[fz,Aeg,PT,MA]
theorem ba{K:Option Int}(h1:Da a b≠0->P (Da a b))(h2:Da a b=0->Ok K P):
  Ok (bif Di ((a::[b])=(Bp::[Aj]))then Ac (-1:Int)else bif Di ((a::[b])=(Aj::[Bp]))then Ac (1:Int)else K) P:=by
 cases a<;>cases b;· exact PW rfl (PW rfl (h2 rfl))
 ·exact PW rf (VF rf (MA (h1 (by decide))))
 ·exact VF rf (MA (h1 (by decide)))
 ·exact PW rf (PW rf (h2 rf))
theorem GC{gu H:Nat}(d:Ih k m x)(g:Ih H p y)(hk:k+H<=11)(t:(m+2)*(p+2)<=100000000)(r:1000000000000<fu)(F:1000000000000<gu):
  ∃c,Tn fu (x,y)=Ac c/\Yb gu (x,y)=Ac c/\Tn fu (y,x)=Ac (-c)/\(c=0->x=y):=by
 have q1:m<=(m+2)*(p+2):=Aak (by omega:m<=(m+2)*1) (Abw (Aae _) (by omega));have q2:p<=(m+2)*(p+2):=Aak (by omega:p<=1*(p+2)) (Abw (by omega) (Aae _));have G:(p+2)*(m+2)<=100000000:=by rw[Ada];exact t
 have x1:=d.n1;have x2:=d.n2;have y1:=g.n1;have y2:=g.n2;have w:=d.sc (by omega:k<=12);have A:=g.sc (by omega:H<=12);have L:dm fu x=Ac Bp:=by obtain⟨b,e,j⟩:=HS (fu:=fu) w (by omega) r;rw[e,j.2 ⟨d.nu,d.ln.wf,d.ln.can⟩]
 have M:dm fu y=Ac Bp:=by obtain⟨b,e,j⟩:=HS (fu:=fu) A (by omega) r;rw[e,j.2 ⟨g.nu,g.ln.wf,g.ln.can⟩]
 have T:NQ gu x=Ac Bp:=by obtain⟨b,e,j⟩:=NZ (fu:=gu) w (by omega) F;rw[e,j.2 ⟨d.nu,d.ln.wf,d.ln.can⟩]
 have U:NQ gu y=Ac Bp:=by obtain⟨b,e,j⟩:=NZ (fu:=gu) A (by omega) F;rw[e,j.2 ⟨g.nu,g.ln.wf,g.ln.can⟩]
 obtain⟨n,K,B,zn⟩:=Qm (fu:=fu) w.sm A.sm (by omega) (by omega);obtain⟨S,P,C⟩:=Sz (fu:=fu) (gu:=gu) w.sm A.sm (by omega) (by omega) (by omega);obtain rfl:n=S:=Abp (K.symm.trans C);have J:=Fk d.ln g.ln (Aak t (by decide)) r;have o:=Fk g.ln d.ln (Aak G (by decide)) r;have q:=JK d.ln g.ln (Aak t (by decide)) F;have O:=KA d.ln g.ln (Aak t (by decide)) r;have sl:=JM x.2.2.2.2 y.2.2.2.2;generalize E7 x.2.2.2.2 y.2.2.2.2=l at J q O sl;generalize E7 y.2.2.2.2 x.2.2.2.2=l' at o sl;subst sl;have i:∀ {u v:Sc} {n l:Int},dm fu u=Ac Bp->dm fu v=Ac Bp->Lp fu (u.2.2.2.1,v.2.2.2.1)=Ac n->Yq fu (u.2.2.2.2,v.2.2.2.2)=Ac l->Tn fu (u,v)=Ac (fz [Da u.1 v.1,Da u.2.1 v.2.1,Da u.2.2.1 v.2.2.1,n,l]):=λ{u v n l} s E Q R=>by
  refine(Ok.eq ?_);rw[Tn];refine GB s (PW rfl (GB E (PW rfl ?_)));obtain⟨f,rfl⟩:∃f,fu=f+4:=⟨fu-4,by omega⟩;rw[Ad];refine Tz (by decide) (Pv (by decide) (GB (a:=(u.1,v.1)) rfl (ba (λh=>(if_neg h).symm) λD=>Abx (by decide) ?_)));rw[Ad];refine Tz (by decide) (Pv (by decide) (GB (a:=(u.2.1,v.2.1)) rfl (ba (λh=>((if_pos D).trans (if_neg h)).symm) λs=>Abx (by decide) ?_)));rw[Ad];refine Tz (by decide) (Pv (by decide) (GB (a:=(u.2.2.1,v.2.2.1)) rfl (ba (λh=>((if_pos D).trans ((if_pos s).trans (if_neg h))).symm) λE=>Abx (by decide) ?_)));rw[Ad];have I:fz [Da u.1 v.1,Da u.2.1 v.2.1,Da u.2.2.1 v.2.2.1,n,l]=fz [n,l]:=(if_pos D).trans ((if_pos s).trans (if_pos E));refine P3 (by decide) (GB Q (N1 (λh=>MA ?_) λh=>GB R (MA ?_)));· rw[I];exact(if_neg h).symm
  ·rw[I];refine Eq.trans ?_ (if_pos (IT h)).symm;show l=if l=0 then 0 else l;split;· assumption
   ·rfl
 refine⟨fz [Da x.1 y.1,Da x.2.1 y.2.1,Da x.2.2.1 y.2.2.1,n,l],i L M K J,?_,?_,λh=>?_⟩;· refine(Ok.eq ?_);rw[Yb];exact GB T (PW rf (GB U (PW rf (GB Qq (GB Qq (GB Qq (GB P (GB q (R_ (l:=[Da x.1 y.1,Da x.2.1 y.2.1,Da x.2.2.1 y.2.2.1,n,l]) (by simp;omega) rf)))))))))
 ·rw[i M L B o,<-Uf];simp only[Aar,Aej];rw[HI x.1,HI x.2.1,HI x.2.2.1]
 ·have z:=Fh h;have V:=EK.1 (z (Da x.1 y.1) (by simp));have W:=EK.1 (z (Da x.2.1 y.2.1) (by simp));have X:=EK.1 (z (Da x.2.2.1 y.2.2.1) (by simp));have N:=zn (z n (by simp));have Y:=O.1 (z l (by simp));have Z:=d.nu.unique (g.nu.congr (λn=>(N.1 n).symm) λn=>(N.2 n).symm);exact Acu V (Acu W (Acu X (Acu Z Y)))
noncomputable def E2(x y:Sc):Int:=(Yb 2000000000000 (x,y)).getD 0
theorem Gd{j:Nat}(e:Ih k m x)(f:Ih j p y)(i:k+j<=11)(b:(m+2)*(p+2)<=100000000)(a:1000000000000<fu):
  Tn fu (x,y)=Ac (E2 x y)/\Yb fu (x,y)=Ac (E2 x y)/\E2 y x= -E2 x y/\(E2 x y=0->x=y):=by
 have d:(p+2)*(m+2)<=100000000:=by rw[Ada];exact b
 obtain⟨c,g,n,o,q⟩:=GC (fu:=fu) (gu:=2000000000000) e f i b a (by decide);obtain⟨w,r,s,_⟩:=GC (fu:=fu) (gu:=fu) e f i b a a;obtain⟨l,t,u,_⟩:=GC (fu:=fu) (gu:=2000000000000) f e (by omega) d a (by decide);have h:E2 x y=c:=by unfold E2;rw[n];rfl
 have v:E2 y x=l:=by unfold E2;rw[u];rfl
 rw[h,v];exact⟨g,by rw[s,<-r,g],Abp (t.symm.trans o),q⟩
def A7{α:Type}(c:α->α->Int):List α->List α->Int
 | [],[]=>0
 | [],_::_=> -1
 |_::_,[]=>1
 |x::a,y::b=>if c x y=0 then A7 c a b else c x y
theorem Ge{α:Type}{c:α->α->Int} :∀ {a b:List α},(∀x∈a,∀y∈b,c y x= -c x y)->A7 c b a= -A7 c a b
 | [],[],_=>rfl
 | [],_::_,_=>rfl
 |_::_,[],_=>rfl
 |x::a,y::b,h=>by have g:=Ge (a:=a) (b:=b) λu d v f=>h u (Aag _ d) v (Aag _ f);grind[A7]
theorem D1{α:Type}{c:α->α->Int} :∀ {a b:List α},(∀x∈a,∀y∈b,c x y=0->x=y)->A7 c a b=0->a=b
 | [],[],_,_=>rfl
 | [],_::_,_,h=>by cases h
 |_::_,[],_,h=>by cases h
 |x::a,y::b,h,e=>by have i:=D1 (a:=a) (b:=b) λu f v g=>h u (Aag _ f) v (Aag _ g);grind[A7,absurd]
def JL(R:Vl->Vl->Int)(x y:Bk):Int:=fz [R x.1 y.1,R x.2 y.2]
def DE(R:Vl->Vl->Int)(c b:HM):Int:=fz [D4 c.1.length b.1.length,Da (Di (0<c.2.length)) (Di (0<b.2.length)),A7 (JL R) (AY c) (AY b)]
def SF(R:Vl->Vl->Int)(f a:Aq×Int×Bk):Int:=fz [FC f.1 a.1,D4 f.2.1 a.2.1,JL R f.2.2 a.2.2]
noncomputable def SG(R:Vl->Vl->Int)(k a:Tb×Bk):Int:=fz [E7 k.1 a.1,JL R k.2 a.2]
noncomputable def En(R:Vl->Vl->Int)(c a:BB):Int:=fz [A7 (SF R) c.1 a.1,A7 (SG R) c.2 a.2]
noncomputable def Bx:Nat->Vl->Vl->Int
 |0,_,_=>0
 |d+1,a,b=>fz [Da a.any b.any,E2 a.sc b.sc,A7 (DE (Bx d)) a.lists b.lists,A7 (En (Bx d)) a.structs b.structs]
theorem Ko{a:List Int}(h:a=l.map λx=> -x):fz a= -fz l:=by rw[h,Uf]
end
section
variable {R : Vl -> Vl -> Int} {d : Nat} (hs : ∀ {a b : Vl}, SV d a -> SV d b -> R b a = - R a b /\ (R a b = 0 -> a = b))
include hs
theorem HG{x y:Bk}(f:SW d x)(g:SW d y):JL R y x= -JL R x y/\(JL R x y=0->x=y):=by have c:=hs f.1 g.1;have e:=hs f.2 g.2;refine⟨Ko (by simp_all),λh=>?_⟩;have z:=Fh h;exact Acu (c.2 (z _ (by simp))) (e.2 (z _ (by simp)))
theorem OY{c f:HM}(hc:∀x∈AY c,SW d x)(g:∀x∈AY f,SW d x):DE R f c= -DE R c f/\(DE R c f=0->c=f):=by
 refine⟨Ko ?_,λh=>?_⟩;· simp only[Aar,Aej];grind[M1,HI,Ge,HG]
 ·have z:=Fh h;have l:=BD.1 (z (D4 c.1.length f.1.length) (by simp));have k:=D1 (λx i y j=>(HG hs (hc x i) (g y j)).2) (z (A7 (JL R) (AY c) (AY f)) (by simp));have:=Alj k (by omega);grind
theorem b_{f c:Aq×Int×Bk}(h:SW d f.2.2)(e:SW d c.2.2):SF R c f= -SF R f c/\(SF R f c=0->f=c):=by
 have k:=HG hs h e;refine⟨Ko ?_,λh=>?_⟩;· grind[SE,M1]
 ·have z:=Fh h;have g:=Ky.1 (z (FC f.1 c.1) (by simp));have i:=BD.1 (z (D4 f.2.1 c.2.1) (by simp));have j:=k.2 (z (JL R f.2.2 c.2.2) (by simp));grind
theorem ca{k c:Tb×Bk}(l:CB k.1 (Av k.1 0) 14641)(f:CB c.1 (Av c.1 0) 14641)(h:SW d k.2)(e:SW d c.2):SG R c k= -SG R k c/\(SG R k c=0->k=c):=by
 have q:=HG hs h e;refine⟨Ko ?_,λh=>?_⟩;· grind[JM]
 ·have z:=Fh h;have g:=(KA (fu:=2000000000000) l f (by simp) (by decide)).1 (z (E7 k.1 c.1) (by simp));exact Acu g (q.2 (z (JL R k.2 c.2) (by simp)))
theorem OW{c j:BB}(b:NM c)(b':NM j)(g:Du c)(m:Du j)(hc:∀x∈Bq c,SW d x)(l:∀x∈Bq j,SW d x):En R j c= -En R c j/\(En R c j=0->c=j):=by
 have f:=λx (e:x∈c.1) y (i:y∈j.1)=>b_ hs (hc _ (AS.2 (.inl (By.2 ⟨x,e,rfl⟩)))) (l _ (AS.2 (.inl (By.2 ⟨y,i,rfl⟩))));have k:=λx (e:x∈c.2) y (i:y∈j.2)=>ca hs ⟨(g.1 x e).2.1,(g.1 x e).2.2,rfl,b.each x e⟩ ⟨(m.1 y i).2.1,(m.1 y i).2.2,rfl,b'.each y i⟩ (hc _ (AS.2 (.inr (By.2 ⟨x,e,rfl⟩)))) (l _ (AS.2 (.inr (By.2 ⟨y,i,rfl⟩))));refine⟨Ko ?_,λh=>?_⟩;· simp only[Aar,Aej];grind[Ge]
 ·have z:=Fh h;exact Acu (D1 (λx e y i=>(f x e y i).2) (z (A7 (SF R) c.1 j.1) (by simp))) (D1 (λx e y i=>(k x e y i).2) (z (A7 (SG R) c.2 j.2) (by simp)))
end
section
variable{α:Type}{fu:Nat}{b:List α}{c:α->α->Int}{a:List α}{f:α->α->Option Int}{g1 g2:α×α->Option (Int×α×α)}{x y:α}{g3:α×α->Option (Int×α×α)}{h:Int}{E:Option Int}{P:Int->Prop}
theorem Aja{a b:Vl}(h1:a.any=b.any)(h2:a.sc=b.sc)(h3:a.lists=b.lists)(c:a.structs=b.structs):a=b:=by cases a;cases b;grind[Vl.any,Vl.sc,Vl.lists,Vl.structs]
theorem HH:∀ {d:Nat} {a b:Vl},SV d a->SV d b->Bx d b a= -Bx d a b/\(Bx d a b=0->a=b)
 |0,_,_,h,_=>h.1.elim
 |d+1,a,b,f,g=>by
  have k:=Dw f.1.1 f.2.1.sc;have sb:=Dw g.1.1 g.2.1.sc;obtain⟨_,_,i,j⟩:=Gd (fu:=2000000000000) k sb (by decide) (by decide) (by decide);have l:=λx (c:x∈a.lists) y (e:y∈b.lists)=>OY HH (f.lv c) (g.lv e);have s:=λx (c:x∈a.structs) y (e:y∈b.structs)=>OW HH (f.1.2.2.1.2 x c) (g.1.2.2.1.2 y e) (f.2.1.st x c).2 (g.2.1.st y e).2 (f.sv c) (g.sv e);refine⟨Ko ?_,λh=>?_⟩;· simp only[Aar,Aej];rw[<-HI,i,<-Ge λx c y e=>(l x c y e).1,<-Ge λx c y e=>(s x c y e).1]
  ·have z:=Fh h;exact Aja (EK.1 (z (Da a.any b.any) (by simp))) (j (z (E2 a.sc b.sc) (by simp))) (D1 (λx c y e=>(l x c y e).2) (z (A7 (DE (Bx d)) a.lists b.lists) (by simp))) (D1 (λx c y e=>(s x c y e).2) (z (A7 (En (Bx d)) a.structs b.structs) (by simp)))
theorem E3(o:a.length<fu)(h:∀x∈a,∀y∈b,f x y=Ac (c x y)):
  Ok (Ad fu (λ(g:Nat) l=>bif Di ((g:Int)<(a.length:Int))then Ab (idx a (g:Int)) λq=>bif Di ((b.length:Int)<=(g:Int))then Ac (1:Int)else Ab (idx b (g:Int)) λs=>Ab (f q s) λm=>bif Di (m≠(0:Int))then Ac m else l (g+1)else bif Di ((a.length:Int)<(b.length:Int))then Ac (-1:Int)else Ac (0:Int)) 0) λr=>r=A7 c a b:=by
 refine Vi (λk=>k<=b.length/\A7 c (a.drop k) (b.drop k)=A7 c a b) a.length ⟨Abh _,rf⟩ o (λk nx j d p=>?_) (λnx d=>?_)
 ·obtain⟨n,d⟩:=d;rw[Aaq j]at d;refine PS (Aah j (N1 (λe=>MA ?_) λe=>?_));· rw[Afh (by omega:b.length<=k)]at d;exact d
  ·have e:k<b.length:=by omega
   rw[Aaq e]at d;refine Aah e (GB (h _ (AN j) _ (AN e)) (N1 (λi=>MA ?_) λi=>p ⟨by omega,?_⟩));· rw[<-d];exact(if_neg i).symm
   ·rw[<-d];exact(if_pos (IT i)).symm
 ·obtain⟨n,d⟩:=d;rw[Aeg]at d;refine PT (N1 (λe=>MA ?_) λe=>MA ?_);· rw[Aaq (by omega:a.length<b.length)]at d;exact d
  ·rw[Afh (by omega:b.length<=a.length)]at d;exact d
theorem Kr{d e:Int}(h1:g1 (x,y)=Ac (d,x,y))(h2:g2 (x,y)=Ac (e,x,y)):
  Ok (bif Di ((0:Int)<(↑2:Int))then Af ((0:Int)<=(0:Int)/\(0:Int)<(↑2:Int))<|Ab (g1 (x,y)) λa=>bif Di (a.1≠(0:Int))then Ac (a.1,a.2.1,a.2.2)else Aa (Lc.i64) ((0:Int)+(1:Int))<|bif Di ((0:Int)+(1:Int)<(↑2:Int))then Af ((0:Int)<=(0:Int)+(1:Int)/\(0:Int)+(1:Int)<(↑2:Int))<|Ab (g2 (a.2.1,a.2.2)) λb=>bif Di (b.1≠(0:Int))then Ac (b.1,b.2.1,b.2.2)else Aa (Lc.i64) ((0:Int)+(1:Int)+(1:Int))<|bif Di ((0:Int)+(1:Int)+(1:Int)<(↑2:Int))then Af ((0:Int)<=(0:Int)+(1:Int)+(1:Int)/\(0:Int)+(1:Int)+(1:Int)<(↑2:Int))<|none else Ac ((0:Int),b.2.1,b.2.2)else Ac ((0:Int),a.2.1,a.2.2)else Ac ((0:Int),x,y)) λr=>r.1=fz [d,e]:=by
 refine Tz (by simp) (Pv (by simp) (GB h1 (N1 (λk=>MA (if_neg k).symm) λc=>Abx (by simp) ?_)));refine Tz (by simp) (Pv (by simp) (GB h2 (N1 (λk=>MA ((if_pos (IT c)).trans (if_neg k)).symm) λf=>Abx (by simp) ?_)));exact P3 (by simp) (MA ((if_pos (IT c)).trans (if_pos (IT f))).symm)
theorem OO{f g:Int}(h1:g1 (x,y)=Ac (f,x,y))(h2:g2 (x,y)=Ac (g,x,y))(h3:g3 (x,y)=Ac (h,x,y)):
  Ok (bif Di ((0:Int)<(↑3:Int))then Af ((0:Int)<=(0:Int)/\(0:Int)<(↑3:Int))<|Ab (g1 (x,y)) λa=>bif Di (a.1≠(0:Int))then Ac (a.1,a.2.1,a.2.2)else Aa (Lc.i64) ((0:Int)+(1:Int))<|bif Di ((0:Int)+(1:Int)<(↑3:Int))then Af ((0:Int)<=(0:Int)+(1:Int)/\(0:Int)+(1:Int)<(↑3:Int))<|Ab (g2 (a.2.1,a.2.2)) λb=>bif Di (b.1≠(0:Int))then Ac (b.1,b.2.1,b.2.2)else Aa (Lc.i64) ((0:Int)+(1:Int)+(1:Int))<|bif Di ((0:Int)+(1:Int)+(1:Int)<(↑3:Int))then Af ((0:Int)<=(0:Int)+(1:Int)+(1:Int)/\(0:Int)+(1:Int)+(1:Int)<(↑3:Int))<|Ab (g3 (b.2.1,b.2.2)) λc=>bif Di (c.1≠(0:Int))then Ac (c.1,c.2.1,c.2.2)else Aa (Lc.i64) ((0:Int)+(1:Int)+(1:Int)+(1:Int))<|bif Di ((0:Int)+(1:Int)+(1:Int)+(1:Int)<(↑3:Int))then Af ((0:Int)<=(0:Int)+(1:Int)+(1:Int)+(1:Int)/\(0:Int)+(1:Int)+(1:Int)+(1:Int)<(↑3:Int))<|none else Ac ((0:Int),c.2.1,c.2.2)else Ac ((0:Int),b.2.1,b.2.2)else Ac ((0:Int),a.2.1,a.2.2)else Ac ((0:Int),x,y)) λr=>r.1=fz [f,g,h]:=by
 refine Tz (by simp) (Pv (by simp) (GB h1 (N1 (λk=>MA (if_neg k).symm) λd=>Abx (by simp) ?_)));refine Tz (by simp) (Pv (by simp) (GB h2 (N1 (λk=>MA ((if_pos (IT d)).trans (if_neg k)).symm) λe=>Abx (by simp) ?_)));refine Tz (by simp) (Pv (by simp) (GB h3 (N1 (λk=>MA ((if_pos (IT d)).trans ((if_pos (IT e)).trans (if_neg k))).symm) λi=>Abx (by simp) ?_)));exact P3 (by simp) (MA ((if_pos (IT d)).trans ((if_pos (IT e)).trans (if_pos (IT i)))).symm)
theorem XG{g4:α×α->Option (Int×α×α)}{i j l:Int}(h1:g1 (x,y)=Ac (h,x,y))(h2:g2 (x,y)=Ac (i,x,y))(h3:g3 (x,y)=Ac (j,x,y))(m:g4 (x,y)=Ac (l,x,y)):
  Ok (bif Di ((0:Int)<(↑4:Int))then Af ((0:Int)<=(0:Int)/\(0:Int)<(↑4:Int))<|Ab (g1 (x,y)) λa=>bif Di (a.1≠(0:Int))then Ac (a.1,a.2.1,a.2.2)else Aa (Lc.i64) ((0:Int)+(1:Int))<|bif Di ((0:Int)+(1:Int)<(↑4:Int))then Af ((0:Int)<=(0:Int)+(1:Int)/\(0:Int)+(1:Int)<(↑4:Int))<|Ab (g2 (a.2.1,a.2.2)) λb=>bif Di (b.1≠(0:Int))then Ac (b.1,b.2.1,b.2.2)else Aa (Lc.i64) ((0:Int)+(1:Int)+(1:Int))<|bif Di ((0:Int)+(1:Int)+(1:Int)<(↑4:Int))then Af ((0:Int)<=(0:Int)+(1:Int)+(1:Int)/\(0:Int)+(1:Int)+(1:Int)<(↑4:Int))<|Ab (g3 (b.2.1,b.2.2)) λc=>bif Di (c.1≠(0:Int))then Ac (c.1,c.2.1,c.2.2)else Aa (Lc.i64) ((0:Int)+(1:Int)+(1:Int)+(1:Int))<|bif Di ((0:Int)+(1:Int)+(1:Int)+(1:Int)<(↑4:Int))then Af ((0:Int)<=(0:Int)+(1:Int)+(1:Int)+(1:Int)/\(0:Int)+(1:Int)+(1:Int)+(1:Int)<(↑4:Int))<|Ab (g4 (c.2.1,c.2.2)) λd=>bif Di (d.1≠(0:Int))then Ac (d.1,d.2.1,d.2.2)else Aa (Lc.i64) ((0:Int)+(1:Int)+(1:Int)+(1:Int)+(1:Int))<|bif Di ((0:Int)+(1:Int)+(1:Int)+(1:Int)+(1:Int)<(↑4:Int))then Af ((0:Int)<=(0:Int)+(1:Int)+(1:Int)+(1:Int)+(1:Int)/\(0:Int)+(1:Int)+(1:Int)+(1:Int)+(1:Int)<(↑4:Int))<|none else Ac ((0:Int),d.2.1,d.2.2)else Ac ((0:Int),c.2.1,c.2.2)else Ac ((0:Int),b.2.1,b.2.2)else Ac ((0:Int),a.2.1,a.2.2)else Ac ((0:Int),x,y)) λr=>r.1=fz [h,i,j,l]:=by
 refine Tz (by simp) (Pv (by simp) (GB h1 (N1 (λk=>MA (if_neg k).symm) λe=>Abx (by simp) ?_)));refine Tz (by simp) (Pv (by simp) (GB h2 (N1 (λk=>MA ((if_pos (IT e)).trans (if_neg k)).symm) λf=>Abx (by simp) ?_)));refine Tz (by simp) (Pv (by simp) (GB h3 (N1 (λk=>MA ((if_pos (IT e)).trans ((if_pos (IT f)).trans (if_neg k))).symm) λg=>Abx (by simp) ?_)));refine Tz (by simp) (Pv (by simp) (GB m (N1 (λk=>MA ((if_pos (IT e)).trans ((if_pos (IT f)).trans ((if_pos (IT g)).trans (if_neg k)))).symm) λn=>Abx (by simp) ?_)));exact P3 (by simp) (MA ((if_pos (IT e)).trans ((if_pos (IT f)).trans ((if_pos (IT g)).trans (if_pos (IT n))))).symm)
theorem VX{a b:Bool} :jY fu (a,b)=Ac (Da a b):=by cases a<;>cases b<;>rfl
theorem X7{x:Option (Int×α)}{n:Int}(h:Ok x λr=>r.1=n):GK.Ab x (λr=>Ac r.1)=Ac n:=by obtain⟨r,rfl,h⟩:=h;rw[<-h];rfl
theorem IK:∀ {d fu:Nat} {a b:Vl},SV d a->SV d b->1000000000000+20*d<fu->dW fu (a,b)=Ac (Bx d a b)
 |0,_,_,_,h,_,_=>h.1.elim
 |d+1,fu,a,b,j,k,X=>by
  obtain⟨f,rfl⟩:∃f,fu=f+15:=⟨fu-15,by omega⟩;have c:∀ {g:Nat} {x y:Bk},SW d x->SW d y->1000000000000+20*d+3<g->Yk g (x,y)=Ac (JL (Bx d) x y):=λ{g x y} z A Y=>by
   obtain⟨e,rfl⟩:∃e,g=e+3:=⟨g-3,by omega⟩;refine(d205 (e+2) x y).trans (X7 ?_);rw[show tg (e+2) (x,y)=_ from d204 (e+1) x y];refine Kr (g1:=tj (e+1)) (g2:=ti (e+1)) ?_ ?_;· refine(d202 e x y).trans (Ok.eq ?_);exact GB (IK z.1 A.1 (by omega)) (MA rfl)
   ·refine(d203 e x y).trans (Ok.eq ?_);exact GB (IK z.2 A.2 (by omega)) (MA rf)
  have O:=Dw j.1.1 j.2.1.sc;have sb:=Dw k.1.1 k.2.1.sc;obtain⟨R,⟨S,E⟩,⟨T,F⟩,_⟩:=id j.1;obtain⟨U,⟨V,G⟩,⟨W,H⟩,_⟩:=id k.1;refine(d227 (f+14) a b).trans (X7 ?_);rw[show sN (f+14) (a,b)=_ from d226 (f+13) a b];refine XG (g1:=tv (f+13)) (g2:=tu (f+13)) (g3:=s9 (f+13)) (g4:=sO (f+13)) ?_ ?_ ?_ ?_;· refine(Ok.eq ?_);exact GB VX (MA rfl)
  ·refine(Ok.eq ?_);exact GB (Gd O sb (by simp) (by simp) (by omega)).1 (MA rf)
  ·refine(d211 (f+12) a b).trans (Ok.eq ?_);refine Ou (Q:=λr=>r=A7 (DE (Bx d)) a.lists b.lists) ?_ λr i=>MA (by rw[i]);rw[show s_ (f+12) (a.lists,b.lists)=_ from d210 (f+11) _ _];refine E3 (f:=λx y=>ta (f+11) (x,y)) (by omega) λx l y m=>?_;have q:=E _ l;have B:=G _ m;have s:=j.lv l;have t:=k.lv m;refine(d209 (f+10) x y).trans (X7 ?_);rw[show tc (f+10) (x,y)=_ from d208 (f+9) x y];refine OO (g1:=tt (f+9)) (g2:=tq (f+9)) (g3:=td (f+9)) ?_ ?_ ?_;· refine(Ok.eq ?_);exact GB Qp (MA rf)
   ·refine(Ok.eq ?_);refine GB VX (MA ?_);simp
   ·refine(d207 (f+8) x y).trans (Ok.eq ?_);refine GB (Hh (by omega) (by omega)) (GB (Hh (by omega) (by omega)) (Ou (Q:=λr=>r=A7 (JL (Bx d)) (AY x) (AY y)) ?_ λr i=>MA (by rw[i])));rw[show tf (f+8) (AY x,AY y)=_ from d206 (f+7) _ _];exact E3 (f:=λx y=>Yk (f+7) (x,y)) (by unfold AY;rw[Aac];omega) λu I v J=>c (s _ I) (t _ J) (by omega)
  ·refine(d225 (f+12) a b).trans (Ok.eq ?_);unfold x_;refine Ou (Q:=λr=>r=A7 (En (Bx d)) a.structs b.structs) ?_ λr i=>MA (by rw[i]);rw[show sR (f+12) (a.structs,b.structs)=_ from d224 (f+11) _ _];unfold ya;refine E3 (f:=λx y=>sS (f+11) (x,y)) (by omega) λx l y m=>?_;have q:=F _ l;have B:=H _ m;have C:=(j.2.1.st _ l).2.1;have D:=(k.2.1.st _ m).2.1;have s:=j.sv l;have t:=k.sv m;have Z:=q.nf;have l2:=q.nc;refine(d223 (f+10) x y).trans (X7 ?_);rw[show sT (f+10) (x,y)=_ from d222 (f+9) x y];unfold yb;refine Kr (g1:=sZ (f+9)) (g2:=sU (f+9)) ?_ ?_
   ·refine(d216 (f+8) x y).trans (Ok.eq ?_);unfold yg;refine Ou (Q:=λr=>r=A7 (SF (Bx d)) x.1 y.1) ?_ λr i=>MA (by rw[i]);rw[show s4 (f+8) (x.1,y.1)=_ from d215 (f+7) _ _];unfold yh;refine E3 (f:=λx y=>s5 (f+7) (x,y)) (by omega) λu M v N=>?_;have w:=s _ (AS.2 (.inl (By.2 ⟨_,M,rf⟩)));have t2:=t _ (AS.2 (.inl (By.2 ⟨_,N,rf⟩)));refine(d214 (f+6) u v).trans (X7 ?_);rw[show s6 (f+6) (u,v)=_ from d213 (f+5) u v];unfold yj;refine OO (g1:=jX (f+5)) (g2:=jW (f+5)) (g3:=s7 (f+5)) ?_ ?_ ?_;· refine(Ok.eq ?_);rw[jX];exact GB Wg (MA rf)
    ·refine(Ok.eq ?_);rw[jW];exact GB Qp (MA rf)
    ·refine(d212 (f+4) u v).trans (Ok.eq ?_);unfold yk;exact GB (c w t2 (by omega)) (MA rf)
   ·refine(d221 (f+8) x y).trans (Ok.eq ?_);unfold yc;refine Ou (Q:=λr=>r=A7 (SG (Bx d)) x.2 y.2) ?_ λr i=>MA (by rw[i]);rw[show sV (f+8) (x.2,y.2)=_ from d220 (f+7) _ _];unfold yd;refine E3 (f:=λx y=>sW (f+7) (x,y)) (by omega) λu o v p=>?_;have w:=s _ (AS.2 (.inr (By.2 ⟨_,o,rf⟩)));have t2:=t _ (AS.2 (.inr (By.2 ⟨_,p,rf⟩)));have K:CB u.1 (Av u.1 0) 14641:=⟨(C _ o).2.1,(C _ o).2.2,rf,q.each _ o⟩;have L:CB v.1 (Av v.1 0) 14641:=⟨(D _ p).2.1,(D _ p).2.2,rf,B.each _ p⟩;refine(d219 (f+6) u v).trans (X7 ?_);rw[show sX (f+6) (u,v)=_ from d218 (f+5) u v];unfold ye;refine Kr (g1:=jV (f+5)) (g2:=sY (f+5)) ?_ ?_;· refine(Ok.eq ?_);rw[jV];exact GB (Fk K L (by decide) (by omega)) (MA rf)
    ·refine(d217 (f+4) u v).trans (Ok.eq ?_);unfold yf;exact GB (c w t2 (by omega)) (MA rf)
theorem M3{x y:Int} :GU fu (x,y)=Ac (D4 x y):=by refine(Ok.eq ?_);rw[GU];unfold D4;exact N1 (λh=>MA (by rw[if_pos h])) λh=>N1 (λk=>MA (by rw[if_neg h,if_pos k])) λk=>MA (by rw[if_neg h,if_neg k])
theorem wL{x y:Aq} :jr fu (x,y)=Ac (FC x y):=by refine(Ok.eq ?_);rw[jr];exact Kz rf
theorem OX{α:Type}{c:α->α->Int}{b b':List α} :∀ {a a':List α},a.length=a'.length->A7 c (a++b) (a'++b')=if A7 c a a'=0 then A7 c b b' else A7 c a a'
 | [],[],_=>rfl
 |x::a,y::a',h=>by
  have d:=OX (c:=c) (b:=b) (b':=b') (a:=a) (a':=a') (by simpa using h);show(if c x y=0 then A7 c (a++b) (a'++b')else c x y)=if(if c x y=0 then A7 c a a' else c x y)=0 then A7 c b b' else if c x y=0 then A7 c a a' else c x y;by_cases k:c x y=0;· simp only[if_pos k];exact d
  ·simp only[if_neg k]
theorem Jg(q:a.length<fu)(h:∀x∈a,∀y∈b,f x y=Ac (c x y))
  (h1:A7 c a b≠0->P (A7 c a b)) (n:A7 c a b=D4 a.length b.length->Ok E P):
  Ok (Ad fu (λ(i:Nat) m=>bif Di ((i:Int)<(a.length:Int))then bif Di ((i:Int)<(b.length:Int))then Ab (idx a (i:Int)) λs=>Ab (idx b (i:Int)) λt=>Ab (f s t) λo=>bif Di (o≠(0:Int))then Ac o else m (i+1)else E else E) 0) P:=by
 refine Vi (λk=>k<=b.length/\A7 c (a.drop k) (b.drop k)=A7 c a b) a.length ⟨Abh _,rf⟩ q (λk nx l d r=>?_) (λnx d=>?_)
 ·obtain⟨p,d⟩:=d;rw[Aaq l]at d;refine PS (N1 (λg=>?_) λg=>n ?_)
  ·have g:k<b.length:=by omega
   rw[Aaq g]at d;refine Aah l (Aah g (GB (h _ (AN l) _ (AN g)) (N1 (λj=>MA ?_) λj=>r ⟨by omega,?_⟩)));· have e:A7 c a b=c a[k] b[k]:=d.symm.trans (if_neg j);rw[<-e];exact h1 (by rw[e];exact j)
   ·rw[<-d];exact(if_pos (IT j)).symm
  ·rw[Afh (by omega:b.length<=k)]at d;rw[<-d];exact((if_neg (by omega)).trans (if_pos (by omega))).symm
 ·obtain⟨p,d⟩:=d;rw[Aeg]at d;refine PT (n ?_);rw[<-d];rcases Aam a.length b.length with g|g;· rw[Aaq g];exact(if_pos (by omega)).symm
  ·rw[Afh g];exact(BD.2 (by omega)).symm
theorem Ve(p:a.length<fu)(q:a.length=b.length)(h:∀x∈a,∀y∈b,f x y=Ac (c x y))
  (h1:A7 c a b≠0->P (A7 c a b)) (o:A7 c a b=0->Ok E P):
  Ok (Ad fu (λ(i:Nat) m=>bif Di ((i:Int)<(a.length:Int))then Ab (idx a (i:Int)) λs=>Ab (idx b (i:Int)) λt=>Ab (f s t) λn=>bif Di (n≠(0:Int))then Ac n else m (i+1)else E) 0) P:=by
 refine Vi (λk=>A7 c (a.drop k) (b.drop k)=A7 c a b) a.length rf p (λk nx l d r=>?_) (λnx d=>?_)
 ·have j:k<b.length:=by omega
  rw[Aaq l,Aaq j]at d;refine PS (Aah l (Aah j (GB (h _ (AN l) _ (AN j)) (N1 (λg=>MA ?_) λg=>r ?_))));· have e:A7 c a b=c a[k] b[k]:=d.symm.trans (if_neg g);rw[<-e];exact h1 (by rw[e];exact g)
  ·rw[<-d];exact(if_pos (IT g)).symm
 ·rw[Aeg,q,Aeg]at d;exact PT (o d.symm)
end
section
variable {d : Nat} (ih : ∀ {fu : Nat} {a b : Vl}, SV d a -> SV d b -> 1000000000000 + 20 * d < fu -> Th fu (a, b) = Ac (Bx d a b))
section
variable{fu:Nat}
include ih
theorem HK{x y:Bk}(c:SW d x)(e:SW d y)(g:1000000000000+20*d+1<fu):QJ fu (x,y)=Ac (JL (Bx d) x y):=by
 obtain⟨f,rfl⟩:∃f,fu=f+1:=⟨fu-1,by omega⟩;refine(d330 f x y).trans (Ok.eq ?_);unfold xX;refine GB (ih c.1 e.1 (by omega)) (N1 (λh=>MA (if_neg h).symm) λh=>GB (ih c.2 e.2 (by omega)) (MA ?_));refine Eq.trans ?_ (if_pos (IT h)).symm;show _=if _=0 then 0 else _;split;· assumption
 ·rfl
theorem Z9{x y:HM}(h1:x.1.length<=3)(z:x.2.length<=1)(A:y.2.length<=1)(o:∀w∈AY x,SW d w)(p:∀w∈AY y,SW d w)(t:1000000000000+20*d+2<fu):jq fu (x,y)=Ac (DE (Bx d) x y):=by
 obtain⟨f,rfl⟩:∃f,fu=f+1:=⟨fu-1,by omega⟩;refine(d331 f x y).trans (Ok.eq ?_);unfold xW;refine N1 (λh=>GB M3 (MA (if_neg λk=>h (BD.1 k)).symm)) λh=>?_;have n:x.1.length=y.1.length:=by omega
 have q:D4 x.1.length y.1.length=0:=BD.2 (by omega);have j:D4 y.2.length x.2.length=Da (Di (0<x.2.length)) (Di (0<y.2.length)):=by rcases(by omega:x.2.length=0\/x.2.length=1)with e|e<;>rcases(by omega:y.2.length=0\/y.2.length=1)with l|l<;>rw[e,l]<;>rfl
 refine N1 (λm=>GB M3 (MA ?_)) λm=>?_;· rw[j];exact((if_pos q).trans (if_neg (by rw[<-j];exact λk=>m (BD.1 k).symm))).symm
 have s:Da (Di (0<x.2.length)) (Di (0<y.2.length))=0:=by rw[<-j];exact BD.2 (by omega)
 have e:DE (Bx d) x y=A7 (JL (Bx d)) (AY x) (AY y):=by
  refine(if_pos q).trans ((if_pos s).trans ?_);show(if _=0 then 0 else _)=_;split;· exact(by assumption:_=(0:Int)).symm
  ·rfl
 have r:A7 (JL (Bx d)) (AY x) (AY y)=_:=OX n;rw[e,r];refine Ve (f:=λu v=>QJ f (u,v)) (by omega) n (λu g v i=>HK ih (o _ (AS.2 (.inl g))) (p _ (AS.2 (.inl i))) (by omega)) (λk=>(if_neg k).symm) λk=>?_;rw[if_pos k];exact Ve (f:=λu v=>QJ f (u,v)) (by omega) (by omega) (λu g v i=>HK ih (o _ (AS.2 (.inr g))) (p _ (AS.2 (.inr i))) (by omega)) (λk=>rfl) λk=>MA k.symm
end
end
theorem wu(x:Int):fz [x]=x:=by show(if x=0 then 0 else x)=x;omega
theorem BU{x:Int}{l:List Int}(h:x=0):fz (x::l)=fz l:=if_pos h
theorem Df{x:Int}{l:List Int}(h:x≠0):fz (x::l)=x:=if_neg h
section
variable {d : Nat} (ih : ∀ {fu : Nat} {a b : Vl}, SV d a -> SV d b -> 1000000000000 + 20 * d < fu -> Th fu (a, b) = Ac (Bx d a b))
section
variable{fu:Nat}
include ih
theorem XI{x y:Aq×Int×Bk}(c:SW d x.2.2)(e:SW d y.2.2)(g:1000000000000+20*d+2<fu):jo fu (x,y)=Ac (SF (Bx d) x y):=by
 obtain⟨f,rfl⟩:∃f,fu=f+1:=⟨fu-1,by omega⟩;refine(d332 f x y).trans (Ok.eq ?_);unfold xV SF;refine GB wL (N1 (λh=>MA (Df h).symm) λh=>GB M3 (N1 (λk=>MA ?_) λk=>GB (HK ih c e (by omega)) (MA ?_)));· rw[BU (IT h),Df k]
 ·rw[BU (IT h),BU (IT k),wu]
theorem XV{x y:Tb×Bk}(g:CB x.1 (Av x.1 0) 14641)(i:CB y.1 (Av y.1 0) 14641)(c:SW d x.2)(e:SW d y.2)(j:1000000000000+20*d+2<fu):dw fu (x,y)=Ac (SG (Bx d) x y):=by obtain⟨f,rfl⟩:∃f,fu=f+1:=⟨fu-1,by omega⟩;refine(d333 f x y).trans (Ok.eq ?_);unfold xU SG;refine GB (JK g i (by decide) (by omega)) (N1 (λh=>MA (Df h).symm) λh=>GB (HK ih c e (by omega)) (MA ?_));rw[BU (IT h),wu]
theorem TA{x y:BB}(i:NM x)(j:NM y)(l:Du x)(m:Du y)(n:∀w∈Bq x,SW d w)(o:∀w∈Bq y,SW d w)(r:1000000000000+20*d+3<fu):dv fu (x,y)=Ac (En (Bx d) x y):=by
 obtain⟨f,rfl⟩:∃f,fu=f+1:=⟨fu-1,by omega⟩;have s:=i.nf;have t:=i.nc;have p:=λu (c:u∈x.1) v (g:v∈y.1)=>XI ih (fu:=f) (n _ (AS.2 (.inl (By.2 ⟨u,c,rfl⟩)))) (o _ (AS.2 (.inl (By.2 ⟨v,g,rfl⟩)))) (by omega);have q:=λu (c:u∈x.2) v (g:v∈y.2)=>XV ih (fu:=f) ⟨(l.1 u c).2.1,(l.1 u c).2.2,rfl,i.each u c⟩ ⟨(m.1 v g).2.1,(m.1 v g).2.2,rfl,j.each v g⟩ (n _ (AS.2 (.inr (By.2 ⟨u,c,rfl⟩)))) (o _ (AS.2 (.inr (By.2 ⟨v,g,rfl⟩)))) (by omega);refine(d334 f x y).trans (Ok.eq ?_);unfold xT En;refine Jg (f:=λu v=>jo f (u,v)) (by omega) p (λk=>(Df k).symm) λe=>?_;refine N1 (λh=>GB M3 (MA ?_)) λh=>?_;· rw[Df (by rw[e];exact λk=>h (BD.1 k)),e]
 rw[BU (by rw[e];exact BD.2 (by omega)),wu];exact Jg (f:=λu v=>dw f (u,v)) (by omega) q (λk=>rfl) λe=>GB M3 (MA e.symm)
end
end
section
variable{fu:Nat}{α:Type}{d:Nat}{c:α->α->Int}{l:List α}{B:α->α->Prop}{cmp:α->α->Option Int}{m k:Nat}{a b:Vl}{x y:HM}{s:Sc}{v:Vl}
theorem HF:∀ {d fu:Nat} {a b:Vl},SV d a->SV d b->1000000000000+20*d<fu->Th fu (a,b)=Ac (Bx d a b)
 |0,_,_,_,h,_,_=>h.1.elim
 |d+1,fu,a,b,c,g,y=>by
  obtain⟨f,rfl⟩:∃f,fu=f+1:=⟨fu-1,by omega⟩;have o:∀ {fu:Nat} {a b:Vl},SV d a->SV d b->1000000000000+20*d<fu->Th fu (a,b)=Ac (Bx d a b):=HF;have w:=Dw c.1.1 c.2.1.sc;have sb:=Dw g.1.1 g.2.1.sc;have p:=c.1.2.1;have l:=c.1.2.2.1;have m:=g.1.2.2.1;refine(d335 f a b).trans (Ok.eq ?_);unfold xS Bx;have r:=λu (i:u∈a.lists) v (j:v∈b.lists)=>Z9 o (fu:=f) (p.2 u i).1 (c.2.1.rs u i) (g.2.1.rs v j) (c.lv i) (g.lv j) (by omega);have s:=λu (i:u∈a.structs) v (j:v∈b.structs)=>TA o (fu:=f) (l.2 u i) (m.2 v j) (c.2.1.st u i).2 (g.2.1.st v j).2 (c.sv i) (g.sv j) (by omega);refine PM (λh=>?_) λh=>?_
  ·have n:a.any≠b.any:=λe=>by rw[e]at h;revert h;cases b.any<;>decide
   rw[Df (λk=>n (EK.1 k))];unfold Da;rw[if_neg n];exact PM (λk=>MA (by rw[if_pos k])) λk=>MA (by rw[if_neg (by rw[k];decide)])
  have q:a.any=b.any:=by revert h;cases a.any<;>cases b.any<;>decide
  rw[BU (EK.2 q)];refine GB (Gd w sb (by decide) (by decide) (by omega)).2.1 (N1 (λk=>MA (Df k).symm) λk=>?_);rw[BU (IT k)];refine Jg (f:=λu v=>jq f (u,v)) (by omega) r (λk=>(Df k).symm) λe=>?_;refine N1 (λh=>GB M3 (MA ?_)) λh=>?_;· rw[Df (by rw[e];exact λk=>h (BD.1 k)),e]
  rw[BU (by rw[e];exact BD.2 (by omega)),wu];exact Jg (f:=λu v=>dv f (u,v)) (by omega) s (λk=>rfl) λe=>GB M3 (MA e.symm)
def EL{α:Type}(R:α->α->Prop):List α->Prop
 | []=>True
 | [_]=>True
 |x::y::l=>R x y/\EL R (y::l)
theorem LL{α:Type}{R:α->α->Prop}{p:α}{B:List α} :∀ {A:List α},EL R (A++p::B)↔EL R (A++[p])/\EL R (p::B)
 | []=>⟨λh=>⟨trivial,h⟩,λh=>h.2⟩
 | [x]=>⟨λh=>⟨⟨h.1,trivial⟩,h.2⟩,λh=>⟨h.1.1,h.2⟩⟩
 |x::y::A=>by have a:=LL (R:=R) (p:=p) (B:=B) (A:=y::A);grind[EL]
theorem QB{α:Type}{R:α->α->Prop} :∀ {l:List α},EL R l->∀i (h:i+1<l.length),R l[i] l[i+1]
 | [],_,i,h=>by grind
 | [_],_,i,h=>by grind
 |x::y::l,a,0,_=>a.1
 |x::y::l,a,i+1,h=>QB a.2 i (by grind)
theorem gI(v:∀x∈l,∀y∈l,c x y<0->¬c y x<0)
  (hc:∀x∈l,∀y∈l,cmp x y=Ac (c x y))  (X:l.length<1099511627776) (W:l.length+1<fu):
  Ok (R2 cmp fu 0 l.length l) λr=>r.Perm l/\EL (λp q=> ¬c q p<0) r:=by
 refine W5 (λz:List α×Int=>z.1.Perm l/\1<=z.2/\∃A C,z.1=A++C/\EL (λp q=> ¬c q p<0) A/\((A.length:Int)=z.2\/(C=[]/\A.length<z.2))) (λz=>l.length+1-z.2.toNat) ?_ (by omega) ?_;· refine⟨.refl _,by omega,?_⟩;cases l with
  |nil=>exact⟨[],[],rfl,trivial, .inr ⟨rfl,by simp⟩⟩
  |cons x l=>exact⟨[x],l,rfl,trivial, .inl (by simp)⟩
 ·rintro⟨
      m,i⟩ nx ⟨e,S,A,C,a,k,f⟩ R G;have s:m.length=l.length:=e.length_eq;refine N1 (λn=>?_) (λn=>?_)
  ·have o:(A.length:Int)=i:=by
    grind
   obtain⟨q,C,rfl⟩:∃q N,C=q::N:=by
    cases C with
    |nil=>grind
    |cons q C=>simp
   refine W5 (λz:List α×Int=>z.1.Perm l/\∃A q B C,z.1=A++q::(B++C)/\(A.length:Int)=z.2/\EL (λp q=> ¬c q p<0) (A++B)/\EL (λp q=> ¬c q p<0) (q::B)/\(A.length:Int)+B.length=i) (λz=>z.2.toNat) ⟨e,A,q,[],C,a,o,by grind,trivial,by simpa using o⟩ (by omega) ?_;rintro⟨m,j⟩ V ⟨e,A,q,B,C,a,E,k,J,D⟩ _ t;dsimp only at e a E;have out:EL (λp q=> ¬c q p<0) (A++q::B)->Ok (nx (m,i+1)) (λr=>r.Perm l/\EL (λp q=> ¬c q p<0) r):=λU=>
    G (m,i+1) ⟨e,by omega,A++q::B,C,by simp[a],U, .inl (by simp only[Aac,Abn];omega)⟩ (by omega);refine N1 (λn=>?_) (λn=>?_)
   ·obtain⟨A,p,rfl⟩:∃u p,A=u++[p]:=by
     rcases Aep A with h|⟨u,p,h⟩;· subst h;simp at E;omega
     ·exact⟨u,p,by simpa using h⟩
    have b:m=A++p::q::(B++C):=by simp[a]
    simp only[Aac,Abn,Adt]at E D;have w:idx m j=Ac q:=by unfold idx;rw[if_pos (by omega),b,Aab (by omega)];rw[show j.toNat-A.length=1 by omega];rfl
    have I:idx m (j-1)=Ac p:=by unfold idx;rw[if_pos (by omega),b,Aab (by omega)];rw[show(j-1).toNat-A.length=0 by omega];rfl
    have K:=e.mem_iff.1 (by simp[a]:q∈m);have mp:=e.mem_iff.1 (by simp[a]:p∈m);refine GB w (Aap (GB I (GB (hc q K p mp) ?_)));rw[Aaj,List.singleton_append,LL]at k;refine N1 (λd=>?_) (λd=>?_)
    ·have O:¬c p q<0:=v q K p mp d;refine Aap (Aap (GB I (GB w (GB w ?_))));have L:m.set j.toNat p=A++p::p::(B++C):=by
      rw[b,Acy _ _ (by omega),show j.toNat-A.length=1 by omega];rfl
     have M:(m.set j.toNat p).set (j-1).toNat q=A++q::p::(B++C):=by rw[L,Acy _ _ (by omega),show(j-1).toNat-A.length=0 by omega];rfl
     have P:idx (m.set j.toNat p) (j-1)=Ac p:=by unfold idx;rw[if_pos (by omega),L,Aab (by omega)];rw[show(j-1).toNat-A.length=0 by omega];rfl
     refine GB P (Abx (by omega) ?_);refine t _ ⟨?_,A,q,p::B,C,?_,?_,?_,?_,?_⟩ (by show(j-1).toNat<j.toNat;omega);· show((m.set j.toNat p).set (j-1).toNat q).Perm l;rw[M];refine List.Perm.trans ?_ e;rw[b];exact List.Perm.append_left _ (List.Perm.swap ..)
     ·show(m.set j.toNat p).set (j-1).toNat q=_;rw[M];simp
     ·show(A.length:Int)=j-1;omega
     ·exact(LL).2 k
     ·exact⟨O,k.2⟩
     ·simp only[Abn];omega
    ·refine Aap (out ?_);rw[Aaj,List.singleton_append,LL];exact⟨k.1,d,J⟩
   ·have H:¬0<j:=n;obtain rfl:A=[]:=OF.1 (by omega);refine Aap (out ?_);exact J
  grind[MA,List.length_eq_zero_iff]
theorem gH(a:EL (λp q=> ¬c q p<0) l)
  (hc:∀x∈l,∀y∈l,cmp x y=Ac (c x y))  (u:l.length<1099511627776) (t:l.length+1<fu):
  Ok (R2 cmp fu 0 l.length l) λr=>r=l:=by
 refine W5 (λz:List α×Int=>z.1=l/\1<=z.2) (λz=>l.length+1-z.2.toNat) ⟨rfl,by omega⟩ (by omega) ?_;rintro⟨m,i⟩ nx ⟨e,s⟩ o b;subst e;refine N1 (λg=>?_) (λ_=>MA rfl);have n:i<m.length:=g;obtain⟨f,rfl⟩:∃f,fu=f+1:=⟨fu-1,by omega⟩;have out:Ok (nx (m,i+1)) (λr=>r=m):=b (m,i+1) ⟨rfl,by omega⟩ (by omega);refine Tz (by omega) ?_;have h:idx m i=Ac (m[i.toNat]'(by omega)):=Fg (by omega) (by omega);have j:idx m (i-1)=Ac (m[(i-1).toNat]'(by omega)):=Fg (by omega) (by omega);have d:=QB a (i-1).toNat (by omega);have k:(i-1).toNat+1=i.toNat:=by omega
 simp only[k]at d;refine GB h (Aap (GB j (GB (hc _ (AN _) _ (AN _)) ?_)));exact P3 d (Aap out)
theorem PY(a:∀x∈l,∀y∈l,c x y<0->¬c y x<0)
  (hc:∀x∈l,∀y∈l,cmp x y=Ac (c x y))  (g:l.length<1099511627776) (f:l.length+1<fu):
  Ok (R2 cmp fu 0 l.length l) λr=>(r.Perm l/\EL (λp q=> ¬c q p<0) r)/\(EL (λp q=> ¬c q p<0) l->r=l):=by
 obtain⟨r,e,h⟩:=gI a hc g f;refine⟨r,e,h,λb=>?_⟩;obtain⟨j,d,i⟩:=gH b hc g f;grind
theorem Ze{l:List (Tb×Bk)}(h:l.length<=12)(b:20<fu){c:_->_->Int}(a:∀x∈l,∀y∈l,c x y<0->¬c y x<0)(hc:∀x∈l,∀y∈l,kq fu (x,y)=Ac (c x y)):Ok (ko fu l) λr=>(r.Perm l/\EL (λp q=> ¬c q p<0) r)/\(EL (λp q=> ¬c q p<0) l->r=l):=by
 rw[ko];have e:(Int.ofNat (l.length %wk (18446744073709551616:Int)))=(l.length:Nat):=by grind
 rw[e];refine Ou (GD h) λr _=>?_;rw[tO];obtain⟨f,rfl⟩:∃f,fu=f+1:=⟨fu-1,by omega⟩;refine Ou (Q:=λr:List (Tb×Bk)=>(r.Perm l/\EL (λp q=> ¬c q p<0) r)/\(EL (λp q=> ¬c q p<0) l->r=l)) ?_ λr h=>MA h;refine Aap (Tz (by omega) ?_);refine Ou (Q:=λr:List (Tb×Bk)=>(r.Perm l/\EL (λp q=> ¬c q p<0) r)/\(EL (λp q=> ¬c q p<0) l->r=l)) ?_ λr h=>MA h;exact PY a hc (by omega) (by omega)
theorem Zd{l:List (HM)}(h:l.length<=12)(b:20<fu){c:_->_->Int}(a:∀x∈l,∀y∈l,c x y<0->¬c y x<0)(hc:∀x∈l,∀y∈l,dV fu (x,y)=Ac (c x y)):Ok (dU fu l) λr=>(r.Perm l/\EL (λp q=> ¬c q p<0) r)/\(EL (λp q=> ¬c q p<0) l->r=l):=by
 rw[dU];have e:(Int.ofNat (l.length %wk (18446744073709551616:Int)))=(l.length:Nat):=by grind
 rw[e];refine Ou (GD h) λr _=>?_;rw[sM];obtain⟨f,rfl⟩:∃f,fu=f+1:=⟨fu-1,by omega⟩;refine Ou (Q:=λr:List (HM)=>(r.Perm l/\EL (λp q=> ¬c q p<0) r)/\(EL (λp q=> ¬c q p<0) l->r=l)) ?_ λr h=>MA h;refine Aap (Tz (by omega) ?_);refine Ou (Q:=λr:List (HM)=>(r.Perm l/\EL (λp q=> ¬c q p<0) r)/\(EL (λp q=> ¬c q p<0) l->r=l)) ?_ λr h=>MA h;exact PY a hc (by omega) (by omega)
theorem Zc{l:List (BB)}(h:l.length<=12)(b:20<fu){c:_->_->Int}(a:∀x∈l,∀y∈l,c x y<0->¬c y x<0)(hc:∀x∈l,∀y∈l,dT fu (x,y)=Ac (c x y)):Ok (dS fu l) λr=>(r.Perm l/\EL (λp q=> ¬c q p<0) r)/\(EL (λp q=> ¬c q p<0) l->r=l):=by
 rw[dS];have e:(Int.ofNat (l.length %wk (18446744073709551616:Int)))=(l.length:Nat):=by grind
 rw[e];refine Ou (GD h) λr _=>?_;rw[sH];obtain⟨f,rfl⟩:∃f,fu=f+1:=⟨fu-1,by omega⟩;refine Ou (Q:=λr:List (BB)=>(r.Perm l/\EL (λp q=> ¬c q p<0) r)/\(EL (λp q=> ¬c q p<0) l->r=l)) ?_ λr h=>MA h;refine Aap (Tz (by omega) ?_);refine Ou (Q:=λr:List (BB)=>(r.Perm l/\EL (λp q=> ¬c q p<0) r)/\(EL (λp q=> ¬c q p<0) l->r=l)) ?_ λr h=>MA h;exact PY a hc (by omega) (by omega)
theorem K5(c:SV d a)(e:SV d b)(f:d<=3)(k:1000000002000<fu):jU fu (a,b)=Ac (Bx d a b):=by obtain⟨s,g,i⟩:=I_ (fu:=fu) c.1 f (by omega);obtain⟨t,h,j⟩:=I_ (fu:=fu) e.1 f (by omega);refine(Ok.eq ?_);refine GB g ?_;rw[i.2 c.2];refine PW rfl (GB h ?_);rw[j.2 e.2];exact PW rfl (GB (IK c e (by omega)) (MA rfl))
theorem JJ(c:SV d a)(e:SV d b)(j:d<=3)(i:1000000002000<fu):UO fu (a,b)=Ac (Bx d a b):=by
 have one:∀ {v:Vl},SV d v->Tm fu v=Ac Bp:=λ{v} f=>by obtain⟨s,g,h⟩:=HR (fu:=fu) (lv:=1) f.1 (by omega) (by omega);refine(Ok.eq ?_);rw[Tm];exact GB g (MA (h.2 f.2))
 refine(Ok.eq ?_);rw[UO];exact GB (one c) (PW rf (GB (one e) (PW rf (GB (HF c e (by omega)) (MA rf)))))
def nJ(x:HM):Vl:=Vl.mk Aj Fu [x] []
def nI(x:BB):Vl:=Vl.mk Aj Fu [] [x]
theorem Wf:E2 Fu Fu=0:=by have h:Ih 5 12 Fu:=LP;obtain⟨_,_,s,_⟩:=Gd (fu:=2000000000000) h h (by decide) (by decide) (by decide);omega
theorem We{x y:α} :A7 c [x] [y]=c x y:=by show(if c x y=0 then 0 else c x y)=c x y;omega
theorem Wd:Bx (d+1) (nJ x) (nJ y)=DE (Bx d) x y:=by
 show fz [Da Aj Aj,E2 Fu Fu,A7 (DE (Bx d)) [x] [y],A7 (En (Bx d)) [] []]=_;rw[BU (rfl:Da Aj Aj=0),BU Wf,We];by_cases h:DE (Bx d) x y=0;· rw[BU h,h];rfl
 grind[Df]
theorem Wc{x y:BB} :Bx (d+1) (nI x) (nI y)=En (Bx d) x y:=by show fz [Da Aj Aj,E2 Fu Fu,A7 (DE (Bx d)) [] [],A7 (En (Bx d)) [x] [y]]=_;rw[BU (rfl:Da Aj Aj=0),BU Wf,BU (rfl:A7 (DE (Bx d)) [] []=0),We,wu]
theorem wM:4294967296<=Ah:=by decide
theorem mZ:4294967296<=Ah:=by decide
def AC(B:α->α->Prop)(l:List α):Prop:= ∀i j (a:i<l.length) (b:j<l.length),i≠j->¬B l[i] l[j]
theorem max_eq{P:List α->Prop}{g:α->α->Option Bool}{srt:List α->Option (List α)}{cap:Nat}(N:4294967296<=cap)(hl:l.length<=12)(hf:20<fu)(O:∀x∈l,∀y∈l,Ok (g x y) λr=>r=Bp↔B x y)
  (X:∀m:List α,m.Sublist l->m.Pairwise (λx y=> ¬B x y/\¬B y x)->(AC B l->m=l)->Ok (srt m) P):
  Ok (Ad fu (λ(a:List α×Nat) t=>
  bif Di (
        (a.2:Int)<(l.length:Int))then
   Ab (idx l (a.2:Int)) λL=>
   Ad fu (
        λ(u:Nat) d=>
    bif Di ((u:Int)<(l.length:Int))then
     Ab (idx l (u:Int)) λU=>
     bif Di ((a.2:Int)≠(u:Int))then
      Ab (g L U) λY=>
      bif Y then
       bif Di ((u:Int)<(a.2:Int))then
        t ((a.1,a.2+1))
       else
        Ab (g U L) λZ=>
        bif !Z then
         t ((a.1,a.2+1))
        else
         d (u+1)
      else
       d (u+1)
     else
      d (u+1)
    else
     Af (Fw a.1+1<=cap)<|
     t (((a.1++[L]),a.2+1))) (0)
  else
   Ab (srt a.1) λr9=>
   Ac (r9)) (([],0))) P:=by
 refine Sb (λk (s:List α)=>s.Sublist (l.take k)/\s.Pairwise (λx y=> ¬B x y/\¬B y x)/\(∀x∈s,∃i,∃e:i<l.length,i<k/\l[i]=x/\∀j (o:j<l.length),j≠i->B l[i] l[j]->i<j/\B l[j] l[i])/\(AC B l->s=l.take k)) l.length ⟨by simp,by simp,by simp,λ_=>by simp⟩ (by omega) (λk s nx v G Q=>?_) (λs nx G=>?_)
 ·have m:=AN v;obtain⟨w,E,J,F⟩:=G;have M:l.take (k+1)=l.take k++[l[k]]:=IN v;have skip:(¬AC B l)->Ok (nx (s,k+1)) P:=λh=>Q _ ⟨by grind,E,λx b=>by
   obtain⟨i,e,z,A⟩:=J x b;exact⟨i,e,by omega,A⟩,λq=>absurd q h⟩;refine PS (Aah v ?_);refine Vi (λn=> ∀j (o:j<l.length),j<n->j≠k->B l[k] l[j]->k<j/\B l[j] l[k]) l.length (λj _ h=>by omega) (by omega) (λj d o f p=>?_) (λd f=>?_)
  ·have S:=AN o;have c:(j≠k->B l[k] l[j]->k<j/\B l[j] l[k])->∀i (e:i<l.length),i<j+1->i≠k->B l[k] l[i]->k<i/\B l[i] l[k]:=λh i e W=>by
    rcases Aam i j with z|z;· exact f i e z
    ·obtain rfl:i=j:=by omega
     omega
   refine PS (Aah o (N1 (λne=>?_) λne=>p (c λh=>absurd h (by omega))));have K:k≠j:=by omega
   refine Ou (O _ m _ S) λr D=>PM (λh=>?_) λh=>p (c λ_ C=>by rw[D.2 C]at h;cases h);have na:¬AC B l:=λq=>q k j v o K (D.1 h);refine N1 (λ_=>skip na) λH=>Ou (O _ S _ m) λr2 I=>PM (λ_=>skip na) λA=>p (c λ_ _=>⟨by omega,I.1 (by simpa using A)⟩)
  ·have sl:=w.length_le;rw[Abg]at sl;refine PT (Abt (Q _ ⟨?_,?_,λx b=>?_,λq=>?_⟩));· rw[M];exact w.append (List.Sublist.refl _)
   ·refine Abb.2 ⟨E,Aci ..,λx b y R=>?_⟩;rw[Aaf]at R;subst R;obtain⟨i,e,z,rfl,V⟩:=J x b;have T:¬B l[k] l[i]:=λC=>by have:=(f i e e (by omega) C).1;omega
    exact⟨λC=>T (V k v (by omega) C).2,T⟩
   ·rcases AS.1 b with b|b;· obtain⟨i,e,z,A⟩:=J x b;exact⟨i,e,by omega,A⟩
    ·rw[Aaf]at b;exact⟨k,v,by omega,b.symm,λj o=>f j o o⟩
   ·rw[M,F q]
 ·obtain⟨w,E,_,F⟩:=G;rw[Aau]at w F;exact PT (Ou (X s w E F) λr D=>MA D)
structure LX(d:Nat)(c:HM):Prop where
 n1:c.1.length<=3
 n2:c.2.length<=1
 vs:∀w∈AY c,SW d w
structure CX(d:Nat)(c:BB):Prop where
 bd:NM c
 fl:QH c.1
 gd:Du c
 vs:∀w∈Bq c,SW d w
theorem YZ{ls:List HM}{ss:List BB}(h1:c9 5 12 s)(g:uM s)(h2:ls.length<=3)(h3:ss.length<=3)(b:∀c∈ls,LX d c)(e:∀c∈ss,CX d c):SV (d+1) (.mk Aj s ls ss):=by
 have f:∀x∈kids (.mk Aj s ls ss),SW d x:=λx a=>by
  rcases AS.1 a with h|h;· obtain⟨c,hc,h⟩:=Aad.1 h;exact(b c hc).vs x h
  ·obtain⟨c,hc,h⟩:=Aad.1 h;exact(e c hc).vs x h
 exact⟨⟨h1,⟨h2,λc hc=>⟨(b c hc).n1,Aak (b c hc).n2 (by simp)⟩⟩,⟨h3,λc hc=>(e c hc).bd⟩,λx a=>⟨(f x a).1.1,(f x a).2.1⟩⟩,⟨λh=>(by cases h),g,λc hc=>(b c hc).n2,λc hc=>⟨(e c hc).fl,(e c hc).gd⟩⟩,λx a=>⟨(f x a).1.2,(f x a).2.2⟩⟩
theorem kE:c9 5 12 Fu:=(KN 0).1.1
theorem L2{c:HM}(h:LX d c):SV (d+1) (nJ c):=YZ kE QO (by simp) (by simp) (λx a=>by grind) (λx a=>by grind)
theorem L1{c:BB}(h:CX d c):SV (d+1) (nI c):=YZ kE QO (by simp) (by simp) (λx a=>by grind) (λx a=>by grind)
theorem au{c:HM}(h:LX d c):WB (Db d) c c:=by
 rcases Db.refl (L2 h).2 with k|k;· cases k
 ·obtain⟨b,a,f⟩:=k.2.2.1 c (Aaf.2 rfl);have e:b=c:=Aaf.1 a;grind
theorem aq{c:BB}(h:CX d c):UJ (Db d) c c:=by
 rcases Db.refl (L1 h).2 with k|k;· cases k
 ·obtain⟨b,a,f⟩:=k.2.2.2 c (Aaf.2 rfl);have e:b=c:=Aaf.1 a;grind
theorem XU(c:LX d x)(e:LX d y)(f:d<=2)(b:1000000002000<fu):dV fu (x,y)=Ac (DE (Bx d) x y):=by refine(Ok.eq ?_);rw[dV];refine GB (a:=nJ x) (rf) (GB (a:=nJ y) (rf) (GB (K5 (L2 c) (L2 e) (by omega) b) (MA ?_)));exact Wd
theorem XT{x y:BB}(c:CX d x)(e:CX d y)(f:d<=2)(b:1000000002000<fu):dT fu (x,y)=Ac (En (Bx d) x y):=by refine(Ok.eq ?_);rw[dT];refine GB (a:=nI x) (rf) (GB (a:=nI y) (rf) (GB (K5 (L1 c) (L1 e) (by omega) b) (MA ?_)));exact Wc
theorem Ng{α:Type}{B:α->α->Prop}{c:α->α->Int} :∀ {l:List α},(∀x∈l,∀y∈l,c y x= -c x y/\(c x y=0->x=y))->(∀x∈l,B x x)->l.Pairwise (λx y=> ¬B x y/\¬B y x)->EL (λp q=> ¬c q p<0) l->EL (λp q=>c p q<0) l
 | [],_,_,_,_=>trivial
 | [_],_,_,_,_=>trivial
 |x::y::l,h,r,p,a=>by have d:x∈x::y::l:=Aat ..;have i:y∈x::y::l:=Aag _ (Aat ..);have f:=Abj.1 p;refine⟨?_,Ng (λu b v g=>h u (Aag _ b) v (Aag _ g)) (λu b=>r u (Aag _ b)) f.2 a.2⟩;have j:=a.1;grind
theorem Nd{α:Type}{c:α->α->Int} :∀ {l:List α},(∀x∈l,∀y∈l,c y x= -c x y)->EL (λp q=>c p q<0) l->EL (λp q=> ¬c q p<0) l
 | [],_,_=>trivial
 | [_],_,_=>trivial
 |x::y::l,h,a=>by have k:=h x (Aat ..) y (Aag _ (Aat ..));have e:=a.1;exact⟨by omega,Nd (λu b v d=>h u (Aag _ b) v (Aag _ d)) a.2⟩
def Mx(B:α->α->Prop)(c:α->α->Int)(l r:List α):Prop:=(r.length<=l.length/\∀x∈r,x∈l)/\r.Pairwise (λx y=> ¬B x y/\¬B y x)/\EL (λp q=>c p q<0) r/\(AC B l->EL (λp q=>c p q<0) l->r=l)
theorem mH{m r:List α}(h:∀x∈l,∀y∈l,c y x= -c x y/\(c x y=0->x=y))(n:∀x∈l,B x x)(h1:m.Sublist l)(h2:m.Pairwise (λx y=> ¬B x y/\¬B y x))(h3:AC B l->m=l)(b:r.Perm m)(j:EL (λp q=> ¬c q p<0) r)(k:EL (λp q=> ¬c q p<0) m->r=m):Mx B c l r:=by have mem:∀x∈r,x∈l:=λx a=>h1.subset (b.mem_iff.1 a);have f:r.Pairwise (λx y=> ¬B x y/\¬B y x):=(b.pairwise_iff (λ{x y} q=>⟨q.2,q.1⟩)).2 h2;refine⟨⟨by rw[b.length_eq];grind,mem⟩,f,Ng (λx a y d=>h x (mem x a) y (mem y d)) (λx a=>n x (mem x a)) f j,λg i=>?_⟩;have e:=h3 g;subst e;exact k (Nd (λx a y d=>(h x a y d).1) i)
theorem gk{l:List HM}(s:l.length<=12)(h:∀c∈l,LX d c)(p:d<=2)(t:1000000003000<fu):Ok (sL fu l) (Mx (WB (Db d)) (DE (Bx d)) l):=by have e:=λx (a:x∈l) y (b:y∈l)=>OY (R:=Bx d) HH (h x a).vs (h y b).vs;refine max_eq (g:=λx y=>US fu (x,y)) (srt:=λm=>dU fu m) wM s (by omega) (λx a y b=>Jn JP (h x a).n1 (h x a).vs (h y b).vs (by omega)) λm i n o=>?_;have u:=i.length_le;have f:∀x∈m,x∈l:=λx a=>i.subset a;exact(Zd (c:=DE (Bx d)) (by omega) (by omega) (λx a y b q=>by grind) λx a y b=>XU (h x (f x a)) (h y (f y b)) p (by omega)).mono λr j=>mH e (λx a=>au (h x a)) i n o j.1.1 j.1.2 j.2
theorem gj{l:List BB}(u:l.length<=12)(h:∀c∈l,CX d c)(t:d<=2)(v:1000000003000<fu):Ok (sG fu l) (Mx (UJ (Db d)) (En (Bx d)) l):=by have e:=λx (a:x∈l) y (b:y∈l)=>OW (R:=Bx d) HH (h x a).bd (h y b).bd (h x a).gd (h y b).gd (h x a).vs (h y b).vs;refine max_eq (g:=λx y=>UT fu (x,y)) (srt:=λm=>dS fu m) mZ u (by omega) (λx a y b=>G3 JP (h x a).bd (h y b).bd (h x a).gd (h y b).gd (h x a).vs (h y b).vs (by omega)) λm k p s=>?_;have w:=k.length_le;have f:∀x∈m,x∈l:=λx a=>k.subset a;exact(Zc (c:=En (Bx d)) (by omega) (by omega) (λx a y b q=>by grind) λx a y b=>XT (h x (f x a)) (h y (f y b)) t (by omega)).mono λr n=>mH e (λx a=>aq (h x a)) k p s n.1.1 n.1.2 n.2
def S_:List Sp×List Sp:=([(-100000000000,100000000000)],[(-999999999999999,999999999999999)])
def JT:Sc:=(Bp,Bp,Bp,S_,KE)
theorem allI{n:Int} :A8 S_ n↔ -100000000000<=n/\n<=100000000000:=by show(A0 [(-100000000000,100000000000)] n/\_)↔_;grind[AF]
theorem wX{y:Int} :A6 S_ y↔ -1000000000000000<=ur y/\ur y<=1000000000000000:=by show(A0 [(-999999999999999,999999999999999)] (ur y)/\_)↔_;grind[ur,AF]
theorem nh:Ec S_ (A8 S_) (A6 S_):=by
 refine⟨[(rk (-999999999999999),rk 999999999999999)],?_,?_,?_,?_,?_,λn=>?_,λy=>?_⟩;· rfl
 ·exact⟨λt b=>by rw[Aaf.1 b];simp,Aci ..⟩
 ·intro s a;rw[Aaf.1 a];trivial
 ·exact⟨λt b=>by rw[Aaf.1 b];decide,Aci ..⟩
 ·intro s a;rw[Aaf.1 a];trivial
 ·rw[allI];show A0 [(-100000000000,100000000000)] n↔_;grind[AF,Ba]
 grind[ur,rk,wX,AF,Ba]
theorem S9:Ih 1 12 JT:=⟨nh,by decide,by decide,rN,cT,rfl,by decide⟩
theorem Wx(h:Ih k m s):Q3 JT s↔s=JT:=by
 constructor;· rintro⟨e,f,g,i,j,l⟩;have c:s.2.2.2.1=S_:=h.nu.unique (nh.congr (λn=>⟨i n,λq=>allI.2 ((h.nu.A8 n).1 q).2⟩) λy=>⟨j y,λq=>wX.2 ((h.nu.A6 y).1 q).2⟩);have d:s.2.2.2.2=KE:=h.ln.unique (S9.ln.congr (funext λw=>by
   have a:Av KE 0 w=Bp:=by rw[cR]
   have b:=l w a;rw[b];exact a));exact Acu (e rfl) (Acu (f rfl) (Acu (g rfl) (Acu c d)))
 ·rintro rfl;exact N6 _
def EvL(c:HM):Prop:=c.1=[]/\∃x,c.2=[x]/\x.1.any=Bp/\x.2.any=Bp
def EvS(c:BB):Prop:=c.1=[]/\∃k,c.2=[k]/\k.2.1.any=Bp/\k.2.2.any=Bp
def EvX(v:Vl):Prop:=v.sc=JT/\∃c s,v.lists=[c]/\v.structs=[s]/\EvL c/\EvS s
theorem PR(h:l.length=1):∃x,l=[x]:=by
 match l,h with
 | [x],_=>simp
theorem YV{x:Bk} :Ok (dR fu x) λr=>r=Bp↔x.1.any=Bp/\x.2.any=Bp:=by simp_all[dR,PM,MA,And.right,AV]
theorem U7{x:Bk} :Ok (dt fu x) λr=>r=Bp↔x.1.any=Bp/\x.2.any=Bp:=by rw[dt];exact PM (λh=>MA ⟨λk=>⟨h,k⟩,And.right⟩) λh=>AV λk=>by rw[k.1]at h;cases h
theorem qD{c:HM} :Ok (sF fu c) λr=>r=Bp↔EvL c:=by refine N1 (λf=>N1 (λg=>?_) λg=>AV λk=>g (by obtain⟨_,x,e,_⟩:=k;grind)) λf=>AV λk=>f (by rw[k.1];rfl);obtain⟨x,e⟩:=PR (l:=c.2) (by omega);have h:c.1=[]:=OF.1 (by omega);refine GB (a:=x) (by rw[e];rfl) (Ou YV λb i=>MA (i.trans ⟨λk=>⟨h,x,e,k⟩,λk=>?_⟩));obtain⟨_,y,d,k⟩:=k;grind
theorem qC{c:BB} :Ok (sE fu c) λr=>r=Bp↔EvS c:=by refine N1 (λf=>N1 (λg=>?_) λg=>AV λk=>g (by obtain⟨_,x,e,_⟩:=k;grind)) λf=>AV λk=>f (by rw[k.1];rfl);obtain⟨x,e⟩:=PR (l:=c.2) (by omega);have h:c.1=[]:=OF.1 (by omega);refine GB (a:=x) (by rw[e];rfl) (Ou YV λb i=>MA (i.trans ⟨λk=>⟨h,x,e,k⟩,λk=>?_⟩));obtain⟨_,y,d,k⟩:=k;grind
theorem bo(h:Ih k m v.sc)(G:k<=10)(H:m<=100000)(F:1000000002000<fu):Ok (jS fu v) λr=>r=Bp↔EvX v:=by
 rw[jS];refine N1 (λt=>N1 (λu=>?_) λu=>AV λk=>u (by obtain⟨_,c,s,_,e,_⟩:=k;rw[e];rfl)) λt=>AV λk=>t (by obtain⟨_,c,s,e,_⟩:=k;rw[e];rfl);have y:jT fu () =Ac JT:=by
  refine(Ok.eq ?_);rw[jT];have z:UU fu () =Ac S_:=by refine(Ok.eq ?_);rw[UU];exact GB (rf) (MA rf)
  exact GB z (GB (rf) (MA rf))
 obtain⟨q,_,_,A⟩:=Gd (fu:=fu) h S9 (by omega) (by omega) (by omega);have D:v.sc=JT->E2 v.sc JT=0:=λe=>by rw[e];obtain⟨_,_,s,_⟩:=Gd (fu:=fu) S9 S9 (by decide) (by decide) (by omega);omega
 obtain⟨c,j⟩:=PR (l:=v.lists) (by omega);obtain⟨s,n⟩:=PR (l:=v.structs) (by omega);refine GB y (GB q (N1 (λo=>?_) λo=>AV λk=>o (D k.1)));have C:=A o;have g:∀ {f},v.lists=[f]->c=f:=λe=>by rw[j]at e;exact Adr e
 have d:∀ {f},v.structs=[f]->s=f:=λe=>by rw[n]at e;exact Adr e
 refine GB (a:=c) (by rw[j];rfl) (Ou qD λb w=>PM (λi=>GB (a:=s) (by rw[n];rfl) (Ou qC λE p=>MA (p.trans ⟨λk=>⟨C,c,s,j,n,w.1 i,k⟩,λk=>?_⟩))) λi=>AV λk=>?_);· obtain⟨_,f,B,e,x,_,k⟩:=k;rw[d x];exact k
 ·obtain⟨_,f,B,e,_,k,_⟩:=k;rw[<-g e]at k;rw[w.2 k]at i;cases i
theorem XK(h:Ih k m v.sc)(O:k<=10)(P:m<=100000)(N:1000000002000<fu):Ok (jk fu v) λr=>r=Bp↔v.any=Aj/\EvX v:=by
 rw[jk];refine PM (λd=>AV λk=>by rw[k.1]at d;cases d) λd=>N1 (λA=>AV λk=>A (by obtain⟨_,_,c,s,e,_⟩:=k;rw[e];rfl)) λA=>N1 (λB=>AV λk=>B (by obtain⟨_,_,c,s,_,e,_⟩:=k;rw[e];rfl)) λB=>?_;have H:jl fu () =Ac JT:=by refine(Ok.eq ?_);rw[jl];exact GB (rf) (GB (iZ fu) (MA rf))
 obtain⟨c,i⟩:=PR (l:=v.lists) (by omega);obtain⟨s,j⟩:=PR (l:=v.structs) (by omega);have ab:EvX v->v.sc=JT/\EvL c/\EvS s:=λk=>by obtain⟨u,M,Q,e,w,I,J⟩:=k;rw[i]at e;rw[j]at w;rw[Adr e,Adr w];exact⟨u,I,J⟩
 refine GB H (Ou (L3 S9 h (by omega) (by omega) (by omega)) λr F=>PM (λf=>AV λk=>?_) λf=>?_);· rw[F.2 ((Wx h).2 (ab k.2).1)]at f;cases f
 have u:=(Wx h).1 (F.1 (by simpa using f));refine GB (a:=c) (by rw[i];rfl) (GB (a:=s) (by rw[j];rfl) ?_);refine N1 (λp=>AV λk=>by rw[(ab k.2).2.1.1]at p;exact absurd p (by decide)) λp=>N1 (λC=>AV λk=>?_) λC=>N1 (λq=>AV λk=>by rw[(ab k.2).2.2.1]at q;exact absurd q (by decide)) λq=>N1 (λD=>AV λk=>?_) λD=>?_;· obtain⟨_,x,e,_⟩:=(ab k.2).2.1;exact C (by rw[e];rfl)
 ·obtain⟨_,x,e,_⟩:=(ab k.2).2.2;exact D (by rw[e];rfl)
 obtain⟨x,n⟩:=PR (l:=c.2) (by omega);obtain⟨y,o⟩:=PR (l:=s.2) (by omega);have G:c.1=[]:=OF.1 (by omega);have K:s.1=[]:=OF.1 (by omega);refine GB (a:=x) (by rw[n];rfl) (Ou U7 λb E=>PM (λg=>GB (a:=y) (by rw[o];rfl) (Ou U7 λL t=>MA (t.trans ⟨λk=>⟨d,u,c,s,i,j,⟨G,x,n,E.1 g⟩,K,y,o,k⟩,λk=>?_⟩))) λg=>AV λk=>?_);· obtain⟨_,z,e,k⟩:=(ab k.2).2.2;rw[o]at e;rw[Adr e];exact k
 ·obtain⟨_,z,e,k⟩:=(ab k.2).2.1;rw[n]at e;rw[<-Adr e]at k;rw[E.2 k]at g;cases g
theorem Jd(l:List α)(d:α)(p:α->Bool):((av l.length).filter λi=>p (l.getD i d)).length=(l.filter p).length:=by
 have e:l=(av l.length).map λi=>l.getD i d:=nU l d;conv=>rhs;rw[e]
 rw[Alh,Aao];rfl
theorem Xx{c:BB}(w:Aq):Lf c (Gr c w) c.2.length=(c.2.filter λk=>Av k.1 0 w).length:=by rw[<-Jd c.2 dK];unfold Lf;congr 1;refine Agc λi b=>?_;rw[Vf (Abf.1 b) w];rfl
theorem fr{c:BB}{j:Nat}(f:j<c.1.length)(w:Aq):(Gr c w).getD (c.2.length+j) 0=runT (Bu (c.1.getD j dF).1) 0 w/\ -1<=runT (Bu (c.1.getD j dF).1) 0 w/\runT (Bu (c.1.getD j dF).1) 0 w<=(c.1.getD j dF).1.length:=by
 have:∀l:Aq,(Gr c l.reverse).getD (c.2.length+j) 0=runT (Bu (c.1.getD j dF).1) 0 l.reverse/\ -1<=runT (Bu (c.1.getD j dF).1) 0 l.reverse/\runT (Bu (c.1.getD j dF).1) 0 l.reverse<=(c.1.getD j dF).1.length:=λl=>by
  induction l with
  |nil=>
   refine⟨?_,?_,?_⟩;· show(CH c).getD (c.2.length+j) 0=0;grind[CH]
   ·show(-1:Int)<=0;simp
   ·show(0:Int)<=_;omega
  |cons x l d=>
   have e:runT (Bu (c.1.getD j dF).1) 0 (l.reverse++[x])=YC (c.1.getD j dF).1 (runT (Bu (c.1.getD j dF).1) 0 l.reverse) x.toNat:=by rw[<-QP d.2];unfold runT;rw[Adc];rfl
   rw[Afc,e];refine⟨?_,ax d.2.2⟩;rw[FT,(Hg c _ _).fd j f];simp_all[T0]
 have:=this w.reverse;grind
theorem Xy{c:BB}(w:Aq):P2 c (Gr c w) c.1.length=(c.1.filter λf=>Av (Bu f.1) 0 w).length:=by rw[<-Jd c.1 dF];unfold P2;congr 1;refine Agc λj b=>?_;have h:=fr (Abf.1 b) w;simp_all[Av,NX]
theorem R5(c:BB)(w:Aq):MJ c (Gr c w)=(c.2.filter λk=>Av k.1 0 w).length+(c.1.filter λf=>Av (Bu f.1) 0 w).length:=by grind[MJ,Xx,Xy]
def Dr(l:List (Tb×Bk))(w:Aq):Nat:=(l.filter λk=>Av k.1 0 w).length
theorem DD(a b:List (Tb×Bk))(w:Aq):Dr (a++b) w=Dr a w+Dr b w:=by simp[Dr]
theorem E1(k:Tb×Bk)(w:Aq):Dr [k] w=if Av k.1 0 w=Bp then 1 else 0:=by grind[Dr,Av]
theorem XS{a b:List (Tb×Bk)}(h:a.Perm b)(w:Aq):Dr a w=Dr b w:=(h.filter _).length_eq
theorem bY{z:List (Tb×Bk)}{i:Nat}(hi:i<z.length){k x:Tb×Bk}{w:Aq}(ht:Av x.1 0 w=(Av z[i].1 0 w||Av k.1 0 w))(f:¬(Av z[i].1 0 w=Bp/\Av k.1 0 w=Bp)):Dr (z.set i x) w=Dr z w+Dr [k] w:=by
 have c:z=z.take i++([z[i]]++z.drop (i+1)):=by simp
 have b:z.set i x=z.take i++([x]++z.drop (i+1)):=by rw[Ady,if_pos hi];rfl
 have a:Dr z w=Dr (z.take i) w+(Dr [z[i]] w+Dr (z.drop (i+1)) w):=by grind[DD]
 rw[b,DD,DD,a,E1,E1,E1,ht];all_goals grind
theorem Lb.of{c b:BB}(h:Lb c)(e:b.1.map (·.1)=c.1.map (·.1))(k:∀w,Dr b.2 w=Dr c.2 w):Lb b:=λw=>by
 have lb:∀l:List (Aq×Int×Bk),(l.filter λf=>Av (Bu f.1) 0 w).length=((l.map (·.1)).filter λs=>Av (Bu s) 0 w).length:=λl=>by rw[Alh,Aao];rfl
 have:=h w;simp_all[Dr,R5]
theorem ZD{a b:List Nat}(h:a.Perm b):GQ a=GQ b:=by
 induction h with
 |nil=>rfl
 |cons x _ e=>grind[GQ]
 |swap x y l=>grind[GQ]
 |trans _ _ c d=>omega
theorem eo.of{l m:List (Aq×Int×Bk)}(h:eo l)(e:m.map (·.1)=l.map (·.1)):eo m:=by
 have f:m.length=l.length:=by simpa using congrArg Fw e
 have c:∀i (b:i<m.length),m[i].1=(l[i]'(by omega)).1:=λi b=>by have:=List.getElem_of_eq e (by grind:i<(m.map (·.1)).length);grind
 intro i d;rw[c i (by omega),c (i+1) d];exact h i (by omega)
end
section
variable {d : Nat} (hd : d <= 2) (ih : ∀ {fu : Nat} {x : Bk}, SX d x -> 1000000003000 + 10 * d + 1 < fu -> Ok (Lo fu x) λr => r.2 = Bp -> SX d r.1)
include hd ih
structure COk(d:Nat)(k:Tb×Bk):Prop where
 wf:Be k.1
 cn:BW k.1=k.1
 vs:SX d k.2
def JZ(l:List (Tb×Bk)):Nat:=GQ (l.map λk=>k.1.length+3)
omit hd ih in
theorem HP(a b:List (Tb×Bk)):JZ (a++b)=JZ a*JZ b:=by simp_all[JZ,Aan,Vo]
omit hd ih in
theorem Pf(a:List (Tb×Bk)):0<JZ a:=Vm λn b=>by grind
omit hd ih in
theorem Lr(k:Tb×Bk):JZ [k]=k.1.length+3:=by simp[JZ,GQ]
omit hd ih in
theorem Pg{l:List (Tb×Bk)}{k:Tb×Bk}(h:k∈l):k.1.length+3<=JZ l:=
 Vn (λn b=>by grind) (By.2 ⟨k,h,rfl⟩)
omit hd ih in
theorem S'{fu j:Nat}{c z:List (Tb×Bk)}(s:j<c.length)(f:JZ z*JZ (c.drop j)<=14641)(D:∀k∈z,COk d k)(hc:COk d c[j])(I:1000000003000<fu):
  U1 fu (c[j].1,[])=Ac c[j].1/\(∀v,JZ (z++[(c[j].1,v)])*JZ (c.drop (j+1))<=14641)/\∀i (hi:i<z.length),Ok (U1 fu (z[i].1,c[j].1)) λt=>(Be t/\BW t=t/\Av t 0=λw=>Av z[i].1 0 w||Av c[j].1 0 w)/\∀v,JZ (z.set i (t,v))*JZ (c.drop (j+1))<=14641:=by
 have l:JZ (c.drop j)=(c[j].1.length+3)*JZ (c.drop (j+1)):=by rw[Aaq s,show c[j]::c.drop (j+1)=[c[j]]++c.drop (j+1)from rfl,HP,Lr]
 have E:=Pf (c.drop (j+1));have F:=Pf z;have G:c[j].1.length+3<=14641:=Aak (by simp_all[Aez]) (Aak (Nat.le_mul_of_pos_left _ F) f);have h:CB c[j].1 (Av c[j].1 0) 14641:=⟨hc.wf,hc.cn,rfl,by omega⟩;refine⟨?_,λv=>?_,λi hi=>?_⟩;· obtain⟨t,p,b⟩:=TV (Gu (fu:=fu) h (CB.nil (m:=0)) (by simp) (by omega));have:c[j].1=t:=h.unique (b.congr (funext λw=>by rw[h.gL,Ht,Alo]));grind
 ·simp_all[HP,Lr,Aeo]
 ·have g:=D _ (AN hi);have H:z[i].1.length+3<=14641:=Aak (Pg (AN hi)) (Aak (Aez _ (Pf _)) f);have ii:CB z[i].1 (Av z[i].1 0) 14641:=⟨g.wf,g.cn,rfl,by omega⟩;refine(TV (Gu (fu:=fu) ii h (by simp) (by omega))).mono λt b=>⟨⟨b.wf,b.can,b.lg.trans (by rw[ii.gL,h.gL])⟩,λv=>?_⟩;have u:t.length+3<=(z[i].1.length+3)*(c[j].1.length+3):=by
   have:=b.len;grind[GP]
  have q:z=z.take i++([z[i]]++z.drop (i+1)):=by simp
  have o:z.set i (t,v)=z.take i++([(t,v)]++z.drop (i+1)):=by rw[Ady,if_pos hi];rfl
  rw[o,HP,HP,Lr];have n:JZ (z.take i)*((z[i].1.length+3)*JZ (z.drop (i+1)))*((c[j].1.length+3)*JZ (c.drop (j+1)))<=14641:=by rw[q,HP,HP,Lr,l]at f;exact f
  refine Aak ?_ n;generalize JZ (z.take i)=A,JZ (z.drop (i+1))=B,JZ (c.drop (j+1))=C at*;calc A*((t.length+3)*B)*C<=A*(((z[i].1.length+3)*(c[j].1.length+3))*B)*C:=Abi _ (Nat.mul_le_mul_left _ (Abi _ u))
   _=A*((z[i].1.length+3)*B)*((c[j].1.length+3)*C):=by generalize z[i].1.length+3=x,c[j].1.length+3=y;rw[Aeo,Aeo,Aeo A];rw[Aeo,Aeo,Nat.mul_left_comm y]
end
theorem SV.sb:∀ {d:Nat} {v:Vl},SV d v->SB d v
 |0,_,h=>h.1.elim
 |d+1,v,h=>⟨h.1,Dw h.1.1 h.2.1.sc,h.2.1.rs,λc hc=>⟨(h.2.1.st c hc).1.2,λk b=>((h.2.1.st c hc).2.1 k b).2⟩,λx a=>⟨(h.qb x a).1.sb.2,(h.qb x a).2.sb.2⟩⟩
def YH(G:Bk->Prop)(c:HM):Prop:=(∀x∈c.1,NB x.1/\G x)/\∀x∈c.2,NB x.1/\G x
section
variable {d : Nat} {G : Bk -> Prop} (hd : d <= 2) (ih : ∀ {fu : Nat} {x : Bk}, SW d x -> 1000000003000 + 10 * d + 1 < fu -> Ok (Lo fu x) λr => (r.2 = Bp -> SW d r.1 /\ G r.1) /\ (G x -> r = (x, Bp)))
include hd ih
theorem iJ{fu:Nat}{c:HM}(h:LX d c)(T:1000000003000+10*d+2<fu):Ok (jR fu c) λr=>(r.2.2=Bp->r.2.1=Bp->LX d r.1/\YH G r.1)/\(YH G c->r=(c,Bp,Bp)):=by
 obtain⟨f,rfl⟩:∃f,fu=f+1:=⟨fu-1,by omega⟩;rw[show jR (f+1) c=_ from d246 f c];have U:=h.n1;have V:=h.n2;refine Xs (λk (s:List Bk) (t:Bool)=>s.length=k/\(∀w∈s,SW d w/\G w)/\(t=Bp->∀w∈s,NB w.1)/\(YH G c->s=c.1.take k/\t=Bp)) c.1.length ⟨rfl,by simp,by simp,λ_=>by simp⟩ (by omega) (λk s t nx v I E=>?_) (λs t nx I=>?_)
 ·have j:=AN v;have m:=h.vs _ (AS.2 (.inl j));obtain⟨N,F,M,z⟩:=I;refine PS (Aah v (Ou (ih m (by omega)) λr n=>PM (λg=>MA ⟨λq=>(by simp),λq=>?_⟩) λg=>?_));· rw[n.2 (q.1 _ j).2]at g;grind
  have g:r.2=Bp:=by grind
  have i:=n.1 g;have add:∀b,(b=Bp->NB r.1.1/\t=Bp)->(YH G c->b=Bp)->Ok (nx (s++[r.1],b,k+1)) λr=>(r.2.2=Bp->r.2.1=Bp->LX d r.1/\YH G r.1)/\(YH G c->r=(c,Bp,Bp)):=λb p J=>E _ _ ⟨by rw[Aac,Acn,N],λw a=>by
   rcases AS.1 a with a|a;· exact F w a
   ·rw[Aaf.1 a];exact i,λq w a=>by
   rcases AS.1 a with a|a;· exact M (p q).2 w a
   ·rw[Aaf.1 a];exact(p q).1,λq=>⟨by
    have e:r=(c.1[k],Bp):=n.2 (q.1 _ j).2;rw[(z q).1,e,IN v],J q⟩⟩;refine PM (λB=>Ou (Hl i.1.1.sb (by omega)) λb p=>Abt (add _ (λq=>⟨?_,B⟩) λq=>?_)) λB=>Abt (add _ (λq=>by cases q) λq=>?_);· refine IT λy=>?_;rw[p.2 y]at q;cases q
  ·have e:r=(c.1[k],Bp):=n.2 (q.1 _ j).2;have y:=(q.1 _ j).1;cases K:b with
   |false=>rfl
   |true=>exact absurd (by rw[e];exact y) (p.1 K)
  grind
 ·obtain⟨N,F,M,z⟩:=I;rw[Aau]at z;refine P3 (by dsimp only;omega) ?_;refine Sb (λk (C:List Bk)=>C.length<=k/\(∀w∈C,SW d w/\NB w.1/\G w)/\(YH G c->C=c.2.take k)) c.2.length ⟨by simp,by simp,λ_=>by simp⟩ (by omega) (λk C nx v u E=>?_) (λC nx u=>?_)
  ·have j:=AN v;have m:=h.vs _ (AS.2 (.inr j));obtain⟨S,A,H⟩:=u;refine PS (Aah v (Ou (ih m (by omega)) λr n=>PM (λg=>MA ⟨λq=>(by cases q),λq=>?_⟩) λg=>?_));· rw[n.2 (q.2 _ j).2]at g;cases g
   have g:r.2=Bp:=by simpa using g
   have i:=n.1 g;refine Ou (Hl i.1.1.sb (by omega)) λb p=>PM (λl=>Abt (E _ ⟨by dsimp only;rw[Aac,Acn];omega,λw a=>?_,λq=>?_⟩)) λl=>E _ ⟨by dsimp only;omega,A,λq=>?_⟩
   ·rcases AS.1 a with a|a;· exact A w a
    ·rw[Aaf.1 a];refine⟨i.1,IT λy=>?_,i.2⟩;rw[p.2 y]at l;cases l
   ·have e:r=(c.2[k],Bp):=n.2 (q.2 _ j).2;rw[H q,e,IN v]
   ·have e:r=(c.2[k],Bp):=n.2 (q.2 _ j).2;have y:=(q.2 _ j).1;have L:b=Bp:=by simpa using l
    exact absurd (by rw[e];exact y) (p.1 L)
  ·obtain⟨S,A,H⟩:=u;rw[Aau]at H;refine PT (MA ⟨λ_ B=>⟨⟨by dsimp only;omega,by dsimp only;omega,λw a=>?_⟩,λw a=>⟨M B w a,(F w a).2⟩,λw a=>⟨(A w a).2.1,(A w a).2.2⟩⟩,λq=>?_⟩)
   ·rcases AS.1 a with a|a;· exact(F w a).1
    ·exact(A w a).1
   ·have P:=(z q).1;have Q:=(z q).2;have R:=H q;rw[P,Q,R]
end
section
variable{d fu:Nat}{α:Type}{v:Vl}{B:α->α->Prop}{c:BB}{G:Bk->Prop}{k:Tb×Bk}{x:Bk}{l:List α}
theorem aR{l:List (Tb×Bk)}{v:Bk}(h:∀k∈l,SW d k.2)(j:SW d v)(p:l.length<=12)(o:1000000003000+10*d<fu):
  Ok (tU fu (l,v)) λr=>r.2=(l,v)/\((∃i,∃hi:i<l.length,r.1=(i:Int)/\l[i].2=v)\/r.1= -1/\∀k∈l,k.2≠v):=by
 refine Sb (λk s=>s=v/\∀x∈l.take k,x.2≠v) l.length ⟨rf,by simp⟩ (by omega) (λk s nx f a n=>?_) (λs nx a=>?_)
 ·obtain⟨rfl,a⟩:=a;have m:=h _ (AN f);have e:Ok (tW fu (l[k],s)) λr=>r.2=s/\(r.1=Bp↔l[k].2=s):=by
   exact Ou (Mb (d:=d) ⟨m.1.1,m.2.1⟩ ⟨j.1.1,j.2.1⟩ (by omega)) λr b=>MA ⟨rf,b⟩
  refine PS (Aah f (Ou e λr b=>PM (λc=>MA ⟨by grind, .inl ⟨k,f,rfl,b.2.1 c⟩⟩) λc=>n _ ⟨b.1,λx g=>?_⟩));rcases(Ag f).1 g with g|rfl;all_goals grind
 ·obtain⟨rfl,a⟩:=a;rw[Al]at a;exact PT (MA ⟨rfl, .inr ⟨rfl,a⟩⟩)
def UL(G:Bk->Prop)(c:BB):Prop:=(∀f∈c.1,NB f.2.2.1/\G f.2.2)/\(∀k∈c.2,G k.2)/\EL (λk b=>E7 k.1 b.1<0) c.2/\c.2.Pairwise (λk b=>k.2≠b.2)
theorem La{α:Type}{B:α->α->Prop}{c:α->α->Int} :∀ {l:List α},(∀x∈l,∀y∈l,c y x= -c x y/\(c x y=0->B x y))->l.Pairwise (λx y=> ¬B x y)->EL (λp q=> ¬c q p<0) l->EL (λp q=>c p q<0) l
 | [],_,_,_=>trivial
 | [_],_,_,_=>trivial
 |x::y::l,h,p,a=>by have b:=Abj.1 p;refine⟨?_,La (λu d v f=>h u (Aag _ d) v (Aag _ f)) b.2 a.2⟩;have g:=a.1;grind
structure KX(d:Nat)(G:Bk->Prop)(k:Tb×Bk):Prop where
 ne:k.1≠ []
 wf:Be k.1
 cn:BW k.1=k.1
 vs:SW d k.2
 gd:G k.2
theorem KX.cok(h:KX d G k):COk d k:=⟨h.wf,h.cn,h.vs.1.sb,h.vs.2.sb⟩
theorem CX.cok(h:CX d c):∀k∈c.2,COk d k:=λk a=>by have g:=h.gd.1 k a;have v:=h.vs _ (AS.2 (.inr (By.2 ⟨k,a,rfl⟩)));exact⟨g.2.1,g.2.2,v.1.sb,v.2.sb⟩
theorem V'{l:List (Tb×Bk)}{k:Tb×Bk}(a:k∈l){w:Aq}(h:Av k.1 0 w=Bp):0<Dr l w:=
 Ags (Aba.2 ⟨a,h⟩)
theorem Wb(h:Lb c)(w:Aq):Dr c.2 w<=1:=by have:=h w;grind[Dr,R5]
theorem cZ(h0:k.1≠ [])(h1:Be k.1)(h2:BW k.1=k.1):∃w,Av k.1 0 w=Bp:=IT λb=>by refine h0 ((CB.Gt (⟨h1,h2,rf,Aae _⟩:CB k.1 (Av k.1 0) k.1.length)).2 (funext λw=>?_));grind
theorem Wa:∀ {l:List (Tb×Bk)},(∀k∈l,∃w,Av k.1 0 w=Bp)->(∀w,Dr l w<=1)->l.Pairwise λx y=>x.1≠y.1
 | [],_,_=> .nil
 |x::l,h,hc=>by
  have e:∀w,Dr (x::l) w=Dr [x] w+Dr l w:=λw=>DD [x] l w;refine Abj.2 ⟨λy c q=>?_,Wa (λk b=>h k (Aag _ b)) λw=>?_⟩;· obtain⟨w,a⟩:=h x (Aat ..);have:=hc w;rw[e,E1,if_pos a]at this;grind[V']
  grind
theorem KX.is(h:KX d G k){m:Nat}(b:k.1.length<=m):CB k.1 (Av k.1 0) m:=⟨h.wf,h.cn,rfl,b⟩
theorem iH(hd:d<=2)(ih:∀ {fu:Nat} {x:Bk},SW d x->1000000003000+10*d+1<fu->Ok (Lo fu x) λr=>(r.2=Bp->SW d r.1/\G r.1)/\(G x->r=(x,Bp)))(h:CX d c)(hF:1000000003000+10*d+2<fu):
  Ok (jQ fu c) λr=>(r.2.2=Bp->r.2.1=Bp->CX d r.1/\UL G r.1)/\(UL G c->r=(c,Bp,Bp)):=by
 obtain⟨f,rfl⟩:∃f,fu=f+1:=⟨fu-1,by omega⟩;rw[show jQ (f+1) c=_ from d247 f c];have n1:=h.bd.nf;have n2:=h.bd.nc;refine Xs (λk (s:List (Aq×Int×Bk)) (t:Bool)=>(s.map (λf=>(f.1,f.2.1))=(c.1.take k).map λf=>(f.1,f.2.1))/\(∀f∈s,SW d f.2.2/\G f.2.2)/\(t=Bp->∀f∈s,NB f.2.2.1)/\(UL G c->s=c.1.take k/\t=Bp)) c.1.length ⟨rfl,by simp,by simp,λ_=>by simp⟩ (by omega) (λk s t nx o hJ hn=>?_) (λs t nx hJ=>?_)
 ·have L:=AN o;have m:=h.vs _ (AS.2 (.inl (By.2 ⟨_,L,rfl⟩)));obtain⟨O,j2,j3,j4⟩:=hJ;have hsl:s.length<=4:=by have:=congrArg Fw O;simp only[Aao,Abg]at this;omega
  refine PS (Aah o (Ou (ih m (by omega)) λr Q=>PM (λM=>MA ⟨λq=>(by simp),λq=>?_⟩) λM=>?_));· rw[Q.2 (q.1 _ L).2]at M;grind
  have H:=Q.1 (by grind);have ef:UL G c->s++[(c.1[k].1,c.1[k].2.1,r.1)]=c.1.take (k+1):=λq=>by have e:r=(c.1[k].2.2,Bp):=Q.2 (q.1 _ L).2;rw[(j4 q).1,e,IN o]
  have add:∀b:Bool,(b=Bp->t=Bp/\NB r.1.1)->(UL G c->b=Bp)->Ok (nx (s++[(c.1[k].1,c.1[k].2.1,r.1)],b,k+1)) λr=>(r.2.2=Bp->r.2.1=Bp->CX d r.1/\UL G r.1)/\(UL G c->r=(c,Bp,Bp)):=λb U N=>by
   refine hn _ _ ⟨by rw[Aan,O,IN o,Aan];rfl,λw D=>?_,λhbt w D=>?_,λq=>⟨ef q,N q⟩⟩
   ·rcases AS.1 D with D|D;· exact j2 w D
    ·rw[Aaf.1 D];omega
   ·obtain⟨h3,h4⟩:=U hbt;rcases AS.1 D with D|D;· exact j3 h3 w D
    ·rw[Aaf.1 D];omega
  refine PM (λI=>Ou (Hl H.1.1.sb (by omega)) λb U=>Abt (add _ (λN=>⟨I,?_⟩) λq=>?_)) λI=>Abt (add Aj (λh=>by cases h) λq=>?_);· refine IT λhnb=>?_;rw[U.2 hnb]at N;cases N
  ·have e:r=(c.1[k].2.2,Bp):=Q.2 (q.1 _ L).2;have nb:=(q.1 _ L).1;cases hbb:b with
   |false=>rfl
   |true=>exact absurd (by rw[e];omega) (U.1 hbb)
  ·have:=(j4 q).2;rw[show t=Aj from I]at this;cases this
 ·obtain⟨
      O,j2,j3,j4⟩:=hJ;refine P3 (by dsimp only;omega) ?_;rw[Al]at O j4;refine Sb (λj (z:List (Tb×Bk))=>z.length<=j/\(∀k∈z,KX d G k)/\JZ z*JZ (c.2.drop j)<=14641/\(∀w,Dr z w=Dr (c.2.take j) w)/\(z.Pairwise λk W=>k.2≠W.2)/\(UL G c->z=c.2.take j)) c.2.length ⟨by simp,by simp,by simpa [JZ,GQ]using h.bd.st,λw=>by simp,by simp,λ_=>by simp⟩ (by omega) (λj z nx hj T hn=>?_) (λz nx T=>?_)
  ·have L:=AN hj;have m:=h.vs _ (AS.2 (.inr (By.2 ⟨_,L,rfl⟩)));obtain⟨z1,F,z3,Z,z5,z6⟩:=T;obtain⟨a1,a2,a3⟩:=S' (fu:=f) (d:=d) hj z3 (λk o=>(F k o).cok) (h.cok _ L) (by omega);have g:=h.gd.1 _ L;have tk:c.2.take (j+1)=c.2.take j++[c.2[j]]:=IN hj;refine PS (Aah hj (Ou (ih m (by omega)) λr Q=>PM (λM=>MA ⟨λq=>(by cases q),λq=>?_⟩) λM=>?_));· rw[Q.2 (q.2.1 _ L)]at M;cases M
   have H:=Q.1 (by simpa using M);have rq:UL G c->r.1=c.2[j].2:=λq=>by rw[Q.2 (q.2.1 _ L)]
   refine Ou (aR (l:=z) (λk o=>(F k o).vs) H.1 (by omega) (by omega)) λr10 R=>?_;obtain⟨i,q1,q2⟩:=r10;obtain⟨R,S⟩:=R;cases R;dsimp only at S⊢;refine N1 (λhi=>GB a1 (Abt (hn _ ⟨by rw[Aac,Acn];omega,λk o=>?_,a2 _,λw=>?_,?_,λq=>?_⟩))) λhi=>?_
   ·rcases AS.1 o with o|o;· exact F k o
    ·rw[Aaf.1 o];exact⟨g.1,g.2.1,g.2.2,H.1,H.2⟩
   ·rw[tk,DD,DD,Z,E1,E1]
   ·refine Abb.2 ⟨z5,Aci ..,λx J y K=>?_⟩;rw[Aaf.1 K];rcases S with⟨n,E,e,_⟩|⟨_,e⟩;· omega
    ·exact e x J
   ·rw[tk,<-z6 q,rq q]
   ·obtain⟨n,E,rfl,e⟩:=S.resolve_right λe=>hi (by rw[e.1];decide);have kz:=F _ (AN E);have sum:∀w,Dr c.2 w=Dr z w+Dr [c.2[j]] w+Dr (c.2.drop (j+1)) w:=λw=>by
     rw[Z,<-DD,<-tk,<-DD,Acf]
    refine Aah E (Ou (a3 n E) λt I=>Aah E (hn _ ⟨by rw[Abq];omega,λk o=>?_,by exact I.2 _,λw=>?_,?_,λq=>?_⟩))
    ·rcases List.mem_or_eq_of_mem_set o with o|o;· exact F k o
     ·rw[o];refine⟨λe0=>?_,I.1.1,I.1.2.1,kz.vs,kz.gd⟩;obtain⟨w,D⟩:=cZ kz.ne kz.wf kz.cn;have e1:=congrFun I.1.2.2 w;dsimp only at e0;rw[e0,Dz,D]at e1;cases e1
    ·have tw:Av t 0 w=(Av z[n].1 0 w||Av c.2[j].1 0 w):=congrFun I.1.2.2 w;have e5:=bY E (k:=c.2[j]) (x:=(t,z[n].2)) tw λU=>by
      have le:=Wb h.gd.2 w;have p1:=V' (AN E) U.1;rw[sum w,E1,if_pos U.2]at le;omega
     rw[Ace,e5,Z,tk,DD]
    ·have ez:(z.set n (t,z[n].2)).map (·.2)=z.map (·.2):=by
      rw[List.map_set];have:(z.map (·.2)).set n ((z.map (·.2))[n]'(by simpa using E))=z.map (·.2):=List.set_getElem_self ..;rw[List.getElem_map]at this;exact this
     have p:(z.map (·.2)).Pairwise (· ≠ ·):=Adq.2 z5;rw[<-ez]at p;exact Adq.1 p
    ·exfalso;have e6:=z6 q;have pw:=q.2.2.2;have l6:=congrArg Fw e6;rw[Abg]at l6;have nj:n<j:=by omega
     refine Aaw.1 pw n j (by omega) hj nj ?_;rw[<-rq q,<-e];have:z[n]=c.2[n]'(by omega):=by simp only[e6,List.getElem_take]
     rw[this]
  ·refine P3 (by dsimp only;omega) ?_;obtain⟨z1,F,z3,Z,z5,z6⟩:=T;rw[Al]at Z z6;have z3:JZ z<=14641:=by simpa [JZ,GQ]using z3
   have il:∀k∈z,CB k.1 (Av k.1 0) 14641:=λk o=>(F k o).is (by have:=Pg o;omega);have Y:∀x∈z,∀y∈z,E7 y.1 x.1= -E7 x.1 y.1/\(E7 x.1 y.1=0->x.1=y.1):=λx J y K=>⟨JM _ _,(KA (fu:=f) (il x J) (il y K) (by decide) (by omega)).1⟩;refine Ou (Ze (fu:=f) (l:=z) (by omega) (by omega) (c:=λk W=>E7 k.1 W.1) (λx J y K q=>by have:=(Y x J y K).1;omega) λx J y K=>?_) λr15 v=>MA ⟨λ_ I=>⟨⟨⟨?_,?_,λg hg=>?_,?_,λk o=>?_,λk o s hs=>?_⟩,⟨λg hg=>?_,h.fl.2.of ?_⟩,⟨λk o=>?_,h.gd.2.of ?_ λw=>?_⟩,λw D=>?_⟩,⟨λf hf=>⟨j3 I f hf,(j2 f hf).2⟩,λk o=>?_,?_,?_⟩⟩,λq=>?_⟩;· refine(Ok.eq ?_);rw[kq];exact GB (Fk (il x J) (il y K) (by decide) (by omega)) (MA rfl)
   ·have:=congrArg Fw O;simp only[Aao]at this;dsimp only;omega
   ·dsimp only;rw[v.1.1.length_eq];omega
   ·have:(g.1,g.2.1)∈s.map (λf=>(f.1,f.2.1)):=By.2 ⟨g,hg,rfl⟩;rw[O]at this;obtain⟨g',V,e⟩:=By.1 this;rw[show g.1=g'.1 from(congrArg Prod.fst e).symm];exact h.bd.lb g' V
   ·dsimp only;rw[ZD (v.1.1.map _)];exact z3
   ·exact(F k (v.1.1.mem_iff.1 o)).wf.by
   ·exact((F k (v.1.1.mem_iff.1 o)).wf s hs).len
   ·have:(g.1,g.2.1)∈s.map (λf=>(f.1,f.2.1)):=By.2 ⟨g,hg,rfl⟩;rw[O]at this;obtain⟨g',V,e⟩:=By.1 this;rw[show g.2.1=g'.2.1 from(congrArg Prod.snd e).symm];exact h.fl.1 g' V
   ·have:=congrArg (List.map Prod.fst) O;simpa [Aal,Function.comp_def]using this
   ·have W:=F k (v.1.1.mem_iff.1 o);exact⟨W.ne,W.wf,W.cn⟩
   ·have:=congrArg (List.map Prod.fst) O;simpa [Aal,Function.comp_def]using this
   ·rw[XS v.1.1,Z]
   ·rcases AS.1 D with D|D;· obtain⟨g,hg,rfl⟩:=By.1 D;exact(j2 g hg).1
    ·obtain⟨k,o,rfl⟩:=By.1 D;exact(F k (v.1.1.mem_iff.1 o)).vs
   ·exact(F k (v.1.1.mem_iff.1 o)).gd
   ·have mem:=λx=>(v.1.1.mem_iff (a:=x)).1;refine La (B:=λx y=>x.1=y.1) (λx J y K=>Y x (mem x J) y (mem y K)) ?_ v.1.2;exact(v.1.1.pairwise_iff (λ{x y} q e=>q e.symm)).2 (Wa (λk o=>cZ (F k o).ne (F k o).wf (F k o).cn) λw=>by rw[Z];exact Wb h.gd.2 w)
   ·exact(v.1.1.pairwise_iff (λ{x y} q e=>q e.symm)).2 z5
   ·have e:=v.2 (Nd (λx J y K=>(Y x J y K).1) (by rw[z6 q];exact q.2.2.1));dsimp only;rw[e,z6 q,(j4 q).1,(j4 q).2]
structure GdV(d:Nat)(G:Bk->Prop)(v:Vl):Prop where
 ls:∀c∈v.lists,YH G c
 ss:∀c∈v.structs,UL G c
 la:AC (WB (Db d)) v.lists
 lo:EL (λp q=>DE (Bx d) p q<0) v.lists
 sa:AC (UJ (Db d)) v.structs
 so:EL (λp q=>En (Bx d) p q<0) v.structs
 ev:¬EvX v
def DJ:Nat->Vl->Prop
 |0,_=>True
 |d+1,v=>v.any=Aj->GdV d (λx=>(DJ d x.1/\DJ d x.2)/\Db d x.2 x.1) v
def Dt(d:Nat)(x:Bk):Prop:=(DJ d x.1/\DJ d x.2)/\Db d x.2 x.1
theorem nn(h:l.Pairwise λx y=> ¬B x y/\¬B y x):AC B l:=λi j a b ne=>by grind[Nat.lt_or_ge,List.pairwise_iff_getElem]
theorem nQ(d:Nat):SV (d+1) (.mk Bp Fu [] []):=⟨⟨(KN d).1.1,⟨Abh _,λc hc=>by cases hc⟩,⟨Abh _,λc hc=>by cases hc⟩,λx a=>by cases a⟩,⟨λ_=>⟨rfl,rfl,rfl⟩,QO,λc hc=>(by cases hc),λc hc=>by cases hc⟩,λx a=>by cases a⟩
theorem SV.lx(h:SV (d+1) v):∀c∈v.lists,LX d c:=λc hc=>⟨(h.1.2.1.2 c hc).1,h.2.1.rs c hc,h.lv hc⟩
theorem SV.cx(h:SV (d+1) v):∀c∈v.structs,CX d c:=λc hc=>⟨h.1.2.2.1.2 c hc,(h.2.1.st c hc).1,(h.2.1.st c hc).2,h.sv hc⟩
theorem O3(k:∀ {fu:Nat} {v:Vl},SV d v->1000000003000+10*d<fu->Ok (Yj fu v) λr=>(r.2=Bp->SV d r.1/\DJ d r.1)/\(DJ d v->r=(v,Bp)))(o:d<=3)(j:SW d x)(n:1000000003000+10*d+1<fu):
  Ok (Lo fu x) λr=>(r.2=Bp->SW d r.1/\Dt d r.1)/\(Dt d x->r=(x,Bp)):=by
 obtain⟨e,rfl⟩:∃e,fu=e+1:=⟨fu-1,by omega⟩;rw[show Lo (e+1) x=_ from d249 e x];refine Ou (k j.1 (by omega)) λr f=>Ou (k j.2 (by omega)) λs g=>?_;refine PM (λa=>PM (λc=>?_) λc=>MA ⟨λh=>(by grind),λq=>?_⟩) λa=>MA ⟨λh=>(by grind),λq=>?_⟩;· refine Ou (JP (g.1 c).1 (f.1 a).1 (by omega)) λb i=>MA ⟨λq=>⟨⟨(f.1 a).1,(g.1 c).1⟩,⟨(f.1 a).2,(g.1 c).2⟩,i.1 q⟩,λq=>?_⟩;have l:=f.2 q.1.1;have m:=g.2 q.1.2;subst l m;rw[i.2 q.2]
 ·rw[g.2 q.1.2]at c;grind
 ·rw[f.2 q.1.1]at a;grind
theorem SS:∀ {d fu:Nat} {v:Vl},d<=3->SV d v->1000000003000+10*d<fu->Ok (Yj fu v) λr=>(r.2=Bp->SV d r.1/\DJ d r.1)/\(DJ d v->r=(v,Bp))
 |0,_,_,_,h,_=>h.1.elim
 |d+1,fu,v,Y,w,J=>by
  have P:=mZ;obtain⟨f,rfl⟩:∃f,fu=f+3:=⟨fu-3,by omega⟩;have L:∀ {fu:Nat} {x:Bk},SW d x->1000000003000+10*d+1<fu->Ok (Lo fu x) λr=>(r.2=Bp->SW d r.1/\Dt d r.1)/\(Dt d x->r=(x,Bp)):=
   O3 (λh J=>SS (by omega) h J) (by omega);have sb:=w.sb;obtain⟨I,⟨W,_⟩,⟨X,_⟩,_⟩:=id w.1;have O:=sb.2.1;rw[show Yj (f+3) v=_ from d248 (f+2) v];refine PM (λG=>MA ⟨λ_=>⟨w,λh=>by simp_all⟩,λ_=>rfl⟩) λG=>GB (Sx O (by omega) (by decide) (by omega)) ?_;have p:DJ (d+1) v->GdV d (Dt d) v:=λq=>q G;refine Sb (λk (s:List HM)=>s.length<=k/\(∀c∈s,LX d c/\YH (Dt d) c)/\(DJ (d+1) v->s=v.lists.take k)) v.lists.length ⟨by simp,by simp,λ_=>by simp⟩ (by omega) (λk s nx u H F=>?_) (λs nx H=>?_)
  ·have o:=AN u;obtain⟨T,B,C⟩:=H;refine PS (Aah u (Ou (iJ (by omega) L (w.lx _ o) (by omega)) λr n=>PM (λj=>MA ⟨λq=>(by cases q),λq=>?_⟩) λj=>PM (λm=>Abt (F _ ⟨by dsimp only;rw[Aac,Acn];omega,λc hc=>?_,λq=>?_⟩)) λm=>F _ ⟨by dsimp only;omega,B,λq=>?_⟩));· rw[n.2 ((p q).ls _ o)]at j;cases j
   ·rcases AS.1 hc with hc|hc;· exact B c hc
    ·rw[Aaf.1 hc];exact n.1 (by simpa using j) m
   ·rw[C q,n.2 ((p q).ls _ o),IN u]
   ·rw[n.2 ((p q).ls _ o)]at m;cases m
  obtain⟨T,B,C⟩:=H;rw[Aau]at C;refine P3 (by omega) ?_;refine Sb (λk (z:List BB)=>z.length<=k/\(∀c∈z,CX d c/\UL (Dt d) c)/\(DJ (d+1) v->z=v.structs.take k)) v.structs.length ⟨by simp,by simp,λ_=>by simp⟩ (by omega) (λk z nx u t F=>?_) (λz nx t=>?_)
  ·have o:=AN u;obtain⟨U,D,E⟩:=t;refine PS (Aah u (Ou (iH (by omega) L (w.cx _ o) (by omega)) λr n=>PM (λj=>MA ⟨λq=>(by cases q),λq=>?_⟩) λj=>PM (λm=>Abt (F _ ⟨by dsimp only;rw[Aac,Acn];omega,λc hc=>?_,λq=>?_⟩)) λm=>F _ ⟨by dsimp only;omega,D,λq=>?_⟩));· rw[n.2 ((p q).ss _ o)]at j;cases j
   ·rcases AS.1 hc with hc|hc;· exact D c hc
    ·rw[Aaf.1 hc];exact n.1 (by simpa using j) m
   ·rw[E q,n.2 ((p q).ss _ o),IN u]
   ·rw[n.2 ((p q).ss _ o)]at m;cases m
  obtain⟨U,D,E⟩:=t;rw[Aau]at E;refine PT (Ou (gk (l:=s) (by omega) (λc hc=>(B c hc).1) (by omega) (by omega)) λy a=>Ou (gj (l:=z) (by omega) (λc hc=>(D c hc).1) (by omega) (by omega)) λA i=>?_);have sv:SV (d+1) (Vl.mk Aj v.sc y A):=YZ I w.2.1.sc (by have:=a.1.1;omega) (by have:=i.1.1;omega) (λc hc=>(B c (a.1.2 c hc)).1) λc hc=>(D c (i.1.2 c hc)).1;have whole:DJ (d+1) v->Vl.mk Aj v.sc y A=v:=λq=>by have g:=p q;have R:=a.2.2.2 (by rw[C q];exact g.la) (by rw[C q];exact g.lo);have S:=i.2.2.2 (by rw[E q];exact g.sa) (by rw[E q];exact g.so);rw[R,S,C q,E q];exact Aja (show Aj=v.any from G.symm) rfl rfl rfl
  refine Ou (bo (v:=Vl.mk Aj v.sc y A) (Dw I w.2.1.sc) (by decide) (by decide) (by omega)) λb K=>PM (λh=>MA ⟨λ_=>⟨nQ d,λq=>by cases q⟩,λq=>?_⟩) λh=>MA ⟨λ_=>⟨sv,λ_=>⟨λc hc=>(B c (a.1.2 c hc)).2,λc hc=>(D c (i.1.2 c hc)).2,nn a.2.1,a.2.2.1,nn i.2.1,i.2.2.1,λq=>?_⟩⟩,λq=>?_⟩;· have e:=K.1 h;rw[whole q]at e;exact absurd e (p q).ev
  ·rw[K.2 q]at h;cases h
  grind
def rS(d:Nat)(x:Bk):Prop:=SW d x/\Dt d x
theorem Z3(c:Nu d x)(g:d<=3)(j:1000000005000<fu):Ok (jP fu x) λr=>(r.2=0->rS d r.1)/\(Nu d r.1)/\(rS d x->r=(x,0)):=by
 have m:d≠0:=by rintro rfl;exact c.1.elim
 obtain⟨d,rfl⟩:∃e,d=e+1:=⟨d-1,by omega⟩;have no:(¬rS (d+1) x)->Ok (Ac ((v0,v0),(11:Int))) λr=>(r.2=0->rS (d+1) r.1)/\(Nu (d+1) r.1)/\(rS (d+1) x->r=(x,0)):=λn=>MA ⟨λh=>(by omega),⟨(KN d).1,(KN d).1⟩,λh=>absurd h n⟩;refine Ou (WZ c g (by omega)) λb k=>PM (λh=>no λq=>?_) λh=>?_;· rw[k.2 ⟨q.1.1.2,q.1.2.2⟩]at h;grind
 have l:=k.1 (by grind);have o:SW (d+1) x:=⟨⟨c.1,l.1⟩,c.2,l.2⟩;refine Ou (O3 (λh j=>SS g h j) g o (by omega)) λr i=>PM (λa=>no λq=>?_) λa=>?_;· rw[i.2 q.2]at a;grind
 ·have f:=i.1 (by simpa using a);exact MA ⟨λ_=>f,⟨f.1.1.1,f.1.2.1⟩,λq=>by rw[i.2 q.2]⟩
theorem WO(c:Nu d x)(j:d<=3)(g:1000000005000<fu):Ok (dQ fu x) λr=>r=Bp↔rS d x:=by obtain⟨⟨y,e⟩,k,l,i,b⟩:=Z3 (fu:=fu) c j g;refine GB k (N1 (λh=>Ou (Mb i c (by omega)) λr a=>MA ⟨λf=>?_,λq=>?_⟩) λh=>MA ⟨λq=>(by grind),λq=>?_⟩);all_goals grind
theorem Xw(h:SV d v)(j:1000000000000<fu):Ok (jC fu v) λr=>r=Bp↔¬NB v:=by
 cases d with
 |zero=>exact h.1.elim
 |succ d=>
  have l:Ih 5 12 v.sc:=Dw h.1.1 h.2.1.sc;have no:NB v->Ok (Ac Aj) λr=>r=Bp↔¬NB v:=λk=>MA ⟨λh=>(by cases h),λh=>absurd k h⟩;rw[jC];refine PM (λa=>Ou (NZ (l.sc (by decide)) (by decide) j) λb o=>?_) λa=>no (.inl (by simpa using a));rw[o.2 h.2.1.sc];refine PW rfl (Ou (OP l (by decide) (by decide) j) λr f=>PM (λc=>N1 (λi=>MA ?_) λi=>no (.inr (.inl λe=>i (by rw[e];rfl)))) λc=>no (.inr (.inr (.inr λe=>by rw[f.2 e]at c;cases c))));have m:v.lists=[]:=OF.1 (by omega);have n:=f.1 c;have a:v.any=Aj:=by simpa using a
  rw[decide_eq_true_iff];unfold NB;rw[a,m,n];exact⟨λg=>by simp[OF.1 (by omega:v.structs.length=0)],λg=>by simp at g;simp[g]⟩
theorem IM(h:SV d v)(j:1000000000000<fu):Ok (Yg fu v) λr=>r=Bp↔¬NB v:=by rw[Yg];exact Ou (Xw h j) λr f=>MA f
theorem UE{α:Type}{R:α->α->Prop} :∀ {l:List α},(∀i (h:i+1<l.length),R l[i] l[i+1])->EL R l
 | [],_=>trivial
 | [_],_=>trivial
 |x::y::l,h=>⟨h 0 (by simp),UE λi a=>h (i+1) (by simpa using a)⟩
def Cs(G:α->Prop)(B:α->α->Prop)(c:α->α->Int)(l:List α):Prop:=(∀x∈l,G x)/\AC B l/\EL (λp q=>c p q<0) l
theorem SQ{G:α->Prop}{c:α->α->Int}{g:α->Option Bool}{wr:α->Option Vl}{cmp:Vl->Vl->Option Int}{le:α->α->Option Bool}{K:Option Bool}{P:Bool->Prop}(hl:l.length<=12)(hf:20<fu)
  (hg:∀x∈l,Ok (g x) λr=>r=Bp↔G x) (hc:∀x∈l,∀y∈l,∃a b,wr x=Ac a/\wr y=Ac b/\cmp a b=Ac (c x y)) (O:∀x∈l,∀y∈l,Ok (le x y) λr=>r=Bp↔B x y)
  (yes:Cs G B c l->Ok K P) (no:¬Cs G B c l->P Aj):
  Ok (Ad fu (λ(f:Nat) J=>
  bif Di (
        (f:Int)<(l.length:Int))then
   Ab (idx l (f:Int)) λr3=>
   Ab (g r3) λr4=>
   bif !r4 then
    Ac (Aj)
   else
    bif Di (
          (0:Int)<(f:Int))then
     Aa (Lc.i64) ((f:Int)-(1:Int))<|
     Ab (idx l ((f:Int)-(1:Int))) λr5=>
     Ab (wr r5) λr6=>
     Ab (idx l (f:Int)) λr7=>
     Ab (wr r7) λr8=>
     Ab (cmp r6 r8) λr9=>
     bif Di ((0:Int)<=r9)then
      Ac (Aj)
     else
      Ad fu (λ(o:Nat) v=>
       bif Di ((o:Int)<(l.length:Int))then
        bif Di ((f:Int)≠(o:Int))then
         Ab (idx l (f:Int)) λT=>
         Ab (idx l (o:Int)) λU=>
         Ab (le T U) λV=>
         bif V then
          Ac (Aj)
         else
          v (o+1)
        else
         v (o+1)
       else
        J (f+1)) (0)
    else
     Ad fu (λ(e:Nat) d=>
      bif Di ((e:Int)<(l.length:Int))then
       bif Di ((f:Int)≠(e:Int))then
        Ab (idx l (f:Int)) λC=>
        Ab (idx l (e:Int)) λD=>
        Ab (le C D) λE=>
        bif E then
         Ac (Aj)
        else
         d (e+1)
       else
        d (e+1)
      else
       J (f+1)) (0)
  else K) 0) P:=by
 refine Vi (λk=>(∀x∈l.take k,G x)/\(∀i (h:i+1<l.length),i+1<k->c l[i] l[i+1]<0)/\∀i j (t:i<l.length) (s:j<l.length),i<k->i≠j->¬B l[i] l[j]) l.length ⟨by simp,λi h k=>by omega,λi j _ _ h=>by omega⟩ (by omega) (λk nx z N hn=>?_) (λnx N=>?_)
 ·have m:=
       AN z;obtain⟨M,R,S⟩:=N;have inner:G l[k]->(∀i (h:i+1<l.length),i+1<k+1->c l[i] l[i+1]<0)->Ok (Ad fu (λ(e:Nat) d=>
      bif Di ((e:Int)<(l.length:Int))then
       bif Di ((k:Int)≠(e:Int))then
        Ab (idx l (k:Int)) λC=>
        Ab (idx l (e:Int)) λD=>
        Ab (le C D) λE=>
        bif E then
         Ac (Aj)
        else
         d (e+1)
       else
        d (e+1)
      else
       nx (k+1)) (0)) P:=λL W=>by
   refine Vi (λn=> ∀j (s:j<l.length),j<n->k≠j->¬B l[k] l[j]) l.length (λj _ h=>by omega) (by omega) (λn d A w H=>?_) (λd w=>?_)
   ·have u:(k≠n->¬B l[k] l[n])->∀j (s:j<l.length),j<n+1->k≠j->¬B l[k] l[j]:=λh j s hjn=>by
     rcases Aam j n with q|q;· exact w j s q
     ·obtain rfl:j=n:=by omega
      exact h
    refine PS (N1 (λne=>Aah z (Aah A (Ou (O _ m _ (AN A)) λr I=>PM (λh=>MA (no λq=>q.2.1 k n z A (by omega) (I.1 h))) λh=>H (u λ_ hB=>by rw[I.2 hB]at h;cases h)))) λne=>H (u λh=>absurd h (by omega)))
   ·refine PT (hn ⟨λx Q=>?_,W,λi j t s F ne=>?_⟩)
    ·rcases(Ag z).1 Q with Q|rfl;· exact M x Q
     ·exact L
    ·rcases Aam i k with q|q;· exact S i j t s q ne
     ·obtain rfl:i=k:=by omega
      exact w j s s ne
  refine PS (Aah z (Ou (hg _ m) λr I=>PM (λh=>MA (no λq=>?_)) λh=>?_));· rw[I.2 (q.1 _ m)]at h;cases h
  have L:=I.1 (by simpa using h);refine N1 (λh0=>?_) λh0=>inner L λi t F=>by omega
  obtain⟨p,rfl⟩:∃p,k=p+1:=⟨k-1,by omega⟩;obtain⟨a,b,Y,Z,ec⟩:=hc _ (AN (by omega:p<l.length)) _ m;have X:((p+1:Nat):Int)-1=(p:Nat):=by omega
  refine Abx (by omega) ?_;rw[X];refine Aah (by omega) (GB Y (Aah z (GB Z (GB ec (N1 (λh=>MA (no λq=>?_)) λh=>inner L λi t F=>?_)))));· have:=QB q.2.2 p z;omega
  ·rcases Aam i p with q|q;· exact R i t (by omega)
   ·obtain rfl:i=p:=by omega
    omega
 ·obtain⟨M,R,S⟩:=N;rw[Aau]at M;exact PT (yes ⟨M,λi j t s ne=>S i j t s t ne,UE λi h=>R i h h⟩)
end
section
variable {d : Nat} (hd : d <= 2) (ih : ∀ {fu : Nat} {v : Vl}, SV d v -> 1000000003000 + 20 * d < fu -> Ok (QI fu v) λr => r = Bp ↔ DJ d v)
section
variable{fu:Nat}
include ih
theorem Gy{x:Bk}(e:SW d x)(j:1000000003000+20*d+1<fu):Ok (UM fu x) λr=>r=Bp↔Dt d x:=by
 obtain⟨f,rfl⟩:∃f,fu=f+1:=⟨fu-1,by omega⟩;rw[show UM (f+1) x=_ from d345 f x];unfold xR;refine Ou (ih e.1 (by omega)) λr g=>PM (λa=>Ou (ih e.2 (by omega)) λs h=>PM (λc=>Ou (HX e.2 e.1 (by omega)) λb i=>MA (i.trans ⟨λq=>⟨⟨g.1 a,h.1 c⟩,q⟩,λq=>q.2⟩)) λc=>AV λq=>?_) λa=>AV λq=>?_;· rw[h.2 q.1.2]at c;cases c
 ·rw[g.2 q.1.1]at a;cases a
theorem R8{c:HM}(hc:LX d c)(A:1000000003000+20*d+2<fu):Ok (dr fu c) λr=>r=Bp↔YH (Dt d) c:=by
 obtain⟨f,rfl⟩:∃f,fu=f+1:=⟨fu-1,by omega⟩;rw[show dr (f+1) c=_ from d346 f c];unfold xQ;have B:=hc.n1;have C:=hc.n2;refine Vi (λk=> ∀x∈c.1.take k,NB x.1/\Dt d x) c.1.length (by simp) (by omega) (λk nx n g z=>?_) (λnx g=>?_)
 ·have m:=AN n;have s:=hc.vs _ (AS.2 (.inl m));refine PS (Aah n (Ou (IM s.1 (by omega)) λr i=>PM (λh=>AV λq=>i.1 h (q.1 _ m).1) λh=>Aah n (Ou (Gy ih s (by omega)) λt o=>PM (λl=>AV λq=>?_) λl=>z λx e=>?_)));· rw[o.2 (q.1 _ m).2]at l;cases l
  ·rcases(Ag n).1 e with e|rfl;· exact g x e
   ·exact⟨IT λp=>(by rw[i.2 p]at h;cases h),o.1 (by simpa using l)⟩
 ·rw[Aau]at g;refine PT (N1 (λh=>MA ⟨λ_=>⟨g,λx e=>?_⟩,λ_=>rfl⟩) λh=>?_);· rw[OF.1 (by omega:c.2.length=0)]at e;cases e
  obtain⟨y,j⟩:=PR (by omega:c.2.length=1);have s:=hc.vs y (AS.2 (.inr (by rw[j];exact Aaf.2 rfl)));rw[j];have mem:∀x∈c.2,x=y:=λx e=>by rw[j]at e;exact Aaf.1 e
  have u:y∈c.2:=by rw[j];exact Aaf.2 rfl
  refine GB (a:=y) rfl (Ou (IM s.1 (by omega)) λr i=>PM (λh=>GB (a:=y) rfl (Ou (Gy ih s (by omega)) λt o=>MA (o.trans ⟨λq=>⟨g,λx e=>?_⟩,λq=>(q.2 y u).2⟩))) λh=>AV λq=>i.1 (by simpa using h) (q.2 y u).1);rw[mem x e];exact⟨IT λp=>(by rw[i.2 p]at h;cases h),q⟩
end
end
section
variable{fu:Nat}
theorem W1{w v:Aq} :Ok (du fu (w,v)) λr=>r=Bp↔EF w v<0:=by
 rw[du];refine N1 (λh=>MA ⟨λ_=>?_,λ_=>rfl⟩) λh=>N1 (λk=>MA ?_) λk=>AV ?_;· have e:D4 w.length v.length= -1:=if_pos h;unfold EF;rw[e,if_neg (by decide)];decide
 ·unfold EF;rw[if_pos (BD.2 (by omega))];unfold FC;cases a:Op.bytesLess w v with
  |true=>exact⟨λ_=>by rw[if_pos rfl];decide,λ_=>rfl⟩
  |false=>
   refine⟨λh=>(by cases h),λh=>?_⟩;rw[if_neg (by simp)]at h;split at h<;>exact absurd h (by decide)
 ·have e:D4 w.length v.length=1:=(if_neg h).trans (if_pos (by omega));unfold EF;rw[e,if_neg (by decide)];decide
theorem Z'{a b:Tb}(c:CB a (Av a 0) 14641)(d:CB b (Av b 0) 14641)(na:a≠ [])(nb:b≠ [])(i:∀w,¬(Av a 0 w=Bp/\Av b 0 w=Bp))(p:1000000000000<fu):
  ∃w v,UN fu a=Ac w/\UN fu b=Ac v/\Ok (du fu (w,v)) λr=>r=Bp↔E7 a b<0:=by
 have one:∀ {a:Tb},CB a (Av a 0) 14641->a≠ []->∃w,Lz a=Ac w/\UN fu a=Ac w:=λ{a} h n=>by
  cases e:Lz a with
  |none=>exact absurd (MB h e) n
  |some w=>
   refine⟨w,rf,(Ok.eq ?_)⟩;rw[UN];exact GB (II (n:=14641) h ⟨h.len,λs o=>Aak (h.wf s o).len (by decide)⟩ (by decide) (by omega)) (MA (by rw[e];rfl))
 obtain⟨w,j,k⟩:=one c na;obtain⟨v,l,m⟩:=one d nb;have rfl:OS a b=a:=Qi (q:=14641) (c.congr (funext λu=>by
  rw[c.gL,d.gL];have:=i u;cases f:Av a 0 u<;>cases g:Av b 0 u<;>simp[f,g]at this⊢));have d2:OS b a=b:=Qi (q:=14641) (d.congr (funext λu=>by
  rw[c.gL,d.gL];have:=i u;cases f:Av a 0 u<;>cases g:Av b 0 u<;>simp[f,g]at this⊢));have e:E7 a b=EF w v:=by unfold E7;rw[rfl,d2,j,l];rfl
 rw[e];exact⟨w,v,k,m,W1⟩
theorem XL{d:Nat}{x y:Bk}(a:SW d x)(b:SW d y)(c:d<=3)(h:1000000003000<fu):Ok (Ya fu (x,y)) λr=>r=Bp↔x=y:=by rw[Ya];refine Ou (IB ⟨a.1.1,a.2.1⟩ c (by omega)) λr f=>?_;rw[f.2 ⟨a.1.2,a.2.2⟩];refine VF rfl (Ou (IB ⟨b.1.1,b.2.1⟩ c (by omega)) λs g=>?_);rw[g.2 ⟨b.1.2,b.2.2⟩];refine VF rfl (GB (HK HF a b (by omega)) (MA ?_));rw[decide_eq_true_iff];have k:=HG (R:=Bx d) HH a b;refine⟨k.2,λe=>?_⟩;subst e;have:=k.1;omega
end
section
variable {d : Nat} (hd : d <= 2) (ih : ∀ {fu : Nat} {v : Vl}, SV d v -> 1000000003000 + 20 * d < fu -> Ok (QI fu v) λr => r = Bp ↔ DJ d v)
include hd ih
theorem NG{fu:Nat}{c:BB}(hc:CX d c)(hF:1000000003000+20*d+2<fu):Ok (dq fu c) λr=>r=Bp↔UL (Dt d) c:=by
 obtain⟨f,rfl⟩:∃f,fu=f+1:=⟨fu-1,by omega⟩;rw[show dq (f+1) c=_ from d347 f c];unfold xP;have n1:=hc.bd.nf;have n2:=hc.bd.nc;refine Vi (λk=> ∀x∈c.1.take k,NB x.2.2.1/\Dt d x.2.2) c.1.length (by simp) (by omega) (λk nx b G K=>?_) (λnx G=>?_)
 ·have m:=AN b;have s:=hc.vs _ (AS.2 (.inl (By.2 ⟨_,m,rfl⟩)));refine PS (Aah b (Ou (IM s.1 (by omega)) λr u=>PM (λh=>AV λq=>u.1 h (q.1 _ m).1) λh=>Aah b (Ou (Gy ih s (by omega)) λt V=>PM (λl=>AV λq=>?_) λl=>K λx C=>?_)));· rw[V.2 (q.1 _ m).2]at l;cases l
  ·rcases(Ag b).1 C with C|rfl;· exact G x C
   ·exact⟨IT λnb=>(by rw[u.2 nb]at h;cases h),V.1 (by simpa using l)⟩
 rw[Aau]at G;refine P3 (by omega) ?_;have T:∀k∈c.2,CB k.1 (Av k.1 0) 14641:=λk b=>by have g:=hc.gd.1 k b;have:=Pg b;have:=hc.bd.st;unfold JZ at*;exact⟨g.2.1,g.2.2,rfl,by omega⟩
 have S:∀k∈c.2,SW d k.2:=λk b=>hc.vs _ (AS.2 (.inr (By.2 ⟨k,b,rfl⟩)));refine Vi (λk=>(∀x∈c.2.take k,Dt d x.2)/\(∀i (h:i+1<c.2.length),i+1<k->E7 c.2[i].1 c.2[i+1].1<0)/\∀i j (B:i<c.2.length) (n:j<c.2.length),i<k->j<i->c.2[i].2≠c.2[j].2) c.2.length ⟨by simp,λi h k=>by omega,λi j _ _ h=>by omega⟩ (by omega) (λk nx b A K=>?_) (λnx A=>?_)
 ·have m:=AN b;obtain⟨H,N,O⟩:=A;have inner:Dt d c.2[k].2->(∀i (h:i+1<c.2.length),i+1<k+1->E7 c.2[i].1 c.2[i+1].1<0)->Ok (Ad f (λ(o:Int) y=>
      bif Di (o<(k:Int))then
       Ab (idx c.2 (k:Int)) λP=>
       Ab (idx c.2 o) λQ=>
       Ab (Ya f (P.2,Q.2)) λR=>
       bif R then
        Ac (Aj)
       else
        Aa (Lc.i64) (o+(1:Int))<|
        y ((o+(1:Int)))
      else
       nx (k+1)) ((0:Int))) λr=>r=Bp↔UL (Dt d) c:=λF X=>by
   refine W5 (λz=>(0<=z/\z<=(k:Int))/\∀j (n:j<c.2.length),(j:Int)<z->c.2[k].2≠c.2[j].2) (λz=>((k:Int)-z).toNat) ⟨⟨by omega,by omega⟩,λj _ h=>by omega⟩ (by omega) λz y hI _ L=>?_;obtain⟨⟨z0,z1⟩,W⟩:=hI;refine N1 (λhz=>Aah b (Adu z0 (by omega) (Ou (XL (S _ m) (S _ (AN (by omega:z.toNat<c.2.length))) (by omega) (by omega)) λr u=>PM (λh=>AV λq=>?_) λh=>Aap (L _ ⟨by omega,λj n hjz=>?_⟩ (by omega))))) λhz=>K ⟨λx C=>?_,X,λi j B n D J=>?_⟩;· exact Aaw.1 q.2.2.2 z.toNat k (by omega) b (by omega) (u.1 h).symm
   ·rcases Aem (j:Int) z with q|q;· exact W j n q
    ·obtain rfl:z=(j:Int):=by omega
     intro e;rw[u.2 (by simpa using e)]at h;cases h
   ·rcases(Ag b).1 C with C|rfl;· exact H x C
    ·exact F
   ·rcases Aam i k with q|q;· exact O i j B n q J
    ·obtain rfl:i=k:=by omega
     exact W j n (by omega)
  refine PS (Aah b (Ou (Gy ih (S _ m) (by omega)) λr u=>PM (λh=>AV λq=>?_) λh=>?_));· rw[u.2 (q.2.1 _ m)]at h;cases h
  have F:=u.1 (by simpa using h);refine N1 (λh0=>?_) λh0=>inner F λi B D=>by omega
  obtain⟨p,rfl⟩:∃p,k=p+1:=⟨k-1,by omega⟩;have M:p<c.2.length:=by omega
  have mp:=AN M;have Y:((p+1:Nat):Int)-1=(p:Nat):=by omega
  obtain⟨w,v,Z,ev,hl⟩:=Z' (fu:=f) (T _ mp) (T _ m) (hc.gd.1 _ mp).1 (hc.gd.1 _ m).1 (hc.gd.Ir M b (by omega)) (by omega);refine Abx (by omega) ?_;rw[Y];refine Aah M (GB Z (Aah b (GB ev (Ou hl λs U=>PM (λl=>AV λq=>?_) λl=>inner F λi B D=>?_))));· rw[U.2 (QB q.2.2.1 p b)]at l;cases l
  ·rcases Aam i p with q|q;· exact N i B (by omega)
   ·obtain rfl:i=p:=by omega
    exact U.1 (by simpa using l)
 ·obtain⟨H,N,O⟩:=A;rw[Aau]at H;exact PT (MA ⟨λ_=>⟨G,H,UE λi h=>N i h h,Aaw.2 λi j B n I e=>O j i n B n I e.symm⟩,λ_=>rfl⟩)
end
theorem R7:∀ {d fu:Nat} {v:Vl},d<=3->SV d v->1000000003000+20*d<fu->Ok (QI fu v) λr=>r=Bp↔DJ d v
 |0,_,_,_,h,_=>h.1.elim
 |d+1,fu,v,w,e,u=>by
  obtain⟨f,rfl⟩:∃f,fu=f+1:=⟨fu-1,by omega⟩;have z:∀ {fu:Nat} {v:Vl},SV d v->1000000003000+20*d<fu->Ok (QI fu v) λr=>r=Bp↔DJ d v:=λh u=>R7 (by omega) h u;obtain⟨A,⟨J,_⟩,⟨K,_⟩,_⟩:=id e.1;rw[show QI (f+1) v=_ from d348 f v];unfold xO;have nil:v.any=Bp->v.lists=[]/\v.structs=[]:=λh=>(e.2.1.an h).2;have t:∀ {α:Type} {G:α->Prop} {B:α->α->Prop} {c:α->α->Int},Cs G B c []:=⟨by simp,λi j I=>by simp at I,trivial⟩;have E:DJ (d+1) v->Cs (YH (Dt d)) (WB (Db d)) (DE (Bx d)) v.lists:=λq=>by
   cases h:v.any with
   |true=>rw[(nil h).1];exact t
   |false=>have g:=q h;exact⟨g.ls,g.la,g.lo⟩
  have F:DJ (d+1) v->Cs (UL (Dt d)) (UJ (Db d)) (En (Bx d)) v.structs:=λq=>by
   cases h:v.any with
   |true=>rw[(nil h).2];exact t
   |false=>have g:=q h;exact⟨g.ss,g.sa,g.so⟩
  refine SQ (G:=YH (Dt d)) (B:=WB (Db d)) (c:=DE (Bx d)) (g:=λx=>dr f x) (wr:=λx=>jx f x) (cmp:=λa b=>UO f (a,b)) (le:=λx y=>Tk f (x,y)) (by omega) (by omega) (λx k=>R8 z (e.lx x k) (by omega)) (λx k y l=>⟨nJ x,nJ y,rfl,rfl,?_⟩) (λx k y l=>RK HX (e.lx x k).n1 (e.lx x k).vs (e.lx y l).vs (by omega)) (λm=>?_) λn=>⟨λh=>(by cases h),λq=>absurd (E q) n⟩;· rw[JJ (L2 (e.lx x k)) (L2 (e.lx y l)) w (by omega),Wd]
  refine SQ (G:=UL (Dt d)) (B:=UJ (Db d)) (c:=En (Bx d)) (g:=λx=>dq f x) (wr:=λx=>jm f x) (cmp:=λa b=>UO f (a,b)) (le:=λx y=>Tj f (x,y)) (by omega) (by omega) (λx k=>NG (by omega) z (e.cx x k) (by omega)) (λx k y l=>⟨nI x,nI y,rfl,rfl,?_⟩) (λx k y l=>L4 HX (e.cx x k).bd (e.cx y l).bd (e.cx x k).gd (e.cx y l).gd (e.cx x k).vs (e.cx y l).vs (by omega)) (λo=>?_) λn=>⟨λh=>(by cases h),λq=>absurd (F q) n⟩;· rw[JJ (L1 (e.cx x k)) (L1 (e.cx y l)) w (by omega),Wc]
  refine Ou (XK (Dw A e.2.1.sc) (by decide) (by decide) (by omega)) λr p=>MA ⟨λh H=>⟨m.1,o.1,m.2.1,m.2.2,o.2.1,o.2.2,λq=>?_⟩,λq=>?_⟩;· rw[p.2 ⟨H,q⟩]at h;cases h
  ·cases r with
   |false=>rfl
   |true=>exact absurd (p.1 rfl).2 (q (p.1 rfl).1).ev
open Classical in
noncomputable def kL(v:Bk):Vl:=if NB v.2 then v.2 else v.1
open Classical in
noncomputable def alt(D:Vl):Nat:=D.lists.length+D.structs.length+if D.sc=Fu then 0 else 1
open Classical in
noncomputable def err(d:Nat)(v:Bk)(n:Nat):Int:=if¬rS d v then 11 else if¬NB v.1 then 12 else if(kL v).any=Bp\/0<n/\1<alt (kL v)then 14 else if n=0 then 11 else 0
noncomputable def nS(d:Nat)(v:Bk):BB×Int:=if err d v (kL v).structs.length=0 then((kL v).structs.headD ([],[]),0)else(([],[]),err d v (kL v).structs.length)
noncomputable def YX(d:Nat)(v:Bk):HM×Int:=if err d v (kL v).lists.length=0 then((kL v).lists.headD ([],[]),0)else(([],[]),err d v (kL v).lists.length)
noncomputable def sel(d:Nat)(v:Bk)(s:Aq):Bk×Int:=if(nS d v).2=0 then match(nS d v).1.1.find? (λf=>Di (f.1=s))with
 |some f=>(f.2.2,0)
 |none=>((v0,v0),13)else((v0,v0),(nS d v).2)
noncomputable def ind(d:Nat)(v:Bk)(i:Int):Bk×Int:=if(YX d v).2=0 then if i<0 then((v0,v0),1)else if h:i.toNat<(YX d v).1.1.length then((YX d v).1.1[i.toNat],0)else if 0<(YX d v).1.2.length then((v0,v0),14)else((v0,v0),13)else((v0,v0),(YX d v).2)
section
variable {d : Nat} (hd : d <= 3) {v : Bk} {fu : Nat} (hx : Nu d v) (hF : 1000000005000 < fu)
include hd hx hF
end
def w9(s:Aq×Int):Prop:=(s.1≠ []->s.2=0)/\(s.1=[]->0<=s.2/\s.2<=1000000)
open Classical in
noncomputable def one(d:Nat)(v:Bk)(s:Aq×Int):Bk×Int:=if¬w9 s then((v0,v0),1)else if s.1≠ []then sel d v s.1 else ind d v s.2
section
variable {d : Nat} (hd : d <= 3) {v : Bk} {fu : Nat} (hx : Nu d v) (hF : 1000000005000 < fu)
include hd hx hF
end
section
variable{fu:Nat}
def LN(fu:Nat):Nat->Vl->Prop
 |0,_=>True
 |d+1,v=>((∀s∈v.sc.2.2.2.1.1,Em s)/\∀s∈v.sc.2.2.2.1.2,Em s)/\(NU v.sc.2.2.2.2/\v.sc.2.2.2.2.length<fu)/\(∀c∈v.structs,∀k∈c.2,NU k.1/\k.1.length<fu)/\∀x∈kids v,LN fu d x.1/\LN fu d x.2
theorem VI{l:Tb}(h:l.length<fu):Ok (F0 fu l) λr=>r=Bp->l.length<=8/\∀s∈l,s.2.length<=12:=by
 refine Vi (λk=> ∀s∈l.take k,s.2.length<=12) l.length (by simp) h (λk nx d b e=>?_) (λnx b=>?_)
 ·refine PS (Aah d (N1 (λ_=>MA λh=>by grind) λh=>e λs c=>?_));rcases(Ag d).1 c with c|rfl;all_goals grind
 ·rw[Al]at b;exact PT (MA λh=>⟨by grind,b⟩)
theorem TJ{s:Sc}(h1:(∀t∈s.2.2.2.1.1,Em t)/\∀t∈s.2.2.2.1.2,Em t)(h2:NU s.2.2.2.2/\s.2.2.2.2.length<fu):Ok (F1 fu s) λr=>r=Bp->c9 5 12 s:=by
 have no:Ok (Ac Aj) λr=>r=Bp->c9 5 12 s:=MA λh=>by grind
 rw[F1];refine N1 (λa=>N1 (λb=>Ou (VI h2.2) λr d=>MA λh=>?_) λ_=>no) λ_=>no;have:=d h;exact⟨⟨h1.1,h1.2,by omega,by omega⟩,by omega,by omega,h2.1,by omega,this.2⟩
def mB:Nat->Nat
 |0=>61
 |d+1=>1+6*(60+2*mB d)
theorem mI:∀ {d:Nat},d<=3->61<=mB d/\mB d<=1000000
 |0,_=>by decide
 |1,_=>by decide
 |2,_=>by decide
 |3,_=>by decide
 |n+4,h=>by omega
end
section
variable {d : Nat} (hd : d <= 3) (ih : ∀ {fu gu : Nat} {v : Vl} {m : Int}, LN gu d v -> gu + 10 * d <= fu -> 1000000000000 + 10 * d < fu -> (0 <= m /\ m <= 60) -> Ok (F3 fu (v, (d : Int), m)) λr => (1 <= r /\ r <= mB d) /\ (r <= m -> Bd d v))
include hd ih
theorem ND{fu gu:Nat}{l:List Bk}{m:Int}(h:∀x∈l,LN gu d x.1/\LN gu d x.2)(H:gu+10*d+1<=fu)(G:1000000000000+10*d+1<fu)(I:l.length<=1000)(J: -100000000<=m/\m<=60):
  Ok (F2 fu (l,(d:Int),m)) λr=>(0<=r/\r<=60+2*mB d)/\(r<=m->∀x∈l,Nu d x):=by
 have F:=mI (d:=d) (by omega);obtain⟨f,rfl⟩:∃f,fu=f+1:=⟨fu-1,by omega⟩;rw[show F2 (f+1) (l,(d:Int),m)=_ from d2 f l d m];unfold D2;refine Sb (λk (n:Int)=>(0<=n/\n<=60+2*mB d)/\(n<=m->∀x∈l.take k,Nu d x)) l.length ⟨⟨by simp,by omega⟩,λ_=>by simp⟩ (by omega) (λk n nx g j q=>?_) (λn nx j=>?_)
 ·obtain⟨⟨o,z⟩,i⟩:=j;have s:=h _ (AN g);refine PS (N1 (λc=>?_) λc=>MA ⟨⟨o,z⟩,λb=>absurd b c⟩);refine Aah g (Aap (Ou (ih (m:=m-n) s.1 (by omega) (by omega) (by omega)) λp w=>?_));obtain⟨⟨B,C⟩,t⟩:=w;refine Aap (N1 (λb=>?_) λb=>q _ ⟨⟨by omega,by omega⟩,λe=>absurd e b⟩);refine Aah g (Aap (Ou (ih (m:=m-(n+p)) s.2 (by omega) (by omega) (by omega)) λA y=>?_));obtain⟨⟨D,E⟩,u⟩:=y;refine Aap (q _ ⟨⟨by omega,by omega⟩,λe x a=>?_⟩);rcases(Ag g).1 a with a|rfl;· exact i c x a
  ·exact⟨t (by omega),u (by omega)⟩
 ·obtain⟨o,i⟩:=j;rw[Al]at i;exact PT (MA ⟨o,i⟩)
end
section
variable{gu d:Nat}{v:Vl}
theorem LN.lv(h:LN gu (d+1) v){c:HM}(hc:c∈v.lists):∀x∈AY c,LN gu d x.1/\LN gu d x.2:=λx a=>
 h.2.2.2 x (AS.2 (.inl (Aad.2 ⟨c,hc,a⟩)))
theorem LN.sv(h:LN gu (d+1) v){c:BB}(hc:c∈v.structs):∀x∈Bq c,LN gu d x.1/\LN gu d x.2:=λx a=>
 h.2.2.2 x (AS.2 (.inr (Aad.2 ⟨c,hc,a⟩)))
theorem My:∀ {d fu gu:Nat} {v:Vl} {m:Int},d<=3->LN gu d v->gu+10*d<=fu->1000000000000+10*d<fu->(0<=m/\m<=60)->Ok (F3 fu (v,(d:Int),m)) λr=>(1<=r/\r<=mB d)/\(r<=m->Bd d v)
 |0,fu,gu,v,m,_,_,_,O,S=>by obtain⟨f,rfl⟩:∃f,fu=f+1:=⟨fu-1,by omega⟩;rw[show F3 (f+1) (v,((0:Nat):Int),m)=_ from d3 f v _ m];unfold D3;exact Tz (by simp) (Aap (MA ⟨⟨by omega,by have:mB 0=61:=rfl;omega⟩,λh=>by omega⟩))
 |d+1,fu,gu,v,m,hd,h,hg,O,S=>by
  obtain⟨f,rfl⟩:∃f,fu=f+1:=⟨fu-1,by omega⟩;have ih:∀ {fu gu:Nat} {v:Vl} {m:Int},LN gu d v->gu+10*d<=fu->1000000000000+10*d<fu->(0<=m/\m<=60)->Ok (F3 fu (v,(d:Int),m)) λr=>(1<=r/\r<=mB d)/\(r<=m->Bd d v):=λh hg O S=>My (by omega) h hg O S;have all:∀ {l:List Bk} {q:Int},(∀x∈l,LN gu d x.1/\LN gu d x.2)->l.length<=1000-> -100000000<=q/\q<=60->Ok (F2 f (l,((d+1:Nat):Int)-1,q)) λr=>(0<=r/\r<=60+2*mB d)/\(r<=q->∀x∈l,Nu d x):=λu hl F=>by rw[show((d+1:Nat):Int)-1=(d:Int) by omega];exact ND (by omega) ih u (by omega) (by omega) hl F
  have hB:=mI (d:=d) (by omega);have hB1:mB (d+1)=1+6*(60+2*mB d):=rfl;rw[show F3 (f+1) (v,((d+1:Nat):Int),m)=_ from d3 f v _ m];unfold D3;have j:Ok (Aa Lc.i64 (m+1) (Ac (m+1))) λr=>(1<=r/\r<=mB (d+1))/\(r<=m->Bd (d+1) v):=Aap (MA ⟨⟨by omega,by omega⟩,λh=>by omega⟩);refine PT (N1 (λ_=>j) λhm1=>Ou (TJ h.1 ⟨h.2.1.1,by have:=h.2.1.2;omega⟩) λr1 W=>PM (λ_=>j) λh1=>N1 (λ_=>j) λh2=>N1 (λ_=>j) λG=>?_);have sc:=W (by simpa using h1);refine Sb (λk (n:Int)=>(1<=n/\n<=1+k*(60+2*mB d))/\(n<=m->∀c∈v.lists.take k,(c.1.length<=3/\c.2.length<=2)/\∀x∈AY c,Nu d x)) v.lists.length ⟨⟨by simp,by omega⟩,λ_=>by simp⟩ (by omega) (λk n nx A B T=>?_) (λn nx B=>?_)
  ·obtain⟨⟨j1,j2⟩,J⟩:=B;have hc:=h.lv (AN A);have Q:(k:Int)*(60+2*mB d)<=3*(60+2*mB d):=Aeh (by omega) (by omega);refine PS (Aah A (N1 (λ_=>j) λK=>Aah A (N1 (λ_=>j) λL=>Aah A ?_)));dsimp only at K L⊢;refine Abt (Aah A (Pv (by rw[Acd];omega) (Aap (Abx (by omega) ?_))));refine Ou (all (l:=v.lists[k].1++v.lists[k].2) (q:=m-n) hc (by rw[Aac];omega) (by omega)) λr8 h8=>Abx (by omega) (T _ ⟨⟨by omega,?_⟩,λG c p=>?_⟩)
   ·have:((k+1:Nat):Int)*(60+2*mB d)=k*(60+2*mB d)+(60+2*mB d):=by rw[Int.natCast_add,Int.add_mul];omega
    omega
   ·rcases(Ag A).1 p with p|rfl;· exact J (by omega) c p
    ·exact⟨⟨by omega,by omega⟩,h8.2 (by omega)⟩
  obtain⟨⟨j1,j2⟩,J⟩:=B;rw[Al]at J;have Q:(v.lists.length:Int)*(60+2*mB d)<=3*(60+2*mB d):=Aeh (by omega) (by omega);refine P3 (by omega) ?_;refine Sb (λk (q:Int)=>(1<=q/\q<=1+3*(60+2*mB d)+k*(60+2*mB d))/\(q<=m->n<=m/\∀c∈v.structs.take k,NM c/\∀x∈Bq c,Nu d x)) v.structs.length ⟨⟨j1,by omega⟩,λh=>⟨h,by simp⟩⟩ (by omega) (λk q nx A B T=>?_) (λq nx B=>?_)
  ·obtain⟨⟨i1,i2⟩,I⟩:=B;have E:=AN A;have hc:=h.sv E;have D:=h.2.2.1 _ E;have R:(k:Int)*(60+2*mB d)<=3*(60+2*mB d):=Aeh (by omega) (by omega);refine PS (N1 (λF=>?_) λF=>MA ⟨⟨by dsimp only;omega,by dsimp only;omega⟩,λh=>absurd h F⟩);refine Aah A ?_;have go:(NM v.structs[k])->(∀w:Int,(0<=w/\w<=60+2*mB d)/\(w<=m-q->∀x∈Bq v.structs[k],Nu d x)->Ok (nx (q+w,k+1)) λr=>(1<=r/\r<=mB (d+1))/\(r<=m->Bd (d+1) v)):=λP w hw=>by
    refine T _ ⟨⟨by(try dsimp only);omega,?_⟩,λG=>?_⟩
    ·have:((k+1:Nat):Int)*(60+2*mB d)=k*(60+2*mB d)+(60+2*mB d):=by rw[Int.natCast_add,Int.add_mul];omega
     (try dsimp only);omega
    ·have G:q+w<=m:=G;obtain⟨a1,a2⟩:=I (by omega);refine⟨a1,λc p=>?_⟩;rcases(Ag A).1 p with p|rfl;· exact a2 c p
     ·exact⟨P,hw.2 (by omega)⟩
   generalize v.structs[k]=c at E hc D go;refine N1 (λ_=>j) λK=>N1 (λ_=>j) λL=>?_;refine Sb (λi (s:List Bk)=>s=(c.1.take i).map (·.2.2)/\∀g∈c.1.take i,g.1.length<=60) c.1.length ⟨rfl,by simp⟩ (by omega) (λi s X z C U=>?_) (λs X C=>?_)
   ·refine PS (Aah z (N1 (λ_=>j) λk3=>Aah z (Pv (by dsimp only;rw[C.1,Aao,Abg];omega) (U _ ⟨by dsimp only;rw[C.1,IN z,Aan];rfl,λg b=>?_⟩))));rcases(Ag z).1 b with b|rfl;· exact C.2 g b
    ·have k3:¬(60:Int)<(c.1[i]).1.length:=k3;omega
   rw[Al]at C;refine P3 (by dsimp only;omega) ?_;refine Sb (λi (s:List Bk)=>s=c.1.map (·.2.2)++(c.2.take i).map (·.2)/\∀g∈c.2.take i,g.1.length<=8/\∀t∈g.1,t.2.length<=12) c.2.length ⟨by rw[C.1];simp,by simp⟩ (by omega) (λi s Y z o V=>?_) (λs Y o=>?_)
   ·have H:=D _ (AN z);refine PS (Aah z (Ou (VI (Abr H.2 (by omega))) λr19 M=>PM (λ_=>j) λk4=>Aah z (Pv (by dsimp only;rw[o.1,Aac,Aao,Aao,Abg];omega) (V _ ⟨by dsimp only;rw[o.1,IN z,Aan,<-Aaj];rfl,λg b=>?_⟩))));rcases(Ag z).1 b with b|rfl;· exact o.2 g b
    ·exact M (by simpa using k4)
   rw[Al]at o;have e:s=Bq c:=o.1;have P:NM c:=⟨by omega,by omega,C.2,?_,λg b=>(D g b).1,λg b t ht=>Aak ((o.2 g b).2 t ht) (by decide)⟩;· refine PT (Aap (Abx (by omega) ?_));dsimp only;rw[e];refine Ou (all (l:=Bq c) (q:=m-q) hc (by unfold Bq;rw[Aac,Aao,Aao];omega) (by omega)) λZ N=>Aap (go P Z N)
   ·refine Aak (TT (g:=λ_=>11) λg b=>by have:=(o.2 g b).1;omega) ?_;rw[Oa];exact Aak (Aha (by decide) (by omega:c.2.length<=4)) (by decide)
  ·obtain⟨⟨i1,i2⟩,I⟩:=B;rw[Al]at I;refine PT (MA ⟨⟨i1,?_⟩,λF=>?_⟩);· have R:(v.structs.length:Int)*(60+2*mB d)<=3*(60+2*mB d):=Aeh (by omega) (by omega);dsimp only;omega
   ·obtain⟨h4,h5⟩:=I F;have h6:=J h4;refine⟨sc,⟨by omega,λc hc=>(h6 c hc).1⟩,⟨by omega,λc hc=>(h5 c hc).1⟩,λx u=>?_⟩;rcases AS.1 u with u|u;· obtain⟨c,hc,u⟩:=Aad.1 u;exact(h6 c hc).2 x u
    ·obtain⟨c,hc,u⟩:=Aad.1 u;exact(h5 c hc).2 x u
end
section
variable {v : Bk} {fu gu : Nat} (hx : jN fu () = Ac Bp) (h : LN gu 3 v.1 /\ LN gu 3 v.2) (hg : gu + 100 <= fu) (hF : 1000000010000 < fu)
include hx h hg hF
end
section
variable{fu:Nat}{v:Vl}{B:List Bool}{a:Bool}{d gu:Nat}
def W7:List Aq:=[([110,117,108,108]:List UInt8),([98,111,111,108]:List UInt8),([105,110,116]:List UInt8),([110,117,109,98,101,114]:List UInt8),([115,116,114,105,110,103]:List UInt8),([108,105,115,116]:List UInt8),([115,116,114,117,99,116]:List UInt8)]
def bits(v:Vl):List Bool:=[v.sc.1,v.sc.2.1||v.sc.2.2.1,Di ((0:Int)<v.sc.2.2.2.1.1.length),Di ((0:Int)<v.sc.2.2.2.1.2.length),Di ((0:Int)<v.sc.2.2.2.2.length),Di ((0:Int)<v.lists.length),Di ((0:Int)<v.structs.length)]
def Jh(B:List Bool)(a:Bool)(k:Nat):List Aq:=((av k).filter λi=>B.getD i Aj||a).map λi=>W7.getD i []
theorem Mq(B:List Bool)(a:Bool)(k:Nat):(Jh B a k).length<=k:=by unfold Jh;rw[Aao];exact Aak (Agx ..) (by rw[Aga];exact Aae _)
theorem Ob{k:Nat} :Jh B a (k+1)=Jh B a k++if(B.getD k Aj||a)=Bp then [W7.getD k []]else []:=by
 unfold Jh;rw[Adz,Aey,Aan];congr 1;by_cases h:(B.getD k Aj||a)=Bp;· rw[if_pos h,Agi (by exact h)];rfl
 ·rw[if_neg h,Agj (by exact h)];rfl
theorem Oz(u:B.length=7)(v:100<fu):Ok (Ad fu (λ(b:List (List UInt8)×Nat) c=>
   bif Di ((↑b.2:Int)<(↑(7):Int))then
    Ab (idx B (↑b.2:Int)) λo=>
    bif o then
     Ab (idx W7 (↑b.2:Int)) λp=>
     Af (Fw b.1+1<=Ah)<|
     c (((b.1++[p]),b.2+1))
    else
     bif a then
      Ab (idx W7 (↑b.2:Int)) λq=>
      Af (Fw b.1+1<=Ah)<|
      c (((b.1++[q]),b.2+1))
     else
      c ((b.1,b.2+1))
   else
    Ac (b.1)) (([],0))) λr=>r=Jh B a 7:=by
 have t:=Ez;refine Sb (λk s=>s=Jh B a k) 7 rfl (by omega) (λk s nx n f g=>?_) (λs nx f=>PT (MA f));have w:=Mq B a k;have j:k<B.length:=by omega
 have i:k<W7.length:=n;have l:B.getD k Aj=B[k]:=by rw[Pe,BY j];rfl
 have m:W7.getD k []=W7[k]:=by rw[Pe,BY i];rfl
 have d:Jh B a (k+1)=Jh B a k++if(B[k]||a)=Bp then [W7[k]]else []:=by rw[Ob,l,m]
 subst f;refine PS (Aah j (PM (λh=>Aah i (Abt (g _ ?_))) λh=>PM (λe=>Aah i (Abt (g _ ?_))) λe=>g _ ?_));· rw[d,h];rfl
 ·rw[d,h,e];rfl
 ·rw[d,h,e];simp
theorem Xq(p:100<fu):Ok (Ad fu (λ(a:List (List UInt8)×Nat) b=>
   bif Di ((↑a.2:Int)<(↑(7):Int))then
    Ab (idx W7 (↑a.2:Int)) λi=>
    bif Vl.any v then
     Af (Fw a.1+1<=Ah)<|
     b (((a.1++[i]),a.2+1))
    else
     Ab (dO fu (v,i)) λn=>
     bif n then
      Af (Fw a.1+1<=Ah)<|
      b (((a.1++[i]),a.2+1))
     else
      b ((a.1,a.2+1))
   else
    Ac (a.1)) (([],0))) λr=>r=Jh (bits v) v.any 7:=by
 have o:=Ez;have word:∀k,(h:k<7)->dO fu (v,W7[k]'h)=Ac ((bits v).getD k Aj):=λk h=>by
  rw[dO];match k,h with
  |0,_=>rfl
  |1,_=>show cond v.sc.2.1 (Ac Bp) (Ac v.sc.2.2.1)=Ac (v.sc.2.1||v.sc.2.2.1);cases v.sc.2.1<;>rfl
  |2,_=>rfl
  |3,_=>rfl
  |4,_=>rfl
  |5,_=>rfl
  |6,_=>rfl
 refine Sb (λk s=>s=Jh (bits v) v.any k) 7 rf (by omega) (λk s nx j f g=>?_) (λs nx f=>PT (MA f));have q:=Mq (bits v) v.any k;have l:k<W7.length:=j;have m:W7.getD k []=W7[k]:=by rw[Pe,BY l];rfl
 have d:Jh (bits v) v.any (k+1)=Jh (bits v) v.any k++if((bits v).getD k Aj||v.any)=Bp then [W7[k]]else []:=by rw[Ob,m]
 subst f;refine PS (Aah l (PM (λh=>Abt (g _ ?_)) λh=>GB (word k j) (PM (λe=>Abt (g _ ?_)) λe=>g _ ?_)));· rw[d,h,Bool.or_true];rfl
 ·rw[d,e,Aiw];rfl
 ·rw[d,h,e];simp
theorem Zj{l:List Aq}(b:l.length<fu):dN fu (l,l)=Ac Bp:=by refine(Ok.eq ?_);rw[dN];refine P3 (by simp) (Vi (λ_=>True) l.length trivial b (λk nx a _ c=>?_) λnx _=>PT (MA rf));exact PS (Aah a (Aah a (PW (by simp) (c trivial))))
theorem u_(v:Vl):Db (d+1) v0 v:= .inr ⟨rfl,⟨λh=>(by cases h),λh=>(by cases h),λh=>(by cases h),λn h=>(by simp[v0,Fu,Vl.sc,A8,A0]at h),λn h=>(by simp[v0,Fu,Vl.sc,A6,A0]at h),λw h=>by have:Av [] 0 w=Bp:=h;rw[Dz]at this;cases this⟩,λc h=>(by cases h),λc h=>by cases h⟩
theorem eN:DJ (d+1) v0:=λ_=>⟨λc h=>(by cases h),λc h=>(by cases h),λi j a=>absurd a (Nat.not_lt_zero _),trivial,λi j a=>absurd a (Nat.not_lt_zero _),trivial,λh=>by obtain⟨h,_⟩:=h;cases congrArg Prod.fst h⟩
theorem Xz(h:Bd 3 v)(i:1000000010000<fu):∃b,jO fu v=Ac b/\jj fu v=Ac b:=by
 have a:Nu 3 (v,v0):=⟨h,(KN 2).1⟩;obtain⟨b,e,f⟩:=WO (fu:=fu) a (by decide) (by omega);refine⟨b,?_,?_⟩;· refine(Ok.eq ?_);rw[jO];exact GB e (MA rfl)
 ·refine(Ok.eq ?_);rw[jj];refine Ou (IB (x:=(v,v0)) a (by decide) (by omega)) λr c=>PM (λq=>?_) λq=>MA ?_
  ·have s:=c.1 q;refine Ou (R7 (d:=3) (by decide) ⟨h,s.1⟩ (by omega)) λt g=>MA ?_;have:b=Bp↔t=Bp:=by
    rw[g,f];exact⟨λk=>k.2.1.1,λk=>⟨⟨⟨h,s.1⟩,a.2,s.2⟩,⟨k,eN⟩,u_ v⟩⟩
   cases b<;>cases t<;>simp_all
  ·cases b with
   |false=>rfl
   |true=>
    have k:=(f.1 rfl).1;rw[c.2 ⟨k.1.2,k.2.2⟩]at q;cases q
theorem W0(h:LN gu 3 v)(c:gu+100<=fu)(b:1000000010000<fu):Ok (F4 fu v) λr=>r=Bp->Bd 3 v:=by rw[F4];exact Ou (My (d:=3) (m:=60) (by decide) h (by omega) (by omega) (by decide)) λr a=>MA λh=>a.2 (of_decide_eq_true h)
theorem aF(i:jN fu () =Ac Bp)(h:LN gu 3 v)(j:gu+100<=fu)(g:1000000010000<fu):ji fu v=Ac Bp:=by
 refine(
     Ok.eq ?_);rw[ji];refine Ou (W0 h j g) λr k=>PM (λ_=>GB i (MA rfl)) λq=>?_;obtain⟨b,e,f⟩:=Xz (k (by simpa using q)) g;have:∃l:List Aq,l.length<100/\UR fu v=Ac l/\dp fu v=Ac l:=by
  cases b with
  |false=>
   refine⟨[],by decide,(Ok.eq ?_),(Ok.eq ?_)⟩;· rw[UR];exact GB e (VF rf (MA rf))
   ·rw[dp];exact GB f (VF rfl (MA rfl))
  |true=>
   refine⟨Jh (bits v) v.any 7,by have:=Mq (bits v) v.any 7;omega,(Ok.eq ?_),(Ok.eq ?_)⟩;· rw[UR];exact GB e (PW rf (Xq (by omega)))
   ·rw[dp];refine GB f (PW rfl (PM (λd=>?_) λd=>?_))
    ·have c:bits v=[v.sc.1,Bp,Di ((0:Int)<v.sc.2.2.2.1.1.length),Di ((0:Int)<v.sc.2.2.2.1.2.length),Di ((0:Int)<v.sc.2.2.2.2.length),Di ((0:Int)<v.lists.length),Di ((0:Int)<v.structs.length)]:=by unfold bits;rw[d];rfl
     rw[c];exact Oz rfl (by omega)
    ·have c:bits v=[v.sc.1,v.sc.2.2.1,Di ((0:Int)<v.sc.2.2.2.1.1.length),Di ((0:Int)<v.sc.2.2.2.1.2.length),Di ((0:Int)<v.sc.2.2.2.2.length),Di ((0:Int)<v.lists.length),Di ((0:Int)<v.structs.length)]:=by unfold bits;rw[d];rfl
     rw[c];exact Oz rfl (by omega)
 obtain⟨l,o,m,n⟩:=this;exact GB m (GB n (GB (Zj (by omega)) (VF rfl (GB i (MA rfl)))))
end
section
variable {v : Bk} {s : Aq} {fu : Nat} (bx : Nu 3 v) (hs : s.length <= 1000) (hF : 1000000005000 < fu)
include bx hs hF
end
end Go.GL
namespace Go.GV
open Go Go.GK Go.RowKit Go.Deep
section
variable {H : Type} {enc : Gj × BZ -> H} {P : GG} {w : IG} {base : Nat} {spare : Nat -> Bool} {held : Bool} {α β : Type}
section
variable{N:Nat}{t:Gj}{c:Cd α}{q:α->Prop}{off:Nat}{f:Field}{fs:Array Field}
def GZ(enc:Gj×BZ->H)(P:GG)(w:IG)(base:Nat)(spare:Nat->Bool)(held:Bool)(N:Nat)(c:Cd α)(q:α->Prop)(t:Gj):Prop:= ∀n,n<N->∀cs y,cs.length=c.sz->DataW.trod enc P w base spare held n t cs=Ac y->∃a,c.BP (Hp.of w) a cs/\q a
theorem GZ.le{M:Nat}(h:GZ enc P w base spare held N c q t)(e:M<=N):GZ enc P w base spare held M c q t:=
 λn f a y b d=>h n (by omega) a y b d
theorem GZ.imp{b:α->Prop}(h:GZ enc P w base spare held N c q t)(k:∀a,q a->b a):GZ enc P w base spare held N c b t:=
 λn i d y g j=>by obtain⟨a,e,f⟩:=h n i d y g j;grind
theorem GZ.i64(ht:P.underlying t=Ac (.int .i64)):GZ enc P w base spare held N q_ GK.DS t:=λn _ d y _ c=>by
 obtain⟨m,a,_,b⟩:=DataW.trod_int ht c;have e: -9223372036854775808<=m/\m<=9223372036854775807:=by grind[Lit.wf,Lc.min,Lc.max,Lc.signed,Lc.bits]
 exact⟨m,a,by omega⟩
theorem GZ.u8(ht:P.underlying t=Ac (.int .u8)):GZ enc P w base spare held N cU8 (λm=>0<=m/\m<=255) t:=λn _ e y _ d=>by
 obtain⟨m,b,_,c⟩:=DataW.trod_int ht d;have a:0<=m/\m<=255:=by grind[Lit.wf,Lc.min,Lc.max,Lc.signed,Lc.bits]
 exact⟨m,⟨b,a⟩,a⟩
theorem GZ.b(ht:P.underlying t=Ac .bool):GZ enc P w base spare held N cB (λ_=>True) t:=λn _ d y _ c=>by obtain⟨b,a,_⟩:=DataW.trod_bool ht c;exact⟨b,a,trivial⟩
theorem GZ.s(ht:P.underlying t=Ac .string):GZ enc P w base spare held N cS (λ_=>True) t:=λn _ c y _ b=>by obtain⟨s,a,_⟩:=DataW.trod_string ht b;exact⟨s.data.toList,a,trivial⟩
theorem GZ.sl{e:Gj}(ht:P.underlying t=Ac (.slice e))(G:P.cellsOf e=c.sz)(h:GZ enc P w base spare held N c q e):GZ enc P w base spare held (N+1) (cL c) (λl=> ∀x∈l,q x) t:=λn hn X y _ R=>by
 have A:∃v,X=[v]/\∃l:List α,GY c (Hp.of w) l v/\∀x∈l,q x:=by
  rcases DataW.trod_slice ht R with⟨E,_⟩|⟨a,len,cap,f,W,n',hfu,E,_,hb,hl,hm,V,K,_,_⟩;· exact⟨_,E,[],GY.nil,by simp⟩
  ·obtain⟨l,z,C⟩:=K8 (Q:=λi (b:α×List BZ)=>(c.BP (Hp.of w) b.1 b.2/\q b.1)/\∀j u,b.2[j]?=Ac u->w.cell? (a.add (i*c.sz+j))=Ac u) len λi r=>by
    have J:=K i r;rw[show f[i]?=Ac f[i] by simp]at J;simp only[Agg]at J;obtain⟨s,I,O⟩:=J;obtain⟨hbl,d,g⟩:=IG.cells?_some I;rw[G]at d;obtain⟨b,Z⟩:=h n' (by omega) s _ d O;refine⟨(b,s),Z,λj u T=>?_⟩;grind[List.getElem?_eq_some_iff,C6]
   have F:∀x∈l,c.BP (Hp.of w) x.1 x.2/\q x.1:=λx p=>by obtain⟨i,r,rfl⟩:=Aas p;exact(C i _ (BY r)).1
   have o:∀x∈l,x.2.length=c.sz:=λx p=>c.len (F x p).1;refine⟨_,E,l.map (·.1),⟨⟨l.flatMap (·.2),⟨by grind[Kq], .inr ⟨a,cap,by rw[Aao,z],by rw[Aao,z];exact hl⟩,λk u U=>?_⟩,WC λx p=>(F x p).1⟩,by rw[Aao,z];unfold maxLen at hm;omega⟩,λx p=>?_⟩
   ·have m:k<l.length*c.sz:=by rw[<-Kq o];exact(IS.1 U).1
    have M:0<c.sz:=Nat.pos_of_ne_zero λh=>by rw[h]at m;simp at m
    have r:k/c.sz<l.length:=Nat.div_lt_of_lt_mul (by rw[Ada];exact m);have B:k=k/c.sz*c.sz+k %c.sz:=by rw[Ada];exact(Agu k c.sz).symm
    have S:=ON o (k/c.sz) (k %c.sz) l[k/c.sz] (BY r) (Nat.mod_lt _ M);rw[<-B,U]at S;have:=(C (k/c.sz) l[k/c.sz] (BY r)).2 (k %c.sz) u S.symm;rw[<-B]at this;exact Ajw this
   grind
 obtain⟨v,z,l,C,Y⟩:=A;exact⟨l,⟨v,z,C⟩,Y⟩
def eE(enc:Gj×BZ->H)(P:GG)(w:IG)(base:Nat)(spare:Nat->Bool)(held:Bool)(N:Nat)(c:Cd α)(q:α->Prop)(off:Nat)(fs:List Field):Prop:= ∀n,n<N->∀cs:List BZ,(∀f∈fs,∃y,DataW.trod enc P w base spare held n f.type ((cs.drop f.offset).take (P.cellsOf f.type))=Ac y)->off+c.sz<=cs.length->∃a,c.BP (Hp.of w) a ((cs.drop off).take c.sz)/\q a
theorem eE.one(h:GZ enc P w base spare held N c q f.type)(b:P.cellsOf f.type=c.sz)(g:f.offset=off):eE enc P w base spare held N c q off [f]:=λn e i d j=>by obtain⟨y,a⟩:=d f (by simp);rw[b,g]at a;exact h n e _ y (by grind) a
theorem eE.cons{d:Cd β}{m:β->Prop}{fs:List Field}(h:GZ enc P w base spare held N c q f.type)(s:P.cellsOf f.type=c.sz)(t:f.offset=off)(u:eE enc P w base spare held N d m (off+c.sz) fs):
  eE enc P w base spare held N (cP c d) (λx=>q x.1/\m x.2) off (f::fs):=λn l e j k=>by
 have k:off+(c.sz+d.sz)<=e.length:=k;obtain⟨a,p,v⟩:=eE.one h s t n l e (λg i=>j g (by grind)) (by omega);obtain⟨b,r,y⟩:=u n l e (λg i=>j g (by grind)) (by omega);refine⟨(a,b),⟨_,_,?_,p,r⟩,v,y⟩;show(e.drop off).take (c.sz+d.sz)=_;rw[List.take_add,Ade]
theorem GZ.st(ht:P.underlying t=Ac (.struct fs))(h:eE enc P w base spare held N c q 0 fs.toList):GZ enc P w base spare held (N+1) c q t:=λn x l y v r=>by
 obtain⟨k,s,o,_,j,d,p⟩:=DataW.trod_struct ht r;obtain⟨a,e,u⟩:=h s (by omega) l (λf m=>by obtain⟨i,g,rfl⟩:=Aas m;have:=p i fs.toList[i] (by simp);grind) (by omega);grind
theorem GZ.wZ{r:Reach}{b:Nat}{v:BZ}{d:DataW H}{p:List MemPlace}(ht:P.underlying t=Ac (.struct fs))(e:P.cellsOf t=c.sz)(h:∀N,GZ enc P w base spare held N c q t)
  (k:BZ.okWide P w r b t v) (f:DataW.Trod enc P w base spare held t v d p):∃cs:Array BZ,∃l,v= .agg cs/\c.BP (Hp.of w) l cs.toList/\q l:=by
 obtain⟨cs,rfl,j⟩:=Go.WideShapes.okWide_struct ht k;obtain⟨a,g⟩:=f;obtain⟨l,i⟩:=h (a+1) a (by omega) cs.toList _ (by grind) g;grind
end
end
def eG(q:Vl->Prop):(t:Ty)->(t.den λ_=>Vl)->Prop
 | .int .i64,n=>GK.DS n
 | .int .u8,n=>(0:Int)<=(show Int from n)/\(show Int from n)<=255
 | .sl t,l=> ∀x∈(show List (t.den λ_=>Vl)from l),eG q t x
 | .st t,x=>eG q t x
 | .pr a b,x=>eG q a x.1/\eG q b x.2
 | .nm 0,x=>q x
 |_,_=>True
def QV:Nat->Vl->Prop
 |0,_=>True
 |d+1,v=>eG (QV d) uE (u5 v)
mutual
def Le(P:GG)(tn:Gj):Nat->Ty->Gj->Bool
 |0,_,_=>Aj
 |k+1, .int .i64,u=>match P.underlying u with|some (.int .i64)=>Bp|_=>Aj
 |k+1, .int .u8,u=>match P.underlying u with|some (.int .u8)=>Bp|_=>Aj
 |k+1, .bool,u=>match P.underlying u with|some .bool=>Bp|_=>Aj
 |k+1, .str,u=>match P.underlying u with|some .string=>Bp|_=>Aj
 |k+1, .sl t,u=>match P.underlying u with|some (.slice e)=>Hc (P.cellsOf e) (YB 9 t)&&Le P tn k t e|_=>Aj
 |k+1, .st t,u=>match P.underlying u with|some (.struct fs)=>vH P tn k t 0 fs.toList|_=>Aj
 |k+1, .nm 0,u=>Hc u tn
 |_,_,_=>Aj
def vH(P:GG)(tn:Gj):Nat->Ty->Nat->List Field->Bool
 |0,_,_,_=>Aj
 |k+1,t,off,[f]=>Le P tn k t f.type&&(Hc (P.cellsOf f.type) (YB 9 t)&&Hc f.offset off)
 |k+1, .pr a b,off,f::fs=>Le P tn k a f.type&&(Hc (P.cellsOf f.type) (YB 9 a)&&(Hc f.offset off&&vH P tn k b (off+YB 9 a) fs))
 |_,_,_,_=>Aj
end
section
variable {H : Type} {enc : Gj × BZ -> H} {P : GG} {w : IG} {base : Nat} {spare : Nat -> Bool} {held : Bool}
theorem Us(t:Ty):(LI Wo t).sz=YB 9 t:=FE (s:=9) rfl t
mutual
theorem PF{tn:Gj}{q:Vl->Prop}{N:Nat}(h:GZ enc P w base spare held N Wo q tn):∀ {k:Nat} {t:Ty} {u:Gj},Le P tn k t u=Bp->GZ enc P w base spare held N (LI Wo t) (eG q t) u
 |0,_,_,e=>by cases e
 |k+1, .int .i64,u,e=>by
  unfold Le at e;split at e
  ·rename_i hu;exact GZ.i64 hu
  grind
 |k+1, .int .u8,u,e=>by
  unfold Le at e;split at e
  ·rename_i hu;exact GZ.u8 hu
  grind
 |k+1, .bool,u,e=>by
  unfold Le at e;split at e
  ·rename_i hu;exact GZ.b hu
  grind
 |k+1, .str,u,e=>by
  unfold Le at e;split at e
  ·rename_i hu;exact GZ.s hu
  grind
 |k+1, .sl t,u,e=>by
  unfold Le at e;split at e
  ·rename_i x hu
   rw[AT]at e
   exact(GZ.sl hu (by grind[Us,Nat.eq_of_beq_eq_true]) (PF h e.2)).le (Ahb _)
  grind
 |k+1, .st t,u,e=>by
  unfold Le at e;split at e
  ·rename_i fs hu
   exact(GZ.st (c:=LI Wo t) (q:=eG q t) hu (TY h e)).le (Ahb _)
  trivial
 |k+1, .nm 0,u,e=>by
  have:=AI e
  subst this;exact h
 |k+1, .nm (n+1),u,e=>by cases e
 |k+1, .pr _ _,u,e=>by cases e
 |k+1, .un,u,e=>by cases e
 |k+1, .bs,u,e=>by cases e
 |k+1, .ar _ _,u,e=>by cases e
 |k+1, .int .i8,u,e=>by cases e
 |k+1, .int .i16,u,e=>by cases e
 |k+1, .int .i32,u,e=>by cases e
 |k+1, .int .u16,u,e=>by cases e
 |k+1, .int .u32,u,e=>by cases e
 |k+1, .int .u64,u,e=>by cases e
theorem TY{tn:Gj}{q:Vl->Prop}{N:Nat}(h:GZ enc P w base spare held N Wo q tn):∀ {k:Nat} {t:Ty} {off:Nat} {fs:List Field},vH P tn k t off fs=Bp->eE enc P w base spare held N (LI Wo t) (eG q t) off fs
 |0,_,_,_,e=>by cases e
 |k+1,t,off,[],e=>by cases t<;>(cases e)
 |k+1,t,off,[f],e=>by
  unfold vH at e
  simp only[AT]at e
  exact eE.one (PF h e.1) (by rw[Us];exact AI e.2.1) (AI e.2.2)
 |k+1, .pr a b,off,f::g::fs,e=>by
  unfold vH at e
  simp only[AT]at e
  have hs:YB 9 a=(LI Wo a).sz:=(Us a).symm
  exact eE.cons (PF h e.1) (by rw[<-hs];exact AI e.2.1) (AI e.2.2.1) (hs▸TY h e.2.2.2)
 |k+1, .int _,off,f::g::fs,e=>by cases e
 |k+1, .bool,off,f::g::fs,e=>by cases e
 |k+1, .str,off,f::g::fs,e=>by cases e
 |k+1, .sl _,off,f::g::fs,e=>by cases e
 |k+1, .st _,off,f::g::fs,e=>by cases e
 |k+1, .nm _,off,f::g::fs,e=>by cases e
 |k+1, .un,off,f::g::fs,e=>by cases e
 |k+1, .bs,off,f::g::fs,e=>by cases e
 |k+1, .ar _ _,off,f::g::fs,e=>by cases e
end
theorem kO{tn:Gj}{k:Nat}(e:Le P tn (k+1) uE tn=Bp):∀(N d:Nat),GZ enc P w base spare held N Wo (QV d) tn
 |0,_=>λn f=>by omega
 |N+1,d=>by
  have step:∀d,GZ enc P w base spare held (N+1) Wo (QV (d+1)) tn:=λd=>by
   have b:=e;unfold Le at b;split at b;· rename_i o l;have:=GZ.st (c:=LI Wo (.pr .bool (.pr scB (.pr (.sl lcB) (.sl nY))))) (q:=eG (QV d) (.pr .bool (.pr scB (.pr (.sl lcB) (.sl nY))))) l (TY (kO e N d) b);intro n f g y j m;obtain⟨a,h,i⟩:=this n f g y j m;exact⟨vlI a,YS.2 h,i⟩
   grind
  cases d with
  |zero=>exact(step 0).imp λ_ _=>trivial
  |succ d=>grind
end
end Go.GV
namespace Go.GL
open Go Go.GV Go.GK Go.Proofs
theorem Qd{α:Type}{P:Nat->α->Prop} :∀ {l:List α},(∀x∈l,∃n,∀g,n<=g->P g x)->∃n,∀g,n<=g->∀x∈l,P g x
 | [],_=>⟨0,λ_ _ x hx=>by grind⟩
 |x::l,h=>by
  obtain⟨n,hn⟩:=h x (Aat ..)
  obtain⟨m,hm⟩:=Qd λy hy=>h y (Aag _ hy)
  refine⟨max n m,λg hg y hy=>?_⟩
  grind
theorem TQ:∀ {d:Nat} {v:Vl},QV d v->∃n,∀g,n<=g->LN g d v
 |0,_,_=>⟨0,λ_ _=>trivial⟩
 |d+1,v,h=>by
  obtain⟨_,⟨_,_,_,⟨hi,hf⟩,hs⟩,hl,ht⟩:=h
  have qb:∀x∈kids v,QV d x.1/\QV d x.2:=λx hx=>by
   rcases AS.1 hx with hx|hx
   ·obtain⟨c,hc,hx⟩:=Aad.1 hx
    rcases AS.1 hx with hx|hx
    ·exact(hl c hc).1 x hx
    ·exact(hl c hc).2 x hx
   ·obtain⟨c,hc,hx⟩:=Aad.1 hx
    rcases AS.1 hx with hx|hx
    ·obtain⟨f,hf,rfl⟩:=By.1 hx
     exact((ht c hc).1 f hf).2.2
    ·obtain⟨f,hf,rfl⟩:=By.1 hx
     exact((ht c hc).2 f hf).2
  obtain⟨n1,k1⟩:=Qd (P:=λg x=>LN g d x.1/\LN g d x.2) (l:=kids v) λx hx=>by
   obtain⟨n,hn⟩:=TQ (qb x hx).1
   obtain⟨m,hm⟩:=TQ (qb x hx).2
   exact⟨max n m,λg hg=>⟨hn g (by omega),hm g (by omega)⟩⟩
  obtain⟨n2,k2⟩:=Qd (P:=λg (c:BB)=> ∀k∈c.2,k.1.length<g) (l:=v.structs) λc _=>by
   obtain⟨n,hn⟩:=Qd (P:=λg (k:Tb×Bk)=>k.1.length<g) (l:=c.2) λk _=>⟨k.1.length+1,λg hg=>by omega⟩
   exact⟨n,hn⟩
  have bt:∀(l:Tb),eG (QV d) aC l->NU l:=λl h s hs e he=>by
   have:=(h s hs).2 e he
   exact⟨this.1,this.2.1⟩
  refine⟨max (max n1 n2) (v.sc.2.2.2.2.length+1),λg hg=>⟨⟨λs hs=>hi s hs,λs hs=>hf s hs⟩,⟨bt _ hs,by omega⟩,λc hc k hk=>⟨bt _ ((ht c hc).2 k hk).1,k2 g (by omega) c hc k hk⟩,k1 g (by omega)⟩⟩
end Go.GL
namespace Go.GV
open Go Go.GK Go.RowKit Go.Deep
theorem vb{f:Nat}{ps:List Ty}{F:BI NL (NA ps).hs->Option (BI NL (NA [.bool]).hs)}{x:BI NL (NA ps).hs}{H:Hp}{vs:List BZ}(h:Cp TP f (qQ ps [.bool] F))(e:F x=Ac (show Bool from Bp))(hG:NL.inv H)(hl:vs.length=(zk ps 0).length)(hv:∀p∈zk ps 0,∃v,vs[p.1]?=Ac v/\(inst NL (NA ps).hs x p.2).is [] η0 H v):
  Td TP f vs H [] (λv _ O'=>O'=[]/\v= .bool Bp):=by
 refine(h.ok x _ e η0 H [] [] vs Afd ⟨hl,hv,rfl,λp hp=>(by cases hp),hG⟩).mono λv H' O' _ ⟨η,Y,h1,h2⟩=>?_
 have hY:Y=[]:=by
  cases Y with
  |nil=>rfl
  |cons p l=>rcases h2.ks p.1 (Aat ..)with k|k<;>cases k
 subst hY
 obtain⟨cs,h3,h4⟩:=h2.res
 have h3:cs=[.bool Bp]:=h3
 have h4:cs=[v]:=h4
 rw[h3]at h4
 cases h4
 exact⟨h1,rf⟩
end Go.GV
namespace Go.GL
open Go Go.GV Go.GK Go.Proofs
theorem walk(W:IG)(hG:HL Tryz.prog (Hp.of W)){c0:Array BZ}{x0:Vl}(hl0:Wo.BP (Hp.of W) x0 c0.toList)(hq0:QV 3 x0):
  Td Tryz.prog 4 [.agg c0] (Hp.of W) [] (λv H' O'=>O'=[]/\v= .bool Bp):=by
 obtain⟨n0,hn0⟩:=TQ hq0
 obtain⟨fu,h⟩:∃fu,ji fu x0=Ac Bp:=⟨n0+1000000010100,aF (gu:=n0) rfl (hn0 _ (by omega)) (by omega) (by omega)⟩
 refine vb (Kd fu) h hG rf λp hp=>?_
 rcases Aav.1 hp with rfl|hp
 ·exact⟨_,rf,c0.toList,hl0,by simp[CJ,Ty.agg]⟩
 cases hp
end Go.GL
namespace Go.Proofs.YtimbbibpghnipaaGreatDoor
open Go
theorem vK:(Tryz.prog.funcs.toList.all λf=> !f.goes)=Bp:=by kernel_rfl
theorem fY(g:Nat):(Tryz.prog.funcs[g]?).any Func.goes=Aj:=by
 cases h:Tryz.prog.funcs[g]? with
 |none=>rfl
 |some fn=>
  have:=No.1 vK fn (Array.mem_toList_iff.2 (Array.mem_of_getElem? h))
  simpa using this
theorem ZU:Tryz.prog.funcs.any Func.goes=Aj:=by
 rw[<-Array.any_toList]
 cases h:Tryz.prog.funcs.toList.any Func.goes with
 |false=>rfl
 |true=>
  obtain⟨fn,h1,h2⟩:=Aca.1 h
  have:=No.1 vK fn h1
  rw[h2]at this
  cases this
theorem pn(f:FuncId):Tryz.prog.goes f=Aj:=by
 unfold GG.goes
 rw[ZU,Bool.and_false,Alo]
 cases h:((Tryz.prog.closure f).any λg=>(Tryz.prog.funcs[g]?).any Func.goes)with
 |false=>rfl
 |true=>
  simp only[fY]at h
  simp at h
theorem pq:Aj=Rows.lookupKindsRow.goesBy Tryz.pinned.checked.prog:=by
 have e:Rows.lookupKindsRow.goesBy Tryz.prog=((Tryz.prog.funcNamed Rows.lookupKindsRow.func).any Tryz.prog.goes||false):=rfl
 refine Eq.trans ?_ e.symm
 generalize Tryz.prog.funcNamed Rows.lookupKindsRow.func=o
 cases o with
 |none=>rfl
 |some f=>rw[Option.any_some,pn];rfl
end Go.Proofs.YtimbbibpghnipaaGreatDoor
