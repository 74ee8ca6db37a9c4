/- Part 9 of the texts of this claim: what its theorem leans on. -/
import Derived.Test.YtimbbibpghnipaaGreatDoorZLookupItems8
import Derived.Test.YtimbbibpghnipaaGreatDoorZLookupItems7
import Derived.Test.YtimbbibpghnipaaGreatDoorZLookupItems4
import Derived.LaidMore
import Derived.Test.YtimbbibpghnipaaGreatDoorRows
import Derived.KernelRfl
import GoSem.ClaimGoes
set_option linter.all false
open Option renaming some→Ac,none→C7
open Bool renaming false→Ak,true→Bp
open Go renaming Value→BZ,Operand→DQ,TypeId→Gn,Program→GJ,World→IK,execOp→Km,Oper→K0,IntKind→Lh
open Decidable renaming decide→Dm
open List renaming length→FB,replicate→T0,range→aE,set→kS
open Nat renaming beq→Hg
open Int renaming toNat→Z5,natAbs→wv
open Go.Op renaming bytesLess→fS
namespace Go.GL
open Go Go.GV Go.GK Go.Proofs
section
variable{α:Type}{P:α->Prop}{fu:Nat}
theorem contains_eq{l:List α}{x:α}{g:α->α->Option (Bool×α)}(n:l.length<fu)(o:∀y∈l,Ok (g y x) λr=>r.2=x/\(r.1=Bp↔P y)):
  Ok (Ad fu (λ(b:α×Nat) i=>bif Dm ((b.2:Int)<(l.length:Int))then Ab (idx l (b.2:Int)) λq=>Ab (g q b.1) λj=>bif j.1 then Ac ((b.2:Int),j.2)else i (j.2,b.2+1)else Ac ((-1:Int),b.1)) (x,0)) λr=>r.2=x/\(0<=r.1↔∃y∈l,P y):=by
 refine Sj (λk s=>s=x/\∀y∈l.take k,¬P y) l.length ⟨rf,by simp⟩ n (λk s nx e a p=>?_) (λs nx a=>?_)
 ·obtain⟨rfl,a⟩:=a;have m:=AN e;refine PW (Aah e (Oy (o _ m) λr d=>PS (λh=>MH ⟨d.1,λ_=>⟨_,m,d.2.1 h⟩,λ_=>by omega⟩) λh=>p _ ⟨d.1,λy c=>?_⟩));rcases(Ag e).1 c with c|rfl;all_goals grind
 ·obtain⟨rfl,a⟩:=a;rw[Al]at a;exact PY (MH ⟨rfl,λh=>by omega,λ⟨y,c,f⟩=>absurd f (a y c)⟩)
theorem M5{a:List α}{g:α->Option (Bool×α)}(j:a.length<fu)(l:∀x∈a,Ok (g x) λr=>r.1=Bp↔P x):
  Ok (Ad fu (λ(f:Nat) e=>bif Dm ((f:Int)<(a.length:Int))then Ab (idx a (f:Int)) λo=>Ab (g o) λp=>bif !p.1 then Ac Ak else e (f+1)else Ac Bp) 0) λr=>r=Bp↔∀x∈a,P x:=by
 refine Vs (λk=> ∀x∈a.take k,P x) a.length (by simp) j (λk nx c b n=>?_) (λnx b=>?_)
 ·have m:=AN c;refine PW (Aah c (Oy (l _ m) λr i=>PS (λh=>AR λk=>?_) λh=>n λx d=>?_));· grind
  ·rcases(Ag c).1 d with d|rfl;all_goals grind
 ·rw[Al]at b;exact PY (MH ⟨λ_=>b,λ_=>rfl⟩)
end
section
variable {d : Nat} (ih : ∀ {fu : Nat} {a b : Vl}, SV d a -> SV d b -> 1000000000000 + 20 * d < fu -> Ok (Tw fu (a, b)) λr => r = Bp ↔ De d a b)
section
variable{fu:Nat}
include ih
theorem PU{x y:Bc}(e:SW d x)(g:SW d y)(j:1000000000000+20*d+1<fu):Ok (Lx fu (x,y)) λr=>r=Bp↔KL (De d) x y:=by
 obtain⟨f,rfl⟩:∃f,fu=f+1:=⟨fu-1,by omega⟩;rw[show Lx (f+1) (x,y)=_ from d189 f x y];refine Oy (ih e.1 g.1 (by omega)) λr c=>PS (λh=>Oy (ih e.2 g.2 (by omega)) λs i=>MH ?_) λh=>AR λk=>?_;· exact i.trans ⟨λk=>⟨c.1 h,k⟩,λk=>k.2⟩
 ·rw[c.2 k.1]at h;grind
theorem Jq{x y:G4}(h1:x.1.length<=3)(G:∀w∈AY x,SW d w)(H:∀w∈AY y,SW d w)(Q:1000000000000+20*d+2<fu):Ok (U2 fu (x,y)) λr=>r=Bp↔WL (De d) x y:=by
 obtain⟨
     f,rfl⟩:∃f,fu=f+1:=⟨fu-1,by omega⟩;rw[show U2 (f+1) (x,y)=_ from d190 f x y];have loop:(y.1.length<=x.1.length)->(y.2=[]->x.1.length<=y.1.length/\x.2=[])->Ok (Ad f (λ(n:Nat) j=>
    bif Dm ((n:Int)<(x.1.length:Int))then
     Ab (idx x.1 (n:Int)) λv=>
     Ab (YA f (y,(n:Int))) λz=>
     Ab (Lx f (v,z.1)) λA=>
     bif !A then
      Ac Ak
     else
      j (n+1)
    else
     bif Dm ((x.2.length:Int)=0)then
      Ac Bp
     else
      Ab (idx x.2 0) λB=>
      Ab (idx y.2 0) λC=>
      Ab (Lx f (B,C)) λD=>
      Ac D) 0) λr=>r=Bp↔WL (De d) x y:=λF s=>by
  refine Vs (λk=> ∀i (h:i<x.1.length),i<k->KL (De d) x.1[i] (XG y i)) x.1.length (λi h k=>by omega) (by omega) (λk nx q p M=>?_) (λnx p=>?_)
  ·have m:=G _ (AS.2 (.inl (AN q)));refine PW (Aah q (Oy gO λr t=>?_));rw[t];refine Oy (PU ih m (aX m.v0 H) (by omega)) λb l=>PS (λh=>AR λN=>?_) λh=>M λi K L=>?_;· rw[l.2 (N.it k q)]at h;grind
   ·rcases Aal i k with o|o;· simp_all
    grind
  ·have I:∀i (h:i<x.1.length),KL (De d) x.1[i] (XG y i):=λi h=>p i h h;refine PY (N6 (λO=>MH ⟨λ_=>⟨F,s,I,λh=>by omega⟩,λ_=>rfl⟩) λh=>?_);have u:0<x.2.length:=by omega
   have J:0<y.2.length:=by grind
   refine Adq (by decide) (by omega) (Adq (by decide) (by omega) (Oy (PU ih (G _ (AS.2 (.inr (AN _)))) (H _ (AS.2 (.inr (AN _)))) (by omega)) λb l=>MH (l.trans ⟨λk=>⟨F,s,I,λ_=>?_⟩,λk=>?_⟩)));· rw[show y.2.getD 0 (v0,v0)=y.2[0]from AO J];exact k
   ·have:=k.rs u;rwa [show y.2.getD 0 (v0,v0)=y.2[0]from AO J]at this
 refine N6 (λh=>AR λk=>by have:=k.ln;omega) λo=>PS (λh=>?_) λh=>loop (by omega) λE=>absurd h (by rw[E];decide);have e:y.2=[]:=by
  rcases Afu y.2.length with e|e;· exact OF.1 e
  ·rw[show Dm ((0:Int)<(y.2.length:Int))=Bp from decide_eq_true (by omega)]at h;cases h
 exact N6 (λh=>AR λk=>by have:=(k.cl e).1;omega) λE=>N6 (λh=>AR λk=>by have:=(k.cl e).2;rw[this]at h;exact absurd h (by decide)) λP=>loop (by omega) λ_=>⟨by omega,OF.1 (by omega)⟩
theorem G7{x y:BA}(C:NQ x)(i:NQ y)(M:Dz x)(N:Dz y)(V:∀w∈Bq x,SW d w)(W:∀w∈Bq y,SW d w)(hF:1000000000000+20*d+2<fu):Ok (U3 fu (x,y)) λr=>r=Bp↔US (De d) x y:=by
 obtain⟨f,rfl⟩:∃f,fu=f+1:=⟨fu-1,by omega⟩;rw[show U3 (f+1) (x,y)=_ from d183 f x y];have n1:=C.nf;have n2:=C.nc;have n3:=i.nf;have n4:=i.nc;refine PA ⟨rfl,rfl⟩ ?_;let P:=λg:Au×Int×Bc=>(vw x g.1).2<=(vw y g.1).2/\KL (De d) (vw x g.1).1 (vw y g.1).1;refine Vs (λk=>(1<=k->∀g∈x.1,P g)/\(2<=k->∀g∈y.1,P g)) 2 ⟨λh=>by omega,λh=>by omega⟩ (by omega) (λk nx I H J=>?_) (λnx H=>?_)
 ·have inner:∀(l:List (Au×Int×Bc)),l.length<=4->(∀g∈l,g.1.length<=60/\SW d (v0,v0))->(US (De d) x y->∀g∈l,P g)->((∀g∈l,P g)->Ok (nx (k+1)) λr=>r=Bp↔US (De d) x y)->
    Ok (
      Ad f (λ(Y:Nat) B=>
     bif Dm ((Y:Int)<(l.length:Int))then
      Ab (idx l (Y:Int)) λr6=>
      Ab (Yw f (x,r6.1)) λr7=>
      Ab (Yw f (y,r6.1)) λr8=>
      bif Dm (r8.2<r7.2)then
       Ac Ak
      else
       Ab (Lx f (r7.1,r8.1)) λr9=>
       bif !r9 then
        Ac Ak
       else
        B (Y+1)
     else
      nx (k+1)) 0) λr=>r=Bp↔US (De d) x y:=λl hl v hP U=>by
   refine Vs (λj=> ∀g∈l.take j,P g) l.length (by simp) (by omega) (λj B A u T=>?_) (λB u=>?_)
   ·have m:=AN A;obtain⟨q1,q2⟩:=v _ m;refine PW (Aah A (BY (Va C (by omega) (by omega)) (BY (Va i (by omega) (by omega)) (N6 (λh=>AR λp=>by have:=(hP p _ m).1;omega) λD=>Oy (PU ih (U' q2 V) (U' q2 W) (by omega)) λr G=>PS (λh=>AR λp=>?_) λh=>T λg z=>?_))));· rw[G.2 (hP p _ m).2]at h;cases h
    rcases(Ag A).1 z with E|rfl;· exact u g E
    ·exact⟨by omega,G.1 (by simpa using h)⟩
   ·exact PY (U λg z=>u g (by rw[Al];omega))
  have M:∀g∈x.1,g.1.length<=60/\SW d (v0,v0):=λg v=>⟨C.lb g v,(V _ (AS.2 (.inl (By.2 ⟨g,v,rfl⟩)))).v0⟩;have N:∀g∈y.1,g.1.length<=60/\SW d (v0,v0):=λg v=>⟨i.lb g v,(W _ (AS.2 (.inl (By.2 ⟨g,v,rfl⟩)))).v0⟩;refine TJ (by omega) ?_;rcases(by omega:k=0\/k=1)with rfl|rfl;· exact BY (a:=x.1) rfl (inner x.1 n1 M (λp=>p.fa) λh=>J ⟨λ_=>h,λh=>by omega⟩)
  ·exact BY (a:=y.1) rf (inner y.1 n3 N (λp=>p.fb) λh=>J ⟨λ_=>H.1 (by omega),λ_=>h⟩)
 ·have O:=H.1 (by omega);have Q:=H.2 (by omega);refine Vs (λk=> ∀a∈x.2.take k,∀b∈y.2,KL (De d) a.2 b.2\/∀w,¬(Av a.1 0 w=Bp/\Av b.1 0 w=Bp)) x.2.length (by simp) (by omega) (λk nx I n J=>?_) (λnx n=>?_)
  ·have K:=AN I;refine PW (Aah I ?_);refine Vs (λj=> ∀b∈y.2.take j,KL (De d) (x.2[k]).2 b.2\/∀w,¬(Av (x.2[k]).1 0 w=Bp/\Av b.1 0 w=Bp)) y.2.length (by simp) (by omega) (λj X A o F=>?_) (λX o=>?_)
   ·have L:=AN A;have s1:=V _ (AS.2 (.inr (By.2 ⟨_,K,rfl⟩)));have s2:=W _ (AS.2 (.inr (By.2 ⟨_,L,rfl⟩)));have Z:=M.1 _ K;have gb:=N.1 _ L;have la:CD (x.2[k]).1 (Av (x.2[k]).1 0) 14641:=⟨Z.2.1,Z.2.2,rfl,C.each _ K⟩;have lb:CD (y.2[j]).1 (Av (y.2[j]).1 0) 14641:=⟨gb.2.1,gb.2.2,rfl,i.each _ L⟩;have q:(KL (De d) (x.2[k]).2 (y.2[j]).2\/∀w,¬(Av (x.2[k]).1 0 w=Bp/\Av (y.2[j]).1 0 w=Bp))->∀b∈y.2.take (j+1),KL (De d) (x.2[k]).2 b.2\/∀w,¬(Av (x.2[k]).1 0 w=Bp/\Av b.1 0 w=Bp):=λh b S=>by
     rcases(Ag A).1 S with S|rfl;· exact o b S
     trivial
    refine PW (Aah A (Oy (PU ih s1 s2 (by omega)) λr G=>PS (λh=>Oy (jg (Gy la lb (by decide) (by omega))) λt ht=>?_) λh=>F (q (.inl (G.1 (by simpa using h))))));rw[la.gL,lb.gL]at ht;have emp:t=[]↔∀w,¬(Av (x.2[k]).1 0 w=Bp/\Av (y.2[j]).1 0 w=Bp):=by
     rw[ht.Gx];constructor;· intro e w hw;have:=congrFun e w;rw[hw.1,hw.2]at this;cases this
     ·intro e;funext w;have:=e w;cases h1:Av (x.2[k]).1 0 w<;>cases D:Av (y.2[j]).1 0 w<;>simp_all
    refine N6 (λD=>AR λp=>?_) λD=>F (q (.inr (emp.1 (OF.1 (by omega)))));rcases p.cl _ K _ L with E|E;· rw[G.2 E]at h;cases h
    ·rw[emp.2 E]at D;exact absurd D (by decide)
   ·rw[Al]at o;refine PY (J λa R=>?_);rcases(Ag I).1 R with R|rfl;· exact n a R
    ·exact o
  ·rw[Al]at n;exact PY (MH ⟨λ_=>⟨O,Q,n⟩,λ_=>rfl⟩)
end
end
section
variable{n fu N:Nat}{r:Tb}{L:Nat}{g:Nat->Nat->Bool}{l:Tb}{w:Au}{m:Nat}{x y:Int}{i:Nat}
theorem JT:∀ {d fu:Nat} {a b:Vl},SV d a->SV d b->1000000000000+20*d<fu->Ok (Tw fu (a,b)) λr=>r=Bp↔De d a b
 |0,_,_,_,h,_,_=>h.1.elim
 |d+1,fu,a,b,j,l,C=>by
  obtain⟨f,rfl⟩:∃f,fu=f+7:=⟨fu-7,by omega⟩;have u:∀ {fu:Nat} {a b:Vl},SV d a->SV d b->1000000000000+20*d<fu->Ok (Tw fu (a,b)) λr=>r=Bp↔De d a b:=JT;have z:=Dr j.1.1 j.2.1.sc;have sb:=Dr l.1.1 l.2.1.sc;rw[show Tw (f+7) (a,b)=_ from d188 (f+6) a b];refine PS (λh=>MH ⟨λk=> .inl k,λk=>?_⟩) λh=>PS (λn=>MH ⟨λk=> .inl k,λ_=>n⟩) λn=>?_
  ·rcases k with k|k;all_goals grind
  refine Oy (Mj (d:=d+1) (x:=(a,v0)) (y:=(b,v0)) ⟨j.1,(L3 d).1⟩ ⟨l.1,(L3 d).1⟩ (by omega)) λr c=>PS (λh=>MH ⟨λ_=>?_,λ_=>rfl⟩) λ_=>?_;· have e:a=b:=congrArg Prod.fst (c.1 h);subst e;exact De.refl j.2
  have v:=j.1.2.1;have B:=l.1.2.1;have q:=j.1.2.2.1;have s:=l.1.2.2.1;refine Oy (W6 z sb (by simp) (by simp) (by omega)) λr c=>PS (λi=>AR λk=>?_) λi=>?_
  ·rcases k with k|k;· rw[n]at k;cases k
   ·rw[c.2 k.2.1]at i;cases i
  have w:=c.1 (by simpa using i);have L:Ok (kj (f+6) (a.lists,b.lists)) λr=>r=Bp↔∀x∈a.lists,∃y∈b.lists,WL (De d) x y:=by
   rw[show kj (f+6) (a.lists,b.lists)=_ from d182 (f+5) _ _];refine M5 (g:=λx=>ko (f+5) (b.lists,x)) (by omega) λx m=>?_;rw[show ko (f+5) (b.lists,x)=_ from d181 (f+4) _ _];have:Ok (kq (f+4) (b.lists,x)) λr=>r.2=x/\(0<=r.1↔∃y∈b.lists,WL (De d) x y):=by rw[show kq (f+4) (b.lists,x)=_ from d180 (f+3) _ _];refine contains_eq (g:=λy x=>ku (f+3) (y,x)) (by omega) λy p=>?_;rw[show ku (f+3) (y,x)=_ from d179 (f+2) _ _];exact Oy (Jq u (v.2 x m).1 (j.lv m) (l.lv p) (by omega)) λr c=>MH ⟨rfl,c⟩
   exact Oy this λr c=>MH (decide_eq_true_iff.trans c.2)
  have S:Ok (j_ (f+6) (a.structs,b.structs)) λr=>r=Bp↔∀x∈a.structs,∃y∈b.structs,US (De d) x y:=by
   rw[show j_ (f+6) (a.structs,b.structs)=_ from d187 (f+5) _ _];refine M5 (g:=λx=>kc (f+5) (b.structs,x)) (by omega) λx m=>?_;rw[show kc (f+5) (b.structs,x)=_ from d186 (f+4) _ _];have:Ok (kf (f+4) (b.structs,x)) λr=>r.2=x/\(0<=r.1↔∃y∈b.structs,US (De d) x y):=by rw[show kf (f+4) (b.structs,x)=_ from d185 (f+3) _ _];refine contains_eq (g:=λy x=>kg (f+3) (y,x)) (by omega) λy p=>?_;rw[show kg (f+3) (y,x)=_ from d184 (f+2) _ _];exact Oy (G7 u (q.2 x m) (s.2 y p) (j.2.1.st x m).2 (l.2.1.st y p).2 (j.sv m) (l.sv p) (by omega)) λr c=>MH ⟨rfl,c⟩
   exact Oy this λr c=>MH (decide_eq_true_iff.trans c.2)
  refine Oy L λD o=>PS (λi=>Oy S λE t=>MH (t.trans ⟨λk=> .inr ⟨h,w,o.1 i,k⟩,λk=>?_⟩)) λi=>AR λk=>?_
  ·rcases k with k|k;· rw[n]at k;cases k
   ·exact k.2.2.2
  ·rcases k with k|k;· rw[n]at k;cases k
   ·rw[o.2 k.2.2.1]at i;cases i
def Ck(L N:Nat)(g:Nat->Nat->Bool):List (Bool×List Bool):=Bh L λi=>(Bp,Bh (N+1) (g i))
theorem ib:(Ck L N g).length=L:=Az _ _
theorem V_(h:i<L):idx (Ck L N g) (i:Int)=Ac (Bp,Bh (N+1) (g i)):=by unfold Ck;rw[Bk (by rw[Az];exact h),Bm]
theorem EM{a:Nat->Nat->Bool}(h:∀i,i<L->∀j,j<N+1->g i j=a i j):Ck L N g=Ck L N a:=
 AP λi b=>by rw[AP (h i b)]
theorem ia:(Ck L N g).set i (Bp,(Bh (N+1) (g i)).set n Bp)=Ck L N λa j=>if a=i then if j=n then Bp else g i j else g a j:=by
 unfold Ck;rw[A',A'];refine AP λa _=>?_;by_cases h:a=i;· simp only[if_pos h]
 ·simp only[if_neg h]
theorem n6{α:Type}{f:Nat->α}(h:n<N):idx (Bh N f) (n:Int)=Ac (f n):=by rw[Bk (by rw[Az];exact h),Bm]
theorem iQ(hw:Bf l)(L:DT l n)(hn:n<4294967295)(hN:N<4294967295)(hf:n<fu)(S:N+1<fu):
  jA fu (l,(N:Int))=Ac (Bh l.length λi=>Bh (N+1) λk=>Em l k i):=by
 have W:=L.1;refine(Ok.eq ?_);rw[jA];refine PA (by unfold Ai;omega) ?_;have O:Z5 ((N:Int)+1)=N+1:=by omega
 rw[O];refine Sj (λk (s:List (Bool×List Bool))=>s=Bh l.length λi=>if i<k then(Bp,Bh (N+1) λj=>Dm (j<1)&&Em l j i)else(Ak,[])) l.length ?_ (by omega) (λk s nx D r I=>?_) (λs nx r=>?_);· rw[Afj,DA];exact AP λi _=>by simp
 ·have sl:s.length=l.length:=by rw[r,Az]
  have J:kS s k (Bp,T0 (N+1) Ak)=Bh l.length λi=>if i=k then(Bp,Bh (N+1) λ_=>Ak)else if i<k then(Bp,Bh (N+1) λj=>Dm (j<1)&&Em l j i)else(Ak,[]):=by rw[r,A',DA]
  have F:idx (kS s k (Bp,T0 (N+1) Ak)) (k:Int)=Ac (Bp,Bh (N+1) λ_=>Ak):=by rw[J,Bk (by rw[Az];exact D),Bm,if_pos rfl]
  refine PW (Aao (Abw (PA (by unfold Ai;omega) (PA ⟨by omega,by dsimp only;omega⟩ (Abw (PA ⟨by omega,by rw[Abq];dsimp only;omega⟩ (BY F (PA rf (Aah D (BY F (PA ⟨rf,by decide,by dsimp only;rw[Az];omega⟩ (BY F (PA ⟨rf,by dsimp only;rw[Az];simp⟩ (I _ ?_))))))))))))));dsimp only;rw[J,A',A'];refine AP λi _=>?_;by_cases h:i=k
  ·subst h;rw[if_pos rfl,if_pos (by omega)];refine congrArg (Prod.mk Bp) (AP λj _=>?_);by_cases C:j=0;· subst C;refine(if_pos rfl).trans ?_;rw[He,Ef (by omega) (by omega)];rfl
   ·rw[if_neg (by exact C),decide_eq_false (by omega)];rfl
  ·rw[if_neg h,if_neg h];by_cases d:i<k;· rw[if_pos d,if_pos (by omega)]
   ·rw[if_neg d,if_neg (by omega)]
 have r:s=Ck l.length N λi j=>Dm (j<1)&&Em l j i:=by rw[r];exact AP λi f=>by rw[if_pos f]
 refine P7 (by dsimp only;omega) ?_;refine Xg (X:=List (Bool×List Bool)×Int) (λx=> ∃k:Nat,x.2=(k:Int)/\1<=k/\k<=N+1/\x.1=Ck l.length N λi j=>Dm (j<k)&&Em l j i) (λx=>N+1-x.2.toNat) ⟨1,rfl,by omega,by omega,r⟩ (by dsimp only;omega) λx nx8 Q _ u=>?_;obtain⟨s,z⟩:=x;obtain⟨k,M,U,V,B⟩:=Q;dsimp only at M B u;subst M;dsimp only;refine N6 (λD=>?_) λD=>?_
 ·refine Sj (λi (s:List (Bool×List Bool))=>s=Ck l.length N λa j=>(Dm (j<k)||(Dm (j=k)&&Dm (a<i)))&&Em l j a) l.length ?_ (by omega) (λi s w f p t=>?_) (λs w p=>?_);· rw[B];exact EM λa _ j _=>by simp
  ·have Y:(l[i]).2.length<=n:=L.2 _ (AN f);have T:=hw _ (AN f);have v:Ii l i=(l[i]).2:=Hc f;refine TJ (by dsimp only;omega) ?_;refine Sj (λm (s:List (Bool×List Bool))=>s=Ck l.length N λa j=>if a=i/\j=k then((l[i]).2.take m).any (λe=>Em l (k-1) e.2.2.toNat)else(Dm (j<k)||(Dm (j=k)&&Dm (a<i)))&&Em l j a) (l[i]).2.length ?_ (by omega) (λm s y E c o=>?_) (λs y c=>?_)
   ·rw[p];exact EM λa _ j _=>by
     by_cases h:a=i/\j=k;· rw[if_pos h,h.1,h.2];simp
     ·rw[if_neg h]
   ·have K:=T.rg _ (AN E);have sl:s.length=l.length:=by rw[c,ib]
    have Z:((l[i]).2[m]).2.2.toNat<l.length:=by omega
    have H:=(congrArg (λs=>idx s ((((l[i]).2[m]).2.2.toNat:Nat):Int)) c).trans (V_ Z);have G:=(congrArg (λs=>idx s (i:Int)) c).trans (V_ f);have P:Z5 ((k:Int)-1)=k-1:=by omega
    refine Aah f (PW (Aah f (Aah E (PA ⟨K.2.2.2.1,by dsimp only;rw[sl];exact K.2.2.2.2⟩ (BY H (PA rf (Aao (BY H (PA ⟨rf,by omega,by dsimp only;rw[Az];omega⟩ (BY H (PA rf ?_)))))))))));rw[P];have ev:(if((l[i]).2[m]).2.2.toNat=i/\k-1=k then((l[i]).2.take m).any (λe=>Em l (k-1) e.2.2.toNat)else(Dm (k-1<k)||(Dm (k-1=k)&&Dm (((l[i]).2[m]).2.2.toNat<i)))&&Em l (k-1) ((l[i]).2[m]).2.2.toNat)=Em l (k-1) ((l[i]).2[m]).2.2.toNat:=by rw[if_neg (by omega),decide_eq_true (by omega:k-1<k)];simp
    refine BY ((n6 (by omega)).trans (congrArg Ac ev)) ?_;refine PS (λh=>PA ⟨by omega,by dsimp only;omega⟩ (BY G (PA rf (BY G (PA ⟨rf,by omega,by dsimp only;rw[Az];omega⟩ (BY G (PA ⟨rf,by dsimp only;rw[Az];omega⟩ (o _ ?_)))))))) λh=>o _ ?_
    ·dsimp only;rw[show Z5 (k:Int)=k by omega];conv=>lhs;rw[c]
     rw[ia];refine EM λa _ j _=>?_;by_cases b:a=i
     ·by_cases d:j=k;· rw[if_pos b,if_pos d,if_pos ⟨b,d⟩,IN E,Aeu];simp[h]
      ·rw[if_pos b,if_neg d,if_neg (λh=>d h.2),if_neg (λh=>d h.2),b]
     ·rw[if_neg b,if_neg (λh=>b h.1),if_neg (λh=>b h.1)]
    ·dsimp only;rw[c];refine EM λa _ j _=>?_;by_cases b:a=i/\j=k;· rw[if_pos b,if_pos b,IN E,Aeu];simp[h]
     ·rw[if_neg b,if_neg b]
   ·refine Aah f (PY (t _ ?_));rw[c,Al];refine EM λa _ j _=>?_;by_cases b:a=i/\j=k;· obtain⟨rfl,rfl⟩:=b;rw[if_pos ⟨rfl,rfl⟩,decide_eq_true (by omega:a<a+1)];obtain⟨q,rfl⟩:∃q,j=q+1:=⟨j-1,by omega⟩;rw[Hf,v];simp
    ·rw[if_neg b];by_cases d:j=k;· have:a≠i:=λh=>b ⟨h,d⟩;rw[show Dm (a<i+1)=Dm (a<i) by simp;omega]
     ·rw[decide_eq_false d];simp
  ·refine PY (Aao (u _ ⟨k+1,by dsimp only;omega,by omega,by omega,?_⟩ (by dsimp only;omega)));dsimp only;rw[p];refine EM λa R j _=>?_;rw[decide_eq_true R,Bool.and_true,show Dm (j<k+1)=(Dm (j<k)||decide (j=k)) by
    rcases Acx j k with h|h|h;· rw[decide_eq_true h,decide_eq_true (by omega)];rfl
    ·rw[decide_eq_true h,decide_eq_true (by omega),Bool.or_true]
    ·rw[decide_eq_false (by omega),decide_eq_false (by omega),decide_eq_false (by omega)];rfl]
 ·obtain rfl:k=N+1:=by omega
  refine PA ?_ (MH ?_);· rw[B];refine No.2 λx hx=>?_;obtain⟨i,_,rfl⟩:=EF.1 hx;rfl
  ·rw[B];unfold Ck Bh;rw[Aak];refine Abs λi _=>?_;show(aE (N+1)).map _=_;refine Abs λj C=>?_;show(Dm (j<N+1)&&Em l j i)=_;rw[decide_eq_true (Abf.1 C),Ahi]
def wl(pre:Au)(o:Option Au):List Au:=match o with
 |some w=>[pre++w]
 |none=>[]
theorem Y4{pre:Au}{o:Option Au} :(wl pre o).length<=1:=by cases o<;>simp[wl]
theorem N1{l:Tb}{n N:Nat}(V:Bf l)(U:DT l n)(hn:n<4294967295):∀ {k fu i:Nat} {pre:Au},k<=N->n+300+k<fu->pre.length+k<4294967296->i<l.length->
  Yp fu (l,Bh l.length (λi=>Bh (N+1) λk=>Em l k i),(i:Int),(k:Int),1,pre)=Ac (wl pre (lw l k i))
 |_,0,_,_,_,h,_,_=>by omega
 |k,fu+1,i,pre,hk,hf,hp,A=>by
  refine(d322 fu _ _ _ _ _ _).trans (Ok.eq ?_);unfold x9;refine BY (n6 A) ?_;refine BY (n6 (by omega)) (PS (λh=>MH ?_) λh=>P7 (by decide) ?_)
  ·have h:(lw l k i).isSome=Ak:=by
    have:Em l k i=Ak:=by simpa using h
    exact this
   rw[Alg.1 h |> Alj.1];rfl
  cases k with
  |zero=>
   have h:Em l 0 i=Bp:=by simpa using h
   obtain⟨w,e⟩:=Abk.1 h;have:w=[]:=OF.1 (Uc e);subst this;refine TJ rfl (MH ?_);rw[e];show [pre]=[pre++[]];rw[Adi]
  |succ k=>
   refine P7 (by omega) ?_;have hs2:(l[i]).2.length<=n:=U.2 _ (AN A);have K:=V _ (AN A);have G:Ii l i=(l[i]).2:=Hc A;let f:=λe:Cm=>(lw l k e.2.2.toNat).map λw=>UInt8.ofNat e.1.toNat::w;have hl:lw l (k+1) i=(l[i]).2.findSome? f:=by rw[<-G];rfl
   rw[hl];refine Sj (λm (s:List Au)=>s=wl pre (((l[i]).2.take m).findSome? f)) (l[i]).2.length rfl (by omega) (λm s nx Q B R=>?_) (λs nx B=>?_)
   ·have D:=K.rg _ (AN Q);have P:=D.1;have O:=D.2.1;have L:=D.2.2.1;have H:=D.2.2.2.1;have I:=D.2.2.2.2;have W:(l[i]).2.findSome? f=(((l[i]).2.take m).findSome? f).or (((l[i]).2.drop m).findSome? f):=by
     rw[<-Agu,Acf]
    have st:((l[i]).2.take (m+1)).findSome? f=(((l[i]).2.take m).findSome? f).or (f (l[i]).2[m]):=by rw[IN Q,Agu,List.findSome?_singleton]
    refine Aah A (TJ (by dsimp only;omega) ?_);cases T:((l[i]).2.take m).findSome? f with
    |some w=>
     rw[T]at B W;subst B;refine P7 (by show¬((([pre++w]:List Au).length:Int)<1);simp) (MH ?_);rw[W];rfl
    |none=>
     rw[T]at B st;subst B;refine TJ (by show(0:Int)<1;decide) (Aah A (Aah Q ?_));generalize hE:(l[i]).2[m]=e at*;obtain⟨C,q,t⟩:=e;dsimp only at P O L H I⊢;have y:=λ{g:Nat} (c:Int) (K:n+300+k<g)=>N1 V U hn (N:=N) (k:=k) (fu:=g) (i:=t.toNat) (pre:=pre++[UInt8.ofNat c.toNat]) (by omega) K (by rw[Aac,Acn];omega) (by omega);rw[Abd H]at y;have Y:((k+1:Nat):Int)-1=(k:Int):=by omega
     have u:Ok (nx (wl pre (f (C,q,t)),m+1)) λr=>r=wl pre ((l[i]).2.findSome? f):=R _ (by rw[st];rfl);have fe:f (C,q,t)=(lw l k t.toNat).map λw=>UInt8.ofNat C.toNat::w:=rfl;refine Xg (X:=List Au×Int) (λx=>C<=x.2/\x.2<=q+1/\(x.1=wl pre (f (C,q,t))\/x.1=[]/\x.2=C)) (λx=>(q+1-x.2).toNat) ⟨Abo _,by dsimp only;omega, .inr ⟨rfl,rfl⟩⟩ (by dsimp only;omega) λx nx9 hI _ F=>?_;obtain⟨s,z⟩:=x;obtain⟨Z,h2,d⟩:=hI;dsimp only at Z h2 d F⊢;refine N6 (λhz=>N6 (λhlt=>?_) λE=>?_) λhz=>?_
     ·have S:s=[]:=OF.1 (by omega);subst S;have hr:Yp fu (l,Bh l.length (λi=>Bh (N+1) λk=>Em l k i),t,((k+1:Nat):Int)-1,1-((([]:List Au).length:Nat):Int),pre++UInt8.ofNat z.toNat::[])=Ac (wl (pre++[UInt8.ofNat z.toNat]) (lw l k t.toNat)):=by
       rw[Y];exact y z (by omega)
      refine Aao (Abx (by decide) (PA (p:=GK.F8 _) (by unfold GK.F8;omega) (PA (by simp;omega) (BY hr (PA (by have:=Y4 (pre:=pre++[UInt8.ofNat z.toNat]) (o:=lw l k t.toNat);simp[Ai];omega) (Aao (F _ ⟨by dsimp only;omega,by dsimp only;omega, .inl ?_⟩ (by dsimp only;omega))))))));dsimp only;rw[Acd];rcases d with d|d;· rw[fe]at d⊢;cases M:lw l k t.toNat with
       |none=>rfl
       |some v=>rw[M]at d;cases d
      ·rw[d.2,fe];cases lw l k t.toNat with
       |none=>rfl
       |some v=>show [_]=[_];rw[Aaj];rfl
     ·rcases d with d|d;· rw[d];exact u
      ·rw[d.1]at E;exact absurd (by decide) E
     ·rcases d with d|d;· rw[d];exact u
      ·omega
   ·refine Aah A (PY (MH ?_));rw[B,Al]
def LI(r:Tb):Option Au:=(aE r.length).findSome? λk=>lw r k 0
def lsO(o:Option Au):Au×Bool:=match o with
 |some w=>(w,Bp)
 |none=>([],Ak)
theorem MY{f:Nat->Option Au}{k:Nat}(c:k<n)(h:f k=Ac w)(d:∀j,j<k->f j=C7):(aE n).findSome? f=Ac w:=by
 have:(aE n)=(aE n).take k++k::(aE n).drop (k+1):=by
  conv=>lhs;rw[<-Acf k (aE n)]
  simp_all[Aaq,Ais,List.getElem_range]
 grind
theorem Ud{r:Tb}{k:Nat}{w:Au}(b:k<r.length)(h:lw r k 0=Ac w)(c:∀j,j<k->Em r j 0=Ak):LI r=Ac w:=MY b h λj a=>by simp_all[Em]
theorem IM{L:Lg}(h:CD r L m)(g:DT r n)(I:n<1500000000)(H:3*n+600<fu):Yo fu r=Ac (lsO (LI r)):=by
 have G:=g.1;refine(Ok.eq ?_);rw[Yo];have key:jz fu (r,1)=Ac (wl [] (LI r)):=by
  refine(Ok.eq ?_);rw[jz];refine BY (MU h.wf.by g (by omega) (by omega) (by omega)) ?_;rw[h.MV];refine N6 (λq=>MH ?_) λq=>?_;· have:r=[]:=OF.1 (by omega);rw[this];rfl
  have y:(if(1000:Int)<1 then(1000:Int)else 1)=1:=rfl;have A:(if(0:Int)>1 then(0:Int)else 1)=1:=rfl;have B:((r.length:Int)+1)*(1+1)=((2*r.length+2:Nat):Int):=by omega
  rw[y,A,B];refine Aao (Aao (Aao (Aao (Aao (BY (iQ h.wf g (by omega) (by omega) (by omega) (by omega)) ?_)))));have F:r≠ []:=λe=>q (by rw[e];rfl);obtain⟨k,E,l,c⟩:=H6 (Jt h F);obtain⟨w,u⟩:=Abk.1 l;have C:=Ud E u c;rw[C];refine Xg (X:=List Au×Int) (λx=> ∃j:Nat,x.2=(j:Int)/\(j<=k/\x.1=[]\/j=k+1/\x.1=wl [] (Ac w))) (λx=>k+2-x.2.toNat) ⟨0,rfl, .inl ⟨by omega,rfl⟩⟩ (by dsimp only;omega) λx nx f _ d=>?_;obtain⟨s,z⟩:=x;obtain⟨j,v,f⟩:=f;dsimp only at v f d;subst v;dsimp only;rcases f with⟨D,rfl⟩|⟨D,rfl⟩
  ·have p:Yp fu (r,Bh r.length (λi=>Bh (2*r.length+2+1) λk=>Em r k i),(0:Int),(j:Int),1-((([]:List Au).length:Nat):Int),[])=Ac (wl [] (lw r j 0)):=
    N1 h.wf g (by omega) (N:=2*r.length+2) (k:=j) (fu:=fu) (i:=0) (pre:=[]) (by omega) (by omega) (by simp;omega) (by omega);refine PW (TJ (by decide) (Abx (by decide) (BY p (PA (by have:=Y4 (pre:=[]) (o:=lw r j 0);simp[Ai];omega) (Aao (d _ ⟨j+1,by dsimp only;omega,?_⟩ (by dsimp only;omega)))))));dsimp only;rw[Acd];rcases Aal j k with t|t;· left;have:=c j t;unfold Em at this;rw[Alj.1 (Alg.1 this)];exact⟨by omega,rfl⟩
   ·obtain rfl:j=k:=by omega
    right;rw[u];exact⟨rfl,rfl⟩
  ·refine N6 (λ_=>P7 (by show¬((([[]++w]:List Au).length:Int)<1);simp) (MH rf)) λ_=>MH rf
 refine BY key ?_;cases LI r with
 |none=>exact TJ rfl (MH rfl)
 |some w=>exact P7 (by show¬((([[]++w]:List Au).length:Int)=0);simp) (BY (a:=w) rfl (MH rfl))
theorem YY{f:Nat}(J:Bf l)(I:DT l n)(hn:n<4294967295)(h0:0<l.length)(C:f<l.length)(M:Em l f 0=Bp)(v:∀j,j<f->Em l j 0=Ak)(hf:2*n+400<fu):
  Ok (TA fu l) λr=>r.1.head?=lw l f 0:=by
 have O:=Wt;obtain⟨Z,y⟩:=Abk.1 M;have V:=I.1;refine Sj (λk (s:List Bool)=>s=(Bh k λi=>fin l (i:Int))) l.length rfl (by omega) (λk s nx C B H=>?_) (λs nx B=>?_);· refine PW (Aah C (PA (by grind[Az]) (H _ ?_)));grind[Dg,Ef]
 refine PY (PA (by omega) ?_);have t:s=Cn l 0:=by rw[B];exact AP λi _=>(He l i).symm
 refine Xg (X:=List (List Bool)×Int) (λx=> ∃k:Nat,x.2=k/\k<=f/\x.1=Bh (max k 1) (Cn l)) (λx=>f+1-x.2.toNat) ⟨0,rfl,by omega,by rw[t];rfl⟩ (by omega) λx Y P _ m=>?_;obtain⟨e,z⟩:=x;obtain⟨k,N,T,c⟩:=P;dsimp only at N c m;subst N;have q:((Cn l k).any λb=>b)=Bp:=by obtain⟨j,S,E⟩:=Mt J (k:=k) (d:=f-k) (i:=0) (by rw[show k+(f-k)=f by omega];exact M);exact Vq S E
 have u:(Cn l k).length<fu:=by unfold Cn;rw[Az];omega
 have p:∀ {R:List (List Bool)} {kb:Bool->Option (List (List UInt8)×Bool)},R=Bh (k+1) (Cn l)->
   (k<f->Ok (kb Bp) λr=>r.1.head?=lw l f 0)->
   Ok (Ab (YG fu (l,Z5 (k:Int),Z5 ((k:Int)+1-(k:Int)),(k:Int),R)) λA=>qT kb A.1 A.2) λr=>r.1.head?=lw l f 0:=λ{R kb} Q F=>by
  rw[Q,show Z5 (k:Int)=k by omega,show Z5 ((k:Int)+1-(k:Int))=1 by omega];refine Oy (Rf J I (by omega) h0 (by omega) (by omega)) λr w=>?_;rcases Aal k f with h|h;· rw[w.1 (v k h)];have:=F h;exact this
  ·obtain rfl:k=f:=by omega
   exact(Wb (w.2 Z y)).mono λo U=>U.trans y.symm
 dsimp only;refine PW (N6 (λC=>?_) λC=>?_)
 ·have W:idx e ((k:Int)-1)=Ac (Cn l (k-1)):=by
   rw[show((k:Int)-1)=((k-1:Nat):Int) by omega,c,Bk (by rw[Az];omega),Bm]
  have hc:=cH (l:=l) (k:=k-1) (fu:=fu) J I (by omega) (by omega);rw[show k-1+1=k by omega]at hc;have a:e++[Cn l k]=Bh (k+1) (Cn l):=by rw[c,show max k 1=k by omega,Dg]
  have L:e.length=k:=by rw[c,Az];omega
  have K:idx (e++[Cn l k]) (k:Int)=Ac (Cn l k):=by rw[a,Bk (by rw[Az];omega),Bm]
  refine Aao (BY W (BY hc (Abw (BY K (BY (LM u) ?_)))));rw[q];refine P1 rf (Aao (Aao (PA ⟨⟨by omega,by omega⟩,rf,by rw[a,Az];omega⟩ ?_)));refine p a λG=>P1 rf (Aao (m _ ⟨k+1,by dsimp only;omega,by omega,by dsimp only;rw[a,show max (k+1) 1=k+1 by omega]⟩ (by dsimp only;omega)))
 ·obtain rfl:k=0:=by omega
  have a:e=Bh (0+1) (Cn l):=c;have K:idx e ((0:Nat):Int)=Ac (Cn l 0):=by rw[a,Bk (by rw[Az];omega),Bm]
  refine BY K (BY (LM u) ?_);rw[q];refine P1 rf (Aao (Aao (PA ⟨⟨by omega,by omega⟩,rf,by rw[a,Az];omega⟩ ?_)));refine p a λG=>P1 rf (Aao (m _ ⟨1,by dsimp only;omega,by omega,by dsimp only;rw[a];rfl⟩ (by dsimp only;omega)))
theorem Ox{L:Lg}(h:CD r L m)(j:DT r n)(u:n<4294967295)(s:2*n+400<fu):U6 fu r=Ac (lsO (LI r)):=by
 have key:YF fu (r,1)=Ac (wl [] (LI r)):=by
  refine(Ok.eq ?_);rw[YF];refine P7 (by simp) (BY (Gc h.wf.by j (by omega) (by omega) (by omega)) ?_);rw[h.MV];refine BY (rf) ?_;by_cases g:r=[]
  ·subst g;have:TA fu []=Ac ([],Bp):=by
    refine(Ok.eq ?_);have q:=Wt;rw[TA];obtain⟨f,rfl⟩:∃f,fu=f+1:=⟨fu-1,by omega⟩;rw[Ad];exact P7 (by simp) (MH rfl)
   refine BY this ?_;exact MH rf
  ·have t:0<r.length:=Aed.2 g;obtain⟨k,i,c,d⟩:=H6 (Jt h g);obtain⟨w,p⟩:=Abk.1 c;rw[Ud i p d];refine Oy (YY h.wf j u t i c d s) λo e=>?_;rw[p]at e;obtain⟨l,b⟩:=o;cases l with
   |nil=>grind
   |cons y l=>
    cases e;exact PA (by trivial) (Abx (by decide) (TJ (by simp) (MH rfl)))
 refine(Ok.eq ?_);refine BY key ?_;cases LI r with
 |none=>exact TJ rfl (MH rfl)
 |some w=>exact P7 (by simp[wl]) (BY (a:=w) rfl (MH rfl))
theorem mP{l:Tb}(h:Bf l):∀ {k i:Nat} {w:Au},lw l k i=Ac w->Av l (i:Int) w=Bp
 |0,i,w,e=>by
  unfold lw at e;split at e;· cases e;trivial
  grind
 |k+1,i,w,e=>by
  obtain⟨d,c,e⟩:=Afe e;obtain⟨v,g,rfl⟩:=Pd.1 e;have a:=(Px h i).rg d c;show Av l (Bl l i (UInt8.ofNat d.1.toNat).toNat) v=Bp;have b:Bl l i (UInt8.ofNat d.1.toNat).toNat=d.2.2:=by rw[show(UInt8.ofNat d.1.toNat).toNat=d.1.toNat by grind[UInt8.toNat_ofNat']];rw[show Bl l i d.1.toNat=AQ (Ii l i) d.1.toNat by rfl];grind[Oa,Px]
  rw[b];have:=mP h g;grind
theorem af(h:Bf r)(e:LI r=Ac w):Av r 0 w=Bp:=by obtain⟨k,_,e⟩:=Afe e;grind[mP]
theorem MI{L:Lg}(h:CD r L m)(e:LI r=C7):r=[]:=IS λd=>by obtain⟨k,c,a,b⟩:=H6 (Jt h d);obtain⟨w,f⟩:=Abk.1 a;grind[Ud]
theorem UE:∀ {w:Au},fS w w=Ak
 | []=>rfl
 |a::w=>by unfold fS;rw[UE];simp
theorem cT:∀ {w v:Au},fS w v=Bp->fS v w=Ak
 |_,[],h=>by grind[fS]
 | [],_::_,_=>by rfl
 |a::w,b::v,h=>by
  unfold fS at h⊢;simp only[Adj,AT,decide_eq_true_eq,beq_iff_eq,Bool.or_eq_false_iff,Agv,decide_eq_false_iff_not]at h⊢;rcases h with h|⟨rfl,h⟩
  ·grind
  ·exact⟨λk=>by grind, .inr (cT h)⟩
theorem UD:∀ {w v:Au},fS w v=Ak->fS v w=Ak->w=v
 | [],[],_,_=>rfl
 |a::_,[],_,h=>by trivial
 | [],_::_,h,_=>by trivial
 |a::w,b::v,h,k=>by
  unfold fS at h k;simp only[Bool.or_eq_false_iff,Agv,decide_eq_false_iff_not,beq_eq_false_iff_ne]at h k;have e:a=b:=by grind
  subst e;rw[UD (h.2.resolve_left λq=>q rfl) (k.2.resolve_left λq=>q rfl)]
def D8(x y:Int):Int:=if x<y then-1 else if y<x then 1 else 0
def FH(x y:Au):Int:=if fS x y=Bp then-1 else if fS y x=Bp then 1 else 0
def EI(x y:Au):Int:=if D8 x.length y.length=0 then FH x y else D8 x.length y.length
def q7(p q:Option Au):Int:=match p,q with
 |none,C7=>0
 |none,Ac _=>1
 |some _,C7=> -1
 |some w,Ac v=>EI w v
theorem M8(x y:Int):D8 y x= -D8 x y:=by grind[D8]
theorem BC:D8 x y=0↔x=y:=by grind[D8]
theorem SL(x y:Au):FH y x= -FH x y:=by
 unfold FH;by_cases h:fS x y=Bp;· simp_all[if_neg,cT,if_pos]
 grind
theorem KC{x y:Au} :FH x y=0↔x=y:=by
 unfold FH;constructor
 ·grind[fS,UD]
 ·grind[UE]
theorem cp(x y:Au):EI y x= -EI x y:=by
 unfold EI;rw[M8 x.length y.length];by_cases h:D8 x.length y.length=0;· rw[if_pos h,if_pos (by omega),SL]
 omega
theorem OY{x y:Au} :EI x y=0↔x=y:=by
 unfold EI;constructor
 ·grind[KC]
 ·rintro rfl;rw[if_pos (BC.2 rfl),KC.2 rfl]
theorem cv(p q:Option Au):q7 q p= -q7 p q:=by
 cases p<;>cases q;· rfl
 ·rfl
 ·rfl
 ·exact cp _ _
theorem Qt:U5 fu (x,y)=Ac (D8 x y):=by refine(Ok.eq ?_);rw[U5];unfold D8;have e:∀z,ew fu z=Ac Ak:=λz=>(by simp[ew]);refine BY (e x) (BY (e y) (P1 rf (P1 rf ?_)));exact N6 (λh=>MH (by omega)) λh=>N6 (λk=>MH (by omega)) λk=>MH (by omega)
theorem KD{x y:Au}{P:Int->Prop}(h:P (FH x y)):Ok (bif fS x y then Ac (-1:Int)else bif !(fS x y||decide (x=y))then Ac (1:Int)else Ac (0:Int)) P:=by
 unfold FH at h;refine PS (λk=>MH (by grind)) λk=>?_;rw[k]at h;by_cases e:x=y;· simp_all[UE,P1,MH]
 ·refine VO (by grind) (MH ?_);grind[fS,absurd,UD]
theorem Wq{x y:Au} :YC fu (x,y)=Ac (FH x y):=by refine(Ok.eq ?_);rw[YC];refine BY (rf) (BY (rf) ?_);rw[decide_eq_true (rf:x=x),decide_eq_true (rf:y=y)];exact P1 rf (P1 rf (KD rf))
theorem Zp{v:Au} :dM fu (w,v)=Ac (EI w v):=by
 refine(Ok.eq ?_);rw[dM];refine N6 (λh=>N6 (λk=>MH ?_) λk=>MH ?_) λh=>KD ?_;· have e:D8 w.length v.length= -1:=if_pos k;unfold EI;rw[e];rfl
 ·have e:D8 w.length v.length=1:=(if_neg k).trans (if_pos (by omega));unfold EI;rw[e];rfl
 ·unfold EI;rw[if_pos (BC.2 (by omega))]
open Classical in
noncomputable def OV(a b:Tb):Tb:=if h:∃t m,CD t (λw=>gL a w&& !gL b w) m then h.choose else []
theorem Qm{a b:Tb}{q:Nat}(h:CD r (λw=>gL a w&& !gL b w) q):OV a b=r:=by have e:∃t m,CD t (λw=>gL a w&& !gL b w) m:=⟨r,q,h⟩;unfold OV;rw[dif_pos e];obtain⟨m,c⟩:=e.choose_spec;exact c.unique h
noncomputable def E'(a b:Tb):Int:=q7 (LI (OV a b)) (LI (OV b a))
theorem JP(a b:Tb):E' b a= -E' a b:=cv _ _
theorem cw(x y:Int):D8 x y= -1\/D8 x y=0\/D8 x y=1:=by
 unfold D8;split;· exact .inl rfl
 ·split;· exact .inr (.inr rfl)
  ·exact .inr (.inl rf)
theorem cr(x y:Au):FH x y= -1\/FH x y=0\/FH x y=1:=by
 unfold FH;split;· exact .inl rfl
 ·split;· exact .inr (.inr rfl)
  ·exact .inr (.inl rf)
theorem cq(w v:Au):EI w v= -1\/EI w v=0\/EI w v=1:=by
 unfold EI;split;· exact cr _ _
 ·exact cw _ _
theorem hU(c:2<fu):ep fu [x,y]=Ac (if x=0 then y else x):=by
 refine(Ok.eq ?_);rw[ep];obtain⟨f,rfl⟩:∃f,fu=f+3:=⟨fu-3,by omega⟩;rw[Ad];refine TJ (by simp) (Aah (by simp) (N6 (λh=>MH ?_) λh=>?_));· grind
 have a:x=0:=IS h;rw[Ad];refine TJ (by simp) (Aah (by simp) (N6 (λh=>MH ?_) λh=>?_));· simp_all
 have b:y=0:=IS h;simp_all[Ad,P7,MH,if_pos]
end
section
variable {a b : Tb} {L M : Lg} {m p fu : Nat} (ha : CD a L m) (hb : CD b M p) (hm : (m + 2) * (p + 2) <= 1000000000) (hF : 1000000000000 < fu)
include ha hb hm hF
theorem HE:CD (OV a b) (λw=>L w&& !M w) (GS a b)/\GS a b<=1000000000/\YD fu (a,b)=Ac (OV a b)/\WQ fu (a,b)=Ac (OV a b):=by
 have e:=Gy (fu:=fu) ha hb (by omega) hF;have j:GS a b<=(m+2)*(p+2):=Abv (by have:=ha.len;omega) (by have:=hb.len;omega);obtain⟨r,g,c⟩:=On e;obtain⟨t,h,i⟩:=MB e;have d:=Qm c;have f:=Qm i;rw[d];refine⟨?_,by omega,g,?_⟩;· rw[ha.gL,hb.gL]at c;omega
 grind
theorem Fq:YB fu (a,b)=Ac (E' a b):=by
 have c:=Gy (fu:=fu) ha hb (by omega) hF;have f:(p+2)*(m+2)<=1000000000:=by grind
 obtain⟨d,k,h,_⟩:=HE ha hb hm hF;obtain⟨e,o,i,_⟩:=HE hb ha f hF;have g:∀ {l:Tb} {K:Lg} {q:Nat},CD l K q->NZ l->DT l (max (max m p) 256)->QR fu l=Ac l:=λ{l K q} d e j=>by rw[Gc e j c.hn c.hf (by omega),d.MV]
 refine(Ok.eq ?_);refine BY (g ha c.ha c.sa) (BY (g hb c.hb c.sb) (BY h (BY (Ox (n:=max (GS a b) 256) d (d.wf.sh (Aam d.len (by omega)) (by omega)) (by omega) (by omega)) (BY i (BY (Ox (n:=max (GS b a) 256) e (e.wf.sh (Aam e.len (by omega)) (by omega)) (by omega) (by omega)) ?_)))));unfold E';cases LI (OV a b)with
 |none=>cases LI (OV b a)with
  |none=>exact VO rfl (VO rfl (MH rfl))
  |some v=>exact VO rfl (P1 rfl (P1 rfl (VO rfl (MH rfl))))
 |some w=>cases LI (OV b a)with
  |none=>exact P1 rfl (VO rfl (MH rfl))
  |some v=>exact P1 rfl (P1 rfl (P1 rfl (BY Qt (BY Wq (BY (hU (by omega)) (MH rfl))))))
theorem bV{w v:Au}(h1:LI (OV a b)=Ac w)(h2:LI (OV b a)=Ac v):w≠v:=λe=>by
 have c:(p+2)*(m+2)<=1000000000:=by grind
 obtain⟨d,_⟩:=HE ha hb hm hF;obtain⟨f,_⟩:=HE hb ha c hF;have g:=af d.wf h1;have h:=af f.wf h2;rw[d.lg]at g;rw[f.lg]at h;grind
theorem JN:dL fu (a,b)=Ac (E' a b):=by
 have e:(p+2)*(m+2)<=1000000000:=by rw[Ada];exact hm
 obtain⟨c,o,_,g⟩:=HE ha hb hm hF;obtain⟨d,q,_,i⟩:=HE hb ha e hF;have ne:=λw v=>bV ha hb hm hF (w:=w) (v:=v);refine(Ok.eq ?_);rw[dL];refine BY g (BY (IM (n:=max (GS a b) 256) c (c.wf.sh (Aam c.len (by omega)) (by omega)) (by omega) (by omega)) (BY i (BY (IM (n:=max (GS b a) 256) d (d.wf.sh (Aam d.len (by omega)) (by omega)) (by omega) (by omega)) ?_)));unfold E';cases j:LI (OV a b)with
 |none=>cases f:LI (OV b a)with
  |none=>exact VO rfl (VO rfl (MH rfl))
  |some v=>exact VO rfl (P1 rfl (P1 rfl (MH rfl)))
 |some w=>cases f:LI (OV b a)with
  |none=>exact P1 rfl (VO rfl (VO rfl (MH rfl)))
  |some v=>
   have k:EI w v≠0:=λh=>ne w v j f (OY.1 h);have l:=cq w v;refine P1 rfl (VO rfl (P1 rfl (BY Zp (N6 (λh=>MH ?_) λh=>MH ?_))));· have h:EI w v<0:=h;show-1=EI w v;omega
   ·have h:¬EI w v<0:=h;show 1=EI w v;omega
theorem KE:E' a b=0↔a=b:=by
 have c:(p+2)*(m+2)<=1000000000:=by grind
 obtain⟨e,_⟩:=HE ha hb hm hF;obtain⟨f,_⟩:=HE hb ha c hF;have ne:=λw v=>bV ha hb hm hF (w:=w) (v:=v);constructor;· unfold E';cases g:LI (OV a b)with
  |none=>cases d:LI (OV b a)with
   |none=>
    intro _;have i:=e.Gx.1 (MI e g);have j:=f.Gx.1 (MI f d);refine ha.unique (hb.congr (funext λw=>?_));have n:=congrFun i w;have o:=congrFun j w;cases k:L w<;>cases l:M w<;>simp_all
   |some v=>intro h;cases h
  |some w=>cases d:LI (OV b a)with
   |none=>intro h;cases h
   |some v=>intro h;exact absurd (OY.1 h) (ne w v g d)
 ·grind[JP]
end
section
variable{fu:Nat}{a b:Bool}{x y:Sc}{l:List Int}{P:Int->Prop}{k m p:Nat}
theorem Qq{x y:List Sp×List Sp}(N:Lt x)(O:Lt y)(S:x.1.length+y.1.length<=11/\x.2.length+y.2.length<=11)(F:20<fu):
  ∃c,Lw fu (x,y)=Ac c/\Lw fu (y,x)=Ac (-c)/\(c=0->(∀n,A8 x n↔A8 y n)/\∀n,A6 x n↔A6 y n):=by
 obtain⟨p,_,i,t,V,W⟩:=Ga (fu:=fu) (gu:=200) N O S F (by omega);obtain⟨q,_,j,B,X,Y⟩:=Ga (fu:=fu) (gu:=200) O N (by omega) F (by omega);have T:=t.sm (by omega) (by omega);have U:=B.sm (by omega) (by omega);obtain⟨Q,v,f,z,_,ev,P⟩:=H7 (fu:=fu) (gu:=200) T F (by omega);obtain⟨R,w,g,C,_,o,lw⟩:=H7 (fu:=fu) (gu:=200) U F (by omega);have A:∀u,C0 Q u->C0 x u/\ -1000000000000000<=u/\u<=1000000000000000:=λu k=>by
  rcases(E0 z u).1 k with⟨a,b⟩|⟨a,b⟩;· have b:=(t.A8 _).1 b;exact⟨.inl ⟨a,b.1.1.1⟩,by omega⟩
  ·have b:=(t.A6 _).1 b;have c:=b.1.1.1;rw[Ik a]at c b;exact⟨.inr ⟨a,c⟩,b.2⟩
 have D:∀u,C0 R u->¬C0 x u/\ -1000000000000000<=u/\u<=1000000000000000:=λu k=>by
  rcases(E0 C u).1 k with⟨a,b⟩|⟨a,b⟩
  ·have b:=(B.A8 _).1 b;refine⟨λk=>?_,by omega⟩;rcases k with⟨_,k⟩|⟨k,_⟩;· exact b.1.2 ⟨k,b.2⟩
   omega
  ·have b:=(B.A6 _).1 b;have K:=b.2;rw[Ik a]at K;refine⟨λk=>?_,K⟩;rcases k with⟨k,_⟩|⟨_,k⟩;· omega
   ·exact b.1.2 ⟨by grind[Ik],b.2⟩
 have E:∀u,C0 Q u\/C0 R u-> -2000000000000000<=u/\u<=2000000000000000:=λu k=>k.elim (λk=>by have:=(A u k).2;omega) (λk=>by have:=(D u k).2;omega);have m:∀c,Ok (Lw fu (x,y)) (λr=>r=c)->Lw fu (x,y)=Ac c:=λc k=>k.eq;have d:∀c,Ok (Lw fu (y,x)) (λr=>r=c)->Lw fu (y,x)=Ac c:=λc k=>k.eq;have nil:∀ {r H:List Sp×List Sp},Eh r (A8 r) (A6 r)->Eh H (A8 r) (A6 r)->(∀u,¬C0 H u)->r=([],[]):=λ{r H} h M no=>(h.unique M).trans ((Agl M).1 no);cases f with
 |false=>
  cases g with
  |false=>
   refine⟨0,m _ ?_,d _ ?_,λ_=>?_⟩;· exact BY i (BY ev (BY j (BY o (VO rf (VO rf (MH rf))))))
   ·exact BY j (BY o (BY i (BY ev (VO rf (VO rf (MH rf))))))
   ·have a:=(Ki t).1 (nil (t.self (λn h=>h.1.2) (λn h=>h.1.2)) z (P.no rfl).2);have b:=(Ki B).1 (nil (B.self (λn h=>h.1.2) (λn h=>h.1.2)) C (lw.no rfl).2);exact⟨λn=>⟨a.1 n,b.1 n⟩,λn=>⟨a.2 n,b.2 n⟩⟩
  |true=>
   refine⟨1,m _ ?_,d _ ?_,λh=>by omega⟩;· exact BY i (BY ev (BY j (BY o (VO rf (P1 rf (P1 rf (P1 rf (MH rf))))))))
   ·exact BY j (BY o (BY i (BY ev (P1 rf (VO rf (MH rf))))))
 |true=>
  have I:=P.yes rfl;cases g with
  |false=>
   refine⟨-1,m _ ?_,d _ ?_,λh=>by omega⟩;· exact BY i (BY ev (BY j (BY o (P1 rf (VO rf (MH rf))))))
   ·exact BY j (BY o (BY i (BY ev (VO rf (P1 rf (P1 rf (P1 rf (MH rf))))))))
  |true=>
   have J:=lw.yes rfl;have L:=VI (fu:=fu) (E v (.inl I.1)) (E w (.inr J.1));have s:=VI (fu:=fu) (E w (.inr J.1)) (E v (.inl I.1));have ne:v≠w:=λe=>(D w J.1).1 (e▸(A v I.1).1);by_cases c:Co v w
   ·have G:¬Co w v:=λk=>by unfold Co ab at c k;omega
    refine⟨-1,m _ ?_,d _ ?_,λh=>by omega⟩;· exact BY i (BY ev (BY j (BY o (P1 rf (P1 rf (VO rf (BY L (VO (decide_eq_true c) (MH rf)))))))))
    ·exact BY j (BY o (BY i (BY ev (P1 rf (P1 rf (VO rf (BY s (P1 (decide_eq_false G) (MH rf)))))))))
   ·have G:Co w v:=IS λk=>ne (MA c k);refine⟨1,m _ ?_,d _ ?_,λh=>by omega⟩;· exact BY i (BY ev (BY j (BY o (P1 rfl (P1 rfl (VO rfl (BY L (P1 (decide_eq_false c) (MH rfl)))))))))
    ·exact BY j (BY o (BY i (BY ev (P1 rf (P1 rf (VO rf (BY s (VO (decide_eq_true G) (MH rf)))))))))
def Dc(a b:Bool):Int:=if a=b then 0 else if a=Bp then-1 else 1
theorem HL(a b:Bool):Dc b a= -Dc a b:=by cases a<;>cases b<;>rfl
theorem EN:Dc a b=0↔a=b:=by cases a<;>cases b<;>decide
theorem Qu:dN fu (a,b)=Ac (Dc a b):=by cases a<;>cases b<;>rfl
def fz:List Int->Int
 | []=>0
 |x::l=>if x=0 then fz l else x
theorem Uo:∀l:List Int,fz (l.map λx=> -x)= -fz l
 | []=>rfl
 |x::l=>by
  show(if-x=0 then fz (l.map λx=> -x)else-x)= -(if x=0 then fz l else x);by_cases h:x=0;· rw[if_pos (by omega),if_pos h,Uo l]
  omega
theorem Fl:∀ {l:List Int},fz l=0->∀x∈l,x=0
 | [],_,x,a=>by grind
 |y::l,h,x,a=>by
  have h:(if y=0 then fz l else y)=0:=h;by_cases k:y=0
  ·rw[if_pos k]at h;rcases Aav.1 a with rfl|a;· omega
   ·exact Fl h x a
  omega
theorem Si(i:l.length<fu)(h:P (fz l)):
  Ok (Ad fu (λ(d:Nat) c=>bif Dm ((d:Int)<(l.length:Int))then Ab (idx l (d:Int)) λg=>bif Dm (g≠(0:Int))then Ac g else c (d+1)else Ac (0:Int)) 0) P:=by
 refine Vs (λk=>fz (l.drop k)=fz l) l.length rf i (λk nx f a j=>?_) (λnx a=>?_)
 ·have e:fz (l.drop k)=if l[k]=0 then fz (l.drop (k+1))else l[k]:=by rw[Aaq f];rfl
  refine PW (Aah f (N6 (λb=>MH ?_) λb=>j ?_));all_goals grind
 simp_all[fz,Aef,PY,MH]
theorem bp{K:Option Int}(h1:Dc a b≠0->P (Dc a b))(h2:Dc a b=0->Ok K P):
  Ok (bif Dm ((a::[b])=(Bp::[Ak]))then Ac (-1:Int)else bif Dm ((a::[b])=(Ak::[Bp]))then Ac (1:Int)else K) P:=by
 cases a<;>cases b;· exact P1 rfl (P1 rfl (h2 rfl))
 ·exact P1 rf (VO rf (MH (h1 (by decide))))
 ·exact VO rf (MH (h1 (by decide)))
 ·exact P1 rf (P1 rf (h2 rf))
theorem GG{gu H:Nat}(d:Ie k m x)(g:Ie H p y)(hk:k+H<=11)(t:(m+2)*(p+2)<=100000000)(r:1000000000000<fu)(F:1000000000000<gu):
  ∃c,Tv fu (x,y)=Ac c/\Yn gu (x,y)=Ac c/\Tv fu (y,x)=Ac (-c)/\(c=0->x=y):=by
 have q1:m<=(m+2)*(p+2):=Aam (by omega:m<=(m+2)*1) (Abv (Aae _) (by omega));have q2:p<=(m+2)*(p+2):=Aam (by omega:p<=1*(p+2)) (Abv (by omega) (Aae _));have G:(p+2)*(m+2)<=100000000:=by rw[Ada];exact t
 have x1:=d.n1;have x2:=d.n2;have y1:=g.n1;have y2:=g.n2;have w:=d.sc (by omega:k<=12);have A:=g.sc (by omega:H<=12);have L:dC fu x=Ac Bp:=by obtain⟨b,e,j⟩:=HV (fu:=fu) w (by omega) r;rw[e,j.2 ⟨d.nu,d.ln.wf,d.ln.can⟩]
 have M:dC fu y=Ac Bp:=by obtain⟨b,e,j⟩:=HV (fu:=fu) A (by omega) r;rw[e,j.2 ⟨g.nu,g.ln.wf,g.ln.can⟩]
 have T:NU gu x=Ac Bp:=by obtain⟨b,e,j⟩:=N4 (fu:=gu) w (by omega) F;rw[e,j.2 ⟨d.nu,d.ln.wf,d.ln.can⟩]
 have U:NU gu y=Ac Bp:=by obtain⟨b,e,j⟩:=N4 (fu:=gu) A (by omega) F;rw[e,j.2 ⟨g.nu,g.ln.wf,g.ln.can⟩]
 obtain⟨n,K,B,zn⟩:=Qq (fu:=fu) w.sm A.sm (by omega) (by omega);obtain⟨S,P,C⟩:=SG (fu:=fu) (gu:=gu) w.sm A.sm (by omega) (by omega) (by omega);obtain rfl:n=S:=Abp (K.symm.trans C);have J:=Fq d.ln g.ln (Aam t (by decide)) r;have o:=Fq g.ln d.ln (Aam G (by decide)) r;have q:=JN d.ln g.ln (Aam t (by decide)) F;have O:=KE d.ln g.ln (Aam t (by decide)) r;have sl:=JP x.2.2.2.2 y.2.2.2.2;generalize E' x.2.2.2.2 y.2.2.2.2=l at J q O sl;generalize E' y.2.2.2.2 x.2.2.2.2=l' at o sl;subst sl;have i:∀ {u v:Sc} {n l:Int},dC fu u=Ac Bp->dC fu v=Ac Bp->Lw fu (u.2.2.2.1,v.2.2.2.1)=Ac n->YB fu (u.2.2.2.2,v.2.2.2.2)=Ac l->Tv fu (u,v)=Ac (fz [Dc u.1 v.1,Dc u.2.1 v.2.1,Dc u.2.2.1 v.2.2.1,n,l]):=λ{u v n l} s E Q R=>by
  refine(Ok.eq ?_);rw[Tv];refine BY s (P1 rfl (BY E (P1 rfl ?_)));obtain⟨f,rfl⟩:∃f,fu=f+4:=⟨fu-4,by omega⟩;rw[Ad];refine TJ (by decide) (PA (by decide) (BY (a:=(u.1,v.1)) rfl (bp (λh=>(if_neg h).symm) λD=>Abx (by decide) ?_)));rw[Ad];refine TJ (by decide) (PA (by decide) (BY (a:=(u.2.1,v.2.1)) rfl (bp (λh=>((if_pos D).trans (if_neg h)).symm) λs=>Abx (by decide) ?_)));rw[Ad];refine TJ (by decide) (PA (by decide) (BY (a:=(u.2.2.1,v.2.2.1)) rfl (bp (λh=>((if_pos D).trans ((if_pos s).trans (if_neg h))).symm) λE=>Abx (by decide) ?_)));rw[Ad];have I:fz [Dc u.1 v.1,Dc u.2.1 v.2.1,Dc u.2.2.1 v.2.2.1,n,l]=fz [n,l]:=(if_pos D).trans ((if_pos s).trans (if_pos E));refine P7 (by decide) (BY Q (N6 (λh=>MH ?_) λh=>BY R (MH ?_)));· rw[I];exact(if_neg h).symm
  ·rw[I];refine Eq.trans ?_ (if_pos (IS h)).symm;show l=if l=0 then 0 else l;split;· assumption
   ·rfl
 refine⟨fz [Dc x.1 y.1,Dc x.2.1 y.2.1,Dc x.2.2.1 y.2.2.1,n,l],i L M K J,?_,?_,λh=>?_⟩;· refine(Ok.eq ?_);rw[Yn];exact BY T (P1 rf (BY U (P1 rf (BY Qu (BY Qu (BY Qu (BY P (BY q (Si (l:=[Dc x.1 y.1,Dc x.2.1 y.2.1,Dc x.2.2.1 y.2.2.1,n,l]) (by simp;omega) rf)))))))))
 ·rw[i M L B o,<-Uo];simp only[Aar,Aei];rw[HL x.1,HL x.2.1,HL x.2.2.1]
 ·have z:=Fl h;have V:=EN.1 (z (Dc x.1 y.1) (by simp));have W:=EN.1 (z (Dc x.2.1 y.2.1) (by simp));have X:=EN.1 (z (Dc x.2.2.1 y.2.2.1) (by simp));have N:=zn (z n (by simp));have Y:=O.1 (z l (by simp));have Z:=d.nu.unique (g.nu.congr (λn=>(N.1 n).symm) λn=>(N.2 n).symm);exact Acu V (Acu W (Acu X (Acu Z Y)))
noncomputable def E6(x y:Sc):Int:=(Yn 2000000000000 (x,y)).getD 0
theorem Gi{j:Nat}(e:Ie k m x)(f:Ie j p y)(i:k+j<=11)(b:(m+2)*(p+2)<=100000000)(a:1000000000000<fu):
  Tv fu (x,y)=Ac (E6 x y)/\Yn fu (x,y)=Ac (E6 x y)/\E6 y x= -E6 x y/\(E6 x y=0->x=y):=by
 have d:(p+2)*(m+2)<=100000000:=by rw[Ada];exact b
 obtain⟨c,g,n,o,q⟩:=GG (fu:=fu) (gu:=2000000000000) e f i b a (by decide);obtain⟨w,r,s,_⟩:=GG (fu:=fu) (gu:=fu) e f i b a a;obtain⟨l,t,u,_⟩:=GG (fu:=fu) (gu:=2000000000000) f e (by omega) d a (by decide);have h:E6 x y=c:=by unfold E6;rw[n];rfl
 have v:E6 y x=l:=by unfold E6;rw[u];rfl
 rw[h,v];exact⟨g,by rw[s,<-r,g],Abp (t.symm.trans o),q⟩
def A7{α:Type}(c:α->α->Int):List α->List α->Int
 | [],[]=>0
 | [],_::_=> -1
 |_::_,[]=>1
 |x::a,y::b=>if c x y=0 then A7 c a b else c x y
theorem Gj{α:Type}{c:α->α->Int} :∀ {a b:List α},(∀x∈a,∀y∈b,c y x= -c x y)->A7 c b a= -A7 c a b
 | [],[],_=>rfl
 | [],_::_,_=>rfl
 |_::_,[],_=>rfl
 |x::a,y::b,h=>by have g:=Gj (a:=a) (b:=b) λu d v f=>h u (Aag _ d) v (Aag _ f);grind[A7]
theorem D7{α:Type}{c:α->α->Int} :∀ {a b:List α},(∀x∈a,∀y∈b,c x y=0->x=y)->A7 c a b=0->a=b
 | [],[],_,_=>rfl
 | [],_::_,_,h=>by cases h
 |_::_,[],_,h=>by cases h
 |x::a,y::b,h,e=>by have i:=D7 (a:=a) (b:=b) λu f v g=>h u (Aag _ f) v (Aag _ g);grind[A7,absurd]
def JO(R:Vl->Vl->Int)(x y:Bc):Int:=fz [R x.1 y.1,R x.2 y.2]
def DH(R:Vl->Vl->Int)(c b:G4):Int:=fz [D8 c.1.length b.1.length,Dc (Dm (0<c.2.length)) (Dm (0<b.2.length)),A7 (JO R) (AY c) (AY b)]
def SM(R:Vl->Vl->Int)(f a:Au×Int×Bc):Int:=fz [FH f.1 a.1,D8 f.2.1 a.2.1,JO R f.2.2 a.2.2]
noncomputable def SN(R:Vl->Vl->Int)(k a:Tb×Bc):Int:=fz [E' k.1 a.1,JO R k.2 a.2]
noncomputable def Es(R:Vl->Vl->Int)(c a:BA):Int:=fz [A7 (SM R) c.1 a.1,A7 (SN R) c.2 a.2]
noncomputable def Bx:Nat->Vl->Vl->Int
 |0,_,_=>0
 |d+1,a,b=>fz [Dc a.any b.any,E6 a.sc b.sc,A7 (DH (Bx d)) a.lists b.lists,A7 (Es (Bx d)) a.structs b.structs]
theorem Ks{a:List Int}(h:a=l.map λx=> -x):fz a= -fz l:=by rw[h,Uo]
end
section
variable {R : Vl -> Vl -> Int} {d : Nat} (hs : ∀ {a b : Vl}, SV d a -> SV d b -> R b a = - R a b /\ (R a b = 0 -> a = b))
include hs
theorem HJ{x y:Bc}(f:SW d x)(g:SW d y):JO R y x= -JO R x y/\(JO R x y=0->x=y):=by have c:=hs f.1 g.1;have e:=hs f.2 g.2;refine⟨Ks (by simp_all),λh=>?_⟩;have z:=Fl h;exact Acu (c.2 (z _ (by simp))) (e.2 (z _ (by simp)))
theorem O3{c f:G4}(hc:∀x∈AY c,SW d x)(g:∀x∈AY f,SW d x):DH R f c= -DH R c f/\(DH R c f=0->c=f):=by
 refine⟨Ks ?_,λh=>?_⟩;· simp only[Aar,Aei];grind[M8,HL,Gj,HJ]
 ·have z:=Fl h;have l:=BC.1 (z (D8 c.1.length f.1.length) (by simp));have k:=D7 (λx i y j=>(HJ hs (hc x i) (g y j)).2) (z (A7 (JO R) (AY c) (AY f)) (by simp));have:=Alf k (by omega);grind
theorem cy{f c:Au×Int×Bc}(h:SW d f.2.2)(e:SW d c.2.2):SM R c f= -SM R f c/\(SM R f c=0->f=c):=by
 have k:=HJ hs h e;refine⟨Ks ?_,λh=>?_⟩;· grind[SL,M8]
 ·have z:=Fl h;have g:=KC.1 (z (FH f.1 c.1) (by simp));have i:=BC.1 (z (D8 f.2.1 c.2.1) (by simp));have j:=k.2 (z (JO R f.2.2 c.2.2) (by simp));grind
theorem cz{k c:Tb×Bc}(l:CD k.1 (Av k.1 0) 14641)(f:CD c.1 (Av c.1 0) 14641)(h:SW d k.2)(e:SW d c.2):SN R c k= -SN R k c/\(SN R k c=0->k=c):=by
 have q:=HJ hs h e;refine⟨Ks ?_,λh=>?_⟩;· grind[JP]
 ·have z:=Fl h;have g:=(KE (fu:=2000000000000) l f (by simp) (by decide)).1 (z (E' k.1 c.1) (by simp));exact Acu g (q.2 (z (JO R k.2 c.2) (by simp)))
theorem OZ{c j:BA}(b:NQ c)(b':NQ j)(g:Dz c)(m:Dz j)(hc:∀x∈Bq c,SW d x)(l:∀x∈Bq j,SW d x):Es R j c= -Es R c j/\(Es R c j=0->c=j):=by
 have f:=λx (e:x∈c.1) y (i:y∈j.1)=>cy hs (hc _ (AS.2 (.inl (By.2 ⟨x,e,rfl⟩)))) (l _ (AS.2 (.inl (By.2 ⟨y,i,rfl⟩))));have k:=λx (e:x∈c.2) y (i:y∈j.2)=>cz hs ⟨(g.1 x e).2.1,(g.1 x e).2.2,rfl,b.each x e⟩ ⟨(m.1 y i).2.1,(m.1 y i).2.2,rfl,b'.each y i⟩ (hc _ (AS.2 (.inr (By.2 ⟨x,e,rfl⟩)))) (l _ (AS.2 (.inr (By.2 ⟨y,i,rfl⟩))));refine⟨Ks ?_,λh=>?_⟩;· simp only[Aar,Aei];grind[Gj]
 ·have z:=Fl h;exact Acu (D7 (λx e y i=>(f x e y i).2) (z (A7 (SM R) c.1 j.1) (by simp))) (D7 (λx e y i=>(k x e y i).2) (z (A7 (SN R) c.2 j.2) (by simp)))
end
section
variable{α:Type}{fu:Nat}{b:List α}{c:α->α->Int}{a:List α}{f:α->α->Option Int}{g1 g2:α×α->Option (Int×α×α)}{x y:α}{g3:α×α->Option (Int×α×α)}{h:Int}{E:Option Int}{P:Int->Prop}
theorem Aiw{a b:Vl}(h1:a.any=b.any)(h2:a.sc=b.sc)(h3:a.lists=b.lists)(c:a.structs=b.structs):a=b:=by cases a;cases b;grind[Vl.any,Vl.sc,Vl.lists,Vl.structs]
theorem HK:∀ {d:Nat} {a b:Vl},SV d a->SV d b->Bx d b a= -Bx d a b/\(Bx d a b=0->a=b)
 |0,_,_,h,_=>h.1.elim
 |d+1,a,b,f,g=>by
  have k:=Dr f.1.1 f.2.1.sc;have sb:=Dr g.1.1 g.2.1.sc;obtain⟨_,_,i,j⟩:=Gi (fu:=2000000000000) k sb (by decide) (by decide) (by decide);have l:=λx (c:x∈a.lists) y (e:y∈b.lists)=>O3 HK (f.lv c) (g.lv e);have s:=λx (c:x∈a.structs) y (e:y∈b.structs)=>OZ HK (f.1.2.2.1.2 x c) (g.1.2.2.1.2 y e) (f.2.1.st x c).2 (g.2.1.st y e).2 (f.sv c) (g.sv e);refine⟨Ks ?_,λh=>?_⟩;· simp only[Aar,Aei];rw[<-HL,i,<-Gj λx c y e=>(l x c y e).1,<-Gj λx c y e=>(s x c y e).1]
  ·have z:=Fl h;exact Aiw (EN.1 (z (Dc a.any b.any) (by simp))) (j (z (E6 a.sc b.sc) (by simp))) (D7 (λx c y e=>(l x c y e).2) (z (A7 (DH (Bx d)) a.lists b.lists) (by simp))) (D7 (λx c y e=>(s x c y e).2) (z (A7 (Es (Bx d)) a.structs b.structs) (by simp)))
theorem E7(o:a.length<fu)(h:∀x∈a,∀y∈b,f x y=Ac (c x y)):
  Ok (Ad fu (λ(g:Nat) l=>bif Dm ((g:Int)<(a.length:Int))then Ab (idx a (g:Int)) λq=>bif Dm ((b.length:Int)<=(g:Int))then Ac (1:Int)else Ab (idx b (g:Int)) λs=>Ab (f q s) λm=>bif Dm (m≠(0:Int))then Ac m else l (g+1)else bif Dm ((a.length:Int)<(b.length:Int))then Ac (-1:Int)else Ac (0:Int)) 0) λr=>r=A7 c a b:=by
 refine Vs (λk=>k<=b.length/\A7 c (a.drop k) (b.drop k)=A7 c a b) a.length ⟨Abh _,rf⟩ o (λk nx j d p=>?_) (λnx d=>?_)
 ·obtain⟨n,d⟩:=d;rw[Aaq j]at d;refine PW (Aah j (N6 (λe=>MH ?_) λe=>?_));· rw[Afg (by omega:b.length<=k)]at d;exact d
  ·have e:k<b.length:=by omega
   rw[Aaq e]at d;refine Aah e (BY (h _ (AN j) _ (AN e)) (N6 (λi=>MH ?_) λi=>p ⟨by omega,?_⟩));· rw[<-d];exact(if_neg i).symm
   ·rw[<-d];exact(if_pos (IS i)).symm
 ·obtain⟨n,d⟩:=d;rw[Aef]at d;refine PY (N6 (λe=>MH ?_) λe=>MH ?_);· rw[Aaq (by omega:a.length<b.length)]at d;exact d
  ·rw[Afg (by omega:b.length<=a.length)]at d;exact d
theorem Kv{d e:Int}(h1:g1 (x,y)=Ac (d,x,y))(h2:g2 (x,y)=Ac (e,x,y)):
  Ok (bif Dm ((0:Int)<(↑2:Int))then Af ((0:Int)<=(0:Int)/\(0:Int)<(↑2:Int))<|Ab (g1 (x,y)) λa=>bif Dm (a.1≠(0:Int))then Ac (a.1,a.2.1,a.2.2)else Aa (Lh.i64) ((0:Int)+(1:Int))<|bif Dm ((0:Int)+(1:Int)<(↑2:Int))then Af ((0:Int)<=(0:Int)+(1:Int)/\(0:Int)+(1:Int)<(↑2:Int))<|Ab (g2 (a.2.1,a.2.2)) λb=>bif Dm (b.1≠(0:Int))then Ac (b.1,b.2.1,b.2.2)else Aa (Lh.i64) ((0:Int)+(1:Int)+(1:Int))<|bif Dm ((0:Int)+(1:Int)+(1:Int)<(↑2:Int))then Af ((0:Int)<=(0:Int)+(1:Int)+(1:Int)/\(0:Int)+(1:Int)+(1:Int)<(↑2:Int))<|none else Ac ((0:Int),b.2.1,b.2.2)else Ac ((0:Int),a.2.1,a.2.2)else Ac ((0:Int),x,y)) λr=>r.1=fz [d,e]:=by
 refine TJ (by simp) (PA (by simp) (BY h1 (N6 (λk=>MH (if_neg k).symm) λc=>Abx (by simp) ?_)));refine TJ (by simp) (PA (by simp) (BY h2 (N6 (λk=>MH ((if_pos (IS c)).trans (if_neg k)).symm) λf=>Abx (by simp) ?_)));exact P7 (by simp) (MH ((if_pos (IS c)).trans (if_pos (IS f))).symm)
theorem OR{f g:Int}(h1:g1 (x,y)=Ac (f,x,y))(h2:g2 (x,y)=Ac (g,x,y))(h3:g3 (x,y)=Ac (h,x,y)):
  Ok (bif Dm ((0:Int)<(↑3:Int))then Af ((0:Int)<=(0:Int)/\(0:Int)<(↑3:Int))<|Ab (g1 (x,y)) λa=>bif Dm (a.1≠(0:Int))then Ac (a.1,a.2.1,a.2.2)else Aa (Lh.i64) ((0:Int)+(1:Int))<|bif Dm ((0:Int)+(1:Int)<(↑3:Int))then Af ((0:Int)<=(0:Int)+(1:Int)/\(0:Int)+(1:Int)<(↑3:Int))<|Ab (g2 (a.2.1,a.2.2)) λb=>bif Dm (b.1≠(0:Int))then Ac (b.1,b.2.1,b.2.2)else Aa (Lh.i64) ((0:Int)+(1:Int)+(1:Int))<|bif Dm ((0:Int)+(1:Int)+(1:Int)<(↑3:Int))then Af ((0:Int)<=(0:Int)+(1:Int)+(1:Int)/\(0:Int)+(1:Int)+(1:Int)<(↑3:Int))<|Ab (g3 (b.2.1,b.2.2)) λc=>bif Dm (c.1≠(0:Int))then Ac (c.1,c.2.1,c.2.2)else Aa (Lh.i64) ((0:Int)+(1:Int)+(1:Int)+(1:Int))<|bif Dm ((0:Int)+(1:Int)+(1:Int)+(1:Int)<(↑3:Int))then Af ((0:Int)<=(0:Int)+(1:Int)+(1:Int)+(1:Int)/\(0:Int)+(1:Int)+(1:Int)+(1:Int)<(↑3:Int))<|none else Ac ((0:Int),c.2.1,c.2.2)else Ac ((0:Int),b.2.1,b.2.2)else Ac ((0:Int),a.2.1,a.2.2)else Ac ((0:Int),x,y)) λr=>r.1=fz [f,g,h]:=by
 refine TJ (by simp) (PA (by simp) (BY h1 (N6 (λk=>MH (if_neg k).symm) λd=>Abx (by simp) ?_)));refine TJ (by simp) (PA (by simp) (BY h2 (N6 (λk=>MH ((if_pos (IS d)).trans (if_neg k)).symm) λe=>Abx (by simp) ?_)));refine TJ (by simp) (PA (by simp) (BY h3 (N6 (λk=>MH ((if_pos (IS d)).trans ((if_pos (IS e)).trans (if_neg k))).symm) λi=>Abx (by simp) ?_)));exact P7 (by simp) (MH ((if_pos (IS d)).trans ((if_pos (IS e)).trans (if_pos (IS i)))).symm)
theorem XR{g4:α×α->Option (Int×α×α)}{i j l:Int}(h1:g1 (x,y)=Ac (h,x,y))(h2:g2 (x,y)=Ac (i,x,y))(h3:g3 (x,y)=Ac (j,x,y))(m:g4 (x,y)=Ac (l,x,y)):
  Ok (bif Dm ((0:Int)<(↑4:Int))then Af ((0:Int)<=(0:Int)/\(0:Int)<(↑4:Int))<|Ab (g1 (x,y)) λa=>bif Dm (a.1≠(0:Int))then Ac (a.1,a.2.1,a.2.2)else Aa (Lh.i64) ((0:Int)+(1:Int))<|bif Dm ((0:Int)+(1:Int)<(↑4:Int))then Af ((0:Int)<=(0:Int)+(1:Int)/\(0:Int)+(1:Int)<(↑4:Int))<|Ab (g2 (a.2.1,a.2.2)) λb=>bif Dm (b.1≠(0:Int))then Ac (b.1,b.2.1,b.2.2)else Aa (Lh.i64) ((0:Int)+(1:Int)+(1:Int))<|bif Dm ((0:Int)+(1:Int)+(1:Int)<(↑4:Int))then Af ((0:Int)<=(0:Int)+(1:Int)+(1:Int)/\(0:Int)+(1:Int)+(1:Int)<(↑4:Int))<|Ab (g3 (b.2.1,b.2.2)) λc=>bif Dm (c.1≠(0:Int))then Ac (c.1,c.2.1,c.2.2)else Aa (Lh.i64) ((0:Int)+(1:Int)+(1:Int)+(1:Int))<|bif Dm ((0:Int)+(1:Int)+(1:Int)+(1:Int)<(↑4:Int))then Af ((0:Int)<=(0:Int)+(1:Int)+(1:Int)+(1:Int)/\(0:Int)+(1:Int)+(1:Int)+(1:Int)<(↑4:Int))<|Ab (g4 (c.2.1,c.2.2)) λd=>bif Dm (d.1≠(0:Int))then Ac (d.1,d.2.1,d.2.2)else Aa (Lh.i64) ((0:Int)+(1:Int)+(1:Int)+(1:Int)+(1:Int))<|bif Dm ((0:Int)+(1:Int)+(1:Int)+(1:Int)+(1:Int)<(↑4:Int))then Af ((0:Int)<=(0:Int)+(1:Int)+(1:Int)+(1:Int)+(1:Int)/\(0:Int)+(1:Int)+(1:Int)+(1:Int)+(1:Int)<(↑4:Int))<|none else Ac ((0:Int),d.2.1,d.2.2)else Ac ((0:Int),c.2.1,c.2.2)else Ac ((0:Int),b.2.1,b.2.2)else Ac ((0:Int),a.2.1,a.2.2)else Ac ((0:Int),x,y)) λr=>r.1=fz [h,i,j,l]:=by
 refine TJ (by simp) (PA (by simp) (BY h1 (N6 (λk=>MH (if_neg k).symm) λe=>Abx (by simp) ?_)));refine TJ (by simp) (PA (by simp) (BY h2 (N6 (λk=>MH ((if_pos (IS e)).trans (if_neg k)).symm) λf=>Abx (by simp) ?_)));refine TJ (by simp) (PA (by simp) (BY h3 (N6 (λk=>MH ((if_pos (IS e)).trans ((if_pos (IS f)).trans (if_neg k))).symm) λg=>Abx (by simp) ?_)));refine TJ (by simp) (PA (by simp) (BY m (N6 (λk=>MH ((if_pos (IS e)).trans ((if_pos (IS f)).trans ((if_pos (IS g)).trans (if_neg k)))).symm) λn=>Abx (by simp) ?_)));exact P7 (by simp) (MH ((if_pos (IS e)).trans ((if_pos (IS f)).trans ((if_pos (IS g)).trans (if_pos (IS n))))).symm)
theorem V6{a b:Bool} :j9 fu (a,b)=Ac (Dc a b):=by cases a<;>cases b<;>rfl
theorem Yh{x:Option (Int×α)}{n:Int}(h:Ok x λr=>r.1=n):GK.Ab x (λr=>Ac r.1)=Ac n:=by obtain⟨r,rfl,h⟩:=h;rw[<-h];rfl
theorem IW:∀ {d fu:Nat} {a b:Vl},SV d a->SV d b->1000000000000+20*d<fu->eo fu (a,b)=Ac (Bx d a b)
 |0,_,_,_,h,_,_=>h.1.elim
 |d+1,fu,a,b,j,k,X=>by
  obtain⟨f,rfl⟩:∃f,fu=f+15:=⟨fu-15,by omega⟩;have c:∀ {g:Nat} {x y:Bc},SW d x->SW d y->1000000000000+20*d+3<g->Yv g (x,y)=Ac (JO (Bx d) x y):=λ{g x y} z A Y=>by
   obtain⟨e,rfl⟩:∃e,g=e+3:=⟨g-3,by omega⟩;refine(d205 (e+2) x y).trans (Yh ?_);rw[show tv (e+2) (x,y)=_ from d204 (e+1) x y];refine Kv (g1:=tz (e+1)) (g2:=tx (e+1)) ?_ ?_;· refine(d202 e x y).trans (Ok.eq ?_);exact BY (IW z.1 A.1 (by omega)) (MH rfl)
   ·refine(d203 e x y).trans (Ok.eq ?_);exact BY (IW z.2 A.2 (by omega)) (MH rf)
  have O:=Dr j.1.1 j.2.1.sc;have sb:=Dr k.1.1 k.2.1.sc;obtain⟨R,⟨S,E⟩,⟨T,F⟩,_⟩:=id j.1;obtain⟨U,⟨V,G⟩,⟨W,H⟩,_⟩:=id k.1;refine(d227 (f+14) a b).trans (Yh ?_);rw[show sV (f+14) (a,b)=_ from d226 (f+13) a b];refine XR (g1:=tD (f+13)) (g2:=tC (f+13)) (g3:=tg (f+13)) (g4:=sW (f+13)) ?_ ?_ ?_ ?_;· refine(Ok.eq ?_);exact BY V6 (MH rfl)
  ·refine(Ok.eq ?_);exact BY (Gi O sb (by simp) (by simp) (by omega)).1 (MH rf)
  ·refine(d211 (f+12) a b).trans (Ok.eq ?_);refine Oy (Q:=λr=>r=A7 (DH (Bx d)) a.lists b.lists) ?_ λr i=>MH (by rw[i]);rw[show ti (f+12) (a.lists,b.lists)=_ from d210 (f+11) _ _];refine E7 (f:=λx y=>tj (f+11) (x,y)) (by omega) λx l y m=>?_;have q:=E _ l;have B:=G _ m;have s:=j.lv l;have t:=k.lv m;refine(d209 (f+10) x y).trans (Yh ?_);rw[show tq (f+10) (x,y)=_ from d208 (f+9) x y];refine OR (g1:=tB (f+9)) (g2:=tA (f+9)) (g3:=tt (f+9)) ?_ ?_ ?_;· refine(Ok.eq ?_);exact BY Qt (MH rf)
   ·refine(Ok.eq ?_);refine BY V6 (MH ?_);simp
   ·refine(d207 (f+8) x y).trans (Ok.eq ?_);refine BY (Hl (by omega) (by omega)) (BY (Hl (by omega) (by omega)) (Oy (Q:=λr=>r=A7 (JO (Bx d)) (AY x) (AY y)) ?_ λr i=>MH (by rw[i])));rw[show tu (f+8) (AY x,AY y)=_ from d206 (f+7) _ _];exact E7 (f:=λx y=>Yv (f+7) (x,y)) (by unfold AY;rw[Aac];omega) λu I v J=>c (s _ I) (t _ J) (by omega)
  ·refine(d225 (f+12) a b).trans (Ok.eq ?_);unfold ye;refine Oy (Q:=λr=>r=A7 (Es (Bx d)) a.structs b.structs) ?_ λr i=>MH (by rw[i]);rw[show sX (f+12) (a.structs,b.structs)=_ from d224 (f+11) _ _];unfold yf;refine E7 (f:=λx y=>sY (f+11) (x,y)) (by omega) λx l y m=>?_;have q:=F _ l;have B:=H _ m;have C:=(j.2.1.st _ l).2.1;have D:=(k.2.1.st _ m).2.1;have s:=j.sv l;have t:=k.sv m;have Z:=q.nf;have l2:=q.nc;refine(d223 (f+10) x y).trans (Yh ?_);rw[show sZ (f+10) (x,y)=_ from d222 (f+9) x y];unfold yg;refine Kv (g1:=s_ (f+9)) (g2:=s4 (f+9)) ?_ ?_
   ·refine(d216 (f+8) x y).trans (Ok.eq ?_);unfold yn;refine Oy (Q:=λr=>r=A7 (SM (Bx d)) x.1 y.1) ?_ λr i=>MH (by rw[i]);rw[show ta (f+8) (x.1,y.1)=_ from d215 (f+7) _ _];unfold yo;refine E7 (f:=λx y=>tc (f+7) (x,y)) (by omega) λu M v N=>?_;have w:=s _ (AS.2 (.inl (By.2 ⟨_,M,rf⟩)));have t2:=t _ (AS.2 (.inl (By.2 ⟨_,N,rf⟩)));refine(d214 (f+6) u v).trans (Yh ?_);rw[show td (f+6) (u,v)=_ from d213 (f+5) u v];unfold yp;refine OR (g1:=j8 (f+5)) (g2:=j7 (f+5)) (g3:=tf (f+5)) ?_ ?_ ?_;· refine(Ok.eq ?_);rw[j8];exact BY Wq (MH rf)
    ·refine(Ok.eq ?_);rw[j7];exact BY Qt (MH rf)
    ·refine(d212 (f+4) u v).trans (Ok.eq ?_);unfold yq;exact BY (c w t2 (by omega)) (MH rf)
   ·refine(d221 (f+8) x y).trans (Ok.eq ?_);unfold yh;refine Oy (Q:=λr=>r=A7 (SN (Bx d)) x.2 y.2) ?_ λr i=>MH (by rw[i]);rw[show s5 (f+8) (x.2,y.2)=_ from d220 (f+7) _ _];unfold yj;refine E7 (f:=λx y=>s6 (f+7) (x,y)) (by omega) λu o v p=>?_;have w:=s _ (AS.2 (.inr (By.2 ⟨_,o,rf⟩)));have t2:=t _ (AS.2 (.inr (By.2 ⟨_,p,rf⟩)));have K:CD u.1 (Av u.1 0) 14641:=⟨(C _ o).2.1,(C _ o).2.2,rf,q.each _ o⟩;have L:CD v.1 (Av v.1 0) 14641:=⟨(D _ p).2.1,(D _ p).2.2,rf,B.each _ p⟩;refine(d219 (f+6) u v).trans (Yh ?_);rw[show s7 (f+6) (u,v)=_ from d218 (f+5) u v];unfold yk;refine Kv (g1:=j6 (f+5)) (g2:=s9 (f+5)) ?_ ?_;· refine(Ok.eq ?_);rw[j6];exact BY (Fq K L (by decide) (by omega)) (MH rf)
    ·refine(d217 (f+4) u v).trans (Ok.eq ?_);unfold ym;exact BY (c w t2 (by omega)) (MH rf)
theorem M9{x y:Int} :GZ fu (x,y)=Ac (D8 x y):=by refine(Ok.eq ?_);rw[GZ];unfold D8;exact N6 (λh=>MH (by rw[if_pos h])) λh=>N6 (λk=>MH (by rw[if_neg h,if_pos k])) λk=>MH (by rw[if_neg h,if_neg k])
theorem wQ{x y:Au} :jy fu (x,y)=Ac (FH x y):=by refine(Ok.eq ?_);rw[jy];exact KD rf
theorem O0{α:Type}{c:α->α->Int}{b b':List α} :∀ {a a':List α},a.length=a'.length->A7 c (a++b) (a'++b')=if A7 c a a'=0 then A7 c b b' else A7 c a a'
 | [],[],_=>rfl
 |x::a,y::a',h=>by
  have d:=O0 (c:=c) (b:=b) (b':=b') (a:=a) (a':=a') (by simpa using h);show(if c x y=0 then A7 c (a++b) (a'++b')else c x y)=if(if c x y=0 then A7 c a a' else c x y)=0 then A7 c b b' else if c x y=0 then A7 c a a' else c x y;by_cases k:c x y=0;· simp only[if_pos k];exact d
  ·simp only[if_neg k]
theorem Jk(q:a.length<fu)(h:∀x∈a,∀y∈b,f x y=Ac (c x y))
  (h1:A7 c a b≠0->P (A7 c a b)) (n:A7 c a b=D8 a.length b.length->Ok E P):
  Ok (Ad fu (λ(i:Nat) m=>bif Dm ((i:Int)<(a.length:Int))then bif Dm ((i:Int)<(b.length:Int))then Ab (idx a (i:Int)) λs=>Ab (idx b (i:Int)) λt=>Ab (f s t) λo=>bif Dm (o≠(0:Int))then Ac o else m (i+1)else E else E) 0) P:=by
 refine Vs (λk=>k<=b.length/\A7 c (a.drop k) (b.drop k)=A7 c a b) a.length ⟨Abh _,rf⟩ q (λk nx l d r=>?_) (λnx d=>?_)
 ·obtain⟨p,d⟩:=d;rw[Aaq l]at d;refine PW (N6 (λg=>?_) λg=>n ?_)
  ·have g:k<b.length:=by omega
   rw[Aaq g]at d;refine Aah l (Aah g (BY (h _ (AN l) _ (AN g)) (N6 (λj=>MH ?_) λj=>r ⟨by omega,?_⟩)));· have e:A7 c a b=c a[k] b[k]:=d.symm.trans (if_neg j);rw[<-e];exact h1 (by rw[e];exact j)
   ·rw[<-d];exact(if_pos (IS j)).symm
  ·rw[Afg (by omega:b.length<=k)]at d;rw[<-d];exact((if_neg (by omega)).trans (if_pos (by omega))).symm
 ·obtain⟨p,d⟩:=d;rw[Aef]at d;refine PY (n ?_);rw[<-d];rcases Aal a.length b.length with g|g;· rw[Aaq g];exact(if_pos (by omega)).symm
  ·rw[Afg g];exact(BC.2 (by omega)).symm
theorem Vo(p:a.length<fu)(q:a.length=b.length)(h:∀x∈a,∀y∈b,f x y=Ac (c x y))
  (h1:A7 c a b≠0->P (A7 c a b)) (o:A7 c a b=0->Ok E P):
  Ok (Ad fu (λ(i:Nat) m=>bif Dm ((i:Int)<(a.length:Int))then Ab (idx a (i:Int)) λs=>Ab (idx b (i:Int)) λt=>Ab (f s t) λn=>bif Dm (n≠(0:Int))then Ac n else m (i+1)else E) 0) P:=by
 refine Vs (λk=>A7 c (a.drop k) (b.drop k)=A7 c a b) a.length rf p (λk nx l d r=>?_) (λnx d=>?_)
 ·have j:k<b.length:=by omega
  rw[Aaq l,Aaq j]at d;refine PW (Aah l (Aah j (BY (h _ (AN l) _ (AN j)) (N6 (λg=>MH ?_) λg=>r ?_))));· have e:A7 c a b=c a[k] b[k]:=d.symm.trans (if_neg g);rw[<-e];exact h1 (by rw[e];exact g)
  ·rw[<-d];exact(if_pos (IS g)).symm
 ·rw[Aef,q,Aef]at d;exact PY (o d.symm)
end
section
variable {d : Nat} (ih : ∀ {fu : Nat} {a b : Vl}, SV d a -> SV d b -> 1000000000000 + 20 * d < fu -> To fu (a, b) = Ac (Bx d a b))
section
variable{fu:Nat}
include ih
theorem HN{x y:Bc}(c:SW d x)(e:SW d y)(g:1000000000000+20*d+1<fu):QN fu (x,y)=Ac (JO (Bx d) x y):=by
 obtain⟨f,rfl⟩:∃f,fu=f+1:=⟨fu-1,by omega⟩;refine(d330 f x y).trans (Ok.eq ?_);unfold x8;refine BY (ih c.1 e.1 (by omega)) (N6 (λh=>MH (if_neg h).symm) λh=>BY (ih c.2 e.2 (by omega)) (MH ?_));refine Eq.trans ?_ (if_pos (IS h)).symm;show _=if _=0 then 0 else _;split;· assumption
 ·rfl
theorem ak{x y:G4}(h1:x.1.length<=3)(z:x.2.length<=1)(A:y.2.length<=1)(o:∀w∈AY x,SW d w)(p:∀w∈AY y,SW d w)(t:1000000000000+20*d+2<fu):jx fu (x,y)=Ac (DH (Bx d) x y):=by
 obtain⟨f,rfl⟩:∃f,fu=f+1:=⟨fu-1,by omega⟩;refine(d331 f x y).trans (Ok.eq ?_);unfold x7;refine N6 (λh=>BY M9 (MH (if_neg λk=>h (BC.1 k)).symm)) λh=>?_;have n:x.1.length=y.1.length:=by omega
 have q:D8 x.1.length y.1.length=0:=BC.2 (by omega);have j:D8 y.2.length x.2.length=Dc (Dm (0<x.2.length)) (Dm (0<y.2.length)):=by rcases(by omega:x.2.length=0\/x.2.length=1)with e|e<;>rcases(by omega:y.2.length=0\/y.2.length=1)with l|l<;>rw[e,l]<;>rfl
 refine N6 (λm=>BY M9 (MH ?_)) λm=>?_;· rw[j];exact((if_pos q).trans (if_neg (by rw[<-j];exact λk=>m (BC.1 k).symm))).symm
 have s:Dc (Dm (0<x.2.length)) (Dm (0<y.2.length))=0:=by rw[<-j];exact BC.2 (by omega)
 have e:DH (Bx d) x y=A7 (JO (Bx d)) (AY x) (AY y):=by
  refine(if_pos q).trans ((if_pos s).trans ?_);show(if _=0 then 0 else _)=_;split;· exact(by assumption:_=(0:Int)).symm
  ·rfl
 have r:A7 (JO (Bx d)) (AY x) (AY y)=_:=O0 n;rw[e,r];refine Vo (f:=λu v=>QN f (u,v)) (by omega) n (λu g v i=>HN ih (o _ (AS.2 (.inl g))) (p _ (AS.2 (.inl i))) (by omega)) (λk=>(if_neg k).symm) λk=>?_;rw[if_pos k];exact Vo (f:=λu v=>QN f (u,v)) (by omega) (by omega) (λu g v i=>HN ih (o _ (AS.2 (.inr g))) (p _ (AS.2 (.inr i))) (by omega)) (λk=>rfl) λk=>MH k.symm
end
end
theorem wA(x:Int):fz [x]=x:=by show(if x=0 then 0 else x)=x;omega
theorem BU{x:Int}{l:List Int}(h:x=0):fz (x::l)=fz l:=if_pos h
theorem Di{x:Int}{l:List Int}(h:x≠0):fz (x::l)=x:=if_neg h
section
variable {d : Nat} (ih : ∀ {fu : Nat} {a b : Vl}, SV d a -> SV d b -> 1000000000000 + 20 * d < fu -> To fu (a, b) = Ac (Bx d a b))
section
variable{fu:Nat}
include ih
theorem XT{x y:Au×Int×Bc}(c:SW d x.2.2)(e:SW d y.2.2)(g:1000000000000+20*d+2<fu):jw fu (x,y)=Ac (SM (Bx d) x y):=by
 obtain⟨f,rfl⟩:∃f,fu=f+1:=⟨fu-1,by omega⟩;refine(d332 f x y).trans (Ok.eq ?_);unfold x6 SM;refine BY wQ (N6 (λh=>MH (Di h).symm) λh=>BY M9 (N6 (λk=>MH ?_) λk=>BY (HN ih c e (by omega)) (MH ?_)));· rw[BU (IS h),Di k]
 ·rw[BU (IS h),BU (IS k),wA]
theorem X8{x y:Tb×Bc}(g:CD x.1 (Av x.1 0) 14641)(i:CD y.1 (Av y.1 0) 14641)(c:SW d x.2)(e:SW d y.2)(j:1000000000000+20*d+2<fu):dJ fu (x,y)=Ac (SN (Bx d) x y):=by obtain⟨f,rfl⟩:∃f,fu=f+1:=⟨fu-1,by omega⟩;refine(d333 f x y).trans (Ok.eq ?_);unfold xZ SN;refine BY (JN g i (by decide) (by omega)) (N6 (λh=>MH (Di h).symm) λh=>BY (HN ih c e (by omega)) (MH ?_));rw[BU (IS h),wA]
theorem TK{x y:BA}(i:NQ x)(j:NQ y)(l:Dz x)(m:Dz y)(n:∀w∈Bq x,SW d w)(o:∀w∈Bq y,SW d w)(r:1000000000000+20*d+3<fu):dI fu (x,y)=Ac (Es (Bx d) x y):=by
 obtain⟨f,rfl⟩:∃f,fu=f+1:=⟨fu-1,by omega⟩;have s:=i.nf;have t:=i.nc;have p:=λu (c:u∈x.1) v (g:v∈y.1)=>XT ih (fu:=f) (n _ (AS.2 (.inl (By.2 ⟨u,c,rfl⟩)))) (o _ (AS.2 (.inl (By.2 ⟨v,g,rfl⟩)))) (by omega);have q:=λu (c:u∈x.2) v (g:v∈y.2)=>X8 ih (fu:=f) ⟨(l.1 u c).2.1,(l.1 u c).2.2,rfl,i.each u c⟩ ⟨(m.1 v g).2.1,(m.1 v g).2.2,rfl,j.each v g⟩ (n _ (AS.2 (.inr (By.2 ⟨u,c,rfl⟩)))) (o _ (AS.2 (.inr (By.2 ⟨v,g,rfl⟩)))) (by omega);refine(d334 f x y).trans (Ok.eq ?_);unfold xY Es;refine Jk (f:=λu v=>jw f (u,v)) (by omega) p (λk=>(Di k).symm) λe=>?_;refine N6 (λh=>BY M9 (MH ?_)) λh=>?_;· rw[Di (by rw[e];exact λk=>h (BC.1 k)),e]
 rw[BU (by rw[e];exact BC.2 (by omega)),wA];exact Jk (f:=λu v=>dJ f (u,v)) (by omega) q (λk=>rfl) λe=>BY M9 (MH e.symm)
end
end
section
variable{fu:Nat}{α:Type}{d:Nat}{c:α->α->Int}{l:List α}{B:α->α->Prop}{cmp:α->α->Option Int}{m k:Nat}{a b:Vl}{x y:G4}{s:Sc}{v:Vl}
theorem HI:∀ {d fu:Nat} {a b:Vl},SV d a->SV d b->1000000000000+20*d<fu->To fu (a,b)=Ac (Bx d a b)
 |0,_,_,_,h,_,_=>h.1.elim
 |d+1,fu,a,b,c,g,y=>by
  obtain⟨f,rfl⟩:∃f,fu=f+1:=⟨fu-1,by omega⟩;have o:∀ {fu:Nat} {a b:Vl},SV d a->SV d b->1000000000000+20*d<fu->To fu (a,b)=Ac (Bx d a b):=HI;have w:=Dr c.1.1 c.2.1.sc;have sb:=Dr g.1.1 g.2.1.sc;have p:=c.1.2.1;have l:=c.1.2.2.1;have m:=g.1.2.2.1;refine(d335 f a b).trans (Ok.eq ?_);unfold xX Bx;have r:=λu (i:u∈a.lists) v (j:v∈b.lists)=>ak o (fu:=f) (p.2 u i).1 (c.2.1.rs u i) (g.2.1.rs v j) (c.lv i) (g.lv j) (by omega);have s:=λu (i:u∈a.structs) v (j:v∈b.structs)=>TK o (fu:=f) (l.2 u i) (m.2 v j) (c.2.1.st u i).2 (g.2.1.st v j).2 (c.sv i) (g.sv j) (by omega);refine PS (λh=>?_) λh=>?_
  ·have n:a.any≠b.any:=λe=>by rw[e]at h;revert h;cases b.any<;>decide
   rw[Di (λk=>n (EN.1 k))];unfold Dc;rw[if_neg n];exact PS (λk=>MH (by rw[if_pos k])) λk=>MH (by rw[if_neg (by rw[k];decide)])
  have q:a.any=b.any:=by revert h;cases a.any<;>cases b.any<;>decide
  rw[BU (EN.2 q)];refine BY (Gi w sb (by decide) (by decide) (by omega)).2.1 (N6 (λk=>MH (Di k).symm) λk=>?_);rw[BU (IS k)];refine Jk (f:=λu v=>jx f (u,v)) (by omega) r (λk=>(Di k).symm) λe=>?_;refine N6 (λh=>BY M9 (MH ?_)) λh=>?_;· rw[Di (by rw[e];exact λk=>h (BC.1 k)),e]
  rw[BU (by rw[e];exact BC.2 (by omega)),wA];exact Jk (f:=λu v=>dI f (u,v)) (by omega) s (λk=>rfl) λe=>BY M9 (MH e.symm)
def EO{α:Type}(R:α->α->Prop):List α->Prop
 | []=>True
 | [_]=>True
 |x::y::l=>R x y/\EO R (y::l)
theorem LS{α:Type}{R:α->α->Prop}{p:α}{B:List α} :∀ {A:List α},EO R (A++p::B)↔EO R (A++[p])/\EO R (p::B)
 | []=>⟨λh=>⟨trivial,h⟩,λh=>h.2⟩
 | [x]=>⟨λh=>⟨⟨h.1,trivial⟩,h.2⟩,λh=>⟨h.1.1,h.2⟩⟩
 |x::y::A=>by have a:=LS (R:=R) (p:=p) (B:=B) (A:=y::A);grind[EO]
theorem QF{α:Type}{R:α->α->Prop} :∀ {l:List α},EO R l->∀i (h:i+1<l.length),R l[i] l[i+1]
 | [],_,i,h=>by grind
 | [_],_,i,h=>by grind
 |x::y::l,a,0,_=>a.1
 |x::y::l,a,i+1,h=>QF a.2 i (by grind)
theorem gR(v:∀x∈l,∀y∈l,c x y<0->¬c y x<0)
  (hc:∀x∈l,∀y∈l,cmp x y=Ac (c x y))  (X:l.length<1099511627776) (W:l.length+1<fu):
  Ok (R8 cmp fu 0 l.length l) λr=>r.Perm l/\EO (λp q=> ¬c q p<0) r:=by
 refine Xg (λz:List α×Int=>z.1.Perm l/\1<=z.2/\∃A C,z.1=A++C/\EO (λp q=> ¬c q p<0) A/\((A.length:Int)=z.2\/(C=[]/\A.length<z.2))) (λz=>l.length+1-z.2.toNat) ?_ (by omega) ?_;· refine⟨.refl _,by omega,?_⟩;cases l with
  |nil=>exact⟨[],[],rfl,trivial, .inr ⟨rfl,by simp⟩⟩
  |cons x l=>exact⟨[x],l,rfl,trivial, .inl (by simp)⟩
 ·rintro⟨
      m,i⟩ nx ⟨e,S,A,C,a,k,f⟩ R G;have s:m.length=l.length:=e.length_eq;refine N6 (λn=>?_) (λn=>?_)
  ·have o:(A.length:Int)=i:=by
    grind
   obtain⟨q,C,rfl⟩:∃q N,C=q::N:=by
    cases C with
    |nil=>grind
    |cons q C=>simp
   refine Xg (λz:List α×Int=>z.1.Perm l/\∃A q B C,z.1=A++q::(B++C)/\(A.length:Int)=z.2/\EO (λp q=> ¬c q p<0) (A++B)/\EO (λp q=> ¬c q p<0) (q::B)/\(A.length:Int)+B.length=i) (λz=>z.2.toNat) ⟨e,A,q,[],C,a,o,by grind,trivial,by simpa using o⟩ (by omega) ?_;rintro⟨m,j⟩ V ⟨e,A,q,B,C,a,E,k,J,D⟩ _ t;dsimp only at e a E;have out:EO (λp q=> ¬c q p<0) (A++q::B)->Ok (nx (m,i+1)) (λr=>r.Perm l/\EO (λp q=> ¬c q p<0) r):=λU=>
    G (m,i+1) ⟨e,by omega,A++q::B,C,by simp[a],U, .inl (by simp only[Aac,Abn];omega)⟩ (by omega);refine N6 (λn=>?_) (λn=>?_)
   ·obtain⟨A,p,rfl⟩:∃u p,A=u++[p]:=by
     rcases Aep A with h|⟨u,p,h⟩;· subst h;simp at E;omega
     ·exact⟨u,p,by simpa using h⟩
    have b:m=A++p::q::(B++C):=by simp[a]
    simp only[Aac,Abn,Adu]at E D;have w:idx m j=Ac q:=by unfold idx;rw[if_pos (by omega),b,Aab (by omega)];rw[show j.toNat-A.length=1 by omega];rfl
    have I:idx m (j-1)=Ac p:=by unfold idx;rw[if_pos (by omega),b,Aab (by omega)];rw[show(j-1).toNat-A.length=0 by omega];rfl
    have K:=e.mem_iff.1 (by simp[a]:q∈m);have mp:=e.mem_iff.1 (by simp[a]:p∈m);refine BY w (Aao (BY I (BY (hc q K p mp) ?_)));rw[Aaj,List.singleton_append,LS]at k;refine N6 (λd=>?_) (λd=>?_)
    ·have O:¬c p q<0:=v q K p mp d;refine Aao (Aao (BY I (BY w (BY w ?_))));have L:m.set j.toNat p=A++p::p::(B++C):=by
      rw[b,Acy _ _ (by omega),show j.toNat-A.length=1 by omega];rfl
     have M:(m.set j.toNat p).set (j-1).toNat q=A++q::p::(B++C):=by rw[L,Acy _ _ (by omega),show(j-1).toNat-A.length=0 by omega];rfl
     have P:idx (m.set j.toNat p) (j-1)=Ac p:=by unfold idx;rw[if_pos (by omega),L,Aab (by omega)];rw[show(j-1).toNat-A.length=0 by omega];rfl
     refine BY P (Abx (by omega) ?_);refine t _ ⟨?_,A,q,p::B,C,?_,?_,?_,?_,?_⟩ (by show(j-1).toNat<j.toNat;omega);· show((m.set j.toNat p).set (j-1).toNat q).Perm l;rw[M];refine List.Perm.trans ?_ e;rw[b];exact List.Perm.append_left _ (List.Perm.swap ..)
     ·show(m.set j.toNat p).set (j-1).toNat q=_;rw[M];simp
     ·show(A.length:Int)=j-1;omega
     ·exact(LS).2 k
     ·exact⟨O,k.2⟩
     ·simp only[Abn];omega
    ·refine Aao (out ?_);rw[Aaj,List.singleton_append,LS];exact⟨k.1,d,J⟩
   ·have H:¬0<j:=n;obtain rfl:A=[]:=OF.1 (by omega);refine Aao (out ?_);exact J
  grind[MH,List.length_eq_zero_iff]
theorem gQ(a:EO (λp q=> ¬c q p<0) l)
  (hc:∀x∈l,∀y∈l,cmp x y=Ac (c x y))  (u:l.length<1099511627776) (t:l.length+1<fu):
  Ok (R8 cmp fu 0 l.length l) λr=>r=l:=by
 refine Xg (λz:List α×Int=>z.1=l/\1<=z.2) (λz=>l.length+1-z.2.toNat) ⟨rfl,by omega⟩ (by omega) ?_;rintro⟨m,i⟩ nx ⟨e,s⟩ o b;subst e;refine N6 (λg=>?_) (λ_=>MH rfl);have n:i<m.length:=g;obtain⟨f,rfl⟩:∃f,fu=f+1:=⟨fu-1,by omega⟩;have out:Ok (nx (m,i+1)) (λr=>r=m):=b (m,i+1) ⟨rfl,by omega⟩ (by omega);refine TJ (by omega) ?_;have h:idx m i=Ac (m[i.toNat]'(by omega)):=Fk (by omega) (by omega);have j:idx m (i-1)=Ac (m[(i-1).toNat]'(by omega)):=Fk (by omega) (by omega);have d:=QF a (i-1).toNat (by omega);have k:(i-1).toNat+1=i.toNat:=by omega
 simp only[k]at d;refine BY h (Aao (BY j (BY (hc _ (AN _) _ (AN _)) ?_)));exact P7 d (Aao out)
theorem P2(a:∀x∈l,∀y∈l,c x y<0->¬c y x<0)
  (hc:∀x∈l,∀y∈l,cmp x y=Ac (c x y))  (g:l.length<1099511627776) (f:l.length+1<fu):
  Ok (R8 cmp fu 0 l.length l) λr=>(r.Perm l/\EO (λp q=> ¬c q p<0) r)/\(EO (λp q=> ¬c q p<0) l->r=l):=by
 obtain⟨r,e,h⟩:=gR a hc g f;refine⟨r,e,h,λb=>?_⟩;obtain⟨j,d,i⟩:=gQ b hc g f;grind
theorem Zo{l:List (Tb×Bc)}(h:l.length<=12)(b:20<fu){c:_->_->Int}(a:∀x∈l,∀y∈l,c x y<0->¬c y x<0)(hc:∀x∈l,∀y∈l,kD fu (x,y)=Ac (c x y)):Ok (kC fu l) λr=>(r.Perm l/\EO (λp q=> ¬c q p<0) r)/\(EO (λp q=> ¬c q p<0) l->r=l):=by
 rw[kC];have e:(Int.ofNat (l.length %wv (18446744073709551616:Int)))=(l.length:Nat):=by grind
 rw[e];refine Oy (GH h) λr _=>?_;rw[tX];obtain⟨f,rfl⟩:∃f,fu=f+1:=⟨fu-1,by omega⟩;refine Oy (Q:=λr:List (Tb×Bc)=>(r.Perm l/\EO (λp q=> ¬c q p<0) r)/\(EO (λp q=> ¬c q p<0) l->r=l)) ?_ λr h=>MH h;refine Aao (TJ (by omega) ?_);refine Oy (Q:=λr:List (Tb×Bc)=>(r.Perm l/\EO (λp q=> ¬c q p<0) r)/\(EO (λp q=> ¬c q p<0) l->r=l)) ?_ λr h=>MH h;exact P2 a hc (by omega) (by omega)
theorem Zn{l:List (G4)}(h:l.length<=12)(b:20<fu){c:_->_->Int}(a:∀x∈l,∀y∈l,c x y<0->¬c y x<0)(hc:∀x∈l,∀y∈l,ej fu (x,y)=Ac (c x y)):Ok (eh fu l) λr=>(r.Perm l/\EO (λp q=> ¬c q p<0) r)/\(EO (λp q=> ¬c q p<0) l->r=l):=by
 rw[eh];have e:(Int.ofNat (l.length %wv (18446744073709551616:Int)))=(l.length:Nat):=by grind
 rw[e];refine Oy (GH h) λr _=>?_;rw[sU];obtain⟨f,rfl⟩:∃f,fu=f+1:=⟨fu-1,by omega⟩;refine Oy (Q:=λr:List (G4)=>(r.Perm l/\EO (λp q=> ¬c q p<0) r)/\(EO (λp q=> ¬c q p<0) l->r=l)) ?_ λr h=>MH h;refine Aao (TJ (by omega) ?_);refine Oy (Q:=λr:List (G4)=>(r.Perm l/\EO (λp q=> ¬c q p<0) r)/\(EO (λp q=> ¬c q p<0) l->r=l)) ?_ λr h=>MH h;exact P2 a hc (by omega) (by omega)
theorem Zm{l:List (BA)}(h:l.length<=12)(b:20<fu){c:_->_->Int}(a:∀x∈l,∀y∈l,c x y<0->¬c y x<0)(hc:∀x∈l,∀y∈l,eg fu (x,y)=Ac (c x y)):Ok (eb fu l) λr=>(r.Perm l/\EO (λp q=> ¬c q p<0) r)/\(EO (λp q=> ¬c q p<0) l->r=l):=by
 rw[eb];have e:(Int.ofNat (l.length %wv (18446744073709551616:Int)))=(l.length:Nat):=by grind
 rw[e];refine Oy (GH h) λr _=>?_;rw[sR];obtain⟨f,rfl⟩:∃f,fu=f+1:=⟨fu-1,by omega⟩;refine Oy (Q:=λr:List (BA)=>(r.Perm l/\EO (λp q=> ¬c q p<0) r)/\(EO (λp q=> ¬c q p<0) l->r=l)) ?_ λr h=>MH h;refine Aao (TJ (by omega) ?_);refine Oy (Q:=λr:List (BA)=>(r.Perm l/\EO (λp q=> ¬c q p<0) r)/\(EO (λp q=> ¬c q p<0) l->r=l)) ?_ λr h=>MH h;exact P2 a hc (by omega) (by omega)
theorem K9(c:SV d a)(e:SV d b)(f:d<=3)(k:1000000002000<fu):j0 fu (a,b)=Ac (Bx d a b):=by obtain⟨s,g,i⟩:=Jc (fu:=fu) c.1 f (by omega);obtain⟨t,h,j⟩:=Jc (fu:=fu) e.1 f (by omega);refine(Ok.eq ?_);refine BY g ?_;rw[i.2 c.2];refine P1 rfl (BY h ?_);rw[j.2 e.2];exact P1 rfl (BY (IW c e (by omega)) (MH rfl))
theorem JM(c:SV d a)(e:SV d b)(j:d<=3)(i:1000000002000<fu):UX fu (a,b)=Ac (Bx d a b):=by
 have one:∀ {v:Vl},SV d v->Tt fu v=Ac Bp:=λ{v} f=>by obtain⟨s,g,h⟩:=HU (fu:=fu) (lv:=1) f.1 (by omega) (by omega);refine(Ok.eq ?_);rw[Tt];exact BY g (MH (h.2 f.2))
 refine(Ok.eq ?_);rw[UX];exact BY (one c) (P1 rf (BY (one e) (P1 rf (BY (HI c e (by omega)) (MH rf)))))
def nO(x:G4):Vl:=Vl.mk Ak Fz [x] []
def nN(x:BA):Vl:=Vl.mk Ak Fz [] [x]
theorem Wo:E6 Fz Fz=0:=by have h:Ie 5 12 Fz:=LW;obtain⟨_,_,s,_⟩:=Gi (fu:=2000000000000) h h (by decide) (by decide) (by decide);omega
theorem Wn{x y:α} :A7 c [x] [y]=c x y:=by show(if c x y=0 then 0 else c x y)=c x y;omega
theorem Wm:Bx (d+1) (nO x) (nO y)=DH (Bx d) x y:=by
 show fz [Dc Ak Ak,E6 Fz Fz,A7 (DH (Bx d)) [x] [y],A7 (Es (Bx d)) [] []]=_;rw[BU (rfl:Dc Ak Ak=0),BU Wo,Wn];by_cases h:DH (Bx d) x y=0;· rw[BU h,h];rfl
 grind[Di]
theorem Wl{x y:BA} :Bx (d+1) (nN x) (nN y)=Es (Bx d) x y:=by show fz [Dc Ak Ak,E6 Fz Fz,A7 (DH (Bx d)) [] [],A7 (Es (Bx d)) [x] [y]]=_;rw[BU (rfl:Dc Ak Ak=0),BU Wo,BU (rfl:A7 (DH (Bx d)) [] []=0),Wn,wA]
theorem wR:4294967296<=Ai:=by decide
theorem nn:4294967296<=Ai:=by decide
def AC(B:α->α->Prop)(l:List α):Prop:= ∀i j (a:i<l.length) (b:j<l.length),i≠j->¬B l[i] l[j]
theorem max_eq{P:List α->Prop}{g:α->α->Option Bool}{srt:List α->Option (List α)}{cap:Nat}(N:4294967296<=cap)(hl:l.length<=12)(hf:20<fu)(O:∀x∈l,∀y∈l,Ok (g x y) λr=>r=Bp↔B x y)
  (X:∀m:List α,m.Sublist l->m.Pairwise (λx y=> ¬B x y/\¬B y x)->(AC B l->m=l)->Ok (srt m) P):
  Ok (Ad fu (λ(a:List α×Nat) t=>
  bif Dm (
        (a.2:Int)<(l.length:Int))then
   Ab (idx l (a.2:Int)) λL=>
   Ad fu (
        λ(u:Nat) d=>
    bif Dm ((u:Int)<(l.length:Int))then
     Ab (idx l (u:Int)) λU=>
     bif Dm ((a.2:Int)≠(u:Int))then
      Ab (g L U) λY=>
      bif Y then
       bif Dm ((u:Int)<(a.2:Int))then
        t ((a.1,a.2+1))
       else
        Ab (g U L) λZ=>
        bif !Z then
         t ((a.1,a.2+1))
        else
         d (u+1)
      else
       d (u+1)
     else
      d (u+1)
    else
     Af (FB a.1+1<=cap)<|
     t (((a.1++[L]),a.2+1))) (0)
  else
   Ab (srt a.1) λr9=>
   Ac (r9)) (([],0))) P:=by
 refine Sj (λk (s:List α)=>s.Sublist (l.take k)/\s.Pairwise (λx y=> ¬B x y/\¬B y x)/\(∀x∈s,∃i,∃e:i<l.length,i<k/\l[i]=x/\∀j (o:j<l.length),j≠i->B l[i] l[j]->i<j/\B l[j] l[i])/\(AC B l->s=l.take k)) l.length ⟨by simp,by simp,by simp,λ_=>by simp⟩ (by omega) (λk s nx v G Q=>?_) (λs nx G=>?_)
 ·have m:=AN v;obtain⟨w,E,J,F⟩:=G;have M:l.take (k+1)=l.take k++[l[k]]:=IN v;have skip:(¬AC B l)->Ok (nx (s,k+1)) P:=λh=>Q _ ⟨by grind,E,λx b=>by
   obtain⟨i,e,z,A⟩:=J x b;exact⟨i,e,by omega,A⟩,λq=>absurd q h⟩;refine PW (Aah v ?_);refine Vs (λn=> ∀j (o:j<l.length),j<n->j≠k->B l[k] l[j]->k<j/\B l[j] l[k]) l.length (λj _ h=>by omega) (by omega) (λj d o f p=>?_) (λd f=>?_)
  ·have S:=AN o;have c:(j≠k->B l[k] l[j]->k<j/\B l[j] l[k])->∀i (e:i<l.length),i<j+1->i≠k->B l[k] l[i]->k<i/\B l[i] l[k]:=λh i e W=>by
    rcases Aal i j with z|z;· exact f i e z
    ·obtain rfl:i=j:=by omega
     omega
   refine PW (Aah o (N6 (λne=>?_) λne=>p (c λh=>absurd h (by omega))));have K:k≠j:=by omega
   refine Oy (O _ m _ S) λr D=>PS (λh=>?_) λh=>p (c λ_ C=>by rw[D.2 C]at h;cases h);have na:¬AC B l:=λq=>q k j v o K (D.1 h);refine N6 (λ_=>skip na) λH=>Oy (O _ S _ m) λr2 I=>PS (λ_=>skip na) λA=>p (c λ_ _=>⟨by omega,I.1 (by simpa using A)⟩)
  ·have sl:=w.length_le;rw[Abg]at sl;refine PY (Abw (Q _ ⟨?_,?_,λx b=>?_,λq=>?_⟩));· rw[M];exact w.append (List.Sublist.refl _)
   ·refine Abb.2 ⟨E,Aci ..,λx b y R=>?_⟩;rw[Aaf]at R;subst R;obtain⟨i,e,z,rfl,V⟩:=J x b;have T:¬B l[k] l[i]:=λC=>by have:=(f i e e (by omega) C).1;omega
    exact⟨λC=>T (V k v (by omega) C).2,T⟩
   ·rcases AS.1 b with b|b;· obtain⟨i,e,z,A⟩:=J x b;exact⟨i,e,by omega,A⟩
    ·rw[Aaf]at b;exact⟨k,v,by omega,b.symm,λj o=>f j o o⟩
   ·rw[M,F q]
 ·obtain⟨w,E,_,F⟩:=G;rw[Aau]at w F;exact PY (Oy (X s w E F) λr D=>MH D)
structure LX(d:Nat)(c:G4):Prop where
 n1:c.1.length<=3
 n2:c.2.length<=1
 vs:∀w∈AY c,SW d w
structure CX(d:Nat)(c:BA):Prop where
 bd:NQ c
 fl:QL c.1
 gd:Dz c
 vs:∀w∈Bq c,SW d w
theorem Ze{ls:List G4}{ss:List BA}(h1:dq 5 12 s)(g:uS s)(h2:ls.length<=3)(h3:ss.length<=3)(b:∀c∈ls,LX d c)(e:∀c∈ss,CX d c):SV (d+1) (.mk Ak s ls ss):=by
 have f:∀x∈kids (.mk Ak s ls ss),SW d x:=λx a=>by
  rcases AS.1 a with h|h;· obtain⟨c,hc,h⟩:=Aad.1 h;exact(b c hc).vs x h
  ·obtain⟨c,hc,h⟩:=Aad.1 h;exact(e c hc).vs x h
 exact⟨⟨h1,⟨h2,λc hc=>⟨(b c hc).n1,Aam (b c hc).n2 (by simp)⟩⟩,⟨h3,λc hc=>(e c hc).bd⟩,λx a=>⟨(f x a).1.1,(f x a).2.1⟩⟩,⟨λh=>(by cases h),g,λc hc=>(b c hc).n2,λc hc=>⟨(e c hc).fl,(e c hc).gd⟩⟩,λx a=>⟨(f x a).1.2,(f x a).2.2⟩⟩
theorem kK:dq 5 12 Fz:=(L3 0).1.1
theorem L_{c:G4}(h:LX d c):SV (d+1) (nO c):=Ze kK QS (by simp) (by simp) (λx a=>by grind) (λx a=>by grind)
theorem L9{c:BA}(h:CX d c):SV (d+1) (nN c):=Ze kK QS (by simp) (by simp) (λx a=>by grind) (λx a=>by grind)
theorem aD{c:G4}(h:LX d c):WL (De d) c c:=by
 rcases De.refl (L_ h).2 with k|k;· cases k
 ·obtain⟨b,a,f⟩:=k.2.2.1 c (Aaf.2 rfl);have e:b=c:=Aaf.1 a;grind
theorem aC{c:BA}(h:CX d c):US (De d) c c:=by
 rcases De.refl (L9 h).2 with k|k;· cases k
 ·obtain⟨b,a,f⟩:=k.2.2.2 c (Aaf.2 rfl);have e:b=c:=Aaf.1 a;grind
theorem X7(c:LX d x)(e:LX d y)(f:d<=2)(b:1000000002000<fu):ej fu (x,y)=Ac (DH (Bx d) x y):=by refine(Ok.eq ?_);rw[ej];refine BY (a:=nO x) (rf) (BY (a:=nO y) (rf) (BY (K9 (L_ c) (L_ e) (by omega) b) (MH ?_)));exact Wm
theorem X6{x y:BA}(c:CX d x)(e:CX d y)(f:d<=2)(b:1000000002000<fu):eg fu (x,y)=Ac (Es (Bx d) x y):=by refine(Ok.eq ?_);rw[eg];refine BY (a:=nN x) (rf) (BY (a:=nN y) (rf) (BY (K9 (L9 c) (L9 e) (by omega) b) (MH ?_)));exact Wl
theorem Nn{α:Type}{B:α->α->Prop}{c:α->α->Int} :∀ {l:List α},(∀x∈l,∀y∈l,c y x= -c x y/\(c x y=0->x=y))->(∀x∈l,B x x)->l.Pairwise (λx y=> ¬B x y/\¬B y x)->EO (λp q=> ¬c q p<0) l->EO (λp q=>c p q<0) l
 | [],_,_,_,_=>trivial
 | [_],_,_,_,_=>trivial
 |x::y::l,h,r,p,a=>by have d:x∈x::y::l:=Aat ..;have i:y∈x::y::l:=Aag _ (Aat ..);have f:=Abj.1 p;refine⟨?_,Nn (λu b v g=>h u (Aag _ b) v (Aag _ g)) (λu b=>r u (Aag _ b)) f.2 a.2⟩;have j:=a.1;grind
theorem Nl{α:Type}{c:α->α->Int} :∀ {l:List α},(∀x∈l,∀y∈l,c y x= -c x y)->EO (λp q=>c p q<0) l->EO (λp q=> ¬c q p<0) l
 | [],_,_=>trivial
 | [_],_,_=>trivial
 |x::y::l,h,a=>by have k:=h x (Aat ..) y (Aag _ (Aat ..));have e:=a.1;exact⟨by omega,Nl (λu b v d=>h u (Aag _ b) v (Aag _ d)) a.2⟩
def Mx(B:α->α->Prop)(c:α->α->Int)(l r:List α):Prop:=(r.length<=l.length/\∀x∈r,x∈l)/\r.Pairwise (λx y=> ¬B x y/\¬B y x)/\EO (λp q=>c p q<0) r/\(AC B l->EO (λp q=>c p q<0) l->r=l)
theorem mN{m r:List α}(h:∀x∈l,∀y∈l,c y x= -c x y/\(c x y=0->x=y))(n:∀x∈l,B x x)(h1:m.Sublist l)(h2:m.Pairwise (λx y=> ¬B x y/\¬B y x))(h3:AC B l->m=l)(b:r.Perm m)(j:EO (λp q=> ¬c q p<0) r)(k:EO (λp q=> ¬c q p<0) m->r=m):Mx B c l r:=by have mem:∀x∈r,x∈l:=λx a=>h1.subset (b.mem_iff.1 a);have f:r.Pairwise (λx y=> ¬B x y/\¬B y x):=(b.pairwise_iff (λ{x y} q=>⟨q.2,q.1⟩)).2 h2;refine⟨⟨by rw[b.length_eq];grind,mem⟩,f,Nn (λx a y d=>h x (mem x a) y (mem y d)) (λx a=>n x (mem x a)) f j,λg i=>?_⟩;have e:=h3 g;subst e;exact k (Nl (λx a y d=>(h x a y d).1) i)
theorem gw{l:List G4}(s:l.length<=12)(h:∀c∈l,LX d c)(p:d<=2)(t:1000000003000<fu):Ok (sT fu l) (Mx (WL (De d)) (DH (Bx d)) l):=by have e:=λx (a:x∈l) y (b:y∈l)=>O3 (R:=Bx d) HK (h x a).vs (h y b).vs;refine max_eq (g:=λx y=>U2 fu (x,y)) (srt:=λm=>eh fu m) wR s (by omega) (λx a y b=>Jq JT (h x a).n1 (h x a).vs (h y b).vs (by omega)) λm i n o=>?_;have u:=i.length_le;have f:∀x∈m,x∈l:=λx a=>i.subset a;exact(Zn (c:=DH (Bx d)) (by omega) (by omega) (λx a y b q=>by grind) λx a y b=>X7 (h x (f x a)) (h y (f y b)) p (by omega)).mono λr j=>mN e (λx a=>aD (h x a)) i n o j.1.1 j.1.2 j.2
theorem gv{l:List BA}(u:l.length<=12)(h:∀c∈l,CX d c)(t:d<=2)(v:1000000003000<fu):Ok (sO fu l) (Mx (US (De d)) (Es (Bx d)) l):=by have e:=λx (a:x∈l) y (b:y∈l)=>OZ (R:=Bx d) HK (h x a).bd (h y b).bd (h x a).gd (h y b).gd (h x a).vs (h y b).vs;refine max_eq (g:=λx y=>U3 fu (x,y)) (srt:=λm=>eb fu m) nn u (by omega) (λx a y b=>G7 JT (h x a).bd (h y b).bd (h x a).gd (h y b).gd (h x a).vs (h y b).vs (by omega)) λm k p s=>?_;have w:=k.length_le;have f:∀x∈m,x∈l:=λx a=>k.subset a;exact(Zm (c:=Es (Bx d)) (by omega) (by omega) (λx a y b q=>by grind) λx a y b=>X6 (h x (f x a)) (h y (f y b)) t (by omega)).mono λr n=>mN e (λx a=>aC (h x a)) k p s n.1.1 n.1.2 n.2
def Tf:List Sp×List Sp:=([(-100000000000,100000000000)],[(-999999999999999,999999999999999)])
def JX:Sc:=(Bp,Bp,Bp,Tf,KI)
theorem allI{n:Int} :A8 Tf n↔ -100000000000<=n/\n<=100000000000:=by show(A0 [(-100000000000,100000000000)] n/\_)↔_;grind[AF]
theorem w9{y:Int} :A6 Tf y↔ -1000000000000000<=ur y/\ur y<=1000000000000000:=by show(A0 [(-999999999999999,999999999999999)] (ur y)/\_)↔_;grind[ur,AF]
theorem ns:Eh Tf (A8 Tf) (A6 Tf):=by
 refine⟨[(rk (-999999999999999),rk 999999999999999)],?_,?_,?_,?_,?_,λn=>?_,λy=>?_⟩;· rfl
 ·exact⟨λt b=>by rw[Aaf.1 b];simp,Aci ..⟩
 ·intro s a;rw[Aaf.1 a];trivial
 ·exact⟨λt b=>by rw[Aaf.1 b];decide,Aci ..⟩
 ·intro s a;rw[Aaf.1 a];trivial
 ·rw[allI];show A0 [(-100000000000,100000000000)] n↔_;grind[AF,Ba]
 grind[ur,rk,w9,AF,Ba]
theorem Te:Ie 1 12 JX:=⟨ns,by decide,by decide,rT,de,rfl,by decide⟩
theorem WH(h:Ie k m s):Q8 JX s↔s=JX:=by
 constructor;· rintro⟨e,f,g,i,j,l⟩;have c:s.2.2.2.1=Tf:=h.nu.unique (ns.congr (λn=>⟨i n,λq=>allI.2 ((h.nu.A8 n).1 q).2⟩) λy=>⟨j y,λq=>w9.2 ((h.nu.A6 y).1 q).2⟩);have d:s.2.2.2.2=KI:=h.ln.unique (Te.ln.congr (funext λw=>by
   have a:Av KI 0 w=Bp:=by rw[dc]
   have b:=l w a;rw[b];exact a));exact Acu (e rfl) (Acu (f rfl) (Acu (g rfl) (Acu c d)))
 ·rintro rfl;exact N' _
def EvL(c:G4):Prop:=c.1=[]/\∃x,c.2=[x]/\x.1.any=Bp/\x.2.any=Bp
def EvS(c:BA):Prop:=c.1=[]/\∃k,c.2=[k]/\k.2.1.any=Bp/\k.2.2.any=Bp
def EvX(v:Vl):Prop:=v.sc=JX/\∃c s,v.lists=[c]/\v.structs=[s]/\EvL c/\EvS s
theorem PV(h:l.length=1):∃x,l=[x]:=by
 match l,h with
 | [x],_=>simp
theorem Zb{x:Bc} :Ok (d_ fu x) λr=>r=Bp↔x.1.any=Bp/\x.2.any=Bp:=by simp_all[d_,PS,MH,And.right,AR]
theorem Ve{x:Bc} :Ok (dG fu x) λr=>r=Bp↔x.1.any=Bp/\x.2.any=Bp:=by rw[dG];exact PS (λh=>MH ⟨λk=>⟨h,k⟩,And.right⟩) λh=>AR λk=>by rw[k.1]at h;cases h
theorem qJ{c:G4} :Ok (sN fu c) λr=>r=Bp↔EvL c:=by refine N6 (λf=>N6 (λg=>?_) λg=>AR λk=>g (by obtain⟨_,x,e,_⟩:=k;grind)) λf=>AR λk=>f (by rw[k.1];rfl);obtain⟨x,e⟩:=PV (l:=c.2) (by omega);have h:c.1=[]:=OF.1 (by omega);refine BY (a:=x) (by rw[e];rfl) (Oy Zb λb i=>MH (i.trans ⟨λk=>⟨h,x,e,k⟩,λk=>?_⟩));obtain⟨_,y,d,k⟩:=k;grind
theorem qI{c:BA} :Ok (sM fu c) λr=>r=Bp↔EvS c:=by refine N6 (λf=>N6 (λg=>?_) λg=>AR λk=>g (by obtain⟨_,x,e,_⟩:=k;grind)) λf=>AR λk=>f (by rw[k.1];rfl);obtain⟨x,e⟩:=PV (l:=c.2) (by omega);have h:c.1=[]:=OF.1 (by omega);refine BY (a:=x) (by rw[e];rfl) (Oy Zb λb i=>MH (i.trans ⟨λk=>⟨h,x,e,k⟩,λk=>?_⟩));obtain⟨_,y,d,k⟩:=k;grind
theorem bF(h:Ie k m v.sc)(G:k<=10)(H:m<=100000)(F:1000000002000<fu):Ok (jY fu v) λr=>r=Bp↔EvX v:=by
 rw[jY];refine N6 (λt=>N6 (λu=>?_) λu=>AR λk=>u (by obtain⟨_,c,s,_,e,_⟩:=k;rw[e];rfl)) λt=>AR λk=>t (by obtain⟨_,c,s,e,_⟩:=k;rw[e];rfl);have y:jZ fu () =Ac JX:=by
  refine(Ok.eq ?_);rw[jZ];have z:U4 fu () =Ac Tf:=by refine(Ok.eq ?_);rw[U4];exact BY (rf) (MH rf)
  exact BY z (BY (rf) (MH rf))
 obtain⟨q,_,_,A⟩:=Gi (fu:=fu) h Te (by omega) (by omega) (by omega);have D:v.sc=JX->E6 v.sc JX=0:=λe=>by rw[e];obtain⟨_,_,s,_⟩:=Gi (fu:=fu) Te Te (by decide) (by decide) (by omega);omega
 obtain⟨c,j⟩:=PV (l:=v.lists) (by omega);obtain⟨s,n⟩:=PV (l:=v.structs) (by omega);refine BY y (BY q (N6 (λo=>?_) λo=>AR λk=>o (D k.1)));have C:=A o;have g:∀ {f},v.lists=[f]->c=f:=λe=>by rw[j]at e;exact Ads e
 have d:∀ {f},v.structs=[f]->s=f:=λe=>by rw[n]at e;exact Ads e
 refine BY (a:=c) (by rw[j];rfl) (Oy qJ λb w=>PS (λi=>BY (a:=s) (by rw[n];rfl) (Oy qI λE p=>MH (p.trans ⟨λk=>⟨C,c,s,j,n,w.1 i,k⟩,λk=>?_⟩))) λi=>AR λk=>?_);· obtain⟨_,f,B,e,x,_,k⟩:=k;rw[d x];exact k
 ·obtain⟨_,f,B,e,_,k,_⟩:=k;rw[<-g e]at k;rw[w.2 k]at i;cases i
theorem XV(h:Ie k m v.sc)(O:k<=10)(P:m<=100000)(N:1000000002000<fu):Ok (jt fu v) λr=>r=Bp↔v.any=Ak/\EvX v:=by
 rw[jt];refine PS (λd=>AR λk=>by rw[k.1]at d;cases d) λd=>N6 (λA=>AR λk=>A (by obtain⟨_,_,c,s,e,_⟩:=k;rw[e];rfl)) λA=>N6 (λB=>AR λk=>B (by obtain⟨_,_,c,s,_,e,_⟩:=k;rw[e];rfl)) λB=>?_;have H:ju fu () =Ac JX:=by refine(Ok.eq ?_);rw[ju];exact BY (rf) (BY (jh fu) (MH rf))
 obtain⟨c,i⟩:=PV (l:=v.lists) (by omega);obtain⟨s,j⟩:=PV (l:=v.structs) (by omega);have ab:EvX v->v.sc=JX/\EvL c/\EvS s:=λk=>by obtain⟨u,M,Q,e,w,I,J⟩:=k;rw[i]at e;rw[j]at w;rw[Ads e,Ads w];exact⟨u,I,J⟩
 refine BY H (Oy (Ma Te h (by omega) (by omega) (by omega)) λr F=>PS (λf=>AR λk=>?_) λf=>?_);· rw[F.2 ((WH h).2 (ab k.2).1)]at f;cases f
 have u:=(WH h).1 (F.1 (by simpa using f));refine BY (a:=c) (by rw[i];rfl) (BY (a:=s) (by rw[j];rfl) ?_);refine N6 (λp=>AR λk=>by rw[(ab k.2).2.1.1]at p;exact absurd p (by decide)) λp=>N6 (λC=>AR λk=>?_) λC=>N6 (λq=>AR λk=>by rw[(ab k.2).2.2.1]at q;exact absurd q (by decide)) λq=>N6 (λD=>AR λk=>?_) λD=>?_;· obtain⟨_,x,e,_⟩:=(ab k.2).2.1;exact C (by rw[e];rfl)
 ·obtain⟨_,x,e,_⟩:=(ab k.2).2.2;exact D (by rw[e];rfl)
 obtain⟨x,n⟩:=PV (l:=c.2) (by omega);obtain⟨y,o⟩:=PV (l:=s.2) (by omega);have G:c.1=[]:=OF.1 (by omega);have K:s.1=[]:=OF.1 (by omega);refine BY (a:=x) (by rw[n];rfl) (Oy Ve λb E=>PS (λg=>BY (a:=y) (by rw[o];rfl) (Oy Ve λL t=>MH (t.trans ⟨λk=>⟨d,u,c,s,i,j,⟨G,x,n,E.1 g⟩,K,y,o,k⟩,λk=>?_⟩))) λg=>AR λk=>?_);· obtain⟨_,z,e,k⟩:=(ab k.2).2.2;rw[o]at e;rw[Ads e];exact k
 ·obtain⟨_,z,e,k⟩:=(ab k.2).2.1;rw[n]at e;rw[<-Ads e]at k;rw[E.2 k]at g;cases g
theorem Jh(l:List α)(d:α)(p:α->Bool):((aE l.length).filter λi=>p (l.getD i d)).length=(l.filter p).length:=by
 have e:l=(aE l.length).map λi=>l.getD i d:=n5 l d;conv=>rhs;rw[e]
 rw[Ald,Aap];rfl
theorem XJ{c:BA}(w:Au):Ll c (Gv c w) c.2.length=(c.2.filter λk=>Av k.1 0 w).length:=by rw[<-Jh c.2 dK];unfold Ll;congr 1;refine Agb λi b=>?_;rw[Vp (Abf.1 b) w];rfl
theorem fC{c:BA}{j:Nat}(f:j<c.1.length)(w:Au):(Gv c w).getD (c.2.length+j) 0=runT (Bu (c.1.getD j dF).1) 0 w/\ -1<=runT (Bu (c.1.getD j dF).1) 0 w/\runT (Bu (c.1.getD j dF).1) 0 w<=(c.1.getD j dF).1.length:=by
 have:∀l:Au,(Gv c l.reverse).getD (c.2.length+j) 0=runT (Bu (c.1.getD j dF).1) 0 l.reverse/\ -1<=runT (Bu (c.1.getD j dF).1) 0 l.reverse/\runT (Bu (c.1.getD j dF).1) 0 l.reverse<=(c.1.getD j dF).1.length:=λl=>by
  induction l with
  |nil=>
   refine⟨?_,?_,?_⟩;· show(CJ c).getD (c.2.length+j) 0=0;grind[CJ]
   ·show(-1:Int)<=0;simp
   ·show(0:Int)<=_;omega
  |cons x l d=>
   have e:runT (Bu (c.1.getD j dF).1) 0 (l.reverse++[x])=YN (c.1.getD j dF).1 (runT (Bu (c.1.getD j dF).1) 0 l.reverse) x.toNat:=by rw[<-QT d.2];unfold runT;rw[Adc];rfl
   rw[Afb,e];refine⟨?_,aG d.2.2⟩;rw[FY,(Hk c _ _).fd j f];simp_all[T9]
 have:=this w.reverse;grind
theorem XK{c:BA}(w:Au):P6 c (Gv c w) c.1.length=(c.1.filter λf=>Av (Bu f.1) 0 w).length:=by rw[<-Jh c.1 dF];unfold P6;congr 1;refine Agb λj b=>?_;have h:=fC (Abf.1 b) w;simp_all[Av,N2]
theorem Sb(c:BA)(w:Au):MQ c (Gv c w)=(c.2.filter λk=>Av k.1 0 w).length+(c.1.filter λf=>Av (Bu f.1) 0 w).length:=by grind[MQ,XJ,XK]
def Dw(l:List (Tb×Bc))(w:Au):Nat:=(l.filter λk=>Av k.1 0 w).length
theorem DG(a b:List (Tb×Bc))(w:Au):Dw (a++b) w=Dw a w+Dw b w:=by simp[Dw]
theorem E5(k:Tb×Bc)(w:Au):Dw [k] w=if Av k.1 0 w=Bp then 1 else 0:=by grind[Dw,Av]
theorem X5{a b:List (Tb×Bc)}(h:a.Perm b)(w:Au):Dw a w=Dw b w:=(h.filter _).length_eq
theorem cm{z:List (Tb×Bc)}{i:Nat}(hi:i<z.length){k x:Tb×Bc}{w:Au}(ht:Av x.1 0 w=(Av z[i].1 0 w||Av k.1 0 w))(f:¬(Av z[i].1 0 w=Bp/\Av k.1 0 w=Bp)):Dw (z.set i x) w=Dw z w+Dw [k] w:=by
 have c:z=z.take i++([z[i]]++z.drop (i+1)):=by simp
 have b:z.set i x=z.take i++([x]++z.drop (i+1)):=by rw[Ady,if_pos hi];rfl
 have a:Dw z w=Dw (z.take i) w+(Dw [z[i]] w+Dw (z.drop (i+1)) w):=by grind[DG]
 rw[b,DG,DG,a,E5,E5,E5,ht];all_goals grind
theorem Lf.of{c b:BA}(h:Lf c)(e:b.1.map (·.1)=c.1.map (·.1))(k:∀w,Dw b.2 w=Dw c.2 w):Lf b:=λw=>by
 have lb:∀l:List (Au×Int×Bc),(l.filter λf=>Av (Bu f.1) 0 w).length=((l.map (·.1)).filter λs=>Av (Bu s) 0 w).length:=λl=>by rw[Ald,Aap];rfl
 have:=h w;simp_all[Dw,Sb]
theorem ZN{a b:List Nat}(h:a.Perm b):GU a=GU b:=by
 induction h with
 |nil=>rfl
 |cons x _ e=>grind[GU]
 |swap x y l=>grind[GU]
 |trans _ _ c d=>omega
theorem eH.of{l m:List (Au×Int×Bc)}(h:eH l)(e:m.map (·.1)=l.map (·.1)):eH m:=by
 have f:m.length=l.length:=by simpa using congrArg FB e
 have c:∀i (b:i<m.length),m[i].1=(l[i]'(by omega)).1:=λi b=>by have:=List.getElem_of_eq e (by grind:i<(m.map (·.1)).length);grind
 intro i d;rw[c i (by omega),c (i+1) d];exact h i (by omega)
end
section
variable {d : Nat} (hd : d <= 2) (ih : ∀ {fu : Nat} {x : Bc}, SX d x -> 1000000003000 + 10 * d + 1 < fu -> Ok (Lv fu x) λr => r.2 = Bp -> SX d r.1)
include hd ih
structure COk(d:Nat)(k:Tb×Bc):Prop where
 wf:Bf k.1
 cn:BW k.1=k.1
 vs:SX d k.2
def J2(l:List (Tb×Bc)):Nat:=GU (l.map λk=>k.1.length+3)
omit hd ih in
theorem HR(a b:List (Tb×Bc)):J2 (a++b)=J2 a*J2 b:=by simp_all[J2,Aan,Vx]
omit hd ih in
theorem Pj(a:List (Tb×Bc)):0<J2 a:=Vv λn b=>by grind
omit hd ih in
theorem Ly(k:Tb×Bc):J2 [k]=k.1.length+3:=by simp[J2,GU]
omit hd ih in
theorem Pk{l:List (Tb×Bc)}{k:Tb×Bc}(h:k∈l):k.1.length+3<=J2 l:=
 Vw (λn b=>by grind) (By.2 ⟨k,h,rfl⟩)
omit hd ih in
theorem Tg{fu j:Nat}{c z:List (Tb×Bc)}(s:j<c.length)(f:J2 z*J2 (c.drop j)<=14641)(D:∀k∈z,COk d k)(hc:COk d c[j])(I:1000000003000<fu):
  U9 fu (c[j].1,[])=Ac c[j].1/\(∀v,J2 (z++[(c[j].1,v)])*J2 (c.drop (j+1))<=14641)/\∀i (hi:i<z.length),Ok (U9 fu (z[i].1,c[j].1)) λt=>(Bf t/\BW t=t/\Av t 0=λw=>Av z[i].1 0 w||Av c[j].1 0 w)/\∀v,J2 (z.set i (t,v))*J2 (c.drop (j+1))<=14641:=by
 have l:J2 (c.drop j)=(c[j].1.length+3)*J2 (c.drop (j+1)):=by rw[Aaq s,show c[j]::c.drop (j+1)=[c[j]]++c.drop (j+1)from rfl,HR,Ly]
 have E:=Pj (c.drop (j+1));have F:=Pj z;have G:c[j].1.length+3<=14641:=Aam (by simp_all[Aey]) (Aam (Nat.le_mul_of_pos_left _ F) f);have h:CD c[j].1 (Av c[j].1 0) 14641:=⟨hc.wf,hc.cn,rfl,by omega⟩;refine⟨?_,λv=>?_,λi hi=>?_⟩;· obtain⟨t,p,b⟩:=T4 (Gy (fu:=fu) h (CD.nil (m:=0)) (by simp) (by omega));have:c[j].1=t:=h.unique (b.congr (funext λw=>by rw[h.gL,Hw,Alk]));grind
 ·simp_all[HR,Ly,Aeo]
 ·have g:=D _ (AN hi);have H:z[i].1.length+3<=14641:=Aam (Pk (AN hi)) (Aam (Aey _ (Pj _)) f);have ii:CD z[i].1 (Av z[i].1 0) 14641:=⟨g.wf,g.cn,rfl,by omega⟩;refine(T4 (Gy (fu:=fu) ii h (by simp) (by omega))).mono λt b=>⟨⟨b.wf,b.can,b.lg.trans (by rw[ii.gL,h.gL])⟩,λv=>?_⟩;have u:t.length+3<=(z[i].1.length+3)*(c[j].1.length+3):=by
   have:=b.len;grind[GS]
  have q:z=z.take i++([z[i]]++z.drop (i+1)):=by simp
  have o:z.set i (t,v)=z.take i++([(t,v)]++z.drop (i+1)):=by rw[Ady,if_pos hi];rfl
  rw[o,HR,HR,Ly];have n:J2 (z.take i)*((z[i].1.length+3)*J2 (z.drop (i+1)))*((c[j].1.length+3)*J2 (c.drop (j+1)))<=14641:=by rw[q,HR,HR,Ly,l]at f;exact f
  refine Aam ?_ n;generalize J2 (z.take i)=A,J2 (z.drop (i+1))=B,J2 (c.drop (j+1))=C at*;calc A*((t.length+3)*B)*C<=A*(((z[i].1.length+3)*(c[j].1.length+3))*B)*C:=Abi _ (Nat.mul_le_mul_left _ (Abi _ u))
   _=A*((z[i].1.length+3)*B)*((c[j].1.length+3)*C):=by generalize z[i].1.length+3=x,c[j].1.length+3=y;rw[Aeo,Aeo,Aeo A];rw[Aeo,Aeo,Nat.mul_left_comm y]
end
theorem SV.sb:∀ {d:Nat} {v:Vl},SV d v->SB d v
 |0,_,h=>h.1.elim
 |d+1,v,h=>⟨h.1,Dr h.1.1 h.2.1.sc,h.2.1.rs,λc hc=>⟨(h.2.1.st c hc).1.2,λk b=>((h.2.1.st c hc).2.1 k b).2⟩,λx a=>⟨(h.qh x a).1.sb.2,(h.qh x a).2.sb.2⟩⟩
def YS(G:Bc->Prop)(c:G4):Prop:=(∀x∈c.1,NB x.1/\G x)/\∀x∈c.2,NB x.1/\G x
section
variable {d : Nat} {G : Bc -> Prop} (hd : d <= 2) (ih : ∀ {fu : Nat} {x : Bc}, SW d x -> 1000000003000 + 10 * d + 1 < fu -> Ok (Lv fu x) λr => (r.2 = Bp -> SW d r.1 /\ G r.1) /\ (G x -> r = (x, Bp)))
include hd ih
theorem iR{fu:Nat}{c:G4}(h:LX d c)(T:1000000003000+10*d+2<fu):Ok (jX fu c) λr=>(r.2.2=Bp->r.2.1=Bp->LX d r.1/\YS G r.1)/\(YS G c->r=(c,Bp,Bp)):=by
 obtain⟨f,rfl⟩:∃f,fu=f+1:=⟨fu-1,by omega⟩;rw[show jX (f+1) c=_ from d246 f c];have U:=h.n1;have V:=h.n2;refine XD (λk (s:List Bc) (t:Bool)=>s.length=k/\(∀w∈s,SW d w/\G w)/\(t=Bp->∀w∈s,NB w.1)/\(YS G c->s=c.1.take k/\t=Bp)) c.1.length ⟨rfl,by simp,by simp,λ_=>by simp⟩ (by omega) (λk s t nx v I E=>?_) (λs t nx I=>?_)
 ·have j:=AN v;have m:=h.vs _ (AS.2 (.inl j));obtain⟨N,F,M,z⟩:=I;refine PW (Aah v (Oy (ih m (by omega)) λr n=>PS (λg=>MH ⟨λq=>(by simp),λq=>?_⟩) λg=>?_));· rw[n.2 (q.1 _ j).2]at g;grind
  have g:r.2=Bp:=by grind
  have i:=n.1 g;have add:∀b,(b=Bp->NB r.1.1/\t=Bp)->(YS G c->b=Bp)->Ok (nx (s++[r.1],b,k+1)) λr=>(r.2.2=Bp->r.2.1=Bp->LX d r.1/\YS G r.1)/\(YS G c->r=(c,Bp,Bp)):=λb p J=>E _ _ ⟨by rw[Aac,Acn,N],λw a=>by
   rcases AS.1 a with a|a;· exact F w a
   ·rw[Aaf.1 a];exact i,λq w a=>by
   rcases AS.1 a with a|a;· exact M (p q).2 w a
   ·rw[Aaf.1 a];exact(p q).1,λq=>⟨by
    have e:r=(c.1[k],Bp):=n.2 (q.1 _ j).2;rw[(z q).1,e,IN v],J q⟩⟩;refine PS (λB=>Oy (Dy i.1.1.sb (by omega)) λb p=>Abw (add _ (λq=>⟨?_,B⟩) λq=>?_)) λB=>Abw (add _ (λq=>by cases q) λq=>?_);· refine IS λy=>?_;rw[p.2 y]at q;cases q
  ·have e:r=(c.1[k],Bp):=n.2 (q.1 _ j).2;have y:=(q.1 _ j).1;cases K:b with
   |false=>rfl
   |true=>exact absurd (by rw[e];exact y) (p.1 K)
  grind
 ·obtain⟨N,F,M,z⟩:=I;rw[Aau]at z;refine P7 (by dsimp only;omega) ?_;refine Sj (λk (C:List Bc)=>C.length<=k/\(∀w∈C,SW d w/\NB w.1/\G w)/\(YS G c->C=c.2.take k)) c.2.length ⟨by simp,by simp,λ_=>by simp⟩ (by omega) (λk C nx v u E=>?_) (λC nx u=>?_)
  ·have j:=AN v;have m:=h.vs _ (AS.2 (.inr j));obtain⟨S,A,H⟩:=u;refine PW (Aah v (Oy (ih m (by omega)) λr n=>PS (λg=>MH ⟨λq=>(by cases q),λq=>?_⟩) λg=>?_));· rw[n.2 (q.2 _ j).2]at g;cases g
   have g:r.2=Bp:=by simpa using g
   have i:=n.1 g;refine Oy (Dy i.1.1.sb (by omega)) λb p=>PS (λl=>Abw (E _ ⟨by dsimp only;rw[Aac,Acn];omega,λw a=>?_,λq=>?_⟩)) λl=>E _ ⟨by dsimp only;omega,A,λq=>?_⟩
   ·rcases AS.1 a with a|a;· exact A w a
    ·rw[Aaf.1 a];refine⟨i.1,IS λy=>?_,i.2⟩;rw[p.2 y]at l;cases l
   ·have e:r=(c.2[k],Bp):=n.2 (q.2 _ j).2;rw[H q,e,IN v]
   ·have e:r=(c.2[k],Bp):=n.2 (q.2 _ j).2;have y:=(q.2 _ j).1;have L:b=Bp:=by simpa using l
    exact absurd (by rw[e];exact y) (p.1 L)
  ·obtain⟨S,A,H⟩:=u;rw[Aau]at H;refine PY (MH ⟨λ_ B=>⟨⟨by dsimp only;omega,by dsimp only;omega,λw a=>?_⟩,λw a=>⟨M B w a,(F w a).2⟩,λw a=>⟨(A w a).2.1,(A w a).2.2⟩⟩,λq=>?_⟩)
   ·rcases AS.1 a with a|a;· exact(F w a).1
    ·exact(A w a).1
   ·have P:=(z q).1;have Q:=(z q).2;have R:=H q;rw[P,Q,R]
end
section
variable{d fu:Nat}{α:Type}{v:Vl}{B:α->α->Prop}{c:BA}{G:Bc->Prop}{k:Tb×Bc}{x:Bc}{l:List α}
theorem a7{l:List (Tb×Bc)}{v:Bc}(h:∀k∈l,SW d k.2)(j:SW d v)(p:l.length<=12)(o:1000000003000+10*d<fu):
  Ok (ua fu (l,v)) λr=>r.2=(l,v)/\((∃i,∃hi:i<l.length,r.1=(i:Int)/\l[i].2=v)\/r.1= -1/\∀k∈l,k.2≠v):=by
 refine Sj (λk s=>s=v/\∀x∈l.take k,x.2≠v) l.length ⟨rf,by simp⟩ (by omega) (λk s nx f a n=>?_) (λs nx a=>?_)
 ·obtain⟨rfl,a⟩:=a;have m:=h _ (AN f);have e:Ok (uc fu (l[k],s)) λr=>r.2=s/\(r.1=Bp↔l[k].2=s):=by
   exact Oy (Mj (d:=d) ⟨m.1.1,m.2.1⟩ ⟨j.1.1,j.2.1⟩ (by omega)) λr b=>MH ⟨rf,b⟩
  refine PW (Aah f (Oy e λr b=>PS (λc=>MH ⟨by grind, .inl ⟨k,f,rfl,b.2.1 c⟩⟩) λc=>n _ ⟨b.1,λx g=>?_⟩));rcases(Ag f).1 g with g|rfl;all_goals grind
 ·obtain⟨rfl,a⟩:=a;rw[Al]at a;exact PY (MH ⟨rfl, .inr ⟨rfl,a⟩⟩)
def UU(G:Bc->Prop)(c:BA):Prop:=(∀f∈c.1,NB f.2.2.1/\G f.2.2)/\(∀k∈c.2,G k.2)/\EO (λk b=>E' k.1 b.1<0) c.2/\c.2.Pairwise (λk b=>k.2≠b.2)
theorem Le{α:Type}{B:α->α->Prop}{c:α->α->Int} :∀ {l:List α},(∀x∈l,∀y∈l,c y x= -c x y/\(c x y=0->B x y))->l.Pairwise (λx y=> ¬B x y)->EO (λp q=> ¬c q p<0) l->EO (λp q=>c p q<0) l
 | [],_,_,_=>trivial
 | [_],_,_,_=>trivial
 |x::y::l,h,p,a=>by have b:=Abj.1 p;refine⟨?_,Le (λu d v f=>h u (Aag _ d) v (Aag _ f)) b.2 a.2⟩;have g:=a.1;grind
structure KX(d:Nat)(G:Bc->Prop)(k:Tb×Bc):Prop where
 ne:k.1≠ []
 wf:Bf k.1
 cn:BW k.1=k.1
 vs:SW d k.2
 gd:G k.2
theorem KX.cok(h:KX d G k):COk d k:=⟨h.wf,h.cn,h.vs.1.sb,h.vs.2.sb⟩
theorem CX.cok(h:CX d c):∀k∈c.2,COk d k:=λk a=>by have g:=h.gd.1 k a;have v:=h.vs _ (AS.2 (.inr (By.2 ⟨k,a,rfl⟩)));exact⟨g.2.1,g.2.2,v.1.sb,v.2.sb⟩
theorem Wi{l:List (Tb×Bc)}{k:Tb×Bc}(a:k∈l){w:Au}(h:Av k.1 0 w=Bp):0<Dw l w:=
 Agp (Aba.2 ⟨a,h⟩)
theorem Wk(h:Lf c)(w:Au):Dw c.2 w<=1:=by have:=h w;grind[Dw,Sb]
theorem dm(h0:k.1≠ [])(h1:Bf k.1)(h2:BW k.1=k.1):∃w,Av k.1 0 w=Bp:=IS λb=>by refine h0 ((CD.Gx (⟨h1,h2,rf,Aae _⟩:CD k.1 (Av k.1 0) k.1.length)).2 (funext λw=>?_));grind
theorem Wj:∀ {l:List (Tb×Bc)},(∀k∈l,∃w,Av k.1 0 w=Bp)->(∀w,Dw l w<=1)->l.Pairwise λx y=>x.1≠y.1
 | [],_,_=> .nil
 |x::l,h,hc=>by
  have e:∀w,Dw (x::l) w=Dw [x] w+Dw l w:=λw=>DG [x] l w;refine Abj.2 ⟨λy c q=>?_,Wj (λk b=>h k (Aag _ b)) λw=>?_⟩;· obtain⟨w,a⟩:=h x (Aat ..);have:=hc w;rw[e,E5,if_pos a]at this;grind[Wi]
  grind
theorem KX.is(h:KX d G k){m:Nat}(b:k.1.length<=m):CD k.1 (Av k.1 0) m:=⟨h.wf,h.cn,rfl,b⟩
theorem iP(hd:d<=2)(ih:∀ {fu:Nat} {x:Bc},SW d x->1000000003000+10*d+1<fu->Ok (Lv fu x) λr=>(r.2=Bp->SW d r.1/\G r.1)/\(G x->r=(x,Bp)))(h:CX d c)(hF:1000000003000+10*d+2<fu):
  Ok (jW fu c) λr=>(r.2.2=Bp->r.2.1=Bp->CX d r.1/\UU G r.1)/\(UU G c->r=(c,Bp,Bp)):=by
 obtain⟨f,rfl⟩:∃f,fu=f+1:=⟨fu-1,by omega⟩;rw[show jW (f+1) c=_ from d247 f c];have n1:=h.bd.nf;have n2:=h.bd.nc;refine XD (λk (s:List (Au×Int×Bc)) (t:Bool)=>(s.map (λf=>(f.1,f.2.1))=(c.1.take k).map λf=>(f.1,f.2.1))/\(∀f∈s,SW d f.2.2/\G f.2.2)/\(t=Bp->∀f∈s,NB f.2.2.1)/\(UU G c->s=c.1.take k/\t=Bp)) c.1.length ⟨rfl,by simp,by simp,λ_=>by simp⟩ (by omega) (λk s t nx o hJ hn=>?_) (λs t nx hJ=>?_)
 ·have L:=AN o;have m:=h.vs _ (AS.2 (.inl (By.2 ⟨_,L,rfl⟩)));obtain⟨O,j2,j3,j4⟩:=hJ;have hsl:s.length<=4:=by have:=congrArg FB O;simp only[Aap,Abg]at this;omega
  refine PW (Aah o (Oy (ih m (by omega)) λr Q=>PS (λM=>MH ⟨λq=>(by simp),λq=>?_⟩) λM=>?_));· rw[Q.2 (q.1 _ L).2]at M;grind
  have H:=Q.1 (by grind);have ef:UU G c->s++[(c.1[k].1,c.1[k].2.1,r.1)]=c.1.take (k+1):=λq=>by have e:r=(c.1[k].2.2,Bp):=Q.2 (q.1 _ L).2;rw[(j4 q).1,e,IN o]
  have add:∀b:Bool,(b=Bp->t=Bp/\NB r.1.1)->(UU G c->b=Bp)->Ok (nx (s++[(c.1[k].1,c.1[k].2.1,r.1)],b,k+1)) λr=>(r.2.2=Bp->r.2.1=Bp->CX d r.1/\UU G r.1)/\(UU G c->r=(c,Bp,Bp)):=λb U N=>by
   refine hn _ _ ⟨by rw[Aan,O,IN o,Aan];rfl,λw D=>?_,λhbt w D=>?_,λq=>⟨ef q,N q⟩⟩
   ·rcases AS.1 D with D|D;· exact j2 w D
    ·rw[Aaf.1 D];omega
   ·obtain⟨h3,h4⟩:=U hbt;rcases AS.1 D with D|D;· exact j3 h3 w D
    ·rw[Aaf.1 D];omega
  refine PS (λI=>Oy (Dy H.1.1.sb (by omega)) λb U=>Abw (add _ (λN=>⟨I,?_⟩) λq=>?_)) λI=>Abw (add Ak (λh=>by cases h) λq=>?_);· refine IS λhnb=>?_;rw[U.2 hnb]at N;cases N
  ·have e:r=(c.1[k].2.2,Bp):=Q.2 (q.1 _ L).2;have nb:=(q.1 _ L).1;cases hbb:b with
   |false=>rfl
   |true=>exact absurd (by rw[e];omega) (U.1 hbb)
  ·have:=(j4 q).2;rw[show t=Ak from I]at this;cases this
 ·obtain⟨
      O,j2,j3,j4⟩:=hJ;refine P7 (by dsimp only;omega) ?_;rw[Al]at O j4;refine Sj (λj (z:List (Tb×Bc))=>z.length<=j/\(∀k∈z,KX d G k)/\J2 z*J2 (c.2.drop j)<=14641/\(∀w,Dw z w=Dw (c.2.take j) w)/\(z.Pairwise λk W=>k.2≠W.2)/\(UU G c->z=c.2.take j)) c.2.length ⟨by simp,by simp,by simpa [J2,GU]using h.bd.st,λw=>by simp,by simp,λ_=>by simp⟩ (by omega) (λj z nx hj T hn=>?_) (λz nx T=>?_)
  ·have L:=AN hj;have m:=h.vs _ (AS.2 (.inr (By.2 ⟨_,L,rfl⟩)));obtain⟨z1,F,z3,Z,z5,z6⟩:=T;obtain⟨a1,a2,a3⟩:=Tg (fu:=f) (d:=d) hj z3 (λk o=>(F k o).cok) (h.cok _ L) (by omega);have g:=h.gd.1 _ L;have tk:c.2.take (j+1)=c.2.take j++[c.2[j]]:=IN hj;refine PW (Aah hj (Oy (ih m (by omega)) λr Q=>PS (λM=>MH ⟨λq=>(by cases q),λq=>?_⟩) λM=>?_));· rw[Q.2 (q.2.1 _ L)]at M;cases M
   have H:=Q.1 (by simpa using M);have rq:UU G c->r.1=c.2[j].2:=λq=>by rw[Q.2 (q.2.1 _ L)]
   refine Oy (a7 (l:=z) (λk o=>(F k o).vs) H.1 (by omega) (by omega)) λr10 R=>?_;obtain⟨i,q1,q2⟩:=r10;obtain⟨R,S⟩:=R;cases R;dsimp only at S⊢;refine N6 (λhi=>BY a1 (Abw (hn _ ⟨by rw[Aac,Acn];omega,λk o=>?_,a2 _,λw=>?_,?_,λq=>?_⟩))) λhi=>?_
   ·rcases AS.1 o with o|o;· exact F k o
    ·rw[Aaf.1 o];exact⟨g.1,g.2.1,g.2.2,H.1,H.2⟩
   ·rw[tk,DG,DG,Z,E5,E5]
   ·refine Abb.2 ⟨z5,Aci ..,λx J y K=>?_⟩;rw[Aaf.1 K];rcases S with⟨n,E,e,_⟩|⟨_,e⟩;· omega
    ·exact e x J
   ·rw[tk,<-z6 q,rq q]
   ·obtain⟨n,E,rfl,e⟩:=S.resolve_right λe=>hi (by rw[e.1];decide);have kz:=F _ (AN E);have sum:∀w,Dw c.2 w=Dw z w+Dw [c.2[j]] w+Dw (c.2.drop (j+1)) w:=λw=>by
     rw[Z,<-DG,<-tk,<-DG,Acf]
    refine Aah E (Oy (a3 n E) λt I=>Aah E (hn _ ⟨by rw[Abq];omega,λk o=>?_,by exact I.2 _,λw=>?_,?_,λq=>?_⟩))
    ·rcases List.mem_or_eq_of_mem_set o with o|o;· exact F k o
     ·rw[o];refine⟨λe0=>?_,I.1.1,I.1.2.1,kz.vs,kz.gd⟩;obtain⟨w,D⟩:=dm kz.ne kz.wf kz.cn;have e1:=congrFun I.1.2.2 w;dsimp only at e0;rw[e0,Ed,D]at e1;cases e1
    ·have tw:Av t 0 w=(Av z[n].1 0 w||Av c.2[j].1 0 w):=congrFun I.1.2.2 w;have e5:=cm E (k:=c.2[j]) (x:=(t,z[n].2)) tw λU=>by
      have le:=Wk h.gd.2 w;have p1:=Wi (AN E) U.1;rw[sum w,E5,if_pos U.2]at le;omega
     rw[Ace,e5,Z,tk,DG]
    ·have ez:(z.set n (t,z[n].2)).map (·.2)=z.map (·.2):=by
      rw[List.map_set];have:(z.map (·.2)).set n ((z.map (·.2))[n]'(by simpa using E))=z.map (·.2):=List.set_getElem_self ..;rw[List.getElem_map]at this;exact this
     have p:(z.map (·.2)).Pairwise (· ≠ ·):=Adr.2 z5;rw[<-ez]at p;exact Adr.1 p
    ·exfalso;have e6:=z6 q;have pw:=q.2.2.2;have l6:=congrArg FB e6;rw[Abg]at l6;have nj:n<j:=by omega
     refine Aaw.1 pw n j (by omega) hj nj ?_;rw[<-rq q,<-e];have:z[n]=c.2[n]'(by omega):=by simp only[e6,List.getElem_take]
     rw[this]
  ·refine P7 (by dsimp only;omega) ?_;obtain⟨z1,F,z3,Z,z5,z6⟩:=T;rw[Al]at Z z6;have z3:J2 z<=14641:=by simpa [J2,GU]using z3
   have il:∀k∈z,CD k.1 (Av k.1 0) 14641:=λk o=>(F k o).is (by have:=Pk o;omega);have Y:∀x∈z,∀y∈z,E' y.1 x.1= -E' x.1 y.1/\(E' x.1 y.1=0->x.1=y.1):=λx J y K=>⟨JP _ _,(KE (fu:=f) (il x J) (il y K) (by decide) (by omega)).1⟩;refine Oy (Zo (fu:=f) (l:=z) (by omega) (by omega) (c:=λk W=>E' k.1 W.1) (λx J y K q=>by have:=(Y x J y K).1;omega) λx J y K=>?_) λr15 v=>MH ⟨λ_ I=>⟨⟨⟨?_,?_,λg hg=>?_,?_,λk o=>?_,λk o s hs=>?_⟩,⟨λg hg=>?_,h.fl.2.of ?_⟩,⟨λk o=>?_,h.gd.2.of ?_ λw=>?_⟩,λw D=>?_⟩,⟨λf hf=>⟨j3 I f hf,(j2 f hf).2⟩,λk o=>?_,?_,?_⟩⟩,λq=>?_⟩;· refine(Ok.eq ?_);rw[kD];exact BY (Fq (il x J) (il y K) (by decide) (by omega)) (MH rfl)
   ·have:=congrArg FB O;simp only[Aap]at this;dsimp only;omega
   ·dsimp only;rw[v.1.1.length_eq];omega
   ·have:(g.1,g.2.1)∈s.map (λf=>(f.1,f.2.1)):=By.2 ⟨g,hg,rfl⟩;rw[O]at this;obtain⟨g',V,e⟩:=By.1 this;rw[show g.1=g'.1 from(congrArg Prod.fst e).symm];exact h.bd.lb g' V
   ·dsimp only;rw[ZN (v.1.1.map _)];exact z3
   ·exact(F k (v.1.1.mem_iff.1 o)).wf.by
   ·exact((F k (v.1.1.mem_iff.1 o)).wf s hs).len
   ·have:(g.1,g.2.1)∈s.map (λf=>(f.1,f.2.1)):=By.2 ⟨g,hg,rfl⟩;rw[O]at this;obtain⟨g',V,e⟩:=By.1 this;rw[show g.2.1=g'.2.1 from(congrArg Prod.snd e).symm];exact h.fl.1 g' V
   ·have:=congrArg (List.map Prod.fst) O;simpa [Aak,Function.comp_def]using this
   ·have W:=F k (v.1.1.mem_iff.1 o);exact⟨W.ne,W.wf,W.cn⟩
   ·have:=congrArg (List.map Prod.fst) O;simpa [Aak,Function.comp_def]using this
   ·rw[X5 v.1.1,Z]
   ·rcases AS.1 D with D|D;· obtain⟨g,hg,rfl⟩:=By.1 D;exact(j2 g hg).1
    ·obtain⟨k,o,rfl⟩:=By.1 D;exact(F k (v.1.1.mem_iff.1 o)).vs
   ·exact(F k (v.1.1.mem_iff.1 o)).gd
   ·have mem:=λx=>(v.1.1.mem_iff (a:=x)).1;refine Le (B:=λx y=>x.1=y.1) (λx J y K=>Y x (mem x J) y (mem y K)) ?_ v.1.2;exact(v.1.1.pairwise_iff (λ{x y} q e=>q e.symm)).2 (Wj (λk o=>dm (F k o).ne (F k o).wf (F k o).cn) λw=>by rw[Z];exact Wk h.gd.2 w)
   ·exact(v.1.1.pairwise_iff (λ{x y} q e=>q e.symm)).2 z5
   ·have e:=v.2 (Nl (λx J y K=>(Y x J y K).1) (by rw[z6 q];exact q.2.2.1));dsimp only;rw[e,z6 q,(j4 q).1,(j4 q).2]
structure GdV(d:Nat)(G:Bc->Prop)(v:Vl):Prop where
 ls:∀c∈v.lists,YS G c
 ss:∀c∈v.structs,UU G c
 la:AC (WL (De d)) v.lists
 lo:EO (λp q=>DH (Bx d) p q<0) v.lists
 sa:AC (US (De d)) v.structs
 so:EO (λp q=>Es (Bx d) p q<0) v.structs
 ev:¬EvX v
def DM:Nat->Vl->Prop
 |0,_=>True
 |d+1,v=>v.any=Ak->GdV d (λx=>(DM d x.1/\DM d x.2)/\De d x.2 x.1) v
def Dj(d:Nat)(x:Bc):Prop:=(DM d x.1/\DM d x.2)/\De d x.2 x.1
theorem nw(h:l.Pairwise λx y=> ¬B x y/\¬B y x):AC B l:=λi j a b ne=>by grind[Nat.lt_or_ge,List.pairwise_iff_getElem]
theorem nW(d:Nat):SV (d+1) (.mk Bp Fz [] []):=⟨⟨(L3 d).1.1,⟨Abh _,λc hc=>by cases hc⟩,⟨Abh _,λc hc=>by cases hc⟩,λx a=>by cases a⟩,⟨λ_=>⟨rfl,rfl,rfl⟩,QS,λc hc=>(by cases hc),λc hc=>by cases hc⟩,λx a=>by cases a⟩
theorem SV.lx(h:SV (d+1) v):∀c∈v.lists,LX d c:=λc hc=>⟨(h.1.2.1.2 c hc).1,h.2.1.rs c hc,h.lv hc⟩
theorem SV.cx(h:SV (d+1) v):∀c∈v.structs,CX d c:=λc hc=>⟨h.1.2.2.1.2 c hc,(h.2.1.st c hc).1,(h.2.1.st c hc).2,h.sv hc⟩
theorem O6(k:∀ {fu:Nat} {v:Vl},SV d v->1000000003000+10*d<fu->Ok (Yu fu v) λr=>(r.2=Bp->SV d r.1/\DM d r.1)/\(DM d v->r=(v,Bp)))(o:d<=3)(j:SW d x)(n:1000000003000+10*d+1<fu):
  Ok (Lv fu x) λr=>(r.2=Bp->SW d r.1/\Dj d r.1)/\(Dj d x->r=(x,Bp)):=by
 obtain⟨e,rfl⟩:∃e,fu=e+1:=⟨fu-1,by omega⟩;rw[show Lv (e+1) x=_ from d249 e x];refine Oy (k j.1 (by omega)) λr f=>Oy (k j.2 (by omega)) λs g=>?_;refine PS (λa=>PS (λc=>?_) λc=>MH ⟨λh=>(by grind),λq=>?_⟩) λa=>MH ⟨λh=>(by grind),λq=>?_⟩;· refine Oy (JT (g.1 c).1 (f.1 a).1 (by omega)) λb i=>MH ⟨λq=>⟨⟨(f.1 a).1,(g.1 c).1⟩,⟨(f.1 a).2,(g.1 c).2⟩,i.1 q⟩,λq=>?_⟩;have l:=f.2 q.1.1;have m:=g.2 q.1.2;subst l m;rw[i.2 q.2]
 ·rw[g.2 q.1.2]at c;grind
 ·rw[f.2 q.1.1]at a;grind
theorem S3:∀ {d fu:Nat} {v:Vl},d<=3->SV d v->1000000003000+10*d<fu->Ok (Yu fu v) λr=>(r.2=Bp->SV d r.1/\DM d r.1)/\(DM d v->r=(v,Bp))
 |0,_,_,_,h,_=>h.1.elim
 |d+1,fu,v,Y,w,J=>by
  have P:=nn;obtain⟨f,rfl⟩:∃f,fu=f+3:=⟨fu-3,by omega⟩;have L:∀ {fu:Nat} {x:Bc},SW d x->1000000003000+10*d+1<fu->Ok (Lv fu x) λr=>(r.2=Bp->SW d r.1/\Dj d r.1)/\(Dj d x->r=(x,Bp)):=
   O6 (λh J=>S3 (by omega) h J) (by omega);have sb:=w.sb;obtain⟨I,⟨W,_⟩,⟨X,_⟩,_⟩:=id w.1;have O:=sb.2.1;rw[show Yu (f+3) v=_ from d248 (f+2) v];refine PS (λG=>MH ⟨λ_=>⟨w,λh=>by simp_all⟩,λ_=>rfl⟩) λG=>BY (SE O (by omega) (by decide) (by omega)) ?_;have p:DM (d+1) v->GdV d (Dj d) v:=λq=>q G;refine Sj (λk (s:List G4)=>s.length<=k/\(∀c∈s,LX d c/\YS (Dj d) c)/\(DM (d+1) v->s=v.lists.take k)) v.lists.length ⟨by simp,by simp,λ_=>by simp⟩ (by omega) (λk s nx u H F=>?_) (λs nx H=>?_)
  ·have o:=AN u;obtain⟨T,B,C⟩:=H;refine PW (Aah u (Oy (iR (by omega) L (w.lx _ o) (by omega)) λr n=>PS (λj=>MH ⟨λq=>(by cases q),λq=>?_⟩) λj=>PS (λm=>Abw (F _ ⟨by dsimp only;rw[Aac,Acn];omega,λc hc=>?_,λq=>?_⟩)) λm=>F _ ⟨by dsimp only;omega,B,λq=>?_⟩));· rw[n.2 ((p q).ls _ o)]at j;cases j
   ·rcases AS.1 hc with hc|hc;· exact B c hc
    ·rw[Aaf.1 hc];exact n.1 (by simpa using j) m
   ·rw[C q,n.2 ((p q).ls _ o),IN u]
   ·rw[n.2 ((p q).ls _ o)]at m;cases m
  obtain⟨T,B,C⟩:=H;rw[Aau]at C;refine P7 (by omega) ?_;refine Sj (λk (z:List BA)=>z.length<=k/\(∀c∈z,CX d c/\UU (Dj d) c)/\(DM (d+1) v->z=v.structs.take k)) v.structs.length ⟨by simp,by simp,λ_=>by simp⟩ (by omega) (λk z nx u t F=>?_) (λz nx t=>?_)
  ·have o:=AN u;obtain⟨U,D,E⟩:=t;refine PW (Aah u (Oy (iP (by omega) L (w.cx _ o) (by omega)) λr n=>PS (λj=>MH ⟨λq=>(by cases q),λq=>?_⟩) λj=>PS (λm=>Abw (F _ ⟨by dsimp only;rw[Aac,Acn];omega,λc hc=>?_,λq=>?_⟩)) λm=>F _ ⟨by dsimp only;omega,D,λq=>?_⟩));· rw[n.2 ((p q).ss _ o)]at j;cases j
   ·rcases AS.1 hc with hc|hc;· exact D c hc
    ·rw[Aaf.1 hc];exact n.1 (by simpa using j) m
   ·rw[E q,n.2 ((p q).ss _ o),IN u]
   ·rw[n.2 ((p q).ss _ o)]at m;cases m
  obtain⟨U,D,E⟩:=t;rw[Aau]at E;refine PY (Oy (gw (l:=s) (by omega) (λc hc=>(B c hc).1) (by omega) (by omega)) λy a=>Oy (gv (l:=z) (by omega) (λc hc=>(D c hc).1) (by omega) (by omega)) λA i=>?_);have sv:SV (d+1) (Vl.mk Ak v.sc y A):=Ze I w.2.1.sc (by have:=a.1.1;omega) (by have:=i.1.1;omega) (λc hc=>(B c (a.1.2 c hc)).1) λc hc=>(D c (i.1.2 c hc)).1;have whole:DM (d+1) v->Vl.mk Ak v.sc y A=v:=λq=>by have g:=p q;have R:=a.2.2.2 (by rw[C q];exact g.la) (by rw[C q];exact g.lo);have S:=i.2.2.2 (by rw[E q];exact g.sa) (by rw[E q];exact g.so);rw[R,S,C q,E q];exact Aiw (show Ak=v.any from G.symm) rfl rfl rfl
  refine Oy (bF (v:=Vl.mk Ak v.sc y A) (Dr I w.2.1.sc) (by decide) (by decide) (by omega)) λb K=>PS (λh=>MH ⟨λ_=>⟨nW d,λq=>by cases q⟩,λq=>?_⟩) λh=>MH ⟨λ_=>⟨sv,λ_=>⟨λc hc=>(B c (a.1.2 c hc)).2,λc hc=>(D c (i.1.2 c hc)).2,nw a.2.1,a.2.2.1,nw i.2.1,i.2.2.1,λq=>?_⟩⟩,λq=>?_⟩;· have e:=K.1 h;rw[whole q]at e;exact absurd e (p q).ev
  ·rw[K.2 q]at h;cases h
  grind
def Ls(d:Nat)(x:Bc):Prop:=SW d x/\Dj d x
theorem RN(c:J3 d x)(g:d<=3)(j:1000000005000<fu):Ok (dZ fu x) λr=>(r.2=0->Ls d r.1)/\(J3 d r.1)/\(Ls d x->r=(x,0)):=by
 have m:d≠0:=by rintro rfl;exact c.1.elim
 obtain⟨d,rfl⟩:∃e,d=e+1:=⟨d-1,by omega⟩;have no:(¬Ls (d+1) x)->Ok (Ac ((v0,v0),(11:Int))) λr=>(r.2=0->Ls (d+1) r.1)/\(J3 (d+1) r.1)/\(Ls (d+1) x->r=(x,0)):=λn=>MH ⟨λh=>(by omega),⟨(L3 d).1,(L3 d).1⟩,λh=>absurd h n⟩;refine Oy (Xb c g (by omega)) λb k=>PS (λh=>no λq=>?_) λh=>?_;· rw[k.2 ⟨q.1.1.2,q.1.2.2⟩]at h;grind
 have l:=k.1 (by grind);have o:SW (d+1) x:=⟨⟨c.1,l.1⟩,c.2,l.2⟩;refine Oy (O6 (λh j=>S3 g h j) g o (by omega)) λr i=>PS (λa=>no λq=>?_) λa=>?_;· rw[i.2 q.2]at a;grind
 ·have f:=i.1 (by simpa using a);exact MH ⟨λ_=>f,⟨f.1.1.1,f.1.2.1⟩,λq=>by rw[i.2 q.2]⟩
theorem WY(c:J3 d x)(j:d<=3)(g:1000000005000<fu):Ok (Tu fu x) λr=>r=Bp↔Ls d x:=by obtain⟨⟨y,e⟩,k,l,i,b⟩:=RN (fu:=fu) c j g;refine BY k (N6 (λh=>Oy (Mj i c (by omega)) λr a=>MH ⟨λf=>?_,λq=>?_⟩) λh=>MH ⟨λq=>(by grind),λq=>?_⟩);all_goals grind
theorem XH(h:SV d v)(j:1000000000000<fu):Ok (jI fu v) λr=>r=Bp↔¬NB v:=by
 cases d with
 |zero=>exact h.1.elim
 |succ d=>
  have l:Ie 5 12 v.sc:=Dr h.1.1 h.2.1.sc;have no:NB v->Ok (Ac Ak) λr=>r=Bp↔¬NB v:=λk=>MH ⟨λh=>(by cases h),λh=>absurd k h⟩;rw[jI];refine PS (λa=>Oy (N4 (l.sc (by decide)) (by decide) j) λb o=>?_) λa=>no (.inl (by simpa using a));rw[o.2 h.2.1.sc];refine P1 rfl (Oy (OS l (by decide) (by decide) j) λr f=>PS (λc=>N6 (λi=>MH ?_) λi=>no (.inr (.inl λe=>i (by rw[e];rfl)))) λc=>no (.inr (.inr (.inr λe=>by rw[f.2 e]at c;cases c))));have m:v.lists=[]:=OF.1 (by omega);have n:=f.1 c;have a:v.any=Ak:=by simpa using a
  rw[decide_eq_true_iff];unfold NB;rw[a,m,n];exact⟨λg=>by simp[OF.1 (by omega:v.structs.length=0)],λg=>by simp at g;simp[g]⟩
theorem IY(h:SV d v)(j:1000000000000<fu):Ok (Ys fu v) λr=>r=Bp↔¬NB v:=by rw[Ys];exact Oy (XH h j) λr f=>MH f
theorem UN{α:Type}{R:α->α->Prop} :∀ {l:List α},(∀i (h:i+1<l.length),R l[i] l[i+1])->EO R l
 | [],_=>trivial
 | [_],_=>trivial
 |x::y::l,h=>⟨h 0 (by simp),UN λi a=>h (i+1) (by simpa using a)⟩
def Cs(G:α->Prop)(B:α->α->Prop)(c:α->α->Int)(l:List α):Prop:=(∀x∈l,G x)/\AC B l/\EO (λp q=>c p q<0) l
theorem S2{G:α->Prop}{c:α->α->Int}{g:α->Option Bool}{wr:α->Option Vl}{cmp:Vl->Vl->Option Int}{le:α->α->Option Bool}{K:Option Bool}{P:Bool->Prop}(hl:l.length<=12)(hf:20<fu)
  (hg:∀x∈l,Ok (g x) λr=>r=Bp↔G x) (hc:∀x∈l,∀y∈l,∃a b,wr x=Ac a/\wr y=Ac b/\cmp a b=Ac (c x y)) (O:∀x∈l,∀y∈l,Ok (le x y) λr=>r=Bp↔B x y)
  (yes:Cs G B c l->Ok K P) (no:¬Cs G B c l->P Ak):
  Ok (Ad fu (λ(f:Nat) J=>
  bif Dm (
        (f:Int)<(l.length:Int))then
   Ab (idx l (f:Int)) λr3=>
   Ab (g r3) λr4=>
   bif !r4 then
    Ac (Ak)
   else
    bif Dm (
          (0:Int)<(f:Int))then
     Aa (Lh.i64) ((f:Int)-(1:Int))<|
     Ab (idx l ((f:Int)-(1:Int))) λr5=>
     Ab (wr r5) λr6=>
     Ab (idx l (f:Int)) λr7=>
     Ab (wr r7) λr8=>
     Ab (cmp r6 r8) λr9=>
     bif Dm ((0:Int)<=r9)then
      Ac (Ak)
     else
      Ad fu (λ(o:Nat) v=>
       bif Dm ((o:Int)<(l.length:Int))then
        bif Dm ((f:Int)≠(o:Int))then
         Ab (idx l (f:Int)) λT=>
         Ab (idx l (o:Int)) λU=>
         Ab (le T U) λV=>
         bif V then
          Ac (Ak)
         else
          v (o+1)
        else
         v (o+1)
       else
        J (f+1)) (0)
    else
     Ad fu (λ(e:Nat) d=>
      bif Dm ((e:Int)<(l.length:Int))then
       bif Dm ((f:Int)≠(e:Int))then
        Ab (idx l (f:Int)) λC=>
        Ab (idx l (e:Int)) λD=>
        Ab (le C D) λE=>
        bif E then
         Ac (Ak)
        else
         d (e+1)
       else
        d (e+1)
      else
       J (f+1)) (0)
  else K) 0) P:=by
 refine Vs (λk=>(∀x∈l.take k,G x)/\(∀i (h:i+1<l.length),i+1<k->c l[i] l[i+1]<0)/\∀i j (t:i<l.length) (s:j<l.length),i<k->i≠j->¬B l[i] l[j]) l.length ⟨by simp,λi h k=>by omega,λi j _ _ h=>by omega⟩ (by omega) (λk nx z N hn=>?_) (λnx N=>?_)
 ·have m:=
       AN z;obtain⟨M,R,S⟩:=N;have inner:G l[k]->(∀i (h:i+1<l.length),i+1<k+1->c l[i] l[i+1]<0)->Ok (Ad fu (λ(e:Nat) d=>
      bif Dm ((e:Int)<(l.length:Int))then
       bif Dm ((k:Int)≠(e:Int))then
        Ab (idx l (k:Int)) λC=>
        Ab (idx l (e:Int)) λD=>
        Ab (le C D) λE=>
        bif E then
         Ac (Ak)
        else
         d (e+1)
       else
        d (e+1)
      else
       nx (k+1)) (0)) P:=λL W=>by
   refine Vs (λn=> ∀j (s:j<l.length),j<n->k≠j->¬B l[k] l[j]) l.length (λj _ h=>by omega) (by omega) (λn d A w H=>?_) (λd w=>?_)
   ·have u:(k≠n->¬B l[k] l[n])->∀j (s:j<l.length),j<n+1->k≠j->¬B l[k] l[j]:=λh j s hjn=>by
     rcases Aal j n with q|q;· exact w j s q
     ·obtain rfl:j=n:=by omega
      exact h
    refine PW (N6 (λne=>Aah z (Aah A (Oy (O _ m _ (AN A)) λr I=>PS (λh=>MH (no λq=>q.2.1 k n z A (by omega) (I.1 h))) λh=>H (u λ_ hB=>by rw[I.2 hB]at h;cases h)))) λne=>H (u λh=>absurd h (by omega)))
   ·refine PY (hn ⟨λx Q=>?_,W,λi j t s F ne=>?_⟩)
    ·rcases(Ag z).1 Q with Q|rfl;· exact M x Q
     ·exact L
    ·rcases Aal i k with q|q;· exact S i j t s q ne
     ·obtain rfl:i=k:=by omega
      exact w j s s ne
  refine PW (Aah z (Oy (hg _ m) λr I=>PS (λh=>MH (no λq=>?_)) λh=>?_));· rw[I.2 (q.1 _ m)]at h;cases h
  have L:=I.1 (by simpa using h);refine N6 (λh0=>?_) λh0=>inner L λi t F=>by omega
  obtain⟨p,rfl⟩:∃p,k=p+1:=⟨k-1,by omega⟩;obtain⟨a,b,Y,Z,ec⟩:=hc _ (AN (by omega:p<l.length)) _ m;have X:((p+1:Nat):Int)-1=(p:Nat):=by omega
  refine Abx (by omega) ?_;rw[X];refine Aah (by omega) (BY Y (Aah z (BY Z (BY ec (N6 (λh=>MH (no λq=>?_)) λh=>inner L λi t F=>?_)))));· have:=QF q.2.2 p z;omega
  ·rcases Aal i p with q|q;· exact R i t (by omega)
   ·obtain rfl:i=p:=by omega
    omega
 ·obtain⟨M,R,S⟩:=N;rw[Aau]at M;exact PY (yes ⟨M,λi j t s ne=>S i j t s t ne,UN λi h=>R i h h⟩)
end
section
variable {d : Nat} (hd : d <= 2) (ih : ∀ {fu : Nat} {v : Vl}, SV d v -> 1000000003000 + 20 * d < fu -> Ok (Tn fu v) λr => r = Bp ↔ DM d v)
section
variable{fu:Nat}
include ih
theorem E2{x:Bc}(e:SW d x)(j:1000000003000+20*d+1<fu):Ok (QM fu x) λr=>r=Bp↔Dj d x:=by
 obtain⟨f,rfl⟩:∃f,fu=f+1:=⟨fu-1,by omega⟩;rw[show QM (f+1) x=_ from d345 f x];unfold xW;refine Oy (ih e.1 (by omega)) λr g=>PS (λa=>Oy (ih e.2 (by omega)) λs h=>PS (λc=>Oy (HZ e.2 e.1 (by omega)) λb i=>MH (i.trans ⟨λq=>⟨⟨g.1 a,h.1 c⟩,q⟩,λq=>q.2⟩)) λc=>AR λq=>?_) λa=>AR λq=>?_;· rw[h.2 q.1.2]at c;cases c
 ·rw[g.2 q.1.1]at a;cases a
theorem Sg{c:G4}(hc:LX d c)(A:1000000003000+20*d+2<fu):Ok (dE fu c) λr=>r=Bp↔YS (Dj d) c:=by
 obtain⟨f,rfl⟩:∃f,fu=f+1:=⟨fu-1,by omega⟩;rw[show dE (f+1) c=_ from d346 f c];unfold xV;have B:=hc.n1;have C:=hc.n2;refine Vs (λk=> ∀x∈c.1.take k,NB x.1/\Dj d x) c.1.length (by simp) (by omega) (λk nx n g z=>?_) (λnx g=>?_)
 ·have m:=AN n;have s:=hc.vs _ (AS.2 (.inl m));refine PW (Aah n (Oy (IY s.1 (by omega)) λr i=>PS (λh=>AR λq=>i.1 h (q.1 _ m).1) λh=>Aah n (Oy (E2 ih s (by omega)) λt o=>PS (λl=>AR λq=>?_) λl=>z λx e=>?_)));· rw[o.2 (q.1 _ m).2]at l;cases l
  ·rcases(Ag n).1 e with e|rfl;· exact g x e
   ·exact⟨IS λp=>(by rw[i.2 p]at h;cases h),o.1 (by simpa using l)⟩
 ·rw[Aau]at g;refine PY (N6 (λh=>MH ⟨λ_=>⟨g,λx e=>?_⟩,λ_=>rfl⟩) λh=>?_);· rw[OF.1 (by omega:c.2.length=0)]at e;cases e
  obtain⟨y,j⟩:=PV (by omega:c.2.length=1);have s:=hc.vs y (AS.2 (.inr (by rw[j];exact Aaf.2 rfl)));rw[j];have mem:∀x∈c.2,x=y:=λx e=>by rw[j]at e;exact Aaf.1 e
  have u:y∈c.2:=by rw[j];exact Aaf.2 rfl
  refine BY (a:=y) rfl (Oy (IY s.1 (by omega)) λr i=>PS (λh=>BY (a:=y) rfl (Oy (E2 ih s (by omega)) λt o=>MH (o.trans ⟨λq=>⟨g,λx e=>?_⟩,λq=>(q.2 y u).2⟩))) λh=>AR λq=>i.1 (by simpa using h) (q.2 y u).1);rw[mem x e];exact⟨IS λp=>(by rw[i.2 p]at h;cases h),q⟩
end
end
section
variable{fu:Nat}
theorem Xd{w v:Au} :Ok (dH fu (w,v)) λr=>r=Bp↔EI w v<0:=by
 rw[dH];refine N6 (λh=>MH ⟨λ_=>?_,λ_=>rfl⟩) λh=>N6 (λk=>MH ?_) λk=>AR ?_;· have e:D8 w.length v.length= -1:=if_pos h;unfold EI;rw[e,if_neg (by decide)];decide
 ·unfold EI;rw[if_pos (BC.2 (by omega))];unfold FH;cases a:Op.bytesLess w v with
  |true=>exact⟨λ_=>by rw[if_pos rfl];decide,λ_=>rfl⟩
  |false=>
   refine⟨λh=>(by cases h),λh=>?_⟩;rw[if_neg (by simp)]at h;split at h<;>exact absurd h (by decide)
 ·have e:D8 w.length v.length=1:=(if_neg h).trans (if_pos (by omega));unfold EI;rw[e,if_neg (by decide)];decide
theorem aq{a b:Tb}(c:CD a (Av a 0) 14641)(d:CD b (Av b 0) 14641)(na:a≠ [])(nb:b≠ [])(i:∀w,¬(Av a 0 w=Bp/\Av b 0 w=Bp))(p:1000000000000<fu):
  ∃w v,UW fu a=Ac w/\UW fu b=Ac v/\Ok (dH fu (w,v)) λr=>r=Bp↔E' a b<0:=by
 have one:∀ {a:Tb},CD a (Av a 0) 14641->a≠ []->∃w,LI a=Ac w/\UW fu a=Ac w:=λ{a} h n=>by
  cases e:LI a with
  |none=>exact absurd (MI h e) n
  |some w=>
   refine⟨w,rf,(Ok.eq ?_)⟩;rw[UW];exact BY (IM (n:=14641) h ⟨h.len,λs o=>Aam (h.wf s o).len (by decide)⟩ (by decide) (by omega)) (MH (by rw[e];rfl))
 obtain⟨w,j,k⟩:=one c na;obtain⟨v,l,m⟩:=one d nb;have rfl:OV a b=a:=Qm (q:=14641) (c.congr (funext λu=>by
  rw[c.gL,d.gL];have:=i u;cases f:Av a 0 u<;>cases g:Av b 0 u<;>simp[f,g]at this⊢));have d2:OV b a=b:=Qm (q:=14641) (d.congr (funext λu=>by
  rw[c.gL,d.gL];have:=i u;cases f:Av a 0 u<;>cases g:Av b 0 u<;>simp[f,g]at this⊢));have e:E' a b=EI w v:=by unfold E';rw[rfl,d2,j,l];rfl
 rw[e];exact⟨w,v,k,m,Xd⟩
theorem XW{d:Nat}{x y:Bc}(a:SW d x)(b:SW d y)(c:d<=3)(h:1000000003000<fu):Ok (Ym fu (x,y)) λr=>r=Bp↔x=y:=by rw[Ym];refine Oy (IE ⟨a.1.1,a.2.1⟩ c (by omega)) λr f=>?_;rw[f.2 ⟨a.1.2,a.2.2⟩];refine VO rfl (Oy (IE ⟨b.1.1,b.2.1⟩ c (by omega)) λs g=>?_);rw[g.2 ⟨b.1.2,b.2.2⟩];refine VO rfl (BY (HN HI a b (by omega)) (MH ?_));rw[decide_eq_true_iff];have k:=HJ (R:=Bx d) HK a b;refine⟨k.2,λe=>?_⟩;subst e;have:=k.1;omega
end
section
variable {d : Nat} (hd : d <= 2) (ih : ∀ {fu : Nat} {v : Vl}, SV d v -> 1000000003000 + 20 * d < fu -> Ok (Tn fu v) λr => r = Bp ↔ DM d v)
include hd ih
theorem NK{fu:Nat}{c:BA}(hc:CX d c)(hF:1000000003000+20*d+2<fu):Ok (dD fu c) λr=>r=Bp↔UU (Dj d) c:=by
 obtain⟨f,rfl⟩:∃f,fu=f+1:=⟨fu-1,by omega⟩;rw[show dD (f+1) c=_ from d347 f c];unfold xU;have n1:=hc.bd.nf;have n2:=hc.bd.nc;refine Vs (λk=> ∀x∈c.1.take k,NB x.2.2.1/\Dj d x.2.2) c.1.length (by simp) (by omega) (λk nx b G K=>?_) (λnx G=>?_)
 ·have m:=AN b;have s:=hc.vs _ (AS.2 (.inl (By.2 ⟨_,m,rfl⟩)));refine PW (Aah b (Oy (IY s.1 (by omega)) λr u=>PS (λh=>AR λq=>u.1 h (q.1 _ m).1) λh=>Aah b (Oy (E2 ih s (by omega)) λt V=>PS (λl=>AR λq=>?_) λl=>K λx C=>?_)));· rw[V.2 (q.1 _ m).2]at l;cases l
  ·rcases(Ag b).1 C with C|rfl;· exact G x C
   ·exact⟨IS λnb=>(by rw[u.2 nb]at h;cases h),V.1 (by simpa using l)⟩
 rw[Aau]at G;refine P7 (by omega) ?_;have T:∀k∈c.2,CD k.1 (Av k.1 0) 14641:=λk b=>by have g:=hc.gd.1 k b;have:=Pk b;have:=hc.bd.st;unfold J2 at*;exact⟨g.2.1,g.2.2,rfl,by omega⟩
 have S:∀k∈c.2,SW d k.2:=λk b=>hc.vs _ (AS.2 (.inr (By.2 ⟨k,b,rfl⟩)));refine Vs (λk=>(∀x∈c.2.take k,Dj d x.2)/\(∀i (h:i+1<c.2.length),i+1<k->E' c.2[i].1 c.2[i+1].1<0)/\∀i j (B:i<c.2.length) (n:j<c.2.length),i<k->j<i->c.2[i].2≠c.2[j].2) c.2.length ⟨by simp,λi h k=>by omega,λi j _ _ h=>by omega⟩ (by omega) (λk nx b A K=>?_) (λnx A=>?_)
 ·have m:=AN b;obtain⟨H,N,O⟩:=A;have inner:Dj d c.2[k].2->(∀i (h:i+1<c.2.length),i+1<k+1->E' c.2[i].1 c.2[i+1].1<0)->Ok (Ad f (λ(o:Int) y=>
      bif Dm (o<(k:Int))then
       Ab (idx c.2 (k:Int)) λP=>
       Ab (idx c.2 o) λQ=>
       Ab (Ym f (P.2,Q.2)) λR=>
       bif R then
        Ac (Ak)
       else
        Aa (Lh.i64) (o+(1:Int))<|
        y ((o+(1:Int)))
      else
       nx (k+1)) ((0:Int))) λr=>r=Bp↔UU (Dj d) c:=λF X=>by
   refine Xg (λz=>(0<=z/\z<=(k:Int))/\∀j (n:j<c.2.length),(j:Int)<z->c.2[k].2≠c.2[j].2) (λz=>((k:Int)-z).toNat) ⟨⟨by omega,by omega⟩,λj _ h=>by omega⟩ (by omega) λz y hI _ L=>?_;obtain⟨⟨z0,z1⟩,W⟩:=hI;refine N6 (λhz=>Aah b (Adq z0 (by omega) (Oy (XW (S _ m) (S _ (AN (by omega:z.toNat<c.2.length))) (by omega) (by omega)) λr u=>PS (λh=>AR λq=>?_) λh=>Aao (L _ ⟨by omega,λj n hjz=>?_⟩ (by omega))))) λhz=>K ⟨λx C=>?_,X,λi j B n D J=>?_⟩;· exact Aaw.1 q.2.2.2 z.toNat k (by omega) b (by omega) (u.1 h).symm
   ·rcases Ael (j:Int) z with q|q;· exact W j n q
    ·obtain rfl:z=(j:Int):=by omega
     intro e;rw[u.2 (by simpa using e)]at h;cases h
   ·rcases(Ag b).1 C with C|rfl;· exact H x C
    ·exact F
   ·rcases Aal i k with q|q;· exact O i j B n q J
    ·obtain rfl:i=k:=by omega
     exact W j n (by omega)
  refine PW (Aah b (Oy (E2 ih (S _ m) (by omega)) λr u=>PS (λh=>AR λq=>?_) λh=>?_));· rw[u.2 (q.2.1 _ m)]at h;cases h
  have F:=u.1 (by simpa using h);refine N6 (λh0=>?_) λh0=>inner F λi B D=>by omega
  obtain⟨p,rfl⟩:∃p,k=p+1:=⟨k-1,by omega⟩;have M:p<c.2.length:=by omega
  have mp:=AN M;have Y:((p+1:Nat):Int)-1=(p:Nat):=by omega
  obtain⟨w,v,Z,ev,hl⟩:=aq (fu:=f) (T _ mp) (T _ m) (hc.gd.1 _ mp).1 (hc.gd.1 _ m).1 (hc.gd.Iu M b (by omega)) (by omega);refine Abx (by omega) ?_;rw[Y];refine Aah M (BY Z (Aah b (BY ev (Oy hl λs U=>PS (λl=>AR λq=>?_) λl=>inner F λi B D=>?_))));· rw[U.2 (QF q.2.2.1 p b)]at l;cases l
  ·rcases Aal i p with q|q;· exact N i B (by omega)
   ·obtain rfl:i=p:=by omega
    exact U.1 (by simpa using l)
 ·obtain⟨H,N,O⟩:=A;rw[Aau]at H;exact PY (MH ⟨λ_=>⟨G,H,UN λi h=>N i h h,Aaw.2 λi j B n I e=>O j i n B n I e.symm⟩,λ_=>rfl⟩)
end
section
variable{d:Nat}{v:Bc}{fu n:Nat}
theorem Sf:∀ {d fu:Nat} {v:Vl},d<=3->SV d v->1000000003000+20*d<fu->Ok (Tn fu v) λr=>r=Bp↔DM d v
 |0,_,_,_,h,_=>h.1.elim
 |d+1,fu,v,w,e,u=>by
  obtain⟨f,rfl⟩:∃f,fu=f+1:=⟨fu-1,by omega⟩;have z:∀ {fu:Nat} {v:Vl},SV d v->1000000003000+20*d<fu->Ok (Tn fu v) λr=>r=Bp↔DM d v:=λh u=>Sf (by omega) h u;obtain⟨A,⟨J,_⟩,⟨K,_⟩,_⟩:=id e.1;rw[show Tn (f+1) v=_ from d348 f v];unfold xT;have nil:v.any=Bp->v.lists=[]/\v.structs=[]:=λh=>(e.2.1.an h).2;have t:∀ {α:Type} {G:α->Prop} {B:α->α->Prop} {c:α->α->Int},Cs G B c []:=⟨by simp,λi j I=>by simp at I,trivial⟩;have E:DM (d+1) v->Cs (YS (Dj d)) (WL (De d)) (DH (Bx d)) v.lists:=λq=>by
   cases h:v.any with
   |true=>rw[(nil h).1];exact t
   |false=>have g:=q h;exact⟨g.ls,g.la,g.lo⟩
  have F:DM (d+1) v->Cs (UU (Dj d)) (US (De d)) (Es (Bx d)) v.structs:=λq=>by
   cases h:v.any with
   |true=>rw[(nil h).2];exact t
   |false=>have g:=q h;exact⟨g.ss,g.sa,g.so⟩
  refine S2 (G:=YS (Dj d)) (B:=WL (De d)) (c:=DH (Bx d)) (g:=λx=>dE f x) (wr:=λx=>jD f x) (cmp:=λa b=>UX f (a,b)) (le:=λx y=>Tr f (x,y)) (by omega) (by omega) (λx k=>Sg z (e.lx x k) (by omega)) (λx k y l=>⟨nO x,nO y,rfl,rfl,?_⟩) (λx k y l=>RR HZ (e.lx x k).n1 (e.lx x k).vs (e.lx y l).vs (by omega)) (λm=>?_) λn=>⟨λh=>(by cases h),λq=>absurd (E q) n⟩;· rw[JM (L_ (e.lx x k)) (L_ (e.lx y l)) w (by omega),Wm]
  refine S2 (G:=UU (Dj d)) (B:=US (De d)) (c:=Es (Bx d)) (g:=λx=>dD f x) (wr:=λx=>jv f x) (cmp:=λa b=>UX f (a,b)) (le:=λx y=>Tq f (x,y)) (by omega) (by omega) (λx k=>NK (by omega) z (e.cx x k) (by omega)) (λx k y l=>⟨nN x,nN y,rfl,rfl,?_⟩) (λx k y l=>Mb HZ (e.cx x k).bd (e.cx y l).bd (e.cx x k).gd (e.cx y l).gd (e.cx x k).vs (e.cx y l).vs (by omega)) (λo=>?_) λn=>⟨λh=>(by cases h),λq=>absurd (F q) n⟩;· rw[JM (L9 (e.cx x k)) (L9 (e.cx y l)) w (by omega),Wl]
  refine Oy (XV (Dr A e.2.1.sc) (by decide) (by decide) (by omega)) λr p=>MH ⟨λh H=>⟨m.1,o.1,m.2.1,m.2.2,o.2.1,o.2.2,λq=>?_⟩,λq=>?_⟩;· rw[p.2 ⟨H,q⟩]at h;cases h
  ·cases r with
   |false=>rfl
   |true=>exact absurd (p.1 rfl).2 (q (p.1 rfl).1).ev
theorem WZ{x:Bc}{F:Nat->Bc->Option Bool}(a:J3 d x)(c:d<=3)(b:1000000005000<fu)(e:F fu x=Ab (UZ fu x) λj=>bif j then Ab (QM fu x) λk=>Ac k else Ac Ak):Ok (F fu x) λr=>r=Bp↔Ls d x:=by
 rw[e];refine Oy (IE a c (by omega)) λr f=>PS (λh=>?_) λh=>AR λq=>?_;· have s:=f.1 h;have g:SW d x:=⟨⟨a.1,s.1⟩,a.2,s.2⟩;exact Oy (E2 (λh b=>Sf c h b) g (by omega)) λt i=>MH (i.trans ⟨λq=>⟨g,q⟩,λq=>q.2⟩)
 ·rw[f.2 ⟨q.1.1.2,q.1.2.2⟩]at h;cases h
open Classical in
noncomputable def IG(v:Bc):Vl:=if NB v.2 then v.2 else v.1
open Classical in
noncomputable def alt(D:Vl):Nat:=D.lists.length+D.structs.length+if D.sc=Fz then 0 else 1
open Classical in
noncomputable def err(d:Nat)(v:Bc)(n:Nat):Int:=if¬Ls d v then 11 else if¬NB v.1 then 12 else if(IG v).any=Bp\/0<n/\1<alt (IG v)then 14 else if n=0 then 11 else 0
theorem bf{α:Type}{l:List α}{d:α}(h:0<l.length):l[0]=l.headD d:=by
 cases l with
 |nil=>grind
 |cons c l=>rfl
theorem SV.n3{v:Vl}(h:SV d v):v.lists.length<=3/\v.structs.length<=3:=by
 cases d with
 |zero=>exact h.1.elim
 |succ d=>exact⟨h.1.2.1.1,h.1.2.2.1.1⟩
theorem SV.scv{v:Vl}(h:SV d v):Ie 5 12 v.sc:=by
 cases d with
 |zero=>exact h.1.elim
 |succ d=>exact Dr h.1.1 h.2.1.sc
theorem Pv(h:Ls d v):SV d (IG v):=by
 unfold IG;split;· exact h.1.2
 ·exact h.1.1
theorem Zz(h:Ls d v):DM d (IG v):=by
 unfold IG;split;· exact h.2.1.2
 ·exact h.2.1.1
theorem Xx(b:d<=3)(f:J3 d v)(h:Ls d v)(a:1000000005000<fu):dZ fu v=Ac (v,0):=by obtain⟨r,e,_,_,c⟩:=RN (fu:=fu) f b a;grind
theorem Vb(f:d<=3)(g:J3 d v)(c:1000000005000<fu):(Ls d v/\Tu fu v=Ac Bp)\/(¬Ls d v/\Tu fu v=Ac Ak):=by obtain⟨b,e,a⟩:=WY (fu:=fu) g f c;grind
theorem TZ(g:d<=3)(i:J3 d v)(h:Ls d v)(c:1000000005000<fu):sL fu v=Ac (IG v):=by have e:Tu fu v=Ac Bp:=((Vb g i c).resolve_right λk=>k.1 h).2;refine(Ok.eq ?_);refine BY (Xx g i h c) (P7 (by simp) (BY e (P1 rfl (Oy (Dy h.1.2.sb (by omega)) λb f=>PS (λq=>MH ?_) λq=>MH ?_))));all_goals grind[IG]
theorem of_eq(f:d<=3)(i:J3 d v)(a:1000000005000<fu):Ok (jV fu v) λr=>(¬Ls d v/\r.2=11)\/(Ls d v/\¬NB v.1/\r.2=12)\/(Ls d v/\NB v.1/\r.2=0/\r.1.1=IG v/\(r.1.2=Bp↔(IG v).sc≠Fz)):=by
 rcases Vb f i a with⟨h,e⟩|⟨h,e⟩
 ·refine BY e (P1 rf (Oy (Dy h.1.1.sb (by omega)) λb c=>PS (λq=>MH (.inr (.inl ⟨h,c.1 q,rf⟩))) λq=>BY (TZ f i h a) ?_));have j:NB v.1:=IS λn=>by grind
  have s:=Pv h;refine Oy (IU (s.scv) (by simp) (by simp) (by omega)) λr g=>MH (.inr (.inr ⟨h,j,rfl,rfl,?_⟩));grind
 ·exact BY e (VO rf (MH (.inl ⟨h,rf⟩)))
theorem Zh{s:Bool}(h:Ls d v)(nb:NB v.1)(b:s=Bp↔(IG v).sc≠Fz)(g:n<=3):jU fu ((IG v,s),(n:Int))=Ac (err d v n):=by
 have sv:=Pv h;have i:=sv.n3.1;have j:=sv.n3.2;have e:sK fu (IG v,s)=Ac (alt (IG v):Int):=by refine(Ok.eq ?_);refine Aao (PS (λq=>Aao (MH ?_)) λq=>MH ?_);all_goals grind[alt]
 have c:err d v n=if(IG v).any=Bp\/0<n/\1<alt (IG v)then 14 else if n=0 then 11 else 0:=by grind[err]
 rw[c];refine(Ok.eq ?_);refine PS (λa=>MH (if_pos (.inl a)).symm) λa=>N6 (λf=>BY e (N6 (λq=>MH (if_pos (.inr ⟨by omega,by omega⟩)).symm) λq=>PY (MH ?_))) λf=>PW (MH ?_)
 all_goals grind
theorem bH(h:err d v n=0):Ls d v/\NB v.1/\0<n/\(IG v).any=Ak:=by grind[err]
noncomputable def nY(d:Nat)(v:Bc):BA×Int:=if err d v (IG v).structs.length=0 then((IG v).structs.headD ([],[]),0)else(([],[]),err d v (IG v).structs.length)
noncomputable def Df(d:Nat)(v:Bc):G4×Int:=if err d v (IG v).lists.length=0 then((IG v).lists.headD ([],[]),0)else(([],[]),err d v (IG v).lists.length)
theorem L7(j:d<=3)(m:J3 d v)(i:1000000005000<fu):jT fu v=Ac (Df d v):=by
 refine(Ok.eq ?_);refine Oy (of_eq j m i) λr l=>?_;rcases l with⟨h,e⟩|⟨h,c,e⟩|⟨h,c,e,f,g⟩;· have a:∀n,err d v n=11:=λn=>if_pos h;simp_all[Df,PY,PW,MH,if_neg]
 ·have a:∀n,err d v n=12:=λn=>(if_neg (λk=>k h)).trans (if_pos c);simp_all[Df,PY,PW,MH,if_neg]
 ·obtain⟨⟨D,s⟩,z⟩:=r;dsimp only at e f g⊢;subst f;have o:=(Pv h).n3.1;refine TJ e (BY (Zh h c g o) (N6 (λk=>MH ?_) λk=>?_));· grind[Df]
  ·have k:err d v (IG v).lists.length=0:=IS k;have p:=(bH k).2.2.1;refine Adq (by decide) (by omega) (MH ?_);unfold Df;rw[if_pos k];exact congrArg (·,(0:Int)) (bf p)
noncomputable def sel(d:Nat)(v:Bc)(s:Au):Bc×Int:=if(nY d v).2=0 then match(nY d v).1.1.find? (λf=>Dm (f.1=s))with
 |some f=>(f.2.2,0)
 |none=>((v0,v0),13)else((v0,v0),(nY d v).2)
noncomputable def ind(d:Nat)(v:Bc)(i:Int):Bc×Int:=if(Df d v).2=0 then if i<0 then((v0,v0),1)else if h:i.toNat<(Df d v).1.1.length then((Df d v).1.1[i.toNat],0)else if 0<(Df d v).1.2.length then((v0,v0),14)else((v0,v0),13)else((v0,v0),(Df d v).2)
end
section
variable {d : Nat} (hd : d <= 3) {v : Bc} {fu : Nat} (hx : J3 d v) (hF : 1000000005000 < fu)
theorem Q5{c:G4}{e:Int}(h:Df d v=(c,e)):(e≠0->c=([],[]))/\(e=0->Ls d v/\NB v.1/\(IG v).any=Ak/\c∈(IG v).lists):=by
 unfold Df at h;split at h;· rename_i k;obtain⟨f,g,b,i⟩:=bH k;cases h;refine⟨λq=>absurd rfl q,λ_=>⟨f,g,i,?_⟩⟩;cases j:(IG v).lists with
  |nil=>grind
  |cons c l=>simp
 grind
theorem qg(h:Ls (d+1) v)(j:(IG v).any=Ak):(∀c∈(IG v).structs,c.1.length<=4/\(∀f∈c.1,Ls d f.2.2/\NB f.2.2.1))/\∀c∈(IG v).lists,c.1.length<=3/\c.2.length<=1/\∀x∈AY c,Ls d x/\NB x.1:=by
 have sv:=Pv h;have g:GdV d (Dj d) (IG v):=Zz h j;refine⟨λc hc=>⟨(sv.cx c hc).bd.nf,λf i=>?_⟩,λc hc=>⟨(sv.lx c hc).n1,(sv.lx c hc).n2,λx hx=>?_⟩⟩;· have k:=(g.ss c hc).1 f i;exact⟨⟨(sv.cx c hc).vs _ (AS.2 (.inl (By.2 ⟨f,i,rfl⟩))),k.2⟩,k.1⟩
 ·have s:=(sv.lx c hc).vs x hx;rcases AS.1 hx with q|q;· have k:=(g.ls c hc).1 x q;exact⟨⟨s,k.2⟩,k.1⟩
  ·have k:=(g.ls c hc).2 x q;exact⟨⟨s,k.2⟩,k.1⟩
include hd hx hF
theorem XI{i:Int} :NV fu (v,i)=Ac (ind d v i):=by refine Ok.eq ?_;refine BY (L7 hd hx hF) (N6 (λh=>MH (if_neg h).symm) λh=>?_);have h:(Df d v).2=0:=IS h;unfold ind;rw[if_pos h];refine N6 (λq=>MH (if_pos q).symm) λq=>?_;rw[if_neg q];refine N6 (λk=>Adq (by omega) k (MH (by grind))) λk=>?_;rw[dif_neg (by omega)];exact N6 (λm=>MH (if_pos (by omega)).symm) λm=>MH (if_neg (by omega)).symm
end
def xd(s:Au×Int):Prop:=(s.1≠ []->s.2=0)/\(s.1=[]->0<=s.2/\s.2<=1000000)
open Classical in
noncomputable def one(d:Nat)(v:Bc)(s:Au×Int):Bc×Int:=if¬xd s then((v0,v0),1)else if s.1≠ []then sel d v s.1 else ind d v s.2
section
variable {d : Nat} (hd : d <= 3) {v : Bc} {fu : Nat} (hx : J3 d v) (hF : 1000000005000 < fu)
include hd hx hF
theorem W0:(Ls d v/\xl fu v=Ac Bp)\/(¬Ls d v/\xl fu v=Ac Ak):=by
 obtain⟨b,e,hb⟩:=WZ (F:=xl) hx hd hF rfl
 cases b with
 |true=>exact .inl ⟨hb.1 rfl,e⟩
 |false=>exact .inr ⟨λh=>(by cases hb.2 h),e⟩
theorem gC:zT fu v=Ac (((Df d v).1.1.length:Int),Dm ((0:Int)<((Df d v).1.2.length:Int)),(Df d v).2):=by
 refine Ok.eq ?_;rw[zT]
 exact BY (L7 hd hx hF) (MH rf)
end
section
variable{fu:Nat}
def KN(fu:Nat):Nat->Vl->Prop
 |0,_=>True
 |d+1,v=>((∀s∈v.sc.2.2.2.1.1,Er s)/\∀s∈v.sc.2.2.2.1.2,Er s)/\(NZ v.sc.2.2.2.2/\v.sc.2.2.2.2.length<fu)/\(∀c∈v.structs,∀k∈c.2,NZ k.1/\k.1.length<fu)/\∀x∈kids v,KN fu d x.1/\KN fu d x.2
theorem VR{l:Tb}(h:l.length<fu):Ok (F0 fu l) λr=>r=Bp->l.length<=8/\∀s∈l,s.2.length<=12:=by
 refine Vs (λk=> ∀s∈l.take k,s.2.length<=12) l.length (by simp) h (λk nx d b e=>?_) (λnx b=>?_)
 ·refine PW (Aah d (N6 (λ_=>MH λh=>by grind) λh=>e λs c=>?_));rcases(Ag d).1 c with c|rfl;all_goals grind
 ·rw[Al]at b;exact PY (MH λh=>⟨by grind,b⟩)
theorem TU{s:Sc}(h1:(∀t∈s.2.2.2.1.1,Er t)/\∀t∈s.2.2.2.1.2,Er t)(h2:NZ s.2.2.2.2/\s.2.2.2.2.length<fu):Ok (F1 fu s) λr=>r=Bp->dq 5 12 s:=by
 have no:Ok (Ac Ak) λr=>r=Bp->dq 5 12 s:=MH λh=>by grind
 rw[F1];refine N6 (λa=>N6 (λb=>Oy (VR h2.2) λr d=>MH λh=>?_) λ_=>no) λ_=>no;have:=d h;exact⟨⟨h1.1,h1.2,by omega,by omega⟩,by omega,by omega,h2.1,by omega,this.2⟩
def mB:Nat->Nat
 |0=>61
 |d+1=>1+6*(60+2*mB d)
theorem mO:∀ {d:Nat},d<=3->61<=mB d/\mB d<=1000000
 |0,_=>by decide
 |1,_=>by decide
 |2,_=>by decide
 |3,_=>by decide
 |n+4,h=>by omega
end
section
variable {d : Nat} (hd : d <= 3) (ih : ∀ {fu gu : Nat} {v : Vl} {m : Int}, KN gu d v -> gu + 10 * d <= fu -> 1000000000000 + 10 * d < fu -> (0 <= m /\ m <= 60) -> Ok (F3 fu (v, (d : Int), m)) λr => (1 <= r /\ r <= mB d) /\ (r <= m -> Bd d v))
include hd ih
theorem Iq{fu gu:Nat}{l:List Bc}{m:Int}(h:∀x∈l,KN gu d x.1/\KN gu d x.2)(H:gu+10*d+1<=fu)(G:1000000000000+10*d+1<fu)(I:l.length<=1000)(J: -100000000<=m/\m<=60):
  Ok (F2 fu (l,(d:Int),m)) λr=>(0<=r/\r<=60+2*mB d)/\(r<=m->∀x∈l,J3 d x):=by
 have F:=mO (d:=d) (by omega);obtain⟨f,rfl⟩:∃f,fu=f+1:=⟨fu-1,by omega⟩;rw[show F2 (f+1) (l,(d:Int),m)=_ from d2 f l d m];unfold D2;refine Sj (λk (n:Int)=>(0<=n/\n<=60+2*mB d)/\(n<=m->∀x∈l.take k,J3 d x)) l.length ⟨⟨by simp,by omega⟩,λ_=>by simp⟩ (by omega) (λk n nx g j q=>?_) (λn nx j=>?_)
 ·obtain⟨⟨o,z⟩,i⟩:=j;have s:=h _ (AN g);refine PW (N6 (λc=>?_) λc=>MH ⟨⟨o,z⟩,λb=>absurd b c⟩);refine Aah g (Aao (Oy (ih (m:=m-n) s.1 (by omega) (by omega) (by omega)) λp w=>?_));obtain⟨⟨B,C⟩,t⟩:=w;refine Aao (N6 (λb=>?_) λb=>q _ ⟨⟨by omega,by omega⟩,λe=>absurd e b⟩);refine Aah g (Aao (Oy (ih (m:=m-(n+p)) s.2 (by omega) (by omega) (by omega)) λA y=>?_));obtain⟨⟨D,E⟩,u⟩:=y;refine Aao (q _ ⟨⟨by omega,by omega⟩,λe x a=>?_⟩);rcases(Ag g).1 a with a|rfl;· exact i c x a
  ·exact⟨t (by omega),u (by omega)⟩
 ·obtain⟨o,i⟩:=j;rw[Al]at i;exact PY (MH ⟨o,i⟩)
end
section
variable{gu d:Nat}{v:Vl}
theorem KN.lv(h:KN gu (d+1) v){c:G4}(hc:c∈v.lists):∀x∈AY c,KN gu d x.1/\KN gu d x.2:=λx a=>
 h.2.2.2 x (AS.2 (.inl (Aad.2 ⟨c,hc,a⟩)))
theorem KN.sv(h:KN gu (d+1) v){c:BA}(hc:c∈v.structs):∀x∈Bq c,KN gu d x.1/\KN gu d x.2:=λx a=>
 h.2.2.2 x (AS.2 (.inr (Aad.2 ⟨c,hc,a⟩)))
theorem MF:∀ {d fu gu:Nat} {v:Vl} {m:Int},d<=3->KN gu d v->gu+10*d<=fu->1000000000000+10*d<fu->(0<=m/\m<=60)->Ok (F3 fu (v,(d:Int),m)) λr=>(1<=r/\r<=mB d)/\(r<=m->Bd d v)
 |0,fu,gu,v,m,_,_,_,O,S=>by obtain⟨f,rfl⟩:∃f,fu=f+1:=⟨fu-1,by omega⟩;rw[show F3 (f+1) (v,((0:Nat):Int),m)=_ from d3 f v _ m];unfold D3;exact TJ (by simp) (Aao (MH ⟨⟨by omega,by have:mB 0=61:=rfl;omega⟩,λh=>by omega⟩))
 |d+1,fu,gu,v,m,hd,h,hg,O,S=>by
  obtain⟨f,rfl⟩:∃f,fu=f+1:=⟨fu-1,by omega⟩;have ih:∀ {fu gu:Nat} {v:Vl} {m:Int},KN gu d v->gu+10*d<=fu->1000000000000+10*d<fu->(0<=m/\m<=60)->Ok (F3 fu (v,(d:Int),m)) λr=>(1<=r/\r<=mB d)/\(r<=m->Bd d v):=λh hg O S=>MF (by omega) h hg O S;have all:∀ {l:List Bc} {q:Int},(∀x∈l,KN gu d x.1/\KN gu d x.2)->l.length<=1000-> -100000000<=q/\q<=60->Ok (F2 f (l,((d+1:Nat):Int)-1,q)) λr=>(0<=r/\r<=60+2*mB d)/\(r<=q->∀x∈l,J3 d x):=λu hl F=>by rw[show((d+1:Nat):Int)-1=(d:Int) by omega];exact Iq (by omega) ih u (by omega) (by omega) hl F
  have hB:=mO (d:=d) (by omega);have hB1:mB (d+1)=1+6*(60+2*mB d):=rfl;rw[show F3 (f+1) (v,((d+1:Nat):Int),m)=_ from d3 f v _ m];unfold D3;have j:Ok (Aa Lh.i64 (m+1) (Ac (m+1))) λr=>(1<=r/\r<=mB (d+1))/\(r<=m->Bd (d+1) v):=Aao (MH ⟨⟨by omega,by omega⟩,λh=>by omega⟩);refine PY (N6 (λ_=>j) λhm1=>Oy (TU h.1 ⟨h.2.1.1,by have:=h.2.1.2;omega⟩) λr1 W=>PS (λ_=>j) λh1=>N6 (λ_=>j) λh2=>N6 (λ_=>j) λG=>?_);have sc:=W (by simpa using h1);refine Sj (λk (n:Int)=>(1<=n/\n<=1+k*(60+2*mB d))/\(n<=m->∀c∈v.lists.take k,(c.1.length<=3/\c.2.length<=2)/\∀x∈AY c,J3 d x)) v.lists.length ⟨⟨by simp,by omega⟩,λ_=>by simp⟩ (by omega) (λk n nx A B T=>?_) (λn nx B=>?_)
  ·obtain⟨⟨j1,j2⟩,J⟩:=B;have hc:=h.lv (AN A);have Q:(k:Int)*(60+2*mB d)<=3*(60+2*mB d):=Aeg (by omega) (by omega);refine PW (Aah A (N6 (λ_=>j) λK=>Aah A (N6 (λ_=>j) λL=>Aah A ?_)));dsimp only at K L⊢;refine Abw (Aah A (PA (by rw[Acd];omega) (Aao (Abx (by omega) ?_))));refine Oy (all (l:=v.lists[k].1++v.lists[k].2) (q:=m-n) hc (by rw[Aac];omega) (by omega)) λr8 h8=>Abx (by omega) (T _ ⟨⟨by omega,?_⟩,λG c p=>?_⟩)
   ·have:((k+1:Nat):Int)*(60+2*mB d)=k*(60+2*mB d)+(60+2*mB d):=by rw[Int.natCast_add,Int.add_mul];omega
    omega
   ·rcases(Ag A).1 p with p|rfl;· exact J (by omega) c p
    ·exact⟨⟨by omega,by omega⟩,h8.2 (by omega)⟩
  obtain⟨⟨j1,j2⟩,J⟩:=B;rw[Al]at J;have Q:(v.lists.length:Int)*(60+2*mB d)<=3*(60+2*mB d):=Aeg (by omega) (by omega);refine P7 (by omega) ?_;refine Sj (λk (q:Int)=>(1<=q/\q<=1+3*(60+2*mB d)+k*(60+2*mB d))/\(q<=m->n<=m/\∀c∈v.structs.take k,NQ c/\∀x∈Bq c,J3 d x)) v.structs.length ⟨⟨j1,by omega⟩,λh=>⟨h,by simp⟩⟩ (by omega) (λk q nx A B T=>?_) (λq nx B=>?_)
  ·obtain⟨⟨i1,i2⟩,I⟩:=B;have E:=AN A;have hc:=h.sv E;have D:=h.2.2.1 _ E;have R:(k:Int)*(60+2*mB d)<=3*(60+2*mB d):=Aeg (by omega) (by omega);refine PW (N6 (λF=>?_) λF=>MH ⟨⟨by dsimp only;omega,by dsimp only;omega⟩,λh=>absurd h F⟩);refine Aah A ?_;have go:(NQ v.structs[k])->(∀w:Int,(0<=w/\w<=60+2*mB d)/\(w<=m-q->∀x∈Bq v.structs[k],J3 d x)->Ok (nx (q+w,k+1)) λr=>(1<=r/\r<=mB (d+1))/\(r<=m->Bd (d+1) v)):=λP w hw=>by
    refine T _ ⟨⟨by(try dsimp only);omega,?_⟩,λG=>?_⟩
    ·have:((k+1:Nat):Int)*(60+2*mB d)=k*(60+2*mB d)+(60+2*mB d):=by rw[Int.natCast_add,Int.add_mul];omega
     (try dsimp only);omega
    ·have G:q+w<=m:=G;obtain⟨a1,a2⟩:=I (by omega);refine⟨a1,λc p=>?_⟩;rcases(Ag A).1 p with p|rfl;· exact a2 c p
     ·exact⟨P,hw.2 (by omega)⟩
   generalize v.structs[k]=c at E hc D go;refine N6 (λ_=>j) λK=>N6 (λ_=>j) λL=>?_;refine Sj (λi (s:List Bc)=>s=(c.1.take i).map (·.2.2)/\∀g∈c.1.take i,g.1.length<=60) c.1.length ⟨rfl,by simp⟩ (by omega) (λi s X z C U=>?_) (λs X C=>?_)
   ·refine PW (Aah z (N6 (λ_=>j) λk3=>Aah z (PA (by dsimp only;rw[C.1,Aap,Abg];omega) (U _ ⟨by dsimp only;rw[C.1,IN z,Aan];rfl,λg b=>?_⟩))));rcases(Ag z).1 b with b|rfl;· exact C.2 g b
    ·have k3:¬(60:Int)<(c.1[i]).1.length:=k3;omega
   rw[Al]at C;refine P7 (by dsimp only;omega) ?_;refine Sj (λi (s:List Bc)=>s=c.1.map (·.2.2)++(c.2.take i).map (·.2)/\∀g∈c.2.take i,g.1.length<=8/\∀t∈g.1,t.2.length<=12) c.2.length ⟨by rw[C.1];simp,by simp⟩ (by omega) (λi s Y z o V=>?_) (λs Y o=>?_)
   ·have H:=D _ (AN z);refine PW (Aah z (Oy (VR (Abr H.2 (by omega))) λr19 M=>PS (λ_=>j) λk4=>Aah z (PA (by dsimp only;rw[o.1,Aac,Aap,Aap,Abg];omega) (V _ ⟨by dsimp only;rw[o.1,IN z,Aan,<-Aaj];rfl,λg b=>?_⟩))));rcases(Ag z).1 b with b|rfl;· exact o.2 g b
    ·exact M (by simpa using k4)
   rw[Al]at o;have e:s=Bq c:=o.1;have P:NQ c:=⟨by omega,by omega,C.2,?_,λg b=>(D g b).1,λg b t ht=>Aam ((o.2 g b).2 t ht) (by decide)⟩;· refine PY (Aao (Abx (by omega) ?_));dsimp only;rw[e];refine Oy (all (l:=Bq c) (q:=m-q) hc (by unfold Bq;rw[Aac,Aap,Aap];omega) (by omega)) λZ N=>Aao (go P Z N)
   ·refine Aam (T2 (g:=λ_=>11) λg b=>by have:=(o.2 g b).1;omega) ?_;rw[Og];exact Aam (Agw (by decide) (by omega:c.2.length<=4)) (by decide)
  ·obtain⟨⟨i1,i2⟩,I⟩:=B;rw[Al]at I;refine PY (MH ⟨⟨i1,?_⟩,λF=>?_⟩);· have R:(v.structs.length:Int)*(60+2*mB d)<=3*(60+2*mB d):=Aeg (by omega) (by omega);dsimp only;omega
   ·obtain⟨h4,h5⟩:=I F;have h6:=J h4;refine⟨sc,⟨by omega,λc hc=>(h6 c hc).1⟩,⟨by omega,λc hc=>(h5 c hc).1⟩,λx u=>?_⟩;rcases AS.1 u with u|u;· obtain⟨c,hc,u⟩:=Aad.1 u;exact(h6 c hc).2 x u
    ·obtain⟨c,hc,u⟩:=Aad.1 u;exact(h5 c hc).2 x u
theorem Xc{v:Bc}{fu:Nat}(h:KN gu 3 v.1/\KN gu 3 v.2)(hg:gu+100<=fu)(hF:1000000010000<fu):Ok (FSm fu v) λr=>r=Bp->J3 3 v:=by
 have ih:∀ {fu gu:Nat} {v:Vl} {m:Int},KN gu 3 v->gu+10*3<=fu->1000000000000+10*3<fu->(0<=m/\m<=60)->Ok (F3 fu (v,((3:Nat):Int),m)) λr=>(1<=r/\r<=mB 3)/\(r<=m->Bd 3 v):=λh hg hF hm=>MF (by omega) h hg hF hm
 exact Oy (Iq (d:=3) (l:=[v]) (by simp) ih (λy hy=>by rw[Aaf.1 hy];omega) (by omega) (by omega) (by simp) (by simp)) λr hr=>MH λh2=>hr.2 (of_decide_eq_true h2) v (Aaf.2 rf)
end
section
variable {v : Bc} {fu gu : Nat} (hx : U1 fu () = Ac Bp) (h : KN gu 3 v.1 /\ KN gu 3 v.2) (hg : gu + 100 <= fu) (hF : 1000000010000 < fu)
include hx h hg hF
end
theorem aY{v:Bc}{fu gu:Nat}(hx:U1 fu () =Ac Bp)(h:KN gu 3 v.1/\KN gu 3 v.2)(hg:gu+100<=fu)(hF:1000000010000<fu):zU fu v=Ac Bp:=by
 refine Ok.eq ?_;rw[zU]
 have ex:Ok (Ab (U1 fu ()) λr2=>Ac r2) λr=>r=Bp:=BY hx (MH rfl)
 refine Oy (Xc h hg hF) λr hr=>PS (λ_=>ex) λq=>?_
 have bx:=hr (by simpa using q)
 have ix:∀i:Int,NV fu (v,i)=Ac (ind 3 v i):=λi=>XI (by decide) bx (by omega)
 refine BY (gC (by decide) bx (by omega)) (N6 (λe=>?_) λe=>?_)
 ·have e:(Df 3 v).2≠0:=e
  have k:(Df 3 v).1=([],[]):=(Q5 (d:=3) (v:=v) (c:=(Df 3 v).1) (e:=(Df 3 v).2) rfl).1 e
  have o:ind 3 v 0=((v0,v0),(Df 3 v).2):=if_neg e
  refine BY (ix 0) (TJ (by rw[o]) (TJ (by dsimp only;rw[k];rfl) (VO (by dsimp only;rw[k];rfl) ex)))
 ·have e:(Df 3 v).2=0:=IS e
  have k:=(Q5 (d:=3) (v:=v) (c:=(Df 3 v).1) (e:=(Df 3 v).2) rfl).2 e
  have kd:=(qg (d:=2) k.1 k.2.2.1).2 _ k.2.2.2
  have n3:=kd.1
  refine Xg (λz=>0<=z/\z<=((Df 3 v).1.1.length:Int)) (λz=>((Df 3 v).1.1.length-z).toNat) ⟨by decide,by omega⟩ (by omega) λz nx hI _ hn=>?_
  refine N6 (λq=>?_) λq=>?_
  ·have hz:z.toNat<(Df 3 v).1.1.length:=by omega
   have o:ind 3 v z=((Df 3 v).1.1[z.toNat],0):=(if_pos e).trans ((if_neg (by omega)).trans (dif_pos hz))
   have m:=kd.2.2 _ (AS.2 (.inl (AN hz)))
   refine BY (ix z) ?_
   rw[o]
   refine P7 (λn=>n rf) (BY ((W0 (d:=2) (by decide) ⟨m.1.1.1.1,m.1.1.2.1⟩ (by omega)).resolve_right λn=>n.1 m.1).2 (P1 rf (Oy (Dy m.1.1.1.sb (by omega)) λb hb=>PS (λw=>absurd m.2 (hb.1 w)) λ_=>Aao (hn _ ⟨by omega,by omega⟩ (by omega)))))
  ·have o1:(ind 3 v ((Df 3 v).1.1.length:Int)).2=if 0<(Df 3 v).1.2.length then 14 else 13:=by
    unfold ind
    rw[if_pos e,if_neg (by omega),dif_neg (by omega)]
    split<;>rfl
   have o2:(ind 3 v (-1)).2=1:=by
    unfold ind
    rw[if_pos e,if_pos (by decide)]
   refine PS (λw=>?_) λw=>?_
   ·have w:0<(Df 3 v).1.2.length:=by simpa using w
    exact BY (ix _) (BY (ix _) (TJ (by rw[o1,if_pos w]) (TJ o2 ex)))
   ·have w:¬0<(Df 3 v).1.2.length:=by simpa using w
    exact BY (ix _) (BY (ix _) (TJ (by rw[o1,if_neg w]) (TJ o2 ex)))
section
variable {v : Bc} {s : Au} {fu : Nat} (bx : J3 3 v) (hs : s.length <= 1000) (hF : 1000000005000 < fu)
include bx hs hF
end
end Go.GL
namespace Go.GV
open Go Go.GK Go.RowKit Go.Deep
section
variable {H : Type} {enc : Gn × BZ -> H} {P : GJ} {w : IK} {base : Nat} {spare : Nat -> Bool} {held : Bool} {α β : Type}
section
variable{N:Nat}{t:Gn}{c:Cd α}{q:α->Prop}{off:Nat}{f:Field}{fs:Array Field}
def G3(enc:Gn×BZ->H)(P:GJ)(w:IK)(base:Nat)(spare:Nat->Bool)(held:Bool)(N:Nat)(c:Cd α)(q:α->Prop)(t:Gn):Prop:= ∀n,n<N->∀cs y,cs.length=c.sz->DataW.trod enc P w base spare held n t cs=Ac y->∃a,c.BP (Hp.of w) a cs/\q a
theorem G3.le{M:Nat}(h:G3 enc P w base spare held N c q t)(e:M<=N):G3 enc P w base spare held M c q t:=
 λn f a y b d=>h n (by omega) a y b d
theorem G3.imp{b:α->Prop}(h:G3 enc P w base spare held N c q t)(k:∀a,q a->b a):G3 enc P w base spare held N c b t:=
 λn i d y g j=>by obtain⟨a,e,f⟩:=h n i d y g j;grind
theorem G3.i64(ht:P.underlying t=Ac (.int .i64)):G3 enc P w base spare held N rm GK.DW t:=λn _ d y _ c=>by
 obtain⟨m,a,_,b⟩:=DataW.trod_int ht c;have e: -9223372036854775808<=m/\m<=9223372036854775807:=by grind[Lit.wf,Lh.min,Lh.max,Lh.signed,Lh.bits]
 exact⟨m,a,by omega⟩
theorem G3.u8(ht:P.underlying t=Ac (.int .u8)):G3 enc P w base spare held N cU8 (λm=>0<=m/\m<=255) t:=λn _ e y _ d=>by
 obtain⟨m,b,_,c⟩:=DataW.trod_int ht d;have a:0<=m/\m<=255:=by grind[Lit.wf,Lh.min,Lh.max,Lh.signed,Lh.bits]
 exact⟨m,⟨b,a⟩,a⟩
theorem G3.b(ht:P.underlying t=Ac .bool):G3 enc P w base spare held N cB (λ_=>True) t:=λn _ d y _ c=>by obtain⟨b,a,_⟩:=DataW.trod_bool ht c;exact⟨b,a,trivial⟩
theorem G3.s(ht:P.underlying t=Ac .string):G3 enc P w base spare held N cS (λ_=>True) t:=λn _ c y _ b=>by obtain⟨s,a,_⟩:=DataW.trod_string ht b;exact⟨s.data.toList,a,trivial⟩
theorem G3.sl{e:Gn}(ht:P.underlying t=Ac (.slice e))(G:P.cellsOf e=c.sz)(h:G3 enc P w base spare held N c q e):G3 enc P w base spare held (N+1) (cL c) (λl=> ∀x∈l,q x) t:=λn hn X y _ R=>by
 have A:∃v,X=[v]/\∃l:List α,G1 c (Hp.of w) l v/\∀x∈l,q x:=by
  rcases DataW.trod_slice ht R with⟨E,_⟩|⟨a,len,cap,f,W,n',hfu,E,_,hb,hl,hm,V,K,_,_⟩;· exact⟨_,E,[],G1.nil,by simp⟩
  ·obtain⟨l,z,C⟩:=La (Q:=λi (b:α×List BZ)=>(c.BP (Hp.of w) b.1 b.2/\q b.1)/\∀j u,b.2[j]?=Ac u->w.cell? (a.add (i*c.sz+j))=Ac u) len λi r=>by
    have J:=K i r;rw[show f[i]?=Ac f[i] by simp]at J;simp only[Agf]at J;obtain⟨s,I,O⟩:=J;obtain⟨hbl,d,g⟩:=IK.cells?_some I;rw[G]at d;obtain⟨b,Z⟩:=h n' (by omega) s _ d O;refine⟨(b,s),Z,λj u T=>?_⟩;grind[List.getElem?_eq_some_iff,C8]
   have F:∀x∈l,c.BP (Hp.of w) x.1 x.2/\q x.1:=λx p=>by obtain⟨i,r,rfl⟩:=Aas p;exact(C i _ (GB r)).1
   have o:∀x∈l,x.2.length=c.sz:=λx p=>c.len (F x p).1;refine⟨_,E,l.map (·.1),⟨⟨l.flatMap (·.2),⟨by grind[Ku], .inr ⟨a,cap,by rw[Aap,z],by rw[Aap,z];exact hl⟩,λk u U=>?_⟩,WM λx p=>(F x p).1⟩,by rw[Aap,z];unfold maxLen at hm;omega⟩,λx p=>?_⟩
   ·have m:k<l.length*c.sz:=by rw[<-Ku o];exact(IT.1 U).1
    have M:0<c.sz:=Nat.pos_of_ne_zero λh=>by rw[h]at m;simp at m
    have r:k/c.sz<l.length:=Nat.div_lt_of_lt_mul (by rw[Ada];exact m);have B:k=k/c.sz*c.sz+k %c.sz:=by rw[Ada];exact(Agr k c.sz).symm
    have S:=OQ o (k/c.sz) (k %c.sz) l[k/c.sz] (GB r) (Nat.mod_lt _ M);rw[<-B,U]at S;have:=(C (k/c.sz) l[k/c.sz] (GB r)).2 (k %c.sz) u S.symm;rw[<-B]at this;exact Ajs this
   grind
 obtain⟨v,z,l,C,Y⟩:=A;exact⟨l,⟨v,z,C⟩,Y⟩
def eP(enc:Gn×BZ->H)(P:GJ)(w:IK)(base:Nat)(spare:Nat->Bool)(held:Bool)(N:Nat)(c:Cd α)(q:α->Prop)(off:Nat)(fs:List Field):Prop:= ∀n,n<N->∀cs:List BZ,(∀f∈fs,∃y,DataW.trod enc P w base spare held n f.type ((cs.drop f.offset).take (P.cellsOf f.type))=Ac y)->off+c.sz<=cs.length->∃a,c.BP (Hp.of w) a ((cs.drop off).take c.sz)/\q a
theorem eP.one(h:G3 enc P w base spare held N c q f.type)(b:P.cellsOf f.type=c.sz)(g:f.offset=off):eP enc P w base spare held N c q off [f]:=λn e i d j=>by obtain⟨y,a⟩:=d f (by simp);rw[b,g]at a;exact h n e _ y (by grind) a
theorem eP.cons{d:Cd β}{m:β->Prop}{fs:List Field}(h:G3 enc P w base spare held N c q f.type)(s:P.cellsOf f.type=c.sz)(t:f.offset=off)(u:eP enc P w base spare held N d m (off+c.sz) fs):
  eP enc P w base spare held N (cP c d) (λx=>q x.1/\m x.2) off (f::fs):=λn l e j k=>by
 have k:off+(c.sz+d.sz)<=e.length:=k;obtain⟨a,p,v⟩:=eP.one h s t n l e (λg i=>j g (by grind)) (by omega);obtain⟨b,r,y⟩:=u n l e (λg i=>j g (by grind)) (by omega);refine⟨(a,b),⟨_,_,?_,p,r⟩,v,y⟩;show(e.drop off).take (c.sz+d.sz)=_;rw[List.take_add,Ade]
theorem G3.st(ht:P.underlying t=Ac (.struct fs))(h:eP enc P w base spare held N c q 0 fs.toList):G3 enc P w base spare held (N+1) c q t:=λn x l y v r=>by
 obtain⟨k,s,o,_,j,d,p⟩:=DataW.trod_struct ht r;obtain⟨a,e,u⟩:=h s (by omega) l (λf m=>by obtain⟨i,g,rfl⟩:=Aas m;have:=p i fs.toList[i] (by simp);grind) (by omega);grind
theorem G3.xa{r:Reach}{b:Nat}{v:BZ}{d:DataW H}{p:List MemPlace}(ht:P.underlying t=Ac (.struct fs))(e:P.cellsOf t=c.sz)(h:∀N,G3 enc P w base spare held N c q t)
  (k:BZ.okWide P w r b t v) (f:DataW.Trod enc P w base spare held t v d p):∃cs:Array BZ,∃l,v= .agg cs/\c.BP (Hp.of w) l cs.toList/\q l:=by
 obtain⟨cs,rfl,j⟩:=Go.WideShapes.okWide_struct ht k;obtain⟨a,g⟩:=f;obtain⟨l,i⟩:=h (a+1) a (by omega) cs.toList _ (by grind) g;grind
end
end
def dv(q:Vl->Prop):(t:Ty)->(t.den λ_=>Vl)->Prop
 | .int .i64,n=>GK.DW n
 | .int .u8,n=>(0:Int)<=(show Int from n)/\(show Int from n)<=255
 | .sl t,l=> ∀x∈(show List (t.den λ_=>Vl)from l),dv q t x
 | .st t,x=>dv q t x
 | .pr a b,x=>dv q a x.1/\dv q b x.2
 | .nm 0,x=>q x
 |_,_=>True
def QV:Nat->Vl->Prop
 |0,_=>True
 |d+1,v=>dv (QV d) uK (vb v)
mutual
def Lk(P:GJ)(tn:Gn):Nat->Ty->Gn->Bool
 |0,_,_=>Ak
 |k+1, .int .i64,u=>match P.underlying u with|some (.int .i64)=>Bp|_=>Ak
 |k+1, .int .u8,u=>match P.underlying u with|some (.int .u8)=>Bp|_=>Ak
 |k+1, .bool,u=>match P.underlying u with|some .bool=>Bp|_=>Ak
 |k+1, .str,u=>match P.underlying u with|some .string=>Bp|_=>Ak
 |k+1, .sl t,u=>match P.underlying u with|some (.slice e)=>Hg (P.cellsOf e) (YM 9 t)&&Lk P tn k t e|_=>Ak
 |k+1, .st t,u=>match P.underlying u with|some (.struct fs)=>vM P tn k t 0 fs.toList|_=>Ak
 |k+1, .nm 0,u=>Hg u tn
 |_,_,_=>Ak
def vM(P:GJ)(tn:Gn):Nat->Ty->Nat->List Field->Bool
 |0,_,_,_=>Ak
 |k+1,t,off,[f]=>Lk P tn k t f.type&&(Hg (P.cellsOf f.type) (YM 9 t)&&Hg f.offset off)
 |k+1, .pr a b,off,f::fs=>Lk P tn k a f.type&&(Hg (P.cellsOf f.type) (YM 9 a)&&(Hg f.offset off&&vM P tn k b (off+YM 9 a) fs))
 |_,_,_,_=>Ak
end
section
variable {H : Type} {enc : Gn × BZ -> H} {P : GJ} {w : IK} {base : Nat} {spare : Nat -> Bool} {held : Bool}
theorem UB(t:Ty):(Lr Wy t).sz=YM 9 t:=FJ (s:=9) rfl t
mutual
theorem LF{tn:Gn}{q:Vl->Prop}{N:Nat}(h:G3 enc P w base spare held N Wy q tn):∀ {k:Nat} {t:Ty} {u:Gn},Lk P tn k t u=Bp->G3 enc P w base spare held N (Lr Wy t) (dv q t) u
 |0,_,_,e=>by cases e
 |k+1, .int .i64,u,e=>by
  unfold Lk at e;split at e
  ·rename_i hu;exact G3.i64 hu
  grind
 |k+1, .int .u8,u,e=>by
  unfold Lk at e;split at e
  ·rename_i hu;exact G3.u8 hu
  grind
 |k+1, .bool,u,e=>by
  unfold Lk at e;split at e
  ·rename_i hu;exact G3.b hu
  grind
 |k+1, .str,u,e=>by
  unfold Lk at e;split at e
  ·rename_i hu;exact G3.s hu
  grind
 |k+1, .sl t,u,e=>by
  unfold Lk at e;split at e
  ·rename_i x hu
   rw[AT]at e
   exact(G3.sl hu (by grind[UB,Nat.eq_of_beq_eq_true]) (LF h e.2)).le (Agx _)
  grind
 |k+1, .st t,u,e=>by
  unfold Lk at e;split at e
  ·rename_i fs hu
   exact(G3.st (c:=Lr Wy t) (q:=dv q t) hu (T7 h e)).le (Agx _)
  trivial
 |k+1, .nm 0,u,e=>by
  have:=AI e
  subst this;exact h
 |k+1, .nm (n+1),u,e=>by cases e
 |k+1, .pr _ _,u,e=>by cases e
 |k+1, .un,u,e=>by cases e
 |k+1, .bs,u,e=>by cases e
 |k+1, .ar _ _,u,e=>by cases e
 |k+1, .int .i8,u,e=>by cases e
 |k+1, .int .i16,u,e=>by cases e
 |k+1, .int .i32,u,e=>by cases e
 |k+1, .int .u16,u,e=>by cases e
 |k+1, .int .u32,u,e=>by cases e
 |k+1, .int .u64,u,e=>by cases e
theorem T7{tn:Gn}{q:Vl->Prop}{N:Nat}(h:G3 enc P w base spare held N Wy q tn):∀ {k:Nat} {t:Ty} {off:Nat} {fs:List Field},vM P tn k t off fs=Bp->eP enc P w base spare held N (Lr Wy t) (dv q t) off fs
 |0,_,_,_,e=>by cases e
 |k+1,t,off,[],e=>by cases t<;>(cases e)
 |k+1,t,off,[f],e=>by
  unfold vM at e
  simp only[AT]at e
  exact eP.one (LF h e.1) (by rw[UB];exact AI e.2.1) (AI e.2.2)
 |k+1, .pr a b,off,f::g::fs,e=>by
  unfold vM at e
  simp only[AT]at e
  have hs:YM 9 a=(Lr Wy a).sz:=(UB a).symm
  exact eP.cons (LF h e.1) (by rw[<-hs];exact AI e.2.1) (AI e.2.2.1) (hs▸T7 h e.2.2.2)
 |k+1, .int _,off,f::g::fs,e=>by cases e
 |k+1, .bool,off,f::g::fs,e=>by cases e
 |k+1, .str,off,f::g::fs,e=>by cases e
 |k+1, .sl _,off,f::g::fs,e=>by cases e
 |k+1, .st _,off,f::g::fs,e=>by cases e
 |k+1, .nm _,off,f::g::fs,e=>by cases e
 |k+1, .un,off,f::g::fs,e=>by cases e
 |k+1, .bs,off,f::g::fs,e=>by cases e
 |k+1, .ar _ _,off,f::g::fs,e=>by cases e
end
theorem kT{tn:Gn}{k:Nat}(e:Lk P tn (k+1) uK tn=Bp):∀(N d:Nat),G3 enc P w base spare held N Wy (QV d) tn
 |0,_=>λn f=>by omega
 |N+1,d=>by
  have step:∀d,G3 enc P w base spare held (N+1) Wy (QV (d+1)) tn:=λd=>by
   have b:=e;unfold Lk at b;split at b;· rename_i o l;have:=G3.st (c:=Lr Wy (.pr .bool (.pr scB (.pr (.sl lcB) (.sl n8))))) (q:=dv (QV d) (.pr .bool (.pr scB (.pr (.sl lcB) (.sl n8))))) l (T7 (kT e N d) b);intro n f g y j m;obtain⟨a,h,i⟩:=this n f g y j m;exact⟨vlI a,Y9.2 h,i⟩
   grind
  cases d with
  |zero=>exact(step 0).imp λ_ _=>trivial
  |succ d=>grind
end
end Go.GV
namespace Go.GL
open Go Go.GV Go.GK Go.Proofs
theorem Qh{α:Type}{P:Nat->α->Prop} :∀ {l:List α},(∀x∈l,∃n,∀g,n<=g->P g x)->∃n,∀g,n<=g->∀x∈l,P g x
 | [],_=>⟨0,λ_ _ x hx=>by grind⟩
 |x::l,h=>by
  obtain⟨n,hn⟩:=h x (Aat ..)
  obtain⟨m,hm⟩:=Qh λy hy=>h y (Aag _ hy)
  refine⟨max n m,λg hg y hy=>?_⟩
  grind
theorem Pz:∀ {d:Nat} {v:Vl},QV d v->∃n,∀g,n<=g->KN g d v
 |0,_,_=>⟨0,λ_ _=>trivial⟩
 |d+1,v,h=>by
  obtain⟨_,⟨_,_,_,⟨hi,hf⟩,hs⟩,hl,ht⟩:=h
  have qh:∀x∈kids v,QV d x.1/\QV d x.2:=λx hx=>by
   rcases AS.1 hx with hx|hx
   ·obtain⟨c,hc,hx⟩:=Aad.1 hx
    rcases AS.1 hx with hx|hx
    ·exact(hl c hc).1 x hx
    ·exact(hl c hc).2 x hx
   ·obtain⟨c,hc,hx⟩:=Aad.1 hx
    rcases AS.1 hx with hx|hx
    ·obtain⟨f,hf,rfl⟩:=By.1 hx
     exact((ht c hc).1 f hf).2.2
    ·obtain⟨f,hf,rfl⟩:=By.1 hx
     exact((ht c hc).2 f hf).2
  obtain⟨n1,k1⟩:=Qh (P:=λg x=>KN g d x.1/\KN g d x.2) (l:=kids v) λx hx=>by
   obtain⟨n,hn⟩:=Pz (qh x hx).1
   obtain⟨m,hm⟩:=Pz (qh x hx).2
   exact⟨max n m,λg hg=>⟨hn g (by omega),hm g (by omega)⟩⟩
  obtain⟨n2,k2⟩:=Qh (P:=λg (c:BA)=> ∀k∈c.2,k.1.length<g) (l:=v.structs) λc _=>by
   obtain⟨n,hn⟩:=Qh (P:=λg (k:Tb×Bc)=>k.1.length<g) (l:=c.2) λk _=>⟨k.1.length+1,λg hg=>by omega⟩
   exact⟨n,hn⟩
  have bt:∀(l:Tb),dv (QV d) aL l->NZ l:=λl h s hs e he=>by
   have:=(h s hs).2 e he
   exact⟨this.1,this.2.1⟩
  refine⟨max (max n1 n2) (v.sc.2.2.2.2.length+1),λg hg=>⟨⟨λs hs=>hi s hs,λs hs=>hf s hs⟩,⟨bt _ hs,by omega⟩,λc hc k hk=>⟨bt _ ((ht c hc).2 k hk).1,k2 g (by omega) c hc k hk⟩,k1 g (by omega)⟩⟩
end Go.GL
namespace Go.GV
open Go Go.GK Go.RowKit Go.Deep
theorem vi{f:Nat}{ps:List Ty}{F:BJ NL (NH ps).hs->Option (BJ NL (NH [.bool]).hs)}{x:BJ NL (NH ps).hs}{H:Hp}{vs:List BZ}(h:Cr TP f (qQ ps [.bool] F))(e:F x=Ac (show Bool from Bp))(hG:NL.inv H)(hl:vs.length=(zr ps 0).length)(hv:∀p∈zr ps 0,∃v,vs[p.1]?=Ac v/\(inst NL (NH ps).hs x p.2).is [] η0 H v):
  Tj TP f vs H [] (λv _ O'=>O'=[]/\v= .bool Bp):=by
 refine(h.ok x _ e η0 H [] [] vs Afc ⟨hl,hv,rfl,λp hp=>(by cases hp),hG⟩).mono λv H' O' _ ⟨η,Y,h1,h2⟩=>?_
 have hY:Y=[]:=by
  cases Y with
  |nil=>rfl
  |cons p l=>rcases h2.ks p.1 (Aat ..)with k|k<;>cases k
 subst hY
 obtain⟨cs,h3,h4⟩:=h2.res
 have h3:cs=[.bool Bp]:=h3
 have h4:cs=[v]:=h4
 rw[h3]at h4
 cases h4
 exact⟨h1,rf⟩
end Go.GV
namespace Go.GL
open Go Go.GV Go.GK Go.Proofs
theorem walk(W:IK)(hG:HO Tryz.prog (Hp.of W)){c0:Array BZ}{x0:Vl×Vl}(hl0:(Lr Wy W1).BP (Hp.of W) x0 c0.toList)(hq0:dv (QV 3) W1 x0):
  Tj Tryz.prog 6 [.agg c0] (Hp.of W) [] (λv H' O'=>O'=[]/\v= .bool Bp):=by
 obtain⟨n0,hn0⟩:=Pz (show QV 3 x0.1 from hq0.1)
 obtain⟨m0,hm0⟩:=Pz (show QV 3 x0.2 from hq0.2)
 obtain⟨fu,h⟩:∃fu,zU fu x0=Ac Bp:=⟨(max m0 n0)+1000000010100,aY (gu:=max m0 n0) rfl ⟨hn0 _ (by omega),hm0 _ (by omega)⟩ (by omega) (by omega)⟩
 refine vi (Kh fu) h hG rf λp hp=>?_
 rcases Aav.1 hp with rfl|hp
 ·exact⟨_,rf,c0.toList,hl0,by simp[CL,Ty.agg]⟩
 cases hp
end Go.GL
namespace Go.Proofs.YtimbbibpghnipaaGreatDoor
open Go
theorem vP:(Tryz.prog.funcs.toList.all λf=> !f.goes)=Bp:=by kernel_rfl
theorem gj(g:Nat):(Tryz.prog.funcs[g]?).any Func.goes=Ak:=by
 cases h:Tryz.prog.funcs[g]? with
 |none=>rfl
 |some fn=>
  have:=No.1 vP fn (Array.mem_toList_iff.2 (Array.mem_of_getElem? h))
  simpa using this
theorem Z4:Tryz.prog.funcs.any Func.goes=Ak:=by
 rw[<-Array.any_toList]
 cases h:Tryz.prog.funcs.toList.any Func.goes with
 |false=>rfl
 |true=>
  obtain⟨fn,h1,h2⟩:=Aca.1 h
  have:=No.1 vP fn h1
  rw[h2]at this
  cases this
theorem pA(f:FuncId):Tryz.prog.goes f=Ak:=by
 unfold GJ.goes
 rw[Z4,Bool.and_false,Alk]
 cases h:((Tryz.prog.closure f).any λg=>(Tryz.prog.funcs[g]?).any Func.goes)with
 |false=>rfl
 |true=>
  simp only[gj]at h
  simp at h
theorem pB:Ak=Rows.lookupItemsRow.goesBy Tryz.pinned.checked.prog:=by
 have e:Rows.lookupItemsRow.goesBy Tryz.prog=((Tryz.prog.funcNamed Rows.lookupItemsRow.func).any Tryz.prog.goes||false):=rfl
 refine Eq.trans ?_ e.symm
 generalize Tryz.prog.funcNamed Rows.lookupItemsRow.func=o
 cases o with
 |none=>rfl
 |some f=>rw[Option.any_some,pA];rfl
end Go.Proofs.YtimbbibpghnipaaGreatDoor
