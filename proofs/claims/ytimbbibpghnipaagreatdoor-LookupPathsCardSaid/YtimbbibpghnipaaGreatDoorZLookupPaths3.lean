/- Part 3 of the texts of this claim: what its theorem leans on. -/
import Derived.Test.YtimbbibpghnipaaGreatDoorZLookupPaths2
import Derived.RangeFuncLeaves
import Derived.RangeFuncRecord
import Derived.RangeFuncIn
import Derived.TacticsIn
import Derived.Scope
set_option linter.all false
open Option renaming some→Ac,none→C7
open Bool renaming false→Aj,true→Bp
open Go renaming Value→BZ,Operand→Dn,TypeId→Gs,Program→GQ,World→IW,execOp→Kt,Oper→K_,IntKind→Lr
open Decidable renaming decide→Di
open Nat renaming beq→Hj,eq_of_beq_eq_true→ba,blt→bg,ble→iT
open List renaming replicate→Uh,range→a_,getElem?_eq_getElem→lr,getElem?_append_left→qb,mem_of_getElem?→wj
open Go.Region renaming wanted→fy
open Go.Fence renaming wide→qA
open Go.Deferred renaming ofValue→rm
open Option renaming bind_eq_some_iff→xg
open Go.Code renaming rangeFunc→Alx
namespace Go.GV
open Go Go.GK
section
variable{T:Nat->Type}
def C6{T:Nat->Type}(CR:List (SR T)):SR T->SR T
 | .Cv j=>CR.getD j .gone
 |s=>s
def An{T:Nat->Type}(CR:List (SR T))(O:List (Nat×SR T))(k:Nat):Option (SR T):=match Ay O k with
 |some s=>Ac (C6 CR s)
 |none=>C7
def RW:SV T->Bool
 | .Ec _ _ _ _ _=>Aj
 |_=>Bp
def jc(a:List Nat)(L:List (Nat×SV T)):List (Nat×SV T):=match a with
 | []=>L
 |a=>L.map λp=>(p.1,match p.2 with
  | .Ec k i off t x=>match B_ a k with
   |true=> .no
   |false=> .Ec k i off t x
  |s=>s)
def RH(d:Option Nat)(s:SV T)(L:List (Nat×SV T)):List (Nat×SV T):=match d with
 |some d=>(d,s)::L
 |none=>L
def app(st:St T)(d:Option Nat)(s:Bx T)(nk:Nat):St T:=⟨RH d s.sv (jc (keys s.wr) st.L),s.wr++st.O,nk⟩
def NW(n:Nat)(d:Option Nat):Bool:=match d with
 |some d=>bg d n
 |none=>Bp
def C0(CR:List (SR T))(st:St T)(a:Nat):Bool:=(st.L.all λp=>p.2.AJ.all λk=>bg k a)&&(st.O.all λp=>(C6 CR p.2).AJ.all λk=>bg k a)
end
section
variable {N : C9}
structure Fm where
 O:List Ax
 ds:List Deferred
structure Sat(C:List (SV N.T))(CR:List (SR N.T))(n:Nat)(Of:Fm)(bs:List (Nat×BZ))(st:St N.T)(η:Nat->BZ)(H:Hp)(a:Act)(w:IW):Prop where
 inv:N.inv H
 defers:a.defers=Of.ds
 size:a.tmps.size=n
 Bo:∀t sv,Ay st.L t=Ac sv->sv.is C η H (a.tmps.getD t undef)
 base:∀p∈bs,η p.1=p.2
 own:∃Y:List (Nat×Ax),(keys Y).Nodup/\SH w H (Y.map (·.2)++Of.O)/\(∀k∈keys Y,k<st.nk)/\∀k sr,An CR st.O k=Ac sr->DU C η H Y k sr
structure WF(C:List (SV N.T))(CR:List (SR N.T))(bs:List (Nat×BZ))(st:St N.T):Prop where
 lo:∀p∈bs,p.1<st.nk
 ok:∀j,st.nk<=j->Ay st.O j=C7
 wf:∃τ,Ny (An CR st.O) (Cu C st.L) τ
 mC:∀k∈CV C,k<st.nk
 cP:∀s∈C,RW s=Bp
variable {C : List (SV N.T)} {CR : List (SR N.T)} {n : Nat} {Of : Fm} {bs : List (Nat × BZ)} {st : St N.T} {η : Nat -> BZ} {H : Hp} {a : Act} {w : IW}
section
variable{nk:Nat}{d:Option Nat}{T:Nat->Type}{s:Bx N.T}{P:GQ}{o:K_}{v:BZ}{goal:Prop}
theorem Sat.lk(h:Sat C CR n Of bs st η H a w)(t:Nat):(Cu C st.L t).is C η H (a.tmps.getD t undef):=by
 unfold Cu;split;· rename_i s b;exact EU (h.Bo t s b)
 trivial
theorem Sat.ev(h:Sat C CR n Of bs st η H a w)(x:Dn):(Aw (Cu C st.L) x).is C η H (a.eval x):=cc λt e=>h.lk t
theorem DD{α β:Type}(f:α->β)(l:List (Nat×α))(k:Nat):Ay (l.map λp=>(p.1,f p.2)) k=(Ay l k).map f:=by
 induction l with
 |nil=>rfl
 |cons p l b=>
  grind[Ay]
def dh(b:List Nat):SV T->SV T
 | .Ec k i off t x=>match B_ b k with
  |true=> .no
  |false=> .Ec k i off t x
 |s=>s
theorem QH(b:List Nat)(L:List (Nat×SV N.T))(t:Nat):Ay (jc b L) t=(Ay L t).map (dh b):=by
 unfold jc;split
 ·have:dh (T:=N.T) []=id:=by
   funext s;cases s<;>rfl
  grind
 ·rw[<-DD];rfl
theorem QI{b:List Nat}{s:SV N.T}(h:s.is C η H v):(dh b s).is C η H v:=by
 unfold dh;split
 ·split;all_goals trivial
 omega
theorem H5{d t:Nat}(e:d<a.tmps.size):(a.put (Ac d) v).tmps.getD t undef=match Hj d t with|true=>v|false=>a.tmps.getD t undef:=by
 simp only[Act.put];cases b:Hj d t with
 |true=>
  have:=AI b;simp_all
 |false=>
  simp_all[ne,Abf,Afo,Array.getElem?_setIfInBounds_ne]
theorem D1{k:Nat}{d:SR N.T}(h:An CR st.O k=Ac d){b:Nat}(c:C0 CR st b=Bp):∀j∈d.AJ,j<b:=by
 unfold An at h;split at h;· rename_i s g;unfold C0 at c;rw[AT]at c;have e:=IT.1 (IT.1 c.2 _ (A4 g));simp_all
 grind
theorem Hd(wr O:List (Nat×SR N.T))(b:∀p∈wr,C6 CR p.2=p.2)(k:Nat):An CR (wr++O) k=RT wr (An CR O) k:=by
 unfold An RT;rw[BT];cases h:Ay wr k with
 |none=>rfl
 |some s=>simp only;rw[b _ (A4 h)]
def Ot{T:Nat->Type} :SR T->Bool
 | .Cv _=>Aj
 |_=>Bp
theorem Jm{s:SR N.T}(h:Ot s=Bp):C6 CR s=s:=by cases s<;>first|rfl|cases h
def nD{T:Nat->Type}(CR:List (SR T))(st:St T)(p:Nat×SR T):Bool:=match p.2 with
 | .gone=>(An CR st.O p.1).isSome||iT st.nk p.1
 |_=>Bp
def w9(CR:List (SR T))(st:St T)(s:Bx T):Bool:=s.wr.all λp=>match p.2 with
 | .gone=>(An CR st.O p.1).isSome
 |_=>Bp
def R1:SV T->Bool
 | .Cv _=>Aj
 |_=>Bp
def Hb(CR:List (SR N.T))(n:Nat)(st:St N.T)(d:Option Nat)(s:Bx N.T)(nk:Nat):Bool:=(NW n d&&R1 s.sv)&&((s.wr.all λp=>Ot p.2&&nD CR st p)&&(match Hj st.nk nk with
 |true=>Bp
 |false=>C0 CR st st.nk))
structure KV(C:List (SV N.T))(CR:List (SR N.T))(n:Nat)(st:St N.T)(d:Option Nat)(s:Bx N.T)(nk:Nat)(P:GQ)(o:K_):Prop where
 b:Hb CR n st d s nk=Bp
 loc:Ap P C (Cu C st.L) (An CR st.O) o s
 le:st.nk<=nk
 new:∀j∈keys s.wr,An CR st.O j=C7->st.nk<=j/\j<nk
 wf:∀τ,Ny (An CR st.O) (Cu C st.L) τ->D9 τ (RT s.wr (An CR st.O)) s.sv
structure Pp(C:List (SV N.T))(CR:List (SR N.T))(n:Nat)(st:St N.T)(d:Option Nat)(s:Bx N.T)(nk:Nat):Prop where
 b:Hb CR n st d s nk=Bp
 le:st.nk<=nk
 new:∀j∈keys s.wr,An CR st.O j=C7->st.nk<=j/\j<nk
 wf:∀τ,Ny (An CR st.O) (Cu C st.L) τ->D9 τ (RT s.wr (An CR st.O)) s.sv
theorem KV.toW(b:KV C CR n st d s nk P o):Pp C CR n st d s nk:=⟨b.b,b.le,b.new,b.wf⟩
theorem WF.VG(m:WF C CR bs st)(f:Pp C CR n st d s nk):WF C CR bs (app st d s nk):=by
 have u:=f.b;unfold Hb at u;simp only[AT]at u;have z:∀p∈s.wr,C6 CR p.2=p.2:=λp A=>Jm (AT _ _▸IT.1 u.2.1 p A).1;refine⟨λp A=>Abq (m.lo p A) f.le,λj v=>?_,?_,λk b=>Abq (m.mC k b) f.le,m.cP⟩;· show Ay (s.wr++st.O) j=C7;have v:nk<=j:=v;have D:=m.ok j (Aan f.le v);rw[BT,D];cases h:Ay s.wr j with
  |none=>rfl
  |some x=>
   have:=(f.new j (Dp h) (by grind[An])).2;omega
 ·obtain⟨
      τ,q⟩:=m.wf;refine⟨τ,λt=>?_⟩;have K:An CR (app st d s nk).O=RT s.wr (An CR st.O):=funext λk=>Hd _ _ z k;rw[K];have r:D9 τ (RT s.wr (An CR st.O)) (Cu C (jc (keys s.wr) st.L) t):=by
   have o:=q t;unfold Cu at o⊢;rw[QH];cases M:Ay st.L t with
   |none=>trivial
   |some x=>
    rw[M]at o;simp only[Adp]at o⊢;have key:∀y:SV N.T,D9 τ (An CR st.O) y->(∀k i off t x,y= .Ec k i off t x->k∉keys s.wr)->D9 τ (RT s.wr (An CR st.O)) y:=by
     intro y F b;cases y with
     |Ec k i off t x=>
      intro g J l c;have b:=b k i off t x rfl;unfold RT at c;rw[Cz b]at c;exact F g J l c
     |_=>exact F
    unfold dh;split
    ·split;· trivial
     ·exact key _ o λQ _ _ _ _ e=>by cases e;grind[AR]
    ·rename_i P;refine key _ o λQ R G J S e=>?_;unfold res at e;split at e;· rename_i j;rw[Aae]at e;cases hc:C[j]? with
      |none=>rw[hc]at e;cases e
      |some I=>
       rw[hc]at e;have:=m.cP I (Aai hc);subst e;cases this
     grind
  unfold app RH;cases d with
  |none=>exact r
  |some d=>
   unfold Cu;simp only[Ay];cases L:Hj d t with
   |false=>exact r
   |true=>
    have hc:=u.1.2;have:res C s.sv=s.sv:=by cases B:s.sv<;>first|rfl|(rw[B]at hc;cases hc)
    simp only;rw[this];exact f.wf τ q
theorem WF.step(c:WF C CR bs st)(b:KV C CR n st d s nk P o):WF C CR bs (app st d s nk):=c.VG b.toW
theorem Sat.lB(h:Sat C CR n Of bs st η H a w)(hw:WF C CR bs st)(E:Pp C CR n st d s nk){K:BZ->IW->Fm->Hp->Prop}
  (run:∀Y:List (Nat×Ax),(keys Y).Nodup->SH w H (Y.map (·.2)++Of.O)->(∀k,(k∈s.rd\/k∈keys s.wr)->∀c,An CR st.O k=Ac c->DU C η H Y k c)->(∀k∈keys s.wr,An CR st.O k=C7->k∉keys Y)->
   (∀(v:BZ) (w':IW) (l:Hp) (η':Nat->BZ) (z:List (Nat×Ax)) (f:Fm),f.ds=Of.ds->H.le l->(∀k,(An CR st.O k=C7->k∉keys s.wr)->η' k=η k)->(∀k,k∉keys s.wr->Ay z k=Ay Y k)->
    (∀k c,Ay s.wr k=Ac c->DU C η' l z k c)->(keys z).Nodup->(∀k∈keys z,k∈keys Y\/k∈keys s.wr)->SH w' l (z.map (·.2)++f.O)->s.sv.is C η' l v->K v w' f l)->goal)
  (hK:∀η' l v w' f,H.le l->Sat C CR n f bs (app st d s nk) η' l (a.put d v) w'->K v w' f l):goal:=by
 obtain⟨Y,hn,hsh,M,A⟩:=h.own;have G:=E.b;unfold Hb at G;simp only[AT]at G;have hnc:∀p∈s.wr,C6 CR p.2=p.2:=λp S=>Jm (AT _ _▸IT.1 G.2.1 p S).1;have r:∀k,An CR st.O k=C7->k∈keys s.wr->k∉keys Y:=λk b q V=>by have m:=(E.new k q b).1;grind
 refine run Y hn hsh (λk _ c u=>A k c u) (λk q b=>r k b q) λv w' l η' z f X o F V hwr hn' W P hsv=>?_;have y:∀k,k<st.nk->η' k=η k:=λk b=>F k λg q=>by have:=(E.new k q g).1;omega
 have fresh:(∀k,η' k=η k)\/C0 CR st st.nk=Bp:=by
  have m:=G.2.2;split at m;· rename_i he;have e:st.nk=nk:=AI he;exact .inl λk=>F k λg q=>by have:=E.new k q g;omega
  grind
 have mC:∀k∈CV C,η' k=η k:=λk b=>y k (hw.mC k b);have mS:∀t sv,Ay st.L t=Ac sv->∀k∈sv.AJ,η' k=η k:=λt sv i k b=>by
  rcases fresh with m|m;· grind
  ·refine y k ?_;unfold C0 at m;rw[AT]at m;have:=IT.1 (IT.1 m.1 _ (A4 i)) k b;simpa using this
 have mR:∀k c,An CR st.O k=Ac c->∀j∈c.AJ,η' j=η j:=λk c b j hj=>by
  rcases fresh with m|m;· grind
  ·exact y j (D1 b m j hj)
 have Q:∀k c,k∉keys s.wr->An CR st.O k=Ac c->DU C η' l z k c:=λk c b u=>by
  rcases A k c u with e|⟨x,g1,g2⟩;· exact .inl e
  ·refine .inr ⟨x,by rw[V k b];exact g1,(SR.is.env ?_ mC (mR k c u) g2).mono o⟩;grind
 refine hK η' l v w' f o ⟨N.CY o h.inv,?_,?_,λt sv i=>?_,λp S=>?_,z,hn',P,λk b=>?_,λk c b=>?_⟩;· rw[X];cases d<;>exact h.defers
 ·cases d<;>simp[Act.put,h.size]
 ·have B:∀ {t sv},Ay (jc (keys s.wr) st.L) t=Ac sv->sv.is C η' l (a.tmps.getD t undef):=λ{t sv} i=>by
   rw[QH]at i;obtain⟨x,U,rfl⟩:=Pd.1 i;exact QI (((h.Bo t x U).env mC (mS t x U)).mono o)
  have R:=G.1.1;cases J:d with
  |none=>
   rw[J]at i;exact B i
  |some d=>
   rw[J]at i R;have R:d<n:=by simpa [NW]using R
   have i:Ay ((d,s.sv)::jc (keys s.wr) st.L) t=Ac sv:=i;rw[H5 (by rw[h.size];exact R)];simp only[Ay]at i;cases I:Hj d t with
   |true=>rw[I]at i;cases i;exact hsv
   |false=>rw[I]at i;exact B i
 ·rw[y p.1 (hw.lo p S)];exact h.base p S
 ·rcases W k b with b|b;· exact Abq (M k b) E.le
  ·cases T:An CR st.O k with
   |none=>exact(E.new k b T).2
   |some x=>
    have Z:Ay st.O k≠C7:=λe=>by unfold An at T;rw[e]at T;cases T
    have:k<st.nk:=Aby λo=>Z (hw.ok k o);exact Abq this E.le
 ·have e:An CR (app st d s nk).O k=RT s.wr (An CR st.O) k:=Hd _ _ hnc k;rw[e]at b;unfold RT at b;cases L:Ay s.wr k with
  |some x=>rw[L]at b;cases b;exact hwr k _ L
  |none=>
   rw[L]at b;refine Q k c (λq=>?_) b;obtain⟨x,U⟩:=Du q;rw[U]at L;cases L
theorem Sat.stepG(h:Sat C CR n Of bs st η H a w)(F:WF C CR bs st)(j:Pp C CR n st d s nk){K:BZ->IW->Prop}
  (run:∀Y:List (Nat×Ax),(keys Y).Nodup->SH w H (Y.map (·.2)++Of.O)->(∀k,(k∈s.rd\/k∈keys s.wr)->∀i,An CR st.O k=Ac i->DU C η H Y k i)->(∀k∈keys s.wr,An CR st.O k=C7->k∉keys Y)->
   (∀(v:BZ) (w':IW) (b:Hp) (η':Nat->BZ) (f:List (Nat×Ax)),H.le b->(∀k,(An CR st.O k=C7->k∉keys s.wr)->η' k=η k)->(∀k,k∉keys s.wr->Ay f k=Ay Y k)->
    (∀k i,Ay s.wr k=Ac i->DU C η' b f k i)->(keys f).Nodup->(∀k∈keys f,k∈keys Y\/k∈keys s.wr)->SH w' b (f.map (·.2)++Of.O)->s.sv.is C η' b v->K v w')->goal)
  (D:∀η' b v w',H.le b->Sat C CR n Of bs (app st d s nk) η' b (a.put d v) w'->K v w'):goal:=
 h.lB (K:=λv w' g b=>g=Of->K v w') F j (λY x y z A B=>run Y x y z A λv w' b η' f l m o p q r t u=>B v w' b η' f Of rfl l m o p q r t u rfl) λη' b v w' g E j e=>by grind
theorem Sat.step(h:Sat C CR n Of bs st η H a w)(m:WF C CR bs st)(f:KV C CR n st o.dst s nk P o){K:Act->IW->Prop}{Q:Exit->Act->IW->Prop}
  (g:∀η' c a' w',H.le c->Sat C CR n Of bs (app st o.dst s nk) η' c a' w'->K a' w'):o.wp P a w K Q:=by
 refine h.stepG m f.toW (K:=λv w'=>K (a.put o.dst v) w') (λY k e l i j=>f.loc η H Of.O a w Y k e h.inv (λx _=>h.ev x) l i K Q j) λη' c v w' d b=>g η' c _ w' d b
end
end
section
variable{T:Nat->Type}
def dy(i:Nat):SV T->SV T
 | .ct j n=>match Hj i j with
  |true=> .cb j n
  |false=> .ct j n
 |s=>s
def below{T:Nat->Type}(i:Nat)(st:St T):St T:=⟨st.L.map λp=>(p.1,dy i p.2),st.O,st.nk⟩
def Km(t:Nat)(s:SV T)(st:St T):St T:=⟨(t,s)::st.L,st.O,st.nk⟩
end
section
variable {N : C9} {R : Type}
def xA(s:SV N.T)(st:St N.T)(c a:St N.T->Option R):Option R:=match s with
 | .lb b=>cond b (c st) (a st)
 | .lt i n m=>bif Di ((n:Int)<(m:Int))then c (below i st)else a st
 | .d .bool b=>bif b then c st else a st
 |_=>C7
variable {C : List (SV N.T)} {CR : List (SR N.T)} {n : Nat} {Of : Fm} {bs : List (Nat × BZ)} {st : St N.T} {η : Nat -> BZ} {H : Hp} {a : Act} {w : IW}
section
variable{t:Nat}{L:List (Nat×SV N.T)}
theorem dw(i:Nat)(st:St N.T)(t:Nat):Ay (below i st).L t=(Ay st.L t).map (dy i):=by grind[below,DD]
theorem Sat.Gy(h:Sat C CR n Of bs st η H a w)(b:∀t sv,Ay L t=Ac sv->sv.is C η H (a.tmps.getD t undef)):Sat C CR n Of bs ⟨L,st.O,st.nk⟩ η H a w:=
 ⟨h.inv,h.defers,h.size,b,h.base,h.own⟩
theorem WF.Gy(h:WF C CR bs st)(c:∀τ,Ny (An CR st.O) (Cu C st.L) τ->Ny (An CR st.O) (Cu C L) τ):WF C CR bs ⟨L,st.O,st.nk⟩:=by obtain⟨τ,b⟩:=h.wf;exact⟨h.lo,h.ok,⟨τ,c τ b⟩,h.mC,h.cP⟩
theorem dv{i k:Nat}{m:Nat}(h:Sat C CR n Of bs st η H a w)(d:WF C CR bs st)(ht:Cu C st.L t= .lt i k m)(p:(k:Int)<(m:Int)):Sat C CR n Of bs (below i st) η H a w/\WF C CR bs (below i st):=by
 have r:m<=Re:=by have:=h.lk t;rw[ht]at this;exact this.2
 obtain⟨τ,c⟩:=d.wf;have s:τ i=k:=by have:=c t;rw[ht]at this;trivial
 refine⟨h.Gy λq sv g=>?_,⟨d.lo,d.ok,⟨τ,λq=>?_⟩,d.mC,d.cP⟩⟩
 ·rw[DD (dy i)]at g;obtain⟨x,e,rfl⟩:=Pd.1 g;have f:=h.Bo q x e;unfold dy;split
  ·rename_i j l;split
   ·rename_i o;have:=AI o;subst this;have b:=c q;unfold Cu at b;rw[e]at b;have b:τ i=l:=b;refine⟨f.1,?_⟩;have:l=k:=by omega
    subst this;exact Abq (by omega) r
   trivial
  omega
 ·have b:=c q;unfold Cu at b⊢;rw[dw];cases e:Ay st.L q with
  |none=>trivial
  |some x=>
   rw[e]at b;simp only[Adp]at b⊢;unfold dy;split
   ·split;· exact b
    ·exact b
   ·exact b
theorem PL{s:SV N.T}(h:Sat C CR n Of bs st η H a w)(i:WF C CR bs st)(g:s.is C η H (a.tmps.getD t undef))(f:EY s=Bp)(hc:R1 s=Bp):Sat C CR n Of bs (Km t s st) η H a w/\WF C CR bs (Km t s st):=by
 refine⟨h.Gy λq sv b=>?_,i.Gy λτ c q=>?_⟩
 ·simp only[Ay]at b;split at b;· simp_all
  ·exact h.Bo q sv b
 ·have d:=c q;unfold Cu at d⊢;simp only[Ay];cases e:Hj t q with
  |true=>
   have:res C s=s:=by cases s<;>first|rfl|cases hc
   simp_all[DC]
  |false=>exact d
theorem UY{o l:St N.T->Option R}{r:R}(h:Sat C CR n Of bs st η H a w)(j:WF C CR bs st)(c:xA (Cu C st.L t) st o l=Ac r):
  ∃b d,a.tmps.getD t undef= .bool b/\Sat C CR n Of bs d η H a w/\WF C CR bs d/\(if b=Bp then o d=Ac r else l d=Ac r):=by
 have f:=h.lk t;unfold xA at c;split at c;· rename_i b e;rw[e]at f;cases b with
  |true=>exact⟨Bp,st,f,h,j,c⟩
  |false=>exact⟨Aj,st,f,h,j,c⟩
 ·rename_i i k m e;rw[e]at f;cases g:Di ((k:Int)<(m:Int))with
  |true=>
   obtain⟨p,q⟩:=dv h j e (of_decide_eq_true g);rw[g]at c;exact⟨Bp,below i st,by rw[f.1,g],p,q,c⟩
  |false=>
   rw[g]at c;exact⟨Aj,st,by rw[f.1,g],h,j,c⟩
 ·rename_i b e;rw[e]at f;refine⟨b,st,QL f,h,j,?_⟩;cases b with
  |true=>grind
  |false=>exact c
 grind
def ZD(P:GQ)(Φ:Nat->Option (CQ N))(C:List (SV N.T))(CR:List (SR N.T))(n:Nat)(o:K_)(st:St N.T)(kn:St N.T->Option R):Option R:=
 gv P Φ C 4 (Cu C st.L) (An CR st.O) st.nk o.op o.type λs b=>match Hb CR n st o.dst s b with
  |true=>kn (app st o.dst s b)
  |false=>C7
theorem Rm{P:GQ} [C3 N P]{Φ:Nat->Option (CQ N)}(k:∀f q,Φ f=Ac q->Bu P f q){o:K_}{kn:St N.T->Option R}{r:R}(h:Sat C CR n Of bs st η H a w)(d:WF C CR bs st)(y:ZD P Φ C CR n o st kn=Ac r){K:Act->IW->Prop}{Q:Exit->Act->IW->Prop}
  (v:∀b η' e a' w',H.le e->Sat C CR n Of bs b η' e a' w'->WF C CR bs b->kn b=Ac r->K a' w'):o.wp P a w K Q:=by
 have z:∀j,st.nk<=j->An CR st.O j=C7:=λj A=>by unfold An;rw[d.ok j A]
 obtain⟨s,B,g,m,p,t,u⟩:=Un (o:=o) k d.mC 4 z d.wf y;split at g;· rename_i x;have l:KV C CR n st o.dst s B P o:=⟨x,m,p,t,u⟩;exact h.step d l λη' e a' w' i c=>v _ η' e a' w' i c (d.step l) g
 grind
def It(n:Nat)(d:Option Nat)(st:St N.T)(kn:St N.T->Option R):Option R:=match d with
 |none=>kn st
 |some d=>match bg d n with
  |true=>kn (Km d .ud st)
  |false=>C7
theorem Rv{d:Option Nat}{kn:St N.T->Option R}{r:R}(h:Sat C CR n Of bs st η H a w)(l:WF C CR bs st)(e:It n d st kn=Ac r):∃c,Sat C CR n Of bs c η H (a.put d undef) w/\WF C CR bs c/\kn c=Ac r:=by
 unfold It at e;split at e;· exact⟨st,h,l,e⟩
 ·rename_i d;split at e
  ·have g:d<n:=by simp_all
   refine⟨_,?_,?_,e⟩;· refine⟨h.inv,h.defers,by simp[Act.put,h.size],λq sv b=>?_,h.base,h.own⟩;have b:Ay ((d,SV.ud)::st.L) q=Ac sv:=b;rw[H5 (by rw[h.size];omega)];simp only[Ay]at b;cases f:Hj d q with
    |true=>rw[f]at b;cases b;rfl
    |false=>rw[f]at b;exact h.Bo q sv b
   ·refine l.Gy λτ i q=>?_;have j:=i q;unfold Cu at j⊢;simp only[Ay];cases k:Hj d q with
    |true=>trivial
    |false=>exact j
  grind
theorem IF{b:Array K_}{j:Nat}{t:Tmp}(d:BL b j=Ac t)(c:a.tmps.getD t undef=undef):yielded b a.tmps j=C7:=by unfold BL at d;unfold yielded;rw[d];rw[Afo]at c;grind[undef]
end
end
section
variable{T:Nat->Type}
inductive TS(T:Nat->Type)where
 |run (s:Bx T)
 |skip
def TS.sv:TS T->SV T
 | .run s=>s.sv
 | .skip=> .ud
def TS.rd:TS T->List Nat
 | .run s=>s.rd
 | .skip=>[]
def TS.wr:TS T->List (Nat×SR T)
 | .run s=>s.wr
 | .skip=>[]
def TS.AJ(t:TS T):List Nat:=t.sv.AJ++t.wr.flatMap λp=>p.2.AJ
def GR(A B:List Nat):Bool:=A.any λk=>B_ B k
theorem R3{A B:List Nat}(h:GR A B=Aj){k:Nat}(a:k∈A)(b:k∈B):False:=by grind[GR,List.any_eq_true,AR]
end
section
variable {T : Nat -> Type}
section
variable{nk:Nat}{l:List K_}{tr:List (TS T)}
def Ly(a:Array K_)(x y:K_)(s t:TS T):Bool:=meets a x y||(GR (keys s.wr) (t.rd++keys t.wr)||GR s.rd (keys t.wr))
def wF(nk:Nat)(seen:List Nat)(wr:List (Nat×SR T)):List Nat:=(keys wr).filter λk=>iT nk k&& !B_ seen k
def RS(a:Array K_)(nk:Nat)(A:Nat)(o:K_)(t:TS T)(j:Nat):Nat->List Nat->List K_->List (TS T)->Bool
 |_,_,[],[]=>Bp
 |i,seen,x::c,s::b=>(A.testBit i||(Hj i j||((!Nat.blt i j|| !Ly a x o s t)&& !GR (wF nk seen s.wr) t.AJ)))&&RS a nk A o t j (i+1) (keys s.wr++seen) c b
 |_,_,_,_=>Aj
def fF(a:Array K_)(l:List K_)(tr:List (TS T))(nk:Nat):Nat->List Nat->List K_->List (TS T)->Bool
 |_,[],[],[]=>Bp
 |j,A::b,o::c,t::d=>RS a nk A o t j 0 [] l tr&&fF a l tr nk (j+1) b c d
 |_,_,_,_=>Aj
def Z3(l:List K_)(tr:List (TS T))(nk:Nat):Bool:=GW 0 l&&fF l.toArray l tr nk 0 (Ns [] l) l tr
theorem MG{g:Array K_}{nk A:Nat}{o:K_}{t:TS T}{j:Nat} :∀ {i:Nat} {seen:List Nat} {xs:List K_} {ss:List (TS T)},RS g nk A o t j i seen xs ss=Bp->xs.length=ss.length/\∀q x s,xs[q]?=Ac x->ss[q]?=Ac s->
  A.testBit (i+q)=Bp\/i+q=j\/((i+q<j->Ly g x o s t=Aj)/\∀k∈keys s.wr,nk<=k->k∉seen->(∀l m,l<q->ss[l]?=Ac m->k∉keys m.wr)->k∉t.AJ)
 |_,_,[],[],_=>⟨rfl,λq x s h=>by simp⟩
 |_,_,[],_::_,h=>by trivial
 |_,_,_::_,[],h=>by trivial
 |i,seen,y::xs,u::ss,h=>by
  simp only[RS,AT]at h;obtain⟨a,D⟩:=h;obtain⟨F,E⟩:=MG D;refine⟨by grind,λq x s z r=>?_⟩;cases q with
  |zero=>
   simp at z r;subst r;rw[Adx,Adx,AT]at a;rcases a with a|a|⟨a,n⟩;· grind
   ·grind[ba]
   ·refine .inr (.inr ⟨λd=>?_,λk p c f _ b=>?_⟩)
    ·rw[Adx]at a;rcases a with a|a
     ·have:bg i j=Bp:=by simpa using d
      grind
     grind
    ·have n:GR (wF nk seen u.wr) t.AJ=Aj:=by simpa using n
     refine R3 n (Aaz.2 ⟨p,?_⟩) b;grind[B_,seen,absurd,Nat.ble_eq_true_of_le,AR]
  |succ q=>
   have:=E q x s (by simpa using z) (by simpa using r);rw[show i+1+q=i+(q+1) by omega]at this;refine this.imp id λe=>e.imp id λ⟨B,C⟩=>⟨B,λk p c f w=>C k p c (λb=>?_) λl m d v=>w (l+1) m (by omega) (by simpa using v)⟩;rcases AS.1 b with b|b;· exact w 0 u (by omega) rfl b
   ·exact f b
theorem Og{a:Array K_}{l:List K_}{tr:List (TS T)}{nk:Nat} :∀ {j:Nat} {b:List Nat} {os:List K_} {ts:List (TS T)},fF a l tr nk j b os ts=Bp->os.length=ts.length/\b.length=os.length/\∀q o t,os[q]?=Ac o->ts[q]?=Ac t->RS a nk (b.getD q 0) o t (j+q) 0 [] l tr=Bp
 |_,[],[],[],_=>⟨rfl,rfl,λq o t h=>by simp⟩
 |j,A::b,o::os,t::ts,h=>by simp only[fF,AT]at h;obtain⟨c,d,e⟩:=Og h.2;grind
 |_,[],[],_::_,h=>by trivial
 |_,[],_::_,_,h=>by trivial
 |_,_::_,[],_,h=>by trivial
 |_,_::_,_::_,[],h=>by trivial
theorem Kl(h:Z3 l tr nk=Bp):GW 0 l=Bp/\tr.length=l.length/\∀i j x o s t,l[i]?=Ac x->l[j]?=Ac o->tr[i]?=Ac s->tr[j]?=Ac t->
  (U5 l j).testBit i=Bp\/i=j\/((i<j->Ly l.toArray x o s t=Aj)/\∀k∈keys s.wr,nk<=k->(∀c d,c<i->tr[c]?=Ac d->k∉keys d.wr)->k∉t.AJ):=by
 unfold Z3 at h;rw[AT]at h;obtain⟨m,y,n⟩:=Og h.2;refine⟨h.1,m.symm,λi j x o s t w q u v=>?_⟩;have:=n j o t q v;rw[Abm]at this;have:=(MG this).2 i x s w u;rw[Abm]at this;exact this.imp id λe=>e.imp id λ⟨f,g⟩=>⟨f,λk p b r=>g k p b (by simp) r⟩
end
end
section
variable {N : C9} {l : List K_} {tr : List (TS N.T)} {S0 : Nat -> SV N.T} {R0 : Nat -> Option (SR N.T)}
section
variable{p:Nat->Bool}{C:List (SV N.T)}{n nk:Nat}{Of:Fm}{H:Hp}{P:GQ}{Q:Exit->Act->IW->Prop}{a:Act}{w:IW}
def Ce(l:List K_)(tr:List (TS N.T))(S0:Nat->SV N.T)(p:Nat->Bool)(t:Nat):Nat->SV N.T
 |0=>S0 t
 |j+1=>if p j=Bp/\(l[j]?).bind (·.dst)=Ac t then((tr[j]?).map TS.sv).getD .no else Ce l tr S0 p t j
def Cp(tr:List (TS N.T))(R0:Nat->Option (SR N.T))(p:Nat->Bool)(k:Nat):Nat->Option (SR N.T)
 |0=>R0 k
 |j+1=>if p j=Bp then match(tr[j]?).bind λs=>Ay s.wr k with
   |some x=>Ac x
   |none=>Cp tr R0 p k j
  else Cp tr R0 p k j
theorem GJ{p q:Nat->Bool}{t:Nat} :∀i,(∀j,j<i->(l[j]?).bind (·.dst)=Ac t->p j=q j)->Ce l tr S0 p t i=Ce l tr S0 q t i
 |0,_=>rfl
 |i+1,h=>by unfold Ce;rw[GJ i λj a=>h j (by omega)];grind
theorem HK{p:Nat->Bool}{t i:Nat} :∀k,i<=k->(∀j,i<=j->j<k->(l[j]?).bind (·.dst)=Ac t->p j=Aj)->Ce l tr S0 p t k=Ce l tr S0 p t i
 |0,h,_=>by grind
 |k+1,h,f=>by
  by_cases e:i=k+1;· grind
  ·have g:Ce l tr S0 p t (k+1)=if p k=Bp/\(l[k]?).bind (·.dst)=Ac t then((tr[k]?).map TS.sv).getD .no else Ce l tr S0 p t k:=rfl;rw[g,if_neg (λ⟨b,c⟩=>by grind)];exact HK k (by omega) λj b c d=>f j b (by omega) d
theorem E8{p q:Nat->Bool}{k:Nat} :∀i,(∀j,j<i->∀s,tr[j]?=Ac s->k∈keys s.wr->p j=q j)->Cp tr R0 p k i=Cp tr R0 q k i
 |0,_=>rfl
 |i+1,h=>by unfold Cp;rw[E8 i λj a=>h j (by omega)];grind[bind,Ay,xg,Dp]
theorem HJ{p:Nat->Bool}{k i:Nat} :∀m,i<=m->(∀j,i<=j->j<m->∀s,tr[j]?=Ac s->k∈keys s.wr->p j=Aj)->Cp tr R0 p k m=Cp tr R0 p k i
 |0,h,_=>by grind
 |m+1,h,c=>by
  by_cases e:i=m+1;· grind
  ·have g:=HJ m (by omega:i<=m) λj a d b=>c j a (by omega) b;have f:Cp tr R0 p k (m+1)=if p m=Bp then(match(tr[m]?).bind λs=>Ay s.wr k with
    |some x=>Ac x
    |none=>Cp tr R0 p k m)else Cp tr R0 p k m:=rfl;grind[bind,Ay,xg,Dp]
def NF(C:List (SV N.T))(a:Array K_)(o:K_)(S:Nat->SV N.T):Prop:= ∀j w,o.guard=Ac (j,w)->∃t,BL a j=Ac t/\∀(η:Nat->BZ) (H:Hp) v,(S t).is C η H v->v= .bool w
def KY(C:List (SV N.T))(a:Array K_)(o:K_)(S:Nat->SV N.T):Prop:= ∃j w t,o.guard=Ac (j,w)/\BL a j=Ac t/\∀(η:Nat->BZ) (H:Hp) v,(S t).is C η H v->v=undef\/v= .bool (!w)
structure dS(P:GQ)(C:List (SV N.T))(ops:Array K_)(n nk:Nat)(o:K_)(s:TS N.T)(S:Nat->SV N.T)(R:Nat->Option (SR N.T)):Prop where
 dst:∀d,o.dst=Ac d->d<n
 new:∀k∈keys s.wr,R k=C7->nk<=k/\Ay s.wr k≠Ac .gone
 run:∀st,s= .run st->NF C ops o S/\∃Sr:Nat->SV N.T,(∀t, .tmp t∈o.op.operands->∀(η:Nat->BZ) (H:Hp) v,(S t).is C η H v->(Sr t).is C η H v)/\Ap P C Sr R o st
 skip:s= .skip->KY C ops o S
structure JV(C:List (SV N.T))(n:Nat)(Of:Fm)(bs:List (Nat×BZ))(nk:Nat)(l:List K_)(tr:List (TS N.T))(S0:Nat->SV N.T)(R0:Nat->Option (SR N.T))(H:Hp)(p:Nat->Bool)(a:Act)(w:IW):Prop where
 ex:∃(η:Nat->BZ) (H':Hp) (Y:List (Nat×Ax)),H.le H'/\a.defers=Of.ds/\a.tmps.size=n/\(∀t,(Ce l tr S0 p t l.length).is C η H' (a.tmps.getD t undef))/\(∀q∈bs,η q.1=q.2)/\(keys Y).Nodup/\SH w H' (Y.map (·.2)++Of.O)/\
  (∀k∈keys Y,k<nk\/∃(j:Nat) (s:TS N.T),p j=Bp/\tr[j]?=Ac s/\k∈keys s.wr)/\∀k sr,Cp tr R0 p k l.length=Ac sr->DU C η H' Y k sr
theorem O6{k:Nat} :∀ {i:Nat},Cp tr R0 (λ_=>Bp) k i=C7->∀j s,j<i->tr[j]?=Ac s->k∉keys s.wr
 |0,_,j,s,a,_=>by omega
 |i+1,h,j,s,a,c=>by
  unfold Cp at h;simp only[if_true]at h;split at h;· grind
  ·by_cases e:j=i;· intro b;obtain⟨x,d⟩:=Du b;grind
   ·exact O6 h j s (by omega) c
theorem S1{p:Nat->Bool}{t:Nat} :∀i,Ce l tr S0 p t i=S0 t\/(∃j s,j<i/\p j=Bp/\tr[j]?=Ac s/\Ce l tr S0 p t i=s.sv)\/Ce l tr S0 p t i= .no
 |0=> .inl rfl
 |i+1=>by
  unfold Ce;split;· grind
  ·rcases S1 i with h|⟨j,s,a,b⟩|h;· exact .inl h
   all_goals grind
theorem M'{p:Nat->Bool}{k:Nat}{x:SR N.T} :∀i,Cp tr R0 p k i=Ac x->R0 k=Ac x\/∃j s,j<i/\p j=Bp/\tr[j]?=Ac s/\Ay s.wr k=Ac x
 |0,h=> .inl h
 |i+1,h=>by
  unfold Cp at h;split at h;· cases c:(tr[i]?).bind λs=>Ay s.wr k with
   |none=>
    rw[c]at h;rcases M' i h with h|⟨j,s,a,b⟩;all_goals grind
   |some y=>
    grind
  ·rcases M' i h with h|⟨j,s,a,b⟩;all_goals grind
theorem Tp{bs:List (Nat×BZ)}(hiv:N.inv H)
  (hOK:Z3 l tr nk=Bp) (hC:∀k∈CV C,k<nk) (hS:∀t,∀k∈(S0 t).AJ,k<nk) (hR:∀k x,R0 k=Ac x->k<nk/\∀j∈x.AJ,j<nk) (hbs:∀q∈bs,q.1<nk)
  (hl:∀i o s,l[i]?=Ac o->tr[i]?=Ac s->dS P C l.toArray n nk o s (λt=>Ce l tr S0 (λ_=>Bp) t i) (λk=>Cp tr R0 (λ_=>Bp) k i)):∀p a w i o,l[i]?=Ac o->p i=Aj->HS l p->(∀j,(U5 l i).testBit j=Bp->p j=Bp)->(∀j u,l[j]?=Ac u->p j=Bp->∀m,(U5 l j).testBit m=Bp->p m=Bp)->JV C n Of bs nk l tr S0 R0 H p a w->
   if fy o (yielded l.toArray a.tmps)then o.wp P a w (JV C n Of bs nk l tr S0 R0 H (I' p i)) Q else JV C n Of bs nk l tr S0 R0 H (I' p i) (a.put o.dst undef) w:=by
 obtain⟨hb,hlen,R⟩:=Kl hOK;have hTr:∀i o,l[i]?=Ac o->∃s,tr[i]?=Ac s:=λi o ho=>by
  have:i<tr.length:=by rw[hlen];exact(No.1 ho).1
  exact⟨tr[i],IS this⟩
 have hLt:∀j s,tr[j]?=Ac s->∃o,l[j]?=Ac o:=λj s hs=>by
  have:j<l.length:=by rw[<-hlen];exact(No.1 hs).1
  exact⟨l[j],IS this⟩
 intro p a w i o O S hcl hanc hancs ⟨η,H',Y,h1,h2,h3,h4,h5,h6,h7,h8,h9⟩;obtain⟨s,D⟩:=hTr i o O;have J:=hl i o s O D;have hlt:i<l.length:=(No.1 O).1;have A:∀j u f,l[j]?=Ac u->tr[j]?=Ac f->i<j->Ly l.toArray o u s f=Bp->p j=Aj:=λj u f z c hij hc=>by
  cases hp:p j with
  |false=>rfl
  |true=>
   rcases R i j o u s f O z D c with e|e|e;· rw[hancs j u z hp i e]at S;omega
   ·omega
   grind
 have G:∀j u f,l[j]?=Ac u->tr[j]?=Ac f->j<i->Ly l.toArray u o f s=Bp->p j=Bp:=λj u f z c hij hc=>by
  rcases R j i u o f s z O c D with e|e|e;· exact hanc j e
  ·omega
  grind
 have M:∀(j t:Nat),(l[j]?).bind (λx:K_=>x.dst)=Ac t->∃u f,l[j]?=Ac u/\tr[j]?=Ac f/\u.dst=Ac t:=λj t h=>by
  cases z:l[j]? with
  |none=>rw[z]at h;cases h
  |some u=>rw[z]at h;obtain⟨f,c⟩:=hTr j u z;exact⟨u,f,rfl,c,h⟩
 have U:∀t,t∈o.looksAt l.toArray->Ce l tr S0 p t l.length=Ce l tr S0 (λ_=>Bp) t i:=λt V=>by
  rw[HK (i:=i) l.length (by omega) (λj hij hjk hd=>by
   by_cases B:j=i;· subst B;omega
   ·obtain⟨u,f,z,c,hdj⟩:=M j t hd;refine A j u f z c (by omega) ?_;unfold Ly;simp only[meets,hdj,EZ V,Bool.or_true,Bool.true_or])];exact GJ i λj z hd=>by
   obtain⟨u,f,Z,c,hdj⟩:=M j t hd;refine G j u f Z c z ?_;unfold Ly;simp only[meets,hdj,EZ V,Bool.true_or]
 have resC:∀k,(k∈s.rd\/k∈keys s.wr)->Cp tr R0 p k l.length=Cp tr R0 (λ_=>Bp) k i:=λk g=>by
  rw[HJ (i:=i) l.length (by omega) (λj hij hjk f c I=>by
   by_cases B:j=i;· subst B;omega
   ·obtain⟨u,z⟩:=hLt j f c;refine A j u f z c (by omega) ?_;unfold Ly;rcases g with g|g;· have:GR s.rd (keys f.wr)=Bp:=Aci.2 ⟨k,g,AR.2 I⟩;rw[this];simp
    ·have:GR (keys s.wr) (f.rd++keys f.wr)=Bp:=Aci.2 ⟨k,g,AR.2 (AS.2 (.inr I))⟩;rw[this];simp)];exact E8 i λj z f c I=>by
   obtain⟨u,Z⟩:=hLt j f c;refine G j u f Z c z ?_;unfold Ly;have:GR (keys f.wr) (s.rd++keys s.wr)=Bp:=Aci.2 ⟨k,I,AR.2 (AS.2 g)⟩;rw[this];simp
 have T:∀j,j≠i->I' p i j=p j:=λj z=>by simp[I',z]
 have hupi:I' p i i=Bp:=by simp[I']
 have lookT:∀t, .tmp t∈o.op.operands->t∈o.looksAt l.toArray:=λt V=>by refine AS.2 (.inl (Aeq.2 ⟨.tmp t,by simpa using V,rf⟩))
 have lookG:∀j b t,o.guard=Ac (j,b)->BL l.toArray j=Ac t->t∈o.looksAt l.toArray:=λj b t hg V=>by unfold BL at V;refine AS.2 (.inr ?_);rw[hg];simp only[V];simp
 have slotN:∀(v:BZ) (t:Nat),(Ce l tr S0 (I' p i) t l.length=s.sv/\o.dst=Ac t)\/(Ce l tr S0 (I' p i) t l.length=Ce l tr S0 p t l.length/\o.dst≠Ac t):=λv t=>by
  by_cases hdt:o.dst=Ac t;· refine .inl ⟨?_,hdt⟩;rw[HK (i:=i+1) l.length (by omega) (λj hij hjk hd=>by obtain⟨u,f,Z,c,hdj⟩:=M j t hd;rw[T j (by omega)];refine A j u f Z c (by omega) ?_;unfold Ly;simp only[meets,hdt,Kr hdj,Bool.true_or])];unfold Ce;rw[if_pos ⟨hupi,by simp[O,hdt]⟩,D];rfl
  ·refine .inr ⟨?_,hdt⟩;exact GJ l.length λj z hd=>by exact T j λe=>by grind
 have K:∀ {v:BZ} {E:Nat->BZ} {X:Hp},(∀t,(Ce l tr S0 p t l.length).is C E X (a.tmps.getD t undef))->s.sv.is C E X v->∀t,(Ce l tr S0 (I' p i) t l.length).is C E X ((a.put o.dst v).tmps.getD t undef):=λ{v E X} hold hnew t=>by
  rcases slotN v t with⟨F,L⟩|⟨F,L⟩;· rw[F,L,H5 (by rw[h3];exact J.dst t L)];simpa using hnew
  ·rw[F];cases hd:o.dst with
   |none=>exact hold t
   |some d=>
    rw[H5 (by rw[h3];exact J.dst d hd)];have:Hj d t=Aj:=by
     cases hb:Hj d t with
     |false=>rfl
     |true=>exact absurd (by rw[hd,AI hb]) L
    rw[this];exact hold t
 have hdz:∀v,(a.put o.dst v).defers=Of.ds/\(a.put o.dst v).tmps.size=n:=λv=>by cases o.dst<;>simp[Act.put,h2,h3]
 cases s with
 |skip=>
  obtain⟨j,b,t,hg,V,hv⟩:=J.skip rfl;have hval:=hv η H' _ (by have:=h4 t;rw[U t (lookG j b t hg V)]at this;exact this);have hw':fy o (yielded l.toArray a.tmps)=Aj:=by
   rcases hval with e|e;· simp[fy,hg,IF V e]
   ·simp[fy,hg,Gr V e]
  rw[if_neg (by rw[hw'];simp)];refine⟨η,H',Y,h1,(hdz _).1,(hdz _).2,K h4 rfl,h5,h6,h7,λk g=>?_,λk sr g=>?_⟩
  ·rcases h8 k g with e|⟨j',s',F,L⟩;· exact .inl e
   ·refine .inr ⟨j',s',?_,L⟩;rw[T j' λe=>by subst e;rw[S]at F;cases F];exact F
  ·refine h9 k sr ?_;rw[<-g];exact E8 l.length λj' Z s' hs' hk'=>by refine(T j' λe=>?_).symm;subst e;rw[D]at hs';cases hs';cases hk'
 |run st=>
  obtain⟨hgr,Sr,hSr,hLoc⟩:=J.run st rfl;have hw':fy o (yielded l.toArray a.tmps)=Bp:=by
   cases hg:o.guard with
   |none=>simp[fy,hg]
   |some jb=>
    obtain⟨j,b⟩:=jb;obtain⟨t,V,hv⟩:=hgr j b hg;have hval:=hv η H' _ (by have:=h4 t;rw[U t (lookG j b t hg V)]at this;exact this);simp[fy,hg,Gr V hval]
  rw[if_pos hw'];have hnk:∀k∈keys st.wr,Cp tr R0 (λ_=>Bp) k i=C7->nk<=k:=λk h1 h2=>(J.new k h1 h2).1;have fresh:∀k∈keys st.wr,Cp tr R0 (λ_=>Bp) k i=C7->∀j f,tr[j]?=Ac f->p j=Bp->k∉f.AJ:=λk g r j f c hpj=>by
   obtain⟨u,z⟩:=hLt j f c;rcases R i j o u _ f O z D c with e|e|e;· rw[hancs j u z hpj i e]at S;cases S
   ·subst e;rw[S]at hpj;cases hpj
   ·exact e.2 k g (hnk k g r) λq' s' hlt hs'=>O6 r q' s' hlt hs'
  refine hLoc η H' Of.O a w Y h6 h7 (N.CY h1 hiv) (λx hx=>cc λt e=>?_) (λk g sr hsr=>?_) (λk g r hY=>?_) _ Q λv w' X E Y' hle hη hY hwr hn' hY' hsh' hsv=>?_;· subst e;exact hSr t hx η H' _ (by have:=h4 t;rw[U t (lookT t hx)]at this;exact this)
  ·exact h9 k sr (by rw[resC k g];exact hsr)
  ·have h11:=
         hnk k g r;rcases h8 k hY with e|⟨j,f,F,L,e3⟩;· omega
   ·obtain⟨
        u,z⟩:=hLt j f L;rcases Acx j i with B|B|B
    ·have:Cp tr R0 (λ_=>Bp) k i≠C7:=by
      have key:∀m,j<m->Cp tr R0 (λ_=>Bp) k m≠C7:=by
       intro m;induction m with
       |zero=>omega
       |succ m ih=>
        intro hjm;unfold Cp;by_cases e:j=m;· subst e;obtain⟨y0,hy0⟩:=Du e3;rw[L];cases hl:Ay f.wr k with
         |none=>rw[hy0]at hl;cases hl
         |some y=>simp[hl]
        ·have:=ih (by omega);cases hl:(tr[m]?).bind λs=>Ay s.wr k with
         |none=>simpa using this
         |some y=>simp
      exact key i B
     exact this r
    ·subst B;rw[S]at F;cases F
    ·have:=A j u f z L B (by unfold Ly;have:GR (keys (TS.run st).wr) (f.rd++keys f.wr)=Bp:=Aci.2 ⟨k,g,AR.2 (AS.2 (.inr e3))⟩;rw[this];simp);rw[this]at F;cases F
  ·
   have W:∀k,k<nk->E k=η k:=λk g=>hη k λr hm=>by have:=hnk k hm r;omega
   have mC:∀k∈CV C,E k=η k:=λk g=>W k (hC k g);have mJ:∀j f,tr[j]?=Ac f->p j=Bp->∀k∈f.AJ,E k=η k:=λj f c hpj k g=>hη k λr hm=>fresh k hm r j f c hpj g;refine⟨E,X,Y',h1.trans hle,(hdz _).1,(hdz _).2,K (λt=>?_) hsv,λq hq=>?_,hn',hsh',λk g=>?_,λk sr g=>?_⟩
   ·refine((h4 t).env mC λk g=>?_).mono hle;rcases S1 (l:=l) (tr:=tr) (S0:=S0) (p:=p) (t:=t) l.length with e|⟨j,f,F,L,e3,e4⟩|e;· rw[e]at g;exact W k (hS t k g)
    ·rw[e4]at g;exact mJ j f e3 L k (AS.2 (.inl g))
    ·rw[e]at g;cases g
   ·rw[W q.1 (hbs q hq)];exact h5 q hq
   ·rcases hY' k g with e|e
    ·rcases h8 k e with e|⟨j',s',F,L⟩;· exact .inl e
     ·refine .inr ⟨j',s',?_,L⟩;rw[T j' λe=>by subst e;rw[S]at F;cases F];exact F
    ·exact .inr ⟨i,_,hupi,D,e⟩
   ·by_cases hkw:k∈keys st.wr;· rw[HJ (i:=i+1) l.length (by omega) (λj hij hjk f c I=>by
      obtain⟨u,z⟩:=hLt j f c;rw[T j (by omega)];refine A j u f z c (by omega) ?_;unfold Ly;have:GR (keys (TS.run st).wr) (f.rd++keys f.wr)=Bp:=Aci.2 ⟨k,hkw,AR.2 (AS.2 (.inr I))⟩;rw[this];simp)]at g;unfold Cp at g;rw[if_pos hupi,D]at g;simp only[Option.bind_some]at g;cases hl:Ay (TS.run st).wr k with
     |some y=>
      rw[hl]at g;cases g;exact hwr k _ hl
     |none=>
      exfalso;obtain⟨y0,hy0⟩:=Du hkw;exact absurd (hy0.symm.trans hl) (by simp)
    ·have e:Cp tr R0 (I' p i) k l.length=Cp tr R0 p k l.length:=E8 l.length λj z f c I=>T j λe=>by subst e;rw[D]at c;cases c;exact hkw I
     rw[e]at g;rcases h9 k sr g with e|⟨x,g1,g2⟩;· exact .inl e
     ·refine .inr ⟨x,by rw[hY k hkw];exact g1,(SR.is.env (hη k λ_ hm=>absurd hm hkw) mC (λm hm=>?_) g2).mono hle⟩;rcases M' l.length g with e|⟨j,f,F,L,e3,e4⟩;· exact W m ((hR k sr e).2 m hm)
      ·exact mJ j f e3 L m (AS.2 (.inr (Aad.2 ⟨(k,sr),A4 e4,hm⟩)))
theorem JV.all{bs:List (Nat×BZ)}(b:∀i,i<l.length->p i=Bp)(h:JV C n Of bs nk l tr S0 R0 H p a w):JV C n Of bs nk l tr S0 R0 H (λ_=>Bp) a w:=by
 obtain⟨η,c,Y,d,e,f,q,g,j,m,r,s⟩:=h;refine⟨η,c,Y,d,e,f,λt=>?_,g,j,m,λk o=>?_,λk u o=>?_⟩;· grind[GJ]
 ·grind
 grind[E8]
theorem sK{bs:List (Nat×BZ)}{id:Nat}(g:N.inv H)
  (D:P.follows .mixedOrders=Bp) (b:Z3 l tr nk=Bp) (u:∀k∈CV C,k<nk) (z:∀t,∀k∈(S0 t).AJ,k<nk) (y:∀k x,R0 k=Ac x->k<nk/\∀j∈x.AJ,j<nk) (f:∀q∈bs,q.1<nk)
  (B:∀i o s,l[i]?=Ac o->tr[i]?=Ac s->dS P C l.toArray n nk o s (λt=>Ce l tr S0 (λ_=>Bp) t i) (λk=>Cp tr R0 (λ_=>Bp) k i))
  (e:∀a w,JV C n Of bs nk l tr S0 R0 H (λ_=>Bp) a w->Q .normal a w)   (h0:JV C n Of bs nk l tr S0 R0 H (λ_=>Aj) a {w with drawn:=w.drawn+1}):(Code.region id l.toArray Bp).wp P Q a w:=by
 obtain⟨A,m,h⟩:=Kl b;exact L6 D A (J:=λp a w=>JV C n Of bs nk l tr S0 R0 H p a w) (Tp g b u z y f B) (λp a w c v=>e a w (v.all c)) h0
end
end
section
variable {N : C9} {R : Type}
def brD(s:SV N.T)(c a:Option R):Option R:=match s with
 | .lb Bp=>c
 | .lb Aj=>a
 | .lt _ n m=>bif Di ((n:Int)<(m:Int))then c else a
 | .d .bool b=>bif b then c else a
 |_=>C7
def VH(P:GQ)(Φ:Nat->Option (CQ N))(C:List (SV N.T))(CR:List (SR N.T))(n:Nat)(o:K_)(st:St N.T)(tr:List (TS N.T))(kn:St N.T->List (TS N.T)->Option R):Option R:=
 gv P Φ C 4 (Cu C st.L) (An CR st.O) st.nk o.op o.type λs a=>match Hb CR n st o.dst s a&&w9 CR st s with
  |true=>kn (app st o.dst s a) (tr++[.run s])
  |false=>C7
def Rw(n:Nat)(d:Option Nat)(st:St N.T)(tr:List (TS N.T))(kn:St N.T->List (TS N.T)->Option R):Option R:=match NW n d with
 |true=>kn ⟨RH d .ud st.L,st.O,st.nk⟩ (tr++[.skip])
 |false=>C7
def dd(
    P:GQ) (Φ:Nat->Option (CQ N)) (C:List (SV N.T)) (CR:List (SR N.T)) (n:Nat) (b:Array K_):List K_->St N.T->List (TS N.T)->(St N.T->List (TS N.T)->Option R)->Option R
 | [],st,a,c=>c st a
 |o::e,st,a,c=>match o.guard with
  |none=>VH P Φ C CR n o st a λst a=>dd P Φ C CR n b e st a c
  |some (
      j,d)=>match BL b j with
   |none=>C7
   |some t=>match Cu C st.L t with
    | .ud=>Rw n o.dst st a λst a=>dd P Φ C CR n b e st a c
    |s=>brD s
     (let st:=Km t (.lb Bp) st
      match d with
      |true=>VH P Φ C CR n o st a λst a=>dd P Φ C CR n b e st a c
      |false=>Rw n o.dst st a λst a=>dd P Φ C CR n b e st a c)
     (let st:=Km t (.lb Aj) st
      match d with
      |false=>VH P Φ C CR n o st a λst a=>dd P Φ C CR n b e st a c
      |true=>Rw n o.dst st a λst a=>dd P Φ C CR n b e st a c)
def xp(P:GQ)(Φ:Nat->Option (CQ N))(C:List (SV N.T))(CR:List (SR N.T))(n:Nat)(a:Array K_)(st:St N.T)(kn:St N.T->Option R):Option R:=match C0 CR st st.nk with
 |true=>dd P Φ C CR n a a.toList st [] λb c=>match Z3 a.toList c st.nk with
  |true=>kn b
  |false=>C7
 |false=>C7
def s0(st:St N.T)(t:Nat):SV N.T:=match Ay st.L t with
 |some s=>s
 |none=> .no
def Imp(C:List (SV N.T))(s t:SV N.T):Prop:= ∀(η:Nat->BZ) (H:Hp) v,s.is C η H v->t.is C η H v
theorem JU{l:List K_}{tr a:List (TS N.T)}{S0:Nat->SV N.T}{p:Nat->Bool}{t:Nat} :∀i,(∀j,j<i->tr[j]?=a[j]?)->Ce l tr S0 p t i=Ce l a S0 p t i
 |0,_=>rfl
 |i+1,h=>by unfold Ce;rw[h i (by omega),JU i λj b=>h j (by omega)]
theorem JT{tr a:List (TS N.T)}{R0:Nat->Option (SR N.T)}{p:Nat->Bool}{k:Nat} :∀i,(∀j,j<i->tr[j]?=a[j]?)->Cp tr R0 p k i=Cp a R0 p k i
 |0,_=>rfl
 |i+1,h=>by unfold Cp;rw[h i (by omega),JT i λj b=>h j (by omega)]
variable {P : GQ} [C3 N P] {Φ : Nat -> Option (CQ N)} {C : List (SV N.T)} {CR : List (SR N.T)} {n : Nat} {bs : List (Nat × BZ)}
structure IV(P:GQ)(C:List (SV N.T))(CR:List (SR N.T))(n:Nat)(bs:List (Nat×BZ))(l:List K_)(st0:St N.T)(st:St N.T)(tr:List (TS N.T))(i:Nat):Prop where
 len:tr.length=i
 sl:∀t sv,Ay st.L t=Ac sv->Imp C (Ce l tr (s0 st0) (λ_=>Bp) t i) sv
 ow:∀k,An CR st.O k=Cp tr (An CR st0.O) (λ_=>Bp) k i
 wf:WF C CR bs st
 le:st0.nk<=st.nk
 ks:∀(j:Nat) s,tr[j]?=Ac s->∀k∈keys s.wr,k<st.nk
 loc:∀j o s,j<i->l[j]?=Ac o->tr[j]?=Ac s->dS P C l.toArray n st0.nk o s (λt=>Ce l tr (s0 st0) (λ_=>Bp) t j) (λk=>Cp tr (An CR st0.O) (λ_=>Bp) k j)
variable {l : List K_} {st0 : St N.T}
section
variable{tr:List (TS N.T)}{i:Nat}{st:St N.T}{r:R}{o:K_}{kn:St N.T->List (TS N.T)->Option R}{x:TS N.T}
theorem IV.lk(h:IV P C CR n bs l st0 st tr i)(t:Nat):Imp C (Ce l tr (s0 st0) (λ_=>Bp) t i) (Cu C st.L t):=by
 intro η H v b;unfold Cu;split;· rename_i s a;exact EU (h.sl t s a η H v b)
 trivial
theorem gl(h:tr.length=i):∀j,j<i->(tr++[x])[j]?=tr[j]?:=λj a=>Pe (by omega)
theorem IV.put{a:St N.T}(h:IV P C CR n bs l st0 st tr i)(G:l[i]?=Ac o)(D:∀t sv,Ay a.L t=Ac sv->(o.dst=Ac t/\sv=x.sv)\/(o.dst≠Ac t/\∃c,Ay st.L t=Ac c/\Imp C c sv))
  (B:∀k,An CR a.O k=match Ay x.wr k with|some y=>Ac y|none=>An CR st.O k) (E:WF C CR bs a) (r:st.nk<=a.nk) (A:∀k∈keys x.wr,k<a.nk)
  (u:dS P C l.toArray n st0.nk o x (λt=>Ce l tr (s0 st0) (λ_=>Bp) t i) (λk=>Cp tr (An CR st0.O) (λ_=>Bp) k i)):IV P C CR n bs l st0 a (tr++[x]) (i+1):=by
 have d:=gl (x:=x) h.len;have z:(tr++[x])[i]?=Ac x:=by simp[h.len]
 refine⟨by simp[h.len],λt sv K η H v p=>?_,λk=>?_,E,Aan h.le r,λj s b k F=>?_,λj L s O m b=>?_⟩
 ·unfold Ce at p;rw[G,z,JU i d]at p;rcases D t sv K with⟨f,g⟩|⟨f,c,g,I⟩;· grind
  ·rw[if_neg (λJ=>f (by grind))]at p;exact I η H v (h.sl t c g η H v p)
 ·unfold Cp;rw[z,JT i d,B k];rw[h.ow k];rfl
 ·by_cases e:j<i;· rw[d j e]at b;exact Abq (h.ks j s b k F) r
  ·have:j=i:=by have:=(No.1 b).1;simp[h.len]at this;omega
   simp_all
 ·by_cases e:j<i;· rw[d j e]at b;have:=h.loc j L s e m b;have f:(λt=>Ce l (tr++[x]) (s0 st0) (λ_=>Bp) t j)=λt=>Ce l tr (s0 st0) (λ_=>Bp) t j:=funext λt=>JU j λq w=>d q (by omega);have g:(λk=>Cp (tr++[x]) (An CR st0.O) (λ_=>Bp) k j)=λk=>Cp tr (An CR st0.O) (λ_=>Bp) k j:=funext λk=>JT j λq w=>d q (by omega);rw[f,g];exact this
  ·obtain rfl:j=i:=by omega
   rw[z]at b;cases b;rw[G]at m;cases m;have f:(λt=>Ce l (tr++[x]) (s0 st0) (λ_=>Bp) t j)=λt=>Ce l tr (s0 st0) (λ_=>Bp) t j:=funext λt=>JU j λq w=>d q w;have g:(λk=>Cp (tr++[x]) (An CR st0.O) (λ_=>Bp) k j)=λk=>Cp tr (An CR st0.O) (λ_=>Bp) k j:=funext λk=>JT j λq w=>d q w;rw[f,g];exact u
theorem Mn(S:∀f q,Φ f=Ac q->Bu P f q)(h:IV P C CR n bs l st0 st tr i)(ho:l[i]?=Ac o)(J:NF C l.toArray o (λt=>Ce l tr (s0 st0) (λ_=>Bp) t i))
  (I:VH P Φ C CR n o st tr kn=Ac r):∃y A,kn y A=Ac r/\IV P C CR n bs l st0 y A (i+1):=by
 have X:∀j,st.nk<=j->An CR st.O j=C7:=λj Y=>by unfold An;rw[h.wf.ok j Y]
 obtain⟨s,nk,E,T,F,G,W⟩:=Un (o:=o) S h.wf.mC 4 X h.wf.wf I;split at E
 ·rename_i m;rw[AT]at m;obtain⟨m,K⟩:=m;have hs:KV C CR n st o.dst s nk P o:=⟨m,T,F,G,W⟩;have b:=m;unfold Hb at b;simp only[AT]at b;have Q:∀p∈s.wr,C6 CR p.2=p.2:=λp hp=>Jm (AT _ _▸IT.1 b.2.1 p hp).1;refine⟨_,_,E,h.put ho (λt sv a=>?_) (λk=>Hd _ _ Q k) (h.wf.step hs) F (λk L=>?_) ⟨λd I=>?_,λk L Z=>?_,λst1 e=>?_,λe=>(by grind)⟩⟩
  ·have g:Ay (jc (keys s.wr) st.L) t=Ac sv->∃z,Ay st.L t=Ac z/\Imp C z sv:=λa=>by
    rw[QH]at a;obtain⟨x,hx,rfl⟩:=Pd.1 a;exact⟨x,hx,λη H v hv=>QI hv⟩
   cases u:o.dst with
   |none=>
    rw[u]at a;exact .inr ⟨by simp,g a⟩
   |some d=>
    rw[u]at a;have a:Ay ((d,s.sv)::jc (keys s.wr) st.L) t=Ac sv:=a;simp only[Ay]at a;cases c:Hj d t with
    |true=>
     rw[c]at a;cases a;exact .inl ⟨by simp_all,rfl⟩
    |false=>
     rw[c]at a;refine .inr ⟨λe=>?_,g a⟩;simp_all
  ·cases B:An CR st.O k with
   |none=>exact(G k L B).2
   |some x=>
    have O:Ay st.O k≠C7:=λe=>by simp_all[An]
    have:k<st.nk:=Aby λM=>O (h.wf.ok k M);exact Abq this F
  ·have:=b.1.1;rw[I]at this;simpa [NW]using this
  ·have w:An CR st.O k=C7:=by rw[h.ow k];exact Z
   refine⟨Aan h.le (G k L w).1,λJ=>?_⟩;have U:(An CR st.O k).isSome=Bp:=IT.1 K _ (A4 J);rw[w]at U;cases U
  ·cases e;refine⟨J,Cu C st.L,λt _=>h.lk t,?_⟩;have V:(λk=>Cp tr (An CR st0.O) (λ_=>Bp) k i)=An CR st.O:=funext λk=>(h.ow k).symm;rw[V];exact T
 grind
theorem Mp(h:IV P C CR n bs l st0 st tr i)(w:l[i]?=Ac o)(v:KY C l.toArray o (λt=>Ce l tr (s0 st0) (λ_=>Bp) t i))
  (f:Rw n o.dst st tr kn=Ac r):∃g j,kn g j=Ac r/\IV P C CR n bs l st0 g j (i+1):=by
 unfold Rw at f;split at f
 ·refine⟨_,_,f,h.put w (λt sv a=>?_) (λk=>rfl) (h.wf.Gy λτ u q=>?_) (Aac _) (λk s=>(by cases s)) ⟨λd f=>?_,λk s=>(by cases s),λ_ e=>(by grind),λ_=>v⟩⟩;· cases c:o.dst with
   |none=>
    rw[c]at a;exact .inr ⟨by simp,sv,a,λ_ _ _ h=>h⟩
   |some d=>
    rw[c]at a;have a:Ay ((d,SV.ud)::st.L) t=Ac sv:=a;simp only[Ay]at a;cases b:Hj d t with
    |true=>
     rw[b]at a;cases a;exact .inl ⟨by simp_all,rfl⟩
    |false=>
     rw[b]at a;refine .inr ⟨λe=>?_,sv,a,λ_ _ _ h=>h⟩;simp_all
  ·have m:=u q;cases c:o.dst with
   |none=>exact m
   |some d=>
    unfold Cu at m⊢;simp only[RH,Ay];cases p:Hj d q with
    |true=>trivial
    |false=>omega
  simp_all[NW]
 grind
theorem IV.Km{t:Nat}{b:Bool}(h:IV P C CR n bs l st0 st tr i)(f:∀(η:Nat->BZ) (H:Hp) v,(Ce l tr (s0 st0) (λ_=>Bp) t i).is C η H v->v= .bool b):IV P C CR n bs l st0 (Km t (.lb b) st) tr i:=by
 refine⟨h.len,λq sv c η H v g=>?_,h.ow,h.wf.Gy λτ d q=>?_,h.le,h.ks,h.loc⟩;· have c:Ay ((t,SV.lb b)::st.L) q=Ac sv:=c;simp only[Ay]at c;cases a:Hj t q with
  |true=>
   rw[a]at c;cases c;have:=AI a;subst this;exact f η H v g
  |false=>rw[a]at c;exact h.sl q sv c η H v g
 ·have e:=d q;unfold Cu at e⊢;simp only[Ay];cases f:Hj t q with
  |true=>trivial
  |false=>omega
theorem dp{s:SV N.T}{e d:Option R}(h:brD s e d=Ac r):∃b,(∀(C:List (SV N.T)) (η:Nat->BZ) (H:Hp) v,s.is C η H v->v= .bool b)/\(if b=Bp then e=Ac r else d=Ac r):=by
 unfold brD at h;split at h;· exact⟨Bp,λ_ _ _ _ a=>a,h⟩
 ·exact⟨Aj,λ_ _ _ _ a=>a,h⟩
 ·rename_i i n m;cases c:Di ((n:Int)<(m:Int))with
  |true=>rw[c]at h;exact⟨Bp,λ_ _ _ _ a=>by rw[a.1,c],h⟩
  |false=>rw[c]at h;exact⟨Aj,λ_ _ _ _ a=>by rw[a.1,c],h⟩
 ·rename_i b;cases b with
  |true=>exact⟨Bp,λ_ _ _ _ a=>QL a,h⟩
  |false=>exact⟨Aj,λ_ _ _ _ a=>QL a,h⟩
 grind
theorem Lh(g:∀f q,Φ f=Ac q->Bu P f q){kn:St N.T->List (TS N.T)->Option R}{r:R} :∀(os:List K_) (st:St N.T) (tr:List (TS N.T)) (i:Nat),l.drop i=os->i<=l.length->IV P C CR n bs l st0 st tr i->dd P Φ C CR n l.toArray os st tr kn=Ac r->∃a c,kn a c=Ac r/\IV P C CR n bs l st0 a c l.length
 | [],st,tr,i,E,J,h,k=>by
  have:i=l.length:=by have:=congrArg List.length E;grind
  subst this;exact⟨st,tr,k,h⟩
 |o::os,st,tr,i,E,J,h,k=>by
  have y:l[i]?=Ac o:=by have:=congrArg (·[0]?) E;grind
  have p:i<l.length:=(No.1 y).1;have m:l.drop (i+1)=os:=by rw[<-Adf,E];rfl
  unfold dd at k;split at k;· obtain⟨a,c,s,u⟩:=Mn g h y (λj w e=>by grind) k;exact Lh g os a c (i+1) m p u s
  ·rename_i j d A;split at k;· grind
   ·rename_i t F;split at k;· rename_i K;obtain⟨a,c,s,u⟩:=Mp h y ⟨j,d,t,A,F,λη H v z=> .inl (by have:=h.lk t η H v z;rw[K]at this;trivial)⟩ k;exact Lh g os a c (i+1) m p u s
    ·obtain⟨b,I,k⟩:=dp k;have x:∀(η:Nat->BZ) (H:Hp) v,(Ce l tr (s0 st0) (λ_=>Bp) t i).is C η H v->v= .bool b:=λη H v z=>I C η H v (h.lk t η H v z);have D:=h.Km x;have run:d=b->NF C l.toArray o (λt=>Ce l tr (s0 st0) (λ_=>Bp) t i):=λe L M G=>by
      grind
     have B:d=(!b)->KY C l.toArray o (λt=>Ce l tr (s0 st0) (λ_=>Bp) t i):=λe=>⟨j,d,t,A,F,λη H v z=> .inr (by grind)⟩;cases b with
     |true=>
      cases d with
      |true=>
       obtain⟨a,c,s,u⟩:=Mn g D y (run rfl) k;exact Lh g os a c (i+1) m p u s
      |false=>
       obtain⟨a,c,s,u⟩:=Mp D y (B rfl) k;exact Lh g os a c (i+1) m p u s
     |false=>
      cases d with
      |false=>
       obtain⟨a,c,s,u⟩:=Mn g D y (run rfl) k;exact Lh g os a c (i+1) m p u s
      |true=>
       obtain⟨a,c,s,u⟩:=Mp D y (B rfl) k;exact Lh g os a c (i+1) m p u s
theorem rC(M:∀f q,Φ f=Ac q->Bu P f q)(hm:P.follows .mixedOrders=Bp){Of:Fm}{Q:Exit->Act->IW->Prop}{id:Nat}{g:Array K_}{kn:St N.T->Option R}{r:R}{st:St N.T}{η:Nat->BZ}{H:Hp}{a:Act}{w:IW}(h:Sat C CR n Of bs st η H a w)(E:WF C CR bs st)
  (D:xp P Φ C CR n g st kn=Ac r) (hK:∀d η' u a' w',H.le u->Sat C CR n Of bs d η' u a' w'->WF C CR bs d->kn d=Ac r->Q .normal a' w'):(Code.region id g Bp).wp P Q a w:=by
 obtain⟨l,rfl⟩:∃l:List K_,g=l.toArray:=⟨g.toList,by simp⟩;unfold xp at D;split at D
 ·rename_i y;have O:IV P C CR n bs l st st [] 0:=⟨rfl,λt sv L η H v A=>by
   have A:(s0 st t).is C η H v:=A;grind[s0],λk=>rfl,E,Aac _,λj s m=>by grind,λj o s hj=>by omega⟩;obtain⟨d,tr,S,p⟩:=Lh (l:=l) M l st [] 0 rfl (Abe _) O (by omega);split at S
  ·have c:=y;unfold C0 at c;rw[AT]at c;refine sK h.inv (l:=l) (tr:=tr) (S0:=s0 st) (R0:=An CR st.O) (bs:=bs) (Of:=Of) (n:=n) (H:=H) hm (by omega) E.mC (λt k b=>?_) (λk x b=>⟨?_,D1 b y⟩) E.lo (λi o s U m=>p.loc i o s (No.1 U).1 U m) (λa' w' hJ=>?_) ?_
   ·unfold s0 at b;split at b;· rename_i s m;have:=IT.1 (IT.1 c.1 _ (A4 m)) k b;simp_all
    trivial
   ·have K:Ay st.O k≠C7:=λe=>by grind[An]
    exact Aby λJ=>K (E.ok k J)
   ·obtain⟨η',u,Y,B,F,G,I,X,Z,g7,g8,g9⟩:=hJ;refine hK d η' u a' w' B ⟨N.CY B h.inv,F,G,λt sv L=>p.sl t sv L η' u _ (I t),X,Y,Z,g7,λk b=>?_,λk T b=>g9 k T (by rw[<-p.ow k];omega)⟩ p.wf S;rcases g8 k b with e|⟨j,s,_,V,W⟩;· exact Abq e p.le
    ·exact p.ks j s V k W
   ·obtain⟨Y,B,F,G,I⟩:=h.own;refine⟨η,H,Y,Hp.le.refl H,h.defers,h.size,λt=>?_,h.base,B,F.drew,λk b=> .inl (G k b),λk T b=>I k T ?_⟩
    ·rw[HK (i:=0) l.length (Abe _) (λ_ _ _ _=>rfl)];show(s0 st t).is C η H _;unfold s0;split;· rename_i s m;exact h.Bo t s m
     ·trivial
    ·rw[HJ (i:=0) l.length (Abe _) (λ_ _ _ _ _ _=>rfl)]at b;exact b
  grind
 grind
end
end
section
variable {N : C9}
def JM(k:Nat)(t:Ty)(l:List (t.den N.T))(st:St N.T):St N.T:=⟨st.L.map λp=>(p.1,GU k t l p.2),(k, .gone)::st.O.map λp=>(p.1,qZ k t l p.2),st.nk⟩
variable {C : List (SV N.T)} {CR : List (SR N.T)} {n : Nat} {Of : Fm} {bs : List (Nat × BZ)} {st : St N.T} {η : Nat -> BZ} {H : Hp} {a : Act} {w : IW}
section
variable{t:Ty}{g e:Gs}{k:Nat}{l:List (t.den N.T)}{α:Type}{c:Cd α}{m b:Nat}
theorem bV{W:SR N.T}(h:Sat C CR n Of bs st η H a w)(g:WF C CR bs st)(I:An CR st.O k=Ac W)
  (M:∀Y:List (Nat×Ax),(keys Y).Nodup->SH w H (Y.map (·.2)++Of.O)->(W= .gone\/∃X,Ay Y k=Ac X/\W.is C η H k X)->∃d,H.le d/\SH w d ((FJ Y k).map (·.2)++Of.O)/\G8 (N.c t) d l (η k)):∃d,H.le d/\Sat C CR n Of bs (JM k t l st) η d a w/\WF C CR bs (JM k t l st):=by
 obtain⟨Y,hn,T,R,f⟩:=h.own;obtain⟨d,o,G,D⟩:=M Y hn T (f k _ I);have z:Ay st.O k≠C7:=λe=>by grind[An]
 have hkn:k<st.nk:=Aby λQ=>z (g.ok k Q);have rr:∀j m,An CR (JM k t l st).O j=Ac m->m= .gone\/(j≠k/\∃s0,An CR st.O j=Ac s0/\(m=qZ k t l s0\/m=s0)):=λj m b=>by
  unfold An JM at b;simp only[Ay]at b;cases v:Hj k j with
  |true=>rw[v]at b;cases b;exact .inl rfl
  |false=>
   rw[v]at b;simp only[DD (qZ k t l)]at b;refine .inr ⟨λe=>by simp_all,?_⟩;unfold An;cases hl:Ay st.O j with
   |none=>grind
   |some s=>
    rw[hl]at b;cases b;refine⟨_,rfl,?_⟩;cases s with
    |Ah u r=>exact .inl rfl
    |row u t' V=>exact .inl rfl
    |gone=>exact .inl rfl
    |map u kt vt V=>exact .inl rfl
    |Ck _ _ _ _ _=>exact .inl rfl
    |Cv q=>exact .inr rfl
 refine⟨d,o,⟨N.CY o h.inv,h.defers,h.size,λq sv J=>?_,h.base,FJ Y k,Ie hn,G,λj b=>R j (CH b),λj m b=>?_⟩,⟨g.lo,λj b=>?_,?_,g.mC,g.cP⟩⟩;· have J:Ay (st.L.map λp=>(p.1,GU k t l p.2)) q=Ac sv:=J;rw[DD (GU k t l)]at J;obtain⟨s,hs,rfl⟩:=Pd.1 J;exact CN D ((h.Bo q s hs).mono o)
 ·rcases rr j m b with e|⟨A,s0,L,F⟩;· exact .inl e
  ·rcases f j s0 L with e|⟨y,y1,Z⟩;· subst e;rcases F with e|e<;>exact .inl e
   ·refine .inr ⟨y,by grind[DG],?_⟩;rcases F with rfl|rfl;· cases s0 with
     |Ah u r=>
      obtain⟨B,cs,b1,b2,b3⟩:=Z.mono o;exact⟨B,cs,b1,b2,CN D b3⟩
     |_=>exact Z.mono o
    ·exact Z.mono o
 ·show Ay ((k,SR.gone)::st.O.map λp=>(p.1,qZ k t l p.2)) j=C7;have b:st.nk<=j:=b;rw[A3 (by omega),DD (qZ k t l),g.ok j b];rfl
 ·obtain⟨
      τ,U⟩:=g.wf;refine⟨τ,λq=>?_⟩;have c:=U q;show D9 τ (An CR (JM k t l st).O) (Cu C (st.L.map λp=>(p.1,GU k t l p.2)) q);unfold Cu at c⊢;rw[DD (GU k t l)];cases hx:Ay st.L q with
  |none=>trivial
  |some x=>
   rw[hx]at c;simp only[Adp]at c⊢;have Ec:∀j i off E y,j≠k->D9 τ (An CR st.O) (.Ec j i off E y)->D9 τ (An CR (JM k t l st).O) (.Ec j i off E y):=λj i off E y A S u t' V P=>by
    rcases rr j _ P with e|⟨_,s0,L,F⟩;· grind
    ·refine S u t' V ?_;rw[L];rcases F with e|e;· cases s0 with
      |row G t2 l2=>exact congrArg Ac e.symm
      |Ah G r=>cases e
      |Cv q=>cases e
      |gone=>cases e
      |map G kt vt l2=>cases e
      |Ck _ _ _ _ _=>cases e
     ·exact congrArg Ac e.symm
   cases x with
   |AH j=>unfold GU;split<;>trivial
   |Ec j i off E y=>
    unfold GU;split;· trivial
    ·rename_i v;exact Ec j i off E y (λe=>by subst e;simp at v) c
   |Cv j=>
    simp only[GU,res]at c⊢;rw[Aae]at c⊢;cases hc:C[j]? with
    |none=>trivial
    |some s0=>
     have S:=g.cP s0 (Aai hc);rw[hc]at c;cases s0<;>first|exact c|cases S
   |_=>exact c
theorem oU{q:Nat}(h:Sat C CR n Of bs st η H a w)(l:WF C CR bs st)(L:C0 CR st st.nk=Bp)(S:Cu C st.L q= .raw (.slice C7 0 0)):
  ∃η',Sat C CR n Of bs ⟨(q, .AH st.nk)::st.L,(st.nk, .row g t [])::st.O,st.nk+1⟩ η' H a w/\WF C CR bs ⟨(q, .AH st.nk)::st.L,(st.nk, .row g t [])::st.O,st.nk+1⟩:=by
 obtain⟨Y,R,J,u,v⟩:=h.own;have f:=L;unfold C0 at f;rw[AT]at f;have d:∀k,k<st.nk->EA η st.nk (.slice C7 0 0) k=η k:=λk b=>EH (by omega);have O:∀k∈CV C,EA η st.nk (.slice C7 0 0) k=η k:=λk b=>d k (l.mC k b);have o:a.tmps.getD q undef= .slice C7 0 0:=by have:=h.lk q;rw[S]at this;trivial
 refine⟨EA η st.nk (.slice C7 0 0),⟨h.inv,h.defers,h.size,λp sv c=>?_,λp c=>by rw[d p.1 (l.lo p c)];exact h.base p c,(st.nk, .row (.slice C7 0 0) g (t.sz N) 0 [])::Y,?_,J.IP g (t.sz N),λk b=>?_,λk P b=>?_⟩,⟨λp c=>Adz (l.lo p c),λj A=>?_,?_,λk b=>Adz (l.mC k b),l.cP⟩⟩;· simp only[Ay]at c;cases m:Hj q p with
  |true=>
   rw[m]at c;cases c;have:=AI m;subst this;exact⟨by rw[o,AA],by rw[o];rfl⟩
  |false=>
   rw[m]at c;refine(h.Bo p sv c).env O λk b=>d k ?_;have:=IT.1 (IT.1 f.1 _ (A4 c)) k b;simp_all
 ·exact Aay.2 ⟨λI=>absurd (u _ I) (Nat.lt_irrefl _),R⟩
 ·grind[keys]
 ·unfold An at b;simp only[Ay]at b;cases m:Hj st.nk k with
  |true=>
   rw[m]at b;cases b;have:=AI m;subst this;exact .inr ⟨_,CF _ _ _,[],by grind[AA],rfl⟩
  |false=>
   rw[m]at b;rcases v k P b with e|⟨y,W,X⟩;· exact .inl e
   ·have G:Ay st.O k≠C7:=λe=>by grind
    have E:k<st.nk:=Aby λF=>G (l.ok k F);exact .inr ⟨y,by rw[A3 (by omega)];exact W,SR.is.env (d k E) O (λj A=>d j (D1 b L j A)) X⟩
 ·have A:st.nk+1<=j:=A;rw[A3 (by omega)];exact l.ok j (by omega)
 ·obtain⟨
      τ,K⟩:=l.wf;refine⟨τ,λp=>?_⟩;have z:=K p;have key:∀s:SV N.T,(∀j i off D y,s= .Ec j i off D y->j<st.nk)->D9 τ (An CR st.O) s->D9 τ (An CR ((st.nk,SR.row g t [])::st.O)) s:=λs T M=>by
   cases s with
   |Ec j i off D y=>
    intro Q V U r;have:=T j i off D y rfl;unfold An at r;rw[A3 (by omega)]at r;exact M Q V U r
   |_=>exact M
  unfold Cu at z⊢;simp only[Ay];cases m:Hj q p with
  |true=>trivial
  |false=>
   cases B:Ay st.L p with
   |none=>trivial
   |some x=>
    simp only[B]at z⊢;refine key _ (λj i off D y e=>?_) z;have I:∀k∈x.AJ,k<st.nk:=λk b=>by have:=IT.1 (IT.1 f.1 _ (A4 B)) k b;simpa using this
    cases x with
    |Cv q=>
     simp only[res]at e;rw[Aae]at e;cases hc:C[q]? with
     |none=>rw[hc]at e;cases e
     |some s0=>
      rw[hc]at e;have:=l.cP s0 (Aai hc);subst e;cases this
    |_=>cases e<;>exact I _ (by simp[SV.AJ])
theorem SD(h:Sat C CR n Of bs st η H a w)(v:WF C CR bs st)(r:An CR st.O k=Ac (.row g t l)):∃c,H.le c/\Sat C CR n Of bs (JM k t l st) η c a w/\WF C CR bs (JM k t l st):=by
 refine bV h v r λY s b u=>?_;rcases u with e|⟨x,o,y,rfl,q⟩;· grind
 obtain⟨i,j,p⟩:=cf Of.O s o;obtain⟨c,d,f,m⟩:=b.freeze j;rw[p]at f;exact⟨c,d,f,G8.of (by grind[Bn]) rfl (q.mono d) (b.On j)⟩
theorem Ait{α:Type}{c:Cd α}{e:Gs}{A:List Ax} :∀ {g:List (Bool×List α)} {xs:List BZ} {rs:List (Option (Nat×List BZ))} {H:Hp},N0 c H g xs rs->(∀p∈g,p.1=Bp)->SH w H (A++FW e c.sz xs rs)->∃o,H.le o/\SH w o A/\A2 (cL c) o (g.map (·.2)) xs
 | [],xs,rs,H,f,_,h=>by have E:=Abb f.len;have F:=Abb f.PI;subst E;exact⟨H,Hp.le.refl H,by grind[FW],rfl⟩
 |(b,d)::g,[],rs,H,f,_,h=>by have:=f.len;grind
 |(b,d)::g,_::_,[],H,f,_,h=>by have:=f.PI;grind
 |(b,d)::g,u::xs,r::rs,H,f,z,h=>by
  have J:b=Bp:=z (b,d) (by simp);subst J;obtain⟨l,s,I⟩:=f.own 0 d rfl;have s:r=Ac (d.length,l):=by grind
  subst s;have k:(A++FW e c.sz (u::xs) (Ac (d.length,l)::rs))[A.length]?=Ac (.row u e c.sz d.length l):=by simp[FW]
  have v:=h.On k;obtain⟨B,q,y,G⟩:=h.freeze k;have K:(A++FW e c.sz (u::xs) (Ac (d.length,l)::rs)).eraseIdx A.length=A++FW e c.sz xs rs:=by rw[List.eraseIdx_append_of_length_le (Aac _),Aim];rfl
  rw[K]at y;have t:N0 c B g xs rs:=⟨by simpa using f.len,by simpa using f.PI,λi d k=>by obtain⟨l,m,x⟩:=f.own (i+1) d (by grind);exact⟨l,by trivial,x.mono q⟩,λi d k=>by simpa using f.not (i+1) d (by simpa using k)⟩;obtain⟨D,m,x,M⟩:=Ait t (λp L=>z p (by simp[L])) y;exact⟨D,q.trans m,x,[u],xs,rfl,⟨u,rfl,(G8.of G rfl (I.mono q) v).mono m⟩,M⟩
theorem qY{J:Nat}{l:List (Bool×List (t.den N.T))}(h:Sat C CR n Of bs st η H a w)(Q:WF C CR bs st)(K:An CR st.O k=Ac (.Ck g e t J l))(ht:l.all (·.1)=Bp):∃r,H.le r/\Sat C CR n Of bs (JM k (.sl t) (l.map (·.2)) st) η r a w/\WF C CR bs (JM k (.sl t) (l.map (·.2)) st):=by
 refine bV h Q K λY M q P=>?_;rcases P with e|⟨x,E,j,T,rfl,_,G⟩;· grind
 obtain⟨i,v,F⟩:=cf Of.O M E;have m:=q.flat v;obtain⟨S,B,u,D⟩:=Ait (c:=N.c t) G (λp O=>IT.1 ht p O) (by rw[Bn];omega);have L:=(No.1 v).1;have d:((Y.map (·.2)++Of.O).set i (.row (η k) g 1 l.length j))[i]?=Ac (.row (η k) g 1 l.length j):=by simp_all
 have o:=u.On d;obtain⟨s,z,A,R⟩:=u.freeze d;have I:((Y.map (·.2)++Of.O).set i (.row (η k) g 1 l.length j)).eraseIdx i=(Y.map (·.2)++Of.O).eraseIdx i:=by rw[List.eraseIdx_set_eq]
 rw[I,F]at A;have y:(l.map (·.2)).length=l.length:=Aaq ..;refine⟨s,B.trans z,A,?_⟩;show G8 (cL (N.c t)) s (l.map (·.2)) (η k);exact⟨⟨j,by rw[y];exact R,D.mono z⟩,by rw[y];exact o⟩
theorem ra(xs:List BZ)(e:xs.length=m):N0 c H (Uh m (Aj,([]:List α))) xs (Uh m C7):=
 ⟨by grind,by simp,λi d b=>by grind,λi d b=>by grind⟩
theorem q_{v:BZ}{f:Gs}{sz:Nat}{xs:List BZ}(h:w.ownsRow 0 e 1 v n xs):IE w v e n xs f sz (Uh m C7):=
 ⟨h,λi u m d _ c=>by grind,λi j u l m k d g b _ c=>by grind,λi u m d b _ c=>by grind⟩
theorem xf{l:List (List (t.den N.T))}(h:Sat C CR n Of bs st η H a w)(A:WF C CR bs st)(W:C0 CR st st.nk=Bp)(K:An CR st.O b=Ac (.row g (.sl t) l)):
  ∃η',Sat C CR n Of bs ⟨st.L,(b, .Ck g e t st.nk (Uh l.length (Aj,[])))::(st.nk, .gone)::st.O,st.nk+1⟩ η' H a w/\WF C CR bs ⟨st.L,(b, .Ck g e t st.nk (Uh l.length (Aj,[])))::(st.nk, .gone)::st.O,st.nk+1⟩:=by
 obtain⟨Y,X,I,R,B⟩:=h.own;have D:=W;unfold C0 at D;rw[AT]at D;rcases B b _ K with q|⟨x,V,v,rfl,hL⟩;· grind
 have r:∀k,k<st.nk->EA η st.nk (.tuple v.toArray) k=η k:=λk d=>EH (by omega);have mC:∀k∈CV C,EA η st.nk (.tuple v.toArray) k=η k:=λk d=>r k (A.mC k d);have G:Ay st.O b≠C7:=λq=>by grind[An]
 have M:b<st.nk:=Aby λE=>G (A.ok b E);obtain⟨i,z,h3⟩:=Jk Of.O X V;have S:w.ownsRow 0 g 1 (η b) l.length v:=I.ok i _ z;have T:v.length=l.length:=by have:v.length=l.length*1:=hL.len;omega
 have J:SH w H ((Ik Y b (.Ck (η b) g l.length v e (t.sz N) (Uh l.length C7))).map (·.2)++Of.O):=by
  rw[<-h3];refine I.vZ z (row:=C7) (λ_ q=>by grind) (IW.grownBy.refl w C7) (q_ S) λc hc=> .inl ?_;rcases hc with hc|⟨i,u,m,ys,_,q,_⟩;· exact hc
  grind
 refine⟨EA η st.nk (.tuple v.toArray),⟨h.inv,h.defers,h.size,λp sv F=>?_,λp F=>by rw[r p.1 (A.lo p F)];exact h.base p F,Ik Y b (.Ck (η b) g l.length v e (t.sz N) (Uh l.length C7)),by grind[EM],J,λk d=>?_,λk sr d=>?_⟩,⟨λp F=>Adz (A.lo p F),λj L=>?_,?_,λk d=>Adz (A.mC k d),A.cP⟩⟩;· refine(h.Bo p sv F).env mC λk d=>r k ?_;have:=IT.1 (IT.1 D.1 _ (A4 F)) k d;simpa using this
 ·rw[EM]at d;exact Adz (R k d)
 ·unfold An at d;simp only[Ay]at d;cases o:Hj b k with
  |true=>
   rw[o]at d;have:=AI o;subst this;cases d;refine .inr ⟨_,Rc V,v,Uh l.length C7,?_,AA _ _ _,ra v T⟩;rw[r b M,Afe]
  |false=>
   rw[o]at d;have O:k≠b:=λq=>by subst q;simp at o
   cases s:Hj st.nk k with
   |true=>rw[s]at d;cases d;exact .inl rfl
   |false=>
    rw[s]at d;have d:An CR st.O k=Ac sr:=d;rcases B k sr d with q|⟨y,y1,y2⟩;· exact .inl q
    ·have Q:Ay st.O k≠C7:=λq=>by unfold An at d;rw[q]at d;cases d
     have P:k<st.nk:=Aby λE=>Q (A.ok k E);exact .inr ⟨y,by rw[Pu O];exact y1,SR.is.env (r k P) mC (λj L=>r j (D1 d W j L)) y2⟩
 ·have L:st.nk+1<=j:=L;rw[A3 (by omega),A3 (by omega)];exact A.ok j (by omega)
 ·obtain⟨τ,U⟩:=A.wf;refine⟨τ,λp=>?_⟩;have z:=U p;cases Z:Cu C st.L p with
  |Ec j i off te y=>
   rw[Z]at z;intro g' t' l' f;unfold An at f;simp only[Ay]at f;cases o:Hj b j with
   |true=>rw[o]at f;cases f
   |false=>
    rw[o]at f;cases s:Hj st.nk j with
    |true=>rw[s]at f;cases f
    |false=>rw[s]at f;exact z g' t' l' f
  |_=>rw[Z]at z;exact z
theorem gr{off:Nat}{F:Gs}{l J:SV N.T}(h:Sat C CR n Of bs st η H a w)(r:WF C CR bs st)(V:C0 CR st st.nk=Bp)(z:An CR st.O b=Ac (.Ah F l))(hl:E0 N C l off C7=Ac (.raw (.slice C7 0 0)))(hs:fc N C 64 l off 1 (.AH st.nk)=Ac J)(O:Ot (.Ah F J:SR N.T)=Bp):
  ∃η',Sat C CR n Of bs ⟨st.L,(b, .Ah F J)::(st.nk, .row g t [])::st.O,st.nk+1⟩ η' H a w/\WF C CR bs ⟨st.L,(b, .Ah F J)::(st.nk, .row g t [])::st.O,st.nk+1⟩:=by
 obtain⟨Y,hn,hsh,D,E⟩:=h.own;have A:=V;unfold C0 at A;rw[AT]at A;have m:∀k,k<st.nk->EA η st.nk (.slice C7 0 0) k=η k:=λk d=>EH (by omega);have mC:∀k∈CV C,EA η st.nk (.slice C7 0 0) k=η k:=λk d=>m k (r.mC k d);have M:Ay st.O b≠C7:=λe=>by grind[An]
 have U:b<st.nk:=Aby λG=>M (r.ok b G);refine⟨EA η st.nk (.slice C7 0 0),⟨h.inv,h.defers,h.size,λp sv I=>?_,λp I=>by rw[m p.1 (r.lo p I)];exact h.base p I,(st.nk, .row (.slice C7 0 0) g (t.sz N) 0 [])::Y,?_,hsh.IP g (t.sz N),λk d=>?_,λk sr d=>?_⟩,⟨λp I=>Adz (r.lo p I),λj K=>?_,?_,λk d=>Adz (r.mC k d),r.cP⟩⟩;· refine(h.Bo p sv I).env mC λk d=>m k ?_;have:=IT.1 (IT.1 A.1 _ (A4 I)) k d;simp_all
 ·exact Aay.2 ⟨λhm=>absurd (D _ hm) (Nat.lt_irrefl _),hn⟩
 ·grind[keys]
 ·unfold An at d;simp only[Ay]at d;cases o:Hj b k with
  |true=>
   rw[o]at d;have:=AI o;cases d;rcases E b _ z with e|⟨x,h1,B,cs,e1,rfl,R⟩;· grind
   refine .inr ⟨_,by grind[A3],B,cs,by grind,rf,?_⟩;have h3:l.is C (EA η st.nk (.slice C7 0 0)) H (.agg cs.toList.toArray):=by have S:l.is C (EA η st.nk (.slice C7 0 0)) H (.agg cs):=SV.is.env mC (λj K=>m j (D1 z V j K)) R;simpa using S
   obtain⟨c,⟨u,k1,k2,_⟩,k4⟩:=Dv (cs:=cs.toList) hl h3;subst k1
   subst k2;have W:(SV.AH st.nk:SV N.T).is C (EA η st.nk (.slice C7 0 0)) H (.slice C7 0 0):=⟨by rw[AA],rfl⟩;have P:∀x∈(BZ.slice C7 0 0).cells.toList,x.oneCell'=Bp:=by rw[A_ rfl];intro x L;simp at L;subst L;rfl
   obtain⟨q1,q2⟩:=IH (v:= .slice C7 0 0) W P (by exact hs) h3;have e2:Cy cs.toList off (BZ.slice C7 0 0).cells.toList=cs.toList:=by
    rw[A_ rfl]at q2⊢;have D:off<cs.toList.length:=by simp only[Abo,Adq]at q2;omega
    rw[VJ _ _ _ D];have h0:cs.toList[off]?=Ac (.slice C7 0 0):=drop_one k4;refine Afz λj=>?_;rw[Aen];split;· rename_i e;subst e;exact h0.symm
    ·rfl
   rw[e2]at q1;omega
  |false=>
   rw[o]at d;cases z:Hj st.nk k with
   |true=>
    rw[z]at d;cases d;have:=AI z;subst this;exact .inr ⟨_,CF _ _ _,[],by rw[AA];rfl,rfl⟩
   |false=>
    rw[z]at d;have d:An CR st.O k=Ac sr:=d;rcases E k sr d with e|⟨y,y1,y2⟩;· exact .inl e
    ·have Z:Ay st.O k≠C7:=λe=>by unfold An at d;rw[e]at d;cases d
     have X:k<st.nk:=Aby λG=>Z (r.ok k G);exact .inr ⟨y,by rw[A3 (by omega)];exact y1,SR.is.env (m k X) mC (λj K=>m j (D1 d V j K)) y2⟩
 ·have K:st.nk+1<=j:=K;rw[A3 (by omega),A3 (by omega)];exact r.ok j (by omega)
 ·obtain⟨
      τ,hτ⟩:=r.wf;refine⟨τ,λp=>?_⟩;have R:=hτ p;have key:∀s:SV N.T,(∀j i off Q y,s= .Ec j i off Q y->j<st.nk)->D9 τ (An CR st.O) s->D9 τ (An CR ((b,SR.Ah F J)::(st.nk,SR.row g t [])::st.O)) s:=λs hs hv=>by
   cases s with
   |Ec j i off Q y=>
    intro g2 t' l2 f;have:=hs j i off Q y rfl;unfold An at f;simp only[Ay]at f;cases o:Hj b j with
    |true=>rw[o]at f;cases f
    |false=>
     rw[o]at f;have e:Hj st.nk j=Aj:=by
      cases T:Hj st.nk j with
      |true=>have:=AI T;omega
      |false=>rfl
     rw[e]at f;exact hv g2 t' l2 f
   |_=>exact hv
  refine key _ (λj i off Q y e=>?_) R;unfold Cu at e;cases L:Ay st.L p with
  |none=>rw[L]at e;cases e
  |some x=>
   rw[L]at e;have hm:∀k∈x.AJ,k<st.nk:=λk d=>by have:=IT.1 (IT.1 A.1 _ (A4 L)) k d;simpa using this
   cases x with
   |Cv q=>
    simp only[res]at e;rw[Aae]at e;cases hc:C[q]? with
    |none=>rw[hc]at e;cases e
    |some s0=>
     rw[hc]at e;have:=r.cP s0 (Aai hc);subst e;cases this
   |_=>cases e<;>exact hm _ (by simp[SV.AJ])
end
end
theorem XQ{l:List Nat}(h:l.Nodup):Ci l=Bp:=by
 induction l with
 |nil=>rfl
 |cons k l b=>
  rw[Aay]at h;simp only[Ci,AT,Aea,b h.2,and_true];grind[B_,absurd,AR]
def UT:List Nat->List Nat
 | []=>[]
 |k::l=>if k∈l then UT l else k::UT l
theorem HI{k:Nat} :∀ {l:List Nat},k∈UT l↔k∈l
 | []=>Iff.rfl
 |j::l=>by
  unfold UT;split;· rw[HI,Aav];grind
  ·rw[Aav,Aav,HI]
theorem Qz:∀l:List Nat,(UT l).Nodup
 | []=>Aew
 |j::l=>by
  unfold UT;split;· exact Qz l
  ·rename_i h;exact Aay.2 ⟨λb=>h (HI.1 b),Qz l⟩
section
variable {N : C9} {C : List (SV N.T)} {CR : List (SR N.T)} {n : Nat} {Of : Fm} {bs : List (Nat × BZ)} {st : St N.T} {η : Nat -> BZ} {H : Hp} {a : Act} {w : IW}
theorem Sat.conv{O:List (SV N.T)}{D:List (SR N.T)}{f:St N.T}(ρ:Nat->Nat)(h:Sat C CR n Of bs st η H a w)(hs:∀t sv,Ay f.L t=Ac sv->sv.is O (λc=>η (ρ c)) H (a.tmps.getD t undef))(hb:∀p∈bs,ρ p.1=p.1)
  (hr:∀c L,An D f.O c=Ac L->L= .gone\/∃q,An CR st.O (ρ c)=Ac q/\q≠ .gone/\∀x,q.is C η H (ρ c) x->L.is O (λc=>η (ρ c)) H c x)
  (I:∀c Q,c∈keys f.O->Q∈keys f.O->ρ c=ρ Q->c=Q) (hk:∀c∈keys f.O,c<f.nk):Sat O D n Of bs f (λc=>η (ρ c)) H a w:=by
 obtain⟨Y,hn,Z,hlt,J⟩:=h.own;let g:=(UT (keys f.O)).filter λc=>(Ay Y (ρ c)).isSome;have i:∀c∈g,c∈keys f.O:=λc hc=>HI.1 (Aaz.1 hc).1;have m:g.Nodup:=Aco.nodup (Qz _);let E:List (Nat×Ax):=g.map λc=>(c,(Ay Y (ρ c)).getD .emp);have A:keys E=g:=by show(g.map _).map _=g;rw[Aaj];exact Afi _
 have o:∀c,c∈g->∃x,Ay Y (ρ c)=Ac x/\Ay E c=Ac x:=λc hc=>by grind[Option.isSome_iff_exists,CK]
 let js:=g.map λc=>(keys Y).idxOf (ρ c);have W:∀l:List Nat,(∀c∈l,c∈g)->(l.map λc=>(keys Y).idxOf (ρ c)).filterMap ((Y.map (·.2)++Of.O)[·]?)=l.map λc=>(Ay Y (ρ c)).getD .emp:=by
  intro l;induction l with
  |nil=>simp
  |cons c l ih=>
   intro s;obtain⟨x,u,_⟩:=o c (s c (by simp));rw[Aas,Adr,(LR Of.O u).1,ih λd r=>s d (by grind),Aas,u];rfl
 have inj:∀c∈g,∀d∈g,(keys Y).idxOf (ρ c)=(keys Y).idxOf (ρ d)->c=d:=λc hc d r e=>by
  obtain⟨x,u,_⟩:=o c hc;obtain⟨y,hy,_⟩:=o d r;have R:=(Dp u);have F:(keys Y)[(keys Y).idxOf (ρ c)]?=Ac (ρ c):=by rw[IS (List.idxOf_lt_length_iff.2 R),Aer]
  grind
 have V:js.Nodup:=by
  have key:∀l:List Nat,l.Nodup->(∀c∈l,c∈g)->(l.map λc=>(keys Y).idxOf (ρ c)).Nodup:=by
   intro l;induction l with
   |nil=>intro _ _;exact Aew
   |cons c l ih=>
    intro B s;rw[Aay]at B;rw[Aas,Aay];refine⟨λhm=>?_,ih B.2 λd r=>s d (by simp[r])⟩;obtain⟨d,r,e⟩:=By.1 hm;have:=inj d (s d (by simp[r])) c (s c (by simp)) e;subst this;exact B.1 r
  exact key g m λc hc=>hc
 have K:SH w H (E.map (·.2)++Of.O):=by
  have:=SH.RR js Y.length (IT.2 λj hj=>by
   obtain⟨c,hc,rfl⟩:=By.1 hj;obtain⟨x,u,_⟩:=o c hc;simpa using(LR Of.O u).2) (XQ V) (by simp) Z;unfold GK.RR at this;rw[W g (λc hc=>hc),Afj (by simp),Aax (by simp),Ach]at this;have e:E.map (·.2)=g.map λc=>(Ay Y (ρ c)).getD .emp:=by
   rw[Aaj];rfl
  rw[e];exact this
 refine⟨h.inv,h.defers,h.size,hs,λp hp=>by rw[hb p hp];exact h.base p hp,E,by rw[A];exact m,K,λk X=>hk k (i k (by rw[<-A];exact X)),λc L hc=>?_⟩;rcases hr c L hc with e|⟨q,R,S,e3⟩;· exact .inl e
 ·rcases J (ρ c) q R with e|⟨x,F,T⟩;· exact absurd e S
  ·have U:c∈keys f.O:=by
    unfold An at hc;cases s:Ay f.O c with
    |none=>rw[s]at hc;cases hc
    |some y=>exact Dp s
   have G:c∈g:=Aaz.2 ⟨HI.2 U,by rw[F];rfl⟩;obtain⟨x',g3,g4⟩:=o c G;rw[F]at g3;cases g3;exact .inr ⟨x,g4,e3 x T⟩
end
section
variable (N : C9)
def kmS(C:List (SV N.T))(L:List (Nat×SV N.T))(l:List (Nat×SP)):List (Nat×Nat):=l.flatMap λq=>match q.2,Cu C L q.1 with
 | .AH c, .AH k=>[(c,k)]
 | .loc c _, .loc k _=>[(c,k)]
 |_,_=>[]
def kmR(C:List (SV N.T))(CR:List (SR N.T))(O:List (Nat×SR N.T))(m:List (Nat×Nat))(l:List (Nat×RP)):List (Nat×Nat):=l.flatMap λq=>match q.2,An CR O (AZ m q.1)with
 | .Ah _ c,Ac (.Ah _ b)=>kmL N C b c
 | .Ck _ _ h _,Ac (.Ck _ _ _ a _)=>[(h,a)]
 |_,_=>[]
def hoS(C:List (SV N.T))(L:List (Nat×SV N.T))(l:List (Nat×SP)):List (Nat×SV N.T):=l.flatMap λq=>match q.2 with
 | .v j _=>[(j,Cu C L q.1)]
 | .AD j _=>[(j,Cu C L q.1)]
 | .nat j=>[(j,Cu C L q.1)]
 |_=>[]
def qU(C:List (SV N.T))(CR:List (SR N.T))(O:List (Nat×SR N.T))(m:List (Nat×Nat))(l:List (Nat×RP)):List (Nat×SV N.T):=l.flatMap λq=>match q.2,An CR O (AZ m q.1)with
 | .row _ j,Ac (.row _ t x)=>[(j, .d (.sl t) x)]
 | .map _ j,Ac (.map _ a e x)=>[(j, .d (.sl (.st (.pr a e))) x)]
 | .Ck _ _ _ j,Ac (.Ck _ _ t _ x)=>[(j, .d (.sl (.pr .bool (.sl t))) x)]
 | .Ah _ c,Ac (.Ah _ b)=>qV N C b c
 |_,_=>[]
def ckS(C:List (SV N.T))(L:List (Nat×SV N.T))(m:List (Nat×Nat))(q:Nat×SP):Bool:=match q.2 with
 | .v _ _=>Bp
 | .AD _ _=>Bp
 | .nat _=>Bp
 | .c j=>match Ay L q.1 with
  |some (.Cv i)=>Hj i j
  |_=>Aj
 | .AH c=>match Cu C L q.1 with
  | .AH k=>Hj (AZ m c) k
  |_=>Aj
 | .loc c off=>match Cu C L q.1 with
  | .loc k o=>Hj (AZ m c) k&&Hj off o
  |_=>Aj
 |_=>Aj
def ckL(C:List (SV N.T))(b:SV N.T)(m:List (Nat×Nat))(q:Nat×Nat×SP):Bool:=match q.2.2 with
 | .v _ t=>match E0 N C b q.1 (Ac t)with
  |some sv=>Hj (Xq N sv) q.2.1
  |none=>Aj
 | .nat _=>match E0 N C b q.1 C7 with
  |some sv=>Hj (Xq N sv) q.2.1
  |none=>Aj
 | .c j=>match Sg N b q.1 q.2.1 with
  |some (.Cv i)=>Hj i j
  |_=>Aj
 | .AH c=>match E0 N C b q.1 C7 with
  |some (.AH k)=>Hj (AZ m c) k&&Hj q.2.1 1
  |_=>Aj
 | .mp c=>match E0 N C b q.1 C7 with
  |some (.mp k)=>Hj (AZ m c) k&&Hj q.2.1 1
  |_=>Aj
 | .AK f [] []=>match E0 N C b q.1 C7 with
  |some (.AK g .vn [])=>Hj f g&&Hj q.2.1 1
  |_=>Aj
 | .px [c] .sf=>zY N (AZ m) c (E0 N C b q.1 C7)&&Hj q.2.1 1
 |_=>Aj
def ckR(C:List (SV N.T))(CR:List (SR N.T))(O:List (Nat×SR N.T))(m:List (Nat×Nat))(q:Nat×RP):Bool:=match q.2 with
 | .row g _=>match An CR O (AZ m q.1)with
  |some (.row a _ _)=>Hj g a
  |_=>Aj
 | .Ah g d=>match An CR O (AZ m q.1)with
  |some (.Ah a b)=>Hj g a&&(whole b&&Hj (PB d) (T9 N b)&&(NS 0 d).all (ckL N C b m))
  |_=>Aj
 | .c j=>match Ay O q.1 with
  |some (.Cv i)=>Hj i j&&Hj (AZ m q.1) q.1
  |_=>Aj
 | .map g _=>match An CR O (AZ m q.1)with
  |some (.map a _ _ _)=>Hj g a
  |_=>Aj
 | .Ck g e h _=>match An CR O (AZ m q.1)with
  |some (.Ck a f _ k _)=>Hj g a&&(Hj e f&&Hj (AZ m h) k)
  |_=>Aj
def wZ(C:List (SV N.T)):List Nat:=C.flatMap λs=>match s with
 | .ct i _=>[i]
 | .cb i _=>[i]
 | .lt i _ _=>[i]
 |_=>[]
def Qf(l:List (Nat×SP)):List (Nat×Nat):=l.flatMap λq=>match q.2 with
 | .AD j i=>[(i,j)]
 |_=>[]
def ckP(C:List (SV N.T))(CR:List (SR N.T))(kb:Nat)(p:A')(m:List (Nat×Nat)):Bool:=(((p.ro.map (·.1)).all λk=>bg k p.nk)&&((CV C).all λk=>bg k p.nk&&Hj (AZ m k) k))&&((iT kb p.nk&&((a_ kb).all λk=>Hj (AZ m k) k))&&(Ci (p.ro.map λq=>AZ m q.1)&&(Ci (keys (Qf p.sl))&&(!GR (keys (Qf p.sl)) (wZ N C)&&CR.all λr=>r.AJ.all λk=>bg k p.nk&&Hj (AZ m k) k))))
def SQ(C:List (SV N.T))(CR:List (SR N.T))(kb:Nat)(p:A')(st:St N.T):Option (BJ N p.hs):=
 let b:=kmS N C st.L p.sl
 let m:=b++kmR N C CR st.O b p.ro
 match(ckP N C CR kb p m&&(p.sl.all (ckS N C st.L m)&&(p.ro.all (ckR N C CR st.O m)&&Ci ((hoS N C st.L p.sl++qU N C CR st.O m p.ro).map (·.1)))))with
 |true=>xb N C (λj=>(Ay (hoS N C st.L p.sl++qU N C CR st.O m p.ro) j).getD .no) 0 p.hs
 |false=>C7
end
section
variable {N : C9} {C : List (SV N.T)} {CR : List (SR N.T)} {n : Nat} {Of : Fm} {bs : List (Nat × BZ)} {st : St N.T} {η : Nat -> BZ} {H : Hp} {a : Act} {w : IW}
section
variable{m:List (Nat×Nat)}{j:Nat}{l:List (Nat×RP)}{O:List (Nat×SR N.T)}{c:Nat}{g:Gs}{b:SV N.T}{t:Ty}{p:A'}{x:BJ N p.hs}
theorem iv{L:List (Nat×SV N.T)}{q:Nat×SP}{l:List (Nat×SP)}(h:q∈l)(e:q.2= .nat j\/(∃t,q.2= .v j t)\/∃i,q.2= .AD j i):(j,Cu C L q.1)∈hoS N C L l:=by refine Aad.2 ⟨q,h,?_⟩;grind
theorem iw{b:Gs}{x:List (t.den N.T)}(h:(c,RP.row g j)∈l)(d:An CR O (AZ m c)=Ac (.row b t x)):(j,SV.d (.sl t) x)∈qU N C CR O m l:=
 Aad.2 ⟨_,h,by grind⟩
theorem iy{e:Gs}{b d:Ty}{x:List (b.den N.T×d.den N.T)}(h:(c,RP.map g j)∈l)(f:An CR O (AZ m c)=Ac (.map e b d x)):(j,SV.d (.sl (.st (.pr b d))) x)∈qU N C CR O m l:=
 Aad.2 ⟨_,h,by grind⟩
theorem iz{g e d b h f:Nat}{x:List (Bool×List (t.den N.T))}(i:(c,RP.Ck g e h j)∈l)(k:An CR O (AZ m c)=Ac (.Ck d b t f x)):(j,SV.d (.sl (.pr .bool (.sl t))) x)∈qU N C CR O m l:=
 Aad.2 ⟨_,i,by grind⟩
theorem Wk{d:Gs}{ls:List (Nat×SP)}(h:(c,RP.Ah g ls)∈l)(e:An CR O (AZ m c)=Ac (.Ah d b)){z:Nat×SV N.T}(f:z∈qV N C b ls):z∈qU N C CR O m l:=
 Aad.2 ⟨_,h,by grind⟩
theorem Uf{k:Nat}(h:Hj (AZ m k) k=Bp):AZ m k=k:=AI h
theorem instL_ok{R:List HT}{x:BJ N R}{b:SV N.T}{m:List (Nat×Nat)}{Hs:List (Nat×SV N.T)}{cs:List BZ}(T:dT C Hs (Ct N R x))(F:b.is C η H (.agg cs.toArray))(I:∀y∈cs,y.oneCell'=Bp)(V:∀k∈CV C,AZ m k=k):
  ∀(ls:List (Nat×SP)) (off:Nat),(∀q∈NS off ls,ckL N C b m q=Bp/\(∀j t,q.2.2= .v j t->(j,(E0 N C b q.1 (Ac t)).getD .no)∈Hs)/\∀j,q.2.2= .nat j->(j,(E0 N C b q.1 C7).getD .no)∈Hs)->off+PB ls=cs.length->
   (instL N R x ls).is C (λc=>η (AZ m c)) H (.agg (cs.drop off).toArray)
 | [],off,_,S=>by have:cs.drop off=[]:=Aax (by grind[PB]);rw[this];rfl
 |(s,p)::ls,off,W,S=>by
  have S:off+(s+PB ls)=cs.length:=S;have ih:=instL_ok T F I V ls (off+s) (λq U=>W q (Aag _ U)) (by omega);obtain⟨d,X,G⟩:=W (off,s,p) (Aau ..);have A:∀ {u:BZ},(inst N R x p).is C (λc=>η (AZ m c)) H u->u.cells.toList=(cs.drop off).take s->u.cells.toList.length=s->(instL N R x ((s,p)::ls)).is C (λc=>η (AZ m c)) H (.agg (cs.drop off).toArray):=λ{u} l h K=>by have Q:=Ld (s:=s) l K (λy Y=>I y (by grind)) ih;rw[h]at K Q;rw[<-ZG rfl K]at Q;exact Q
  unfold ckL at d;cases p with
  |v j t=>
   simp only at d;split at d
   ·rename_i sv D;have L:=AI d;obtain⟨c,r,hc⟩:=Dv D F;have e:=Cw r;obtain⟨u,l,h,_⟩:=r;have o:=X j t rfl;rw[D]at o;exact A (T.is o l) (by grind) (by grind)
   grind
  |nat j=>
   simp only at d;split at d
   ·rename_i sv D;have L:=AI d;obtain⟨c,r,hc⟩:=Dv D F;have e:=Cw r;obtain⟨u,l,h,_⟩:=r;have o:=G j rfl;rw[D]at o;have e:c.length=s:=by omega
    rw[e]at hc;exact A (T.is o l) (by rw[h,hc]) (by rw[h];exact e)
   grind
  |c j=>
   simp only at d;split at d;· rename_i i hi;have:=AI d;subst this;obtain⟨u,l,h,K⟩:=aY hi F;exact A (l.env (λk B=>by rw[V k B]) (λk B=>by cases B)) h K
   ·cases d
  |AH c=>
   simp only at d;split at d;· rename_i k B;rw[AT]at d;have O:=AI d.1;have J:=AI d.2;subst J;obtain⟨M,r,hc⟩:=Dv B F;have e:=Cw r;obtain⟨u,l,h,_⟩:=r;have e:M.length=1:=e;rw[e]at hc;exact A (u:=u) ⟨by show u=η (AZ m c);rw[O];exact l.1,l.2⟩ (by rw[h,hc]) (by rw[h];exact e)
   ·cases d
  |mp c=>
   simp only at d;split at d;· rename_i k B;rw[AT]at d;have O:=AI d.1;have J:=AI d.2;subst J;obtain⟨M,r,hc⟩:=Dv B F;have e:=Cw r;obtain⟨u,l,h,_⟩:=r;have e:M.length=1:=e;rw[e]at hc;exact A (u:=u) ⟨by show u=η (AZ m c);rw[O];exact l.1,l.2⟩ (by rw[h,hc]) (by rw[h];exact e)
   ·cases d
  |AK f fs cs=>
   cases fs with
   |cons _ _=>cases d
   |nil=>
    cases cs with
    |cons _ _=>cases d
    |nil=>
     simp only at d;split at d;· rename_i g B;rw[AT]at d;have O:=AI d.1;have J:=AI d.2;subst O;subst J;obtain⟨M,r,hc⟩:=Dv B F;have e:=Cw r;obtain⟨u,l,h,_⟩:=r;have e:M.length=1:=e;rw[e]at hc;obtain⟨us,a1,a2⟩:=l;exact A (u:=u) ⟨us,a1,a2⟩ (by rw[h,hc]) (by rw[h];exact e)
     ·cases d
  |px cs z=>
   cases z with
   |sub _ _ _=>cases cs with
    |nil=>cases d
    |cons c cs=>cases cs<;>cases d
   |hc _=>cases cs with
    |nil=>cases d
    |cons c cs=>cases cs<;>cases d
   |sf=>
    match cs,d with
    | [],d=>cases d
    | [c],d=>
     rw[AT]at d;cases B:E0 N C b off C7 with
     |none=>rw[B]at d;cases d.1
     |some s0=>
      rw[B]at d;have J:=AI d.2;subst J;obtain⟨M,r,hc⟩:=Dv B F;have e:=Cw r;obtain⟨u,l,h,_⟩:=r;obtain⟨K,Q⟩:=ZM d.1 l;rw[Q]at e;rw[e]at hc;exact A (u:=u) K (by rw[h,hc]) (by rw[h];exact e)
    |_::_::_,d=>cases d
  |_=>cases d
theorem DF{t:Nat}{sv:SV N.T}(h:Ay (FI N p x).L t=Ac sv):∃q∈p.sl,q.1=t/\sv=inst N p.hs x q.2:=by obtain⟨q,b,e⟩:=By.1 (A4 h);grind
theorem M9{kb:Nat}(h:Sat C CR n Of bs st η H a w)(hw:WF C CR bs st)(hkb:∀q∈bs,q.1<kb)(hx:SQ N C CR kb p st=Ac x):∃η',Sat C CR n Of bs (FI N p x) η' H a w/\WF C CR bs (FI N p x):=by
 unfold SQ at hx;simp only at hx;generalize hm:kmS N C st.L p.sl++kmR N C CR st.O (kmS N C st.L p.sl) p.ro=m at hx;split at hx
 ·rename_i hck;simp only[AT]at hck;obtain⟨hP,hS,hR,hN⟩:=hck;unfold ckP at hP;simp only[AT,Aea]at hP;obtain⟨⟨p1,p2⟩,⟨p3,p4⟩,p5,p6,p7,p8⟩:=hP;have hro:∀q∈p.ro,q.1<p.nk:=λq D=>by simpa using IT.1 p1 q.1 (By.2 ⟨q,D,rfl⟩)
  have V:∀k∈CV C,k<p.nk/\AZ m k=k:=λk E=>by simp_all
  have hkbp:=Abc p3;have hbase:∀k,k<kb->AZ m k=k:=λk E=>Uf (IT.1 p4 k (Abg.2 E));have hnd:=BK hN;have P:dT C (hoS N C st.L p.sl++qU N C CR st.O m p.ro) (Ct N p.hs x):=⟨λj s hj=>by
   rcases JL p.hs 0 x hx j with e|⟨Y,y,R,G⟩;· grind
   ·rw[Abm,CK hnd hj]at R;grind⟩;have Q:∀q∈p.sl,∀ {C':List (SV N.T)} {η':Nat->BZ} j,(q.2= .nat j\/(∃t,q.2= .v j t)\/∃i,q.2= .AD j i)->(Ct N p.hs x j).is C' η' H (a.tmps.getD q.1 undef):=λq D {_ _} j e=>
   P.is (AS.2 (.inl (iv D e))) (h.lk q.1);refine⟨λc=>η (AZ m c),h.conv (AZ m) (λt sv ht=>?_) (λq D=>hbase q.1 (hkb q D)) (λc sr hc=>?_) (λc c' hc hc' e=>?_) (λc hc=>?_),⟨λq D=>Abq (hkb q D) hkbp,λj hj=>?_,?_,λk E=>(V k E).1,hw.cP⟩⟩;· obtain⟨q,D,rfl,rfl⟩:=DF ht;have u:=IT.1 hS q D;unfold ckS at u;cases T:q.2 with
   |v j t=>exact Q q D j (.inr (.inl ⟨t,T⟩))
   |nat j=>exact Q q D j (.inl T)
   |AD j i=>
    have K:=Q q D (C':=C) (η':=λc=>η (AZ m c)) j (.inr (.inr ⟨i,T⟩));show(match Ct N p.hs x j with| .na n=>SV.ct i n|s=>s).is C _ H _;split;· rename_i n' e;rw[e]at K;exact K
    omega
   |c j=>
    rw[T]at u;simp only at u;split at u;· rename_i i hi;have:=AI u;subst this;exact(h.Bo q.1 _ hi).env (λk E=>by grind) (λk E=>by cases E)
    grind
   |AH c=>
    rw[T]at u;simp only at u;split at u;· rename_i k E;have e:=AI u;have K:=h.lk q.1;rw[E]at K;exact⟨by show _=η (AZ m c);rw[e];exact K.1,K.2⟩
    grind
   |loc c off=>
    rw[T]at u;simp only at u;split at u;· rename_i k o E;rw[AT]at u;have e:=AI u.1;have G:=AI u.2;subst G;have K:=h.lk q.1;rw[E]at K;obtain⟨B,b1,b2⟩:=K;exact⟨B,by show η (AZ m c)=_;rw[e];exact b1,b2⟩
    ·cases u
   |_=>rw[T]at u;cases u
  ·unfold An at hc;cases hl:Ay (FI N p x).O c with
   |none=>rw[hl]at hc;cases hc
   |some s0=>
    rw[hl]at hc;cases hc;obtain⟨q,D,e⟩:=By.1 (A4 hl);obtain⟨q1,q2⟩:=q;cases e;have r:=IT.1 hR _ D;unfold ckR at r;cases q2 with
    |row g j=>
     simp only at r;split at r
     ·rename_i g' t l J;have e:=AI r;subst e;have F:=iw (C:=C) (CR:=CR) (O:=st.O) (m:=m) D J;rcases P.ok j _ (AS.2 (.inr F))with e|⟨Y,y,R,G⟩;· left;show C6 CR (match Ct N p.hs x j with| .d (.sl t) l=>SR.row g t l|_=> .gone)=_;rw[e];rfl
      ·right;refine⟨_,J,by simp,λX M=>?_⟩;show(C6 CR (match Ct N p.hs x j with| .d (.sl t) l=>SR.row g t l|_=> .gone)).is C _ H _ X;rw[G];cases Y with
       |nat=>cases R
       |Ae th=>
        obtain⟨f,hf,e3⟩:=Pd.1 (show(Qu N.T (.sl t) th).map (· l)=Ac y from R);obtain⟨he,rfl⟩:=BB hf;have:=Adl he;subst this;cases e3;exact M
     ·cases r
    |map g j=>
     simp only at r;split at r
     ·rename_i g' kt vt l J;have e:=AI r;subst e;have F:=iy (C:=C) (CR:=CR) (O:=st.O) (m:=m) D J;rcases P.ok j _ (AS.2 (.inr F))with e|⟨Y,y,R,G⟩;· left;show C6 CR (match Ct N p.hs x j with| .d (.sl (.st (.pr kt vt))) l=>SR.map g kt vt l|_=> .gone)=_;rw[e];rfl
      ·right;refine⟨_,J,by simp,λX M=>?_⟩;show(C6 CR (match Ct N p.hs x j with| .d (.sl (.st (.pr kt vt))) l=>SR.map g kt vt l|_=> .gone)).is C _ H _ X;rw[G];cases Y with
       |nat=>cases R
       |Ae th=>
        obtain⟨f,hf,e3⟩:=Pd.1 (show(Qu N.T (.sl (.st (.pr kt vt))) th).map (· l)=Ac y from R);obtain⟨he,rfl⟩:=BB hf;have:=Adl he;subst this;cases e3;exact M
     ·cases r
    |Ck g e0 h0 j=>
     simp only at r;split at r
     ·rename_i g' e' t Y l J;simp only[AT]at r;have R:=AI r.1;have G:=AI r.2.1;have e3:=AI r.2.2;subst R;subst G;have F:=iz (C:=C) (CR:=CR) (O:=st.O) (m:=m) D J;rcases P.ok j _ (AS.2 (.inr F))with e|⟨hh,y,k1,k2⟩;· left;show C6 CR (match Ct N p.hs x j with| .d (.sl (.pr .bool (.sl t))) l=>SR.Ck g e0 t h0 l|_=> .gone)=_;rw[e];rfl
      ·right;refine⟨_,J,by simp,λX M=>?_⟩;show(C6 CR (match Ct N p.hs x j with| .d (.sl (.pr .bool (.sl t))) l=>SR.Ck g e0 t h0 l|_=> .gone)).is C _ H _ X;rw[k2];cases hh with
       |nat=>cases k1
       |Ae th=>
        obtain⟨f,hf,e3'⟩:=Pd.1 (show(Qu N.T (.sl (.pr .bool (.sl t))) th).map (· l)=Ac y from k1);obtain⟨he,rfl⟩:=BB hf;have:=Adl he;subst this;cases e3';obtain⟨xs,rs,z1,z2,z3⟩:=M;exact⟨xs,rs,z1,by show η (AZ m h0)=_;rw[e3];exact z2,z3⟩
     ·cases r
    |Ah g ls=>
     simp only at r;split at r
     ·rename_i g' b J;simp only[AT]at r;have e:=AI r.1;subst e;right;refine⟨_,J,by simp,λX M=>?_⟩;obtain⟨B,cs,b1,b2,b3⟩:=M;refine⟨B,cs,b1,b2,?_⟩;have hlen:=HU (cs:=cs.toList) r.2.1.1 b3;have:=instL_ok (η:=η) (cs:=cs.toList) P b3 (Ka r.2.1.1 b3) (λk E=>(V k E).2) ls 0 (λz W=>⟨IT.1 r.2.2 z W,λj t e=>AS.2 (.inr (Wk D J ((GH W).1 j t e))),λj e=>AS.2 (.inr (Wk D J ((GH W).2 j e)))⟩)
       (by rw[Abm,AI r.2.1.2,hlen]);simpa using this
     ·cases r
    |c j=>
     simp only at r;split at r;· rename_i i hi;rw[AT]at r;have e:=AI r.1;have G:=Uf r.2;subst e;show CR.getD i .gone= .gone\/_;cases Z:CR[i]? with
      |none=>left;rw[Aae,Z];rfl
      |some s0=>
       by_cases hs0:s0= .gone;· left;rw[Aae,Z];exact hs0
       ·right;have J:An CR st.O q1=Ac s0:=by unfold An;rw[hi];simp[C6,Aae,Z]
        refine⟨s0,by rw[G];exact J,hs0,λX M=>?_⟩;show(CR.getD i .gone).is C _ H _ X;rw[Aae,Z];have M:s0.is C η H q1 X:=by rw[G]at M;exact M
        refine SR.is.env (by show η (AZ m q1)=η q1;rw[G]) (λk E=>by show η (AZ m k)=η k;rw[(V k E).2]) (λk E=>?_) M;have:=IT.1 (IT.1 p8 s0 (Aai Z)) k E;rw[AT]at this;show η (AZ m k)=η k;rw[Uf this.2]
     ·cases r
  ·have K:=BK p5;obtain⟨q,D,rfl⟩:=By.1 hc;obtain⟨q',hq',rfl⟩:=By.1 hc';obtain⟨z,W,rfl⟩:=By.1 D;obtain⟨z',hz',rfl⟩:=By.1 hq';have:=Qd (f:=λq:Nat×RP=>AZ m q.1) K W hz' e;subst this;rfl
  ·obtain⟨q,D,rfl⟩:=By.1 hc;obtain⟨z,W,rfl⟩:=By.1 D;exact hro z W
  ·have hj:p.nk<=j:=hj;refine Cz λhm=>?_;obtain⟨q,D,rfl⟩:=By.1 hm;obtain⟨z,W,rfl⟩:=By.1 D;have:=hro z W;simp only at hj;omega
  ·obtain⟨
       τ,hτ⟩:=hw.wf;refine⟨λi=>match Ay (Qf p.sl) i with
    |some j=>(match Ct N p.hs x j with| .na n=>n|_=>0)
    |none=>τ i,λt=>?_⟩;unfold Cu;cases ht:Ay (FI N p x).L t with
   |none=>trivial
   |some sv=>
    simp only;obtain⟨q,D,rfl,rfl⟩:=DF ht;have A:∀j,EY (Ct N p.hs x j)=Bp/\R1 (Ct N p.hs x j)=Bp:=λj=>by
     rcases JL p.hs 0 x hx j with e|⟨Y,y,_,G⟩;· rw[e];exact⟨rfl,rfl⟩
     ·rw[G];cases Y<;>exact⟨rfl,rfl⟩
    have Jn:∀ {s:SV N.T},R1 s=Bp->res C s=s:=λ{s} hs=>by cases s<;>first|rfl|cases hs
    cases T:q.2 with
    |v j t=>show D9 _ _ (res C (Ct N p.hs x j));rw[Jn (A j).2];exact DC (A j).1
    |nat j=>show D9 _ _ (res C (Ct N p.hs x j));rw[Jn (A j).2];exact DC (A j).1
    |AD j i=>
     show D9 _ _ (res C (match Ct N p.hs x j with| .na n=>SV.ct i n|s=>s));have hid:Ay (Qf p.sl) i=Ac j:=CK (BK p6) (Aad.2 ⟨q,D,by rw[T];simp⟩);split;· rename_i n' e;show(match Ay (Qf p.sl) i with|some j=>(match Ct N p.hs x j with| .na n=>n|_=>0)|none=>τ i)=n';rw[hid];simp only[e]
     ·rename_i hne;rw[Jn (A j).2];exact DC (A j).1
    |c j=>
     have u:=IT.1 hS q D;unfold ckS at u;rw[T]at u;simp only at u;split at u;· rename_i i hi;have:=AI u;subst this;have S:=hτ q.1;unfold Cu at S;rw[hi]at S;show D9 _ _ (C.getD i .no);have S:D9 τ (An CR st.O) (C.getD i .no):=S;rw[Aae]at S⊢;cases Z:C[i]? with
      |none=>trivial
      |some s0=>
       rw[Z]at S;have U:=Aai Z;have hp0:=hw.cP s0 U;have nid:∀I,I∈wZ N C->Ay (Qf p.sl) I=C7:=λI hi'=>Cz λhm=>R3 p7 hm hi';simp only[Acv]at S⊢;cases s0 with
       |ct I n'=>show(match Ay (Qf p.sl) I with|some j=>_|none=>τ I)=n';rw[nid I (Aad.2 ⟨_,U,by simp⟩)];exact S
       |cb I n'=>show(match Ay (Qf p.sl) I with|some j=>_|none=>τ I)=n';rw[nid I (Aad.2 ⟨_,U,by simp⟩)];exact S
       |lt I n' m'=>show(match Ay (Qf p.sl) I with|some j=>_|none=>τ I)=n';rw[nid I (Aad.2 ⟨_,U,by simp⟩)];exact S
       |Ec k i off t y=>cases hp0
       |_=>trivial
     ·cases u
    |sv ls=>cases ls<;>trivial
    |pd j t off=>
     show D9 _ _ (res C (match Ct N p.hs x j with| .d t x=>SV.pd t x off|_=> .no));split<;>trivial
    |px ks z=>cases z with
     |sf=>trivial
     |hc _=>trivial
     |sub j n t=>
      show D9 _ _ (res C (match Ct N p.hs x j,Ct N p.hs x n with| .na i, .na m=>SV.px ks (.sub i m t)|_,_=> .px ks .any));split<;>trivial
    |_=>trivial
 grind
end
end
def clean{T:Nat->Type} :SV T->Bool
 | .Cv _=>Aj
 | .Ec _ _ _ _ _=>Aj
 | .lf _ a l=>clean a&&clean l
 | .t2 a b=>clean a&&clean b
 | .t3 a b c=>clean a&&(clean b&&clean c)
 | .AK _ l _=>clean l
 | .vc a l=>clean a&&clean l
 |_=>Bp
section
variable {N : C9} {C : List (SV N.T)} {CR : List (SR N.T)} {n : Nat} {Of : Fm} {bs : List (Nat × BZ)} {st : St N.T} {η : Nat -> BZ} {H : Hp} {a : Act} {w : IW}
section
variable{T:Nat->Type}{X:List (SV N.T)}{s:SV N.T}
theorem CB{g q:Nat->BZ->Prop} :∀ {s:SV N.T} {v:BZ},clean s=Bp->s.BS g η H v->s.BS q η H v
 | .lf s a l,v,hc,⟨o,p,u,e,i,j,k,t,A⟩=>by simp only[clean,AT]at hc;exact⟨o,p,u,e,i,CB hc.1 j,k,t,CB hc.2 A⟩
 | .t2 a b,v,hc,⟨x,y,e,i,j⟩=>by simp only[clean,AT]at hc;exact⟨x,y,e,CB hc.1 i,CB hc.2 j⟩
 | .t3 a b c,v,hc,⟨x,y,z,e,i,j,k⟩=>by simp only[clean,AT]at hc;exact⟨x,y,z,e,CB hc.1 i,CB hc.2.1 j,CB hc.2.2 k⟩
 | .AK f r B,v,hc,⟨m,e,i⟩=>⟨m,e,CB (by trivial) i⟩
 | .vn,_,_,h=>h
 | .vc a r,v,hc,⟨u,m,e,i,j⟩=>by simp only[clean,AT]at hc;exact⟨u,m,e,CB hc.1 i,CB hc.2 j⟩
 | .d _ _,_,_,h=>h
 | .na _,_,_,h=>h
 | .ct _ _,_,_,h=>h
 | .cb _ _,_,_,h=>h
 | .lt _ _ _,_,_,h=>h
 | .lb _,_,_,h=>h
 | .raw _,_,_,h=>h
 | .ud,_,_,h=>h
 | .no,_,_,h=>h
 | .loc _ _,_,_,h=>h
 | .AH _,_,_,h=>h
 | .Ec _ _ _ _ _,_,hc,_=>by cases hc
 | .pd _ _ _,_,_,h=>h
 | .mp _,_,_,h=>h
 | .nl,_,_,h=>h
 | .px _ _,_,_,h=>h
 | .Cv _,_,hc,_=>by cases hc
theorem Lk(h:clean s=Bp):RW s=Bp:=by cases s<;>first|rfl|cases h
theorem Kv{v:BZ}(h:s.is C η H v):s.is (C++X) η H v:=
 SV.BS.imp (λj v ⟨s,e,h⟩=>⟨s,by grind,h⟩) h
theorem Wh{s:SR N.T}{k:Nat}{r:Ax}(h:s.is C η H k r):s.is (C++X) η H k r:=by
 cases s with
 |Ah g l=>obtain⟨B,b,c,d,e⟩:=h;exact⟨B,b,c,d,Kv e⟩
 |row g t l=>exact h
 |Cv j=>exact h
 |gone=>exact h
 |map g f i l=>exact h
 |Ck _ _ _ _ _=>exact h
def Lz(L:List (Nat×SV N.T)):List (Nat×SP)->List (SV N.T)->List (Nat×SP)×List (SV N.T)
 | [],C=>([],C)
 |q::l,C=>match q.2 with
  | .Am=>match Ay L q.1 with
   |none=>Lz L l C
   |some (.Cv j)=>((q.1, .c j)::(Lz L l C).1,(Lz L l C).2)
   |some s=>((q.1, .c C.length)::(Lz L l (C++[s])).1,(Lz L l (C++[s])).2)
  |_=>(q::(Lz L l C).1,(Lz L l C).2)
def LA(O:List (Nat×SR N.T)):List (Nat×RP)->List (SR N.T)->List (Nat×RP)×List (SR N.T)
 | [],CR=>([],CR)
 |q::l,CR=>match q.2 with
  | .c _=>match Ay O q.1 with
   |none=>LA O l CR
   |some (.Cv j)=>((q.1, .c j)::(LA O l CR).1,(LA O l CR).2)
   |some s=>((q.1, .c CR.length)::(LA O l (CR++[s])).1,(LA O l (CR++[s])).2)
  |_=>(q::(LA O l CR).1,(LA O l CR).2)
def vu(l:List (Nat×SP)):List (Nat×SV N.T):=l.filterMap λq=>match q.2 with
 | .c j=>Ac (q.1, .Cv j)
 |_=>C7
def nH(l:List (Nat×RP)):List (Nat×SR N.T):=l.filterMap λq=>match q.2 with
 | .c j=>Ac (q.1, .Cv j)
 |_=>C7
theorem KI{L:List (Nat×SV N.T)} :∀(l:List (Nat×SP)) (C:List (SV N.T)),(∃X,(Lz L l C).2=C++X)/\∀q∈(Lz L l C).1,∀j,q.2= .c j->q∈l\/Ay L q.1=Ac (.Cv j)\/∃s,Ay L q.1=Ac s/\(Lz L l C).2[j]?=Ac s/\C.length<=j
 | [],C=>⟨⟨[],by simp[Lz]⟩,λq b=>by cases b⟩
 |p::l,C=>by
  unfold Lz;split
  ·split;· obtain⟨f,d⟩:=KI (L:=L) l C;grind
   ·obtain⟨f,d⟩:=KI (L:=L) l C;grind
   ·rename_i s u r;obtain⟨⟨X,g⟩,d⟩:=KI (L:=L) l (C++[s]);refine⟨⟨[s]++X,by grind⟩,λq b j e=>?_⟩;rcases Aav.1 b with rfl|b;· grind
    grind
  ·obtain⟨f,d⟩:=KI (L:=L) l C;grind
theorem KJ{O:List (Nat×SR N.T)} :∀(l:List (Nat×RP)) (CR:List (SR N.T)),(∀q∈l,∀j,q.2= .c j->j=0\/True)->(∃X,(LA O l CR).2=CR++X)/\∀q∈(LA O l CR).1,∀j,q.2= .c j->Ay O q.1=Ac (.Cv j)\/∃s,Ay O q.1=Ac s/\Ot s=Bp/\(LA O l CR).2[j]?=Ac s
 | [],CR,_=>⟨⟨[],by simp[LA]⟩,λq b=>by cases b⟩
 |p::l,CR,i=>by
  unfold LA;split
  ·split;
      · exact KJ l CR λ_ _ _ _=> .inr trivial
   ·obtain⟨f,d⟩:=KJ (O:=O) l CR λ_ _ _ _=> .inr trivial;grind
   ·rename_i s m i;obtain⟨⟨X,h⟩,d⟩:=KJ (O:=O) l (CR++[s]) λ_ _ _ _=> .inr trivial;refine⟨⟨[s]++X,by grind⟩,λq b j e=>?_⟩;rcases Aav.1 b with rfl|b
    ·refine .inr ⟨s,i,?_,?_⟩;· cases s with
      |Cv j=>grind
      |_=>rfl
     grind
    grind
  ·rename_i g;obtain⟨f,d⟩:=KJ (O:=O) l CR λ_ _ _ _=> .inr trivial;refine⟨f,λq b j e=>?_⟩;rcases Aav.1 b with rfl|b;· exact absurd e (g j)
   ·exact d q b j e
def Cb(CR:List (SR N.T)):SR N.T->Bool
 | .Cv j=>bg j CR.length
 |_=>Bp
def cnB(C C':List (SV N.T))(CR:List (SR N.T))(st:St N.T)(kp:List (Nat×SP)):Bool:=((C'.drop C.length).all clean&&(C'.drop C.length).all λs=>s.AJ.all λk=>bg k st.nk)&&((st.O.all λp=>Cb CR p.2)&&kp.all λq=>match q.2 with
 | .c _=>Aj
 |_=>Bp)
theorem xu{p:A'}(h:Sat C CR n Of bs st η H a w)(I:WF C CR bs st)(hb:cnB C (Lz st.L p.sl C).2 CR st p.sl=Bp):
  Sat (Lz st.L p.sl C).2 (LA st.O p.ro CR).2 n Of bs ⟨vu (Lz st.L p.sl C).1++st.L,nH (LA st.O p.ro CR).1++st.O,st.nk⟩ η H a w/\WF (Lz st.L p.sl C).2 (LA st.O p.ro CR).2 bs ⟨vu (Lz st.L p.sl C).1++st.L,nH (LA st.O p.ro CR).1++st.O,st.nk⟩:=by
 obtain⟨⟨X,K⟩,hS⟩:=KI (L:=st.L) p.sl C;obtain⟨⟨Z,hZ⟩,W⟩:=KJ (O:=st.O) p.ro CR λ_ _ _ _=> .inr trivial;unfold cnB at hb;simp only[AT]at hb;obtain⟨⟨b1,b2⟩,b3,b4⟩:=hb;generalize hC':(Lz st.L p.sl C).2=J at K hS b1 b2;generalize hCR':(LA st.O p.ro CR).2=v at hZ W;have hsl:∀q∈(Lz st.L p.sl C).1,∀j,q.2= .c j->Ay st.L q.1=Ac (.Cv j)\/∃s,Ay st.L q.1=Ac s/\J[j]?=Ac s/\C.length<=j:=λq G j e=>by grind
 have F:∀j s,J[j]?=Ac s->C.length<=j->clean s=Bp/\∀k∈s.AJ,k<st.nk:=λj s u hle=>by
  have hm:s∈J.drop C.length:=by grind[wj]
  exact⟨IT.1 b1 s hm,λk d=>by have:=IT.1 (IT.1 b2 s hm) k d;simpa using this⟩
 have D:∀s∈J,(s∈C)\/(clean s=Bp/\∀k∈s.AJ,k<st.nk):=λs m=>by
  obtain⟨j,u⟩:=List.mem_iff_getElem?.1 m;by_cases hlt:j<C.length;· grind[qb,wj]
  grind
 have P:∀t sv,Ay (vu (Lz st.L p.sl C).1++st.L) t=Ac sv->Ay st.L t=Ac sv\/∃j s,sv= .Cv j/\Ay st.L t=Ac s/\J[j]?=Ac s/\C.length<=j:=λt sv A=>by
  rw[BT]at A;cases o:Ay (vu (Lz st.L p.sl C).1:List (Nat×SV N.T)) t with
  |none=>grind
  |some x=>
   rw[o]at A;obtain⟨q,G,e⟩:=Aeq.1 (A4 o);obtain⟨R,S⟩:=q;cases S with
   |c j=>
    rcases hsl _ G j rfl with h|⟨s,b,z,E⟩;· grind
    grind
   |_=>grind
 have T:∀k B,An v (nH (LA st.O p.ro CR).1++st.O) k=Ac B->An CR st.O k=Ac B:=λk B d=>by
  have Q:∀s,Ay st.O k=Ac s->C6 v s=C6 CR s:=λs m=>by
   cases s with
   |Cv j=>
    have:=IT.1 b3 _ (A4 m);have u:j<CR.length:=by simpa [Cb]using this
    simp only[C6];rw[Aae,Aae,hZ,Pe u]
   |_=>rfl
  unfold An at d⊢;rw[BT]at d;cases o:Ay (nH (LA st.O p.ro CR).1:List (Nat×SR N.T)) k with
  |none=>
   rw[o]at d;cases m:Ay st.O k with
   |none=>rw[m]at d;cases d
   |some s=>
    rw[m]at d;show Ac (C6 CR s)=Ac B;rw[<-Q s m];exact d
  |some x=>
   rw[o]at d;obtain⟨q,G,e⟩:=Aeq.1 (A4 o);obtain⟨R,S⟩:=q;cases S with
   |c j=>
    cases e;rcases W _ G j rfl with h|⟨s,b,z,E⟩;· rw[h];show Ac (C6 CR (.Cv j))=Ac B;rw[<-Q _ h];exact d
    ·rw[b];show Ac (C6 CR s)=Ac B;rw[Jm z];simp only[C6,Aae,E,Acv]at d;exact d
   |_=>cases e
 refine⟨⟨h.inv,h.defers,h.size,λt sv A=>?_,h.base,?_⟩,⟨I.lo,λj u=>?_,?_,λk d=>?_,λs m=>?_⟩⟩
 ·rcases P t sv A with b|⟨j,s,rfl,b,z,E⟩;· rw[K];exact Kv (h.Bo t sv b)
  ·exact⟨s,z,CB (F j s z E).1 (h.Bo t s b)⟩
 ·obtain⟨Y,g1,g2,g3,g4⟩:=h.own;refine⟨Y,g1,g2,g3,λk B d=>?_⟩;rcases g4 k B (T k B d)with e|⟨x,g5,g6⟩;· exact .inl e
  ·exact .inr ⟨x,g5,by rw[K];exact Wh g6⟩
 ·rw[BT,I.ok j u];cases o:Ay (nH (LA st.O p.ro CR).1:List (Nat×SR N.T)) j with
  |none=>rfl
  |some x=>
   obtain⟨q,G,e⟩:=Aeq.1 (A4 o);obtain⟨R,S⟩:=q;cases S with
   |c j'=>
    have hn:=I.ok j u;have e1:R=j:=by cases e;rfl
    subst e1;rcases W _ G j' rfl with h|⟨s,b,_⟩;· exact absurd (h.symm.trans hn) (by simp)
    ·exact absurd (b.symm.trans hn) (by simp)
   |_=>cases e
 ·obtain⟨τ,M⟩:=I.wf;refine⟨τ,λt=>?_⟩;have key:∀s:SV N.T,RW s=Bp->D9 τ (An CR st.O) s->D9 τ (An v (nH (LA st.O p.ro CR).1++st.O)) s:=λs m U=>by
   cases s<;>first|exact U|cases m
  have r:∀s:SV N.T,D9 τ (An CR st.O) s->D9 τ (An v (nH (LA st.O p.ro CR).1++st.O)) s:=λs U=>by
   cases s with
   |Ec k i off t y=>intro g t' l o;exact U g t' l (T k _ o)
   |_=>exact U
  unfold Cu;cases A:Ay (vu (Lz st.L p.sl C).1++st.L) t with
  |none=>trivial
  |some sv=>
   simp only;rcases P t sv A with b|⟨j,s,rfl,b,z,E⟩;· have f:=M t;unfold Cu at f;rw[b]at f;have f:D9 τ (An CR st.O) (res C sv):=f;cases sv with
    |Cv j=>
     simp only[res]at f⊢;rw[Aae]at f⊢;have m:=h.Bo t _ b;obtain⟨s0,V,_⟩:=m;rw[V]at f;rw[K,Pe (No.1 V).1,V];exact r _ f
    |_=>exact r _ f
   ·simp only[res];rw[Aae,z];have f:=M t;unfold Cu at f;rw[b]at f;have hc:=(F j s z E).1;have:res C s=s:=by cases s<;>first|rfl|cases hc
    have f:D9 τ (An CR st.O) (res C s):=f;rw[this]at f;exact r _ f
 ·obtain⟨s,m,d⟩:=Aad.1 d;rcases D s m with b|⟨_,b⟩;· exact I.mC k (Aad.2 ⟨s,b,d⟩)
  ·exact b k d
 ·rcases D s m with b|⟨b,_⟩;· exact I.cP s b
  ·exact Lk b
def NJ(C:List (SV N.T))(m:Nat):SV N.T->SV N.T
 | .Cv j=>match bg j m with
  |true=> .Cv j
  |false=>match C.getD j .no with
   | .Cv _=> .no
   |s=>s
 | .lf s a l=> .lf s (NJ C m a) (NJ C m l)
 | .t2 a b=> .t2 (NJ C m a) (NJ C m b)
 | .t3 a b c=> .t3 (NJ C m a) (NJ C m b) (NJ C m c)
 | .AK f l d=> .AK f (NJ C m l) d
 | .vc a l=> .vc (NJ C m a) (NJ C m l)
 |s=>s
def wc(C:List (SV N.T))(CR:List (SR N.T))(m b:Nat):SR N.T->SR N.T
 | .Cv j=>match bg j b with
  |true=> .Cv j
  |false=>match CR.getD j .gone with
   | .Ah g l=> .Ah g (NJ C m l)
   | .Cv _=> .gone
   |s=>s
 | .Ah g l=> .Ah g (NJ C m l)
 |s=>s
def D0(C:List (SV N.T))(CR:List (SR N.T))(m b:Nat)(st:St N.T):St N.T:=⟨st.L.map λp=>(p.1,NJ C m p.2),st.O.map λp=>(p.1,wc C CR m b p.2),st.nk⟩
theorem Ex{X:List (SV N.T)} :∀ {s:SV N.T} {v:BZ},s.BS (λj v=> ∃s,(C++X)[j]?=Ac s/\SV.BS (λ_ _=>False) η H s v) η H v->(NJ (C++X) C.length s).BS (λj v=> ∃s,C[j]?=Ac s/\SV.BS (λ_ _=>False) η H s v) η H v
 | .Cv j,v,⟨s,e,h⟩=>by
  unfold NJ;split
  ·have D:j<C.length:=by simp_all
   rw[Pe D]at e;exact⟨s,e,h⟩
  ·split;· trivial
   grind[SV.BS.imp]
 | .lf s a l,v,⟨p,q,u,g,i,k,m,t,A⟩=>⟨p,q,u,g,i,Ex k,m,t,Ex A⟩
 | .t2 a b,v,⟨x,y,g,i,k⟩=>⟨x,y,g,Ex i,Ex k⟩
 | .t3 a b c,v,⟨x,y,z,g,i,k,m⟩=>⟨x,y,z,g,Ex i,Ex k,Ex m⟩
 | .AK f r F,v,⟨o,g,i⟩=>⟨o,g,Ex i⟩
 | .vn,_,h=>h
 | .vc a r,v,⟨u,o,g,i,k⟩=>⟨u,o,g,Ex i,Ex k⟩
 | .d _ _,_,h=>h
 | .na _,_,h=>h
 | .ct _ _,_,h=>h
 | .cb _ _,_,h=>h
 | .lt _ _ _,_,h=>h
 | .lb _,_,h=>h
 | .raw _,_,h=>h
 | .ud,_,h=>h
 | .no,_,h=>h
 | .loc _ _,_,h=>h
 | .AH _,_,h=>h
 | .Ec _ _ _ _ _,_,h=>h
 | .pd _ _ _,_,h=>h
 | .mp _,_,h=>h
 | .nl,_,h=>h
 | .px _ _,_,h=>h
def HP{T:Nat->Type}(m:Nat):SV T->Bool
 | .Cv j=>bg j m
 | .lf _ a l=>HP m a&&HP m l
 | .t2 a b=>HP m a&&HP m b
 | .t3 a b c=>HP m a&&(HP m b&&HP m c)
 | .AK _ l _=>HP m l
 | .vc a l=>HP m a&&HP m l
 |_=>Bp
def S'(m:Nat):SR T->Bool
 | .Ah _ l=>HP m l
 |_=>Bp
theorem DJ{X:List (SV N.T)} :∀ {s:SV N.T} {v:BZ},HP C.length s=Bp->s.BS (λj v=> ∃s,(C++X)[j]?=Ac s/\SV.BS (λ_ _=>False) η H s v) η H v->s.BS (λj v=> ∃s,C[j]?=Ac s/\SV.BS (λ_ _=>False) η H s v) η H v
 | .Cv j,v,hc,⟨s,e,h⟩=>by
  have B:j<C.length:=by simp_all[HP]
  rw[Pe B]at e;exact⟨s,e,h⟩
 | .lf s a l,v,hc,⟨p,q,u,g,i,k,m,t,A⟩=>by simp only[HP,AT]at hc;exact⟨p,q,u,g,i,DJ hc.1 k,m,t,DJ hc.2 A⟩
 | .t2 a b,v,hc,⟨x,y,g,i,k⟩=>by simp only[HP,AT]at hc;exact⟨x,y,g,DJ hc.1 i,DJ hc.2 k⟩
 | .t3 a b c,v,hc,⟨x,y,z,g,i,k,m⟩=>by simp only[HP,AT]at hc;exact⟨x,y,z,g,DJ hc.1 i,DJ hc.2.1 k,DJ hc.2.2 m⟩
 | .AK f r D,v,hc,⟨o,g,i⟩=>⟨o,g,DJ (by trivial) i⟩
 | .vn,_,_,h=>h
 | .vc a r,v,hc,⟨u,o,g,i,k⟩=>by simp only[HP,AT]at hc;exact⟨u,o,g,DJ hc.1 i,DJ hc.2 k⟩
 | .d _ _,_,_,h=>h
 | .na _,_,_,h=>h
 | .ct _ _,_,_,h=>h
 | .cb _ _,_,_,h=>h
 | .lt _ _ _,_,_,h=>h
 | .lb _,_,_,h=>h
 | .raw _,_,_,h=>h
 | .ud,_,_,h=>h
 | .no,_,_,h=>h
 | .loc _ _,_,_,h=>h
 | .AH _,_,_,h=>h
 | .Ec _ _ _ _ _,_,_,h=>h
 | .pd _ _ _,_,_,h=>h
 | .mp _,_,_,h=>h
 | .nl,_,_,h=>h
 | .px _ _,_,_,h=>h
theorem wb{X:List (SV N.T)}{Z:List (SR N.T)}(h:Sat (C++X) (CR++Z) n Of bs st η H a w)(q:WF (C++X) (CR++Z) bs st)(K:CR.all (S' C.length)=Bp):Sat C CR n Of bs (D0 (C++X) (CR++Z) C.length CR.length st) η H a w/\WF C CR bs (D0 (C++X) (CR++Z) C.length CR.length st):=by
 have R:∀k m,An CR (D0 (C++X) (CR++Z) C.length CR.length st).O k=Ac m->m= .gone\/∃s0,An (CR++Z) st.O k=Ac s0/\((m=s0/\S' C.length s0=Bp)\/∃g l,s0= .Ah g l/\m= .Ah g (NJ (C++X) C.length l)):=λk m b=>by
  unfold An D0 at b;simp only[DD (wc (C++X) (CR++Z) C.length CR.length)]at b;unfold An;cases z:Ay st.O k with
  |none=>grind
  |some s=>
   rw[z]at b;simp only[Adp,Aem]at b;cases s with
   |Ah g l=>subst b;exact .inr ⟨_,rfl, .inr ⟨g,l,rfl,rfl⟩⟩
   |row g t l=>subst b;exact .inr ⟨_,rfl, .inl ⟨rfl,rfl⟩⟩
   |map g kt vt l=>subst b;exact .inr ⟨_,rfl, .inl ⟨rfl,rfl⟩⟩
   |Ck _ _ _ _ _=>subst b;exact .inr ⟨_,rfl, .inl ⟨rfl,rfl⟩⟩
   |gone=>exact .inl b.symm
   |Cv j=>
    simp only[wc]at b;split at b
    ·have f:j<CR.length:=by simp_all
     subst b;all_goals grind[C6,qb,lr,List.all_eq_true,List.getElem_mem]
    ·split at b;· rename_i g l e;subst b;refine .inr ⟨_,rfl, .inr ⟨g,l,?_,rfl⟩⟩;trivial
     ·exact .inl b.symm
     ·have:C6 CR (CR++Z |>.getD j .gone)=(CR++Z).getD j .gone:=by
       cases M:(CR++Z).getD j .gone with
       |Cv i=>grind
       |_=>rfl
      rw[this]at b;refine .inr ⟨_,rfl, .inl ⟨b.symm,?_⟩⟩;simp only[C6];cases M:(CR++Z).getD j .gone with
      |Ah g l=>grind
      |_=>rfl
 refine⟨⟨h.inv,h.defers,h.size,λt sv A=>?_,h.base,?_⟩,⟨q.lo,λj f=>?_,?_,λk b=>q.mC k (by grind[CV]),λs v=>q.cP s (AS.2 (.inl v))⟩⟩;· have A:Ay (st.L.map λp=>(p.1,NJ (C++X) C.length p.2)) t=Ac sv:=A;rw[DD (NJ (C++X) C.length)]at A;obtain⟨s,v,rfl⟩:=Pd.1 A;exact Ex (h.Bo t s v)
 ·obtain⟨
      Y,T,U,V,W⟩:=h.own;refine⟨Y,T,U,V,λk m b=>?_⟩;rcases R k m b with e|⟨s0,u,r⟩;· exact .inl e
  ·rcases W k s0 u with e|⟨x,g5,I⟩
   ·subst e;rcases r with⟨e,_⟩|⟨g,l,e,_⟩;· exact .inl e
    ·cases e
   ·refine .inr ⟨x,g5,?_⟩;rcases r with⟨rfl,hc⟩|⟨g,l,rfl,rfl⟩;· cases m with
     |Ah g l=>
      obtain⟨B,G,D,E,F⟩:=I;exact⟨B,G,D,E,DJ hc F⟩
     |_=>exact I
    ·obtain⟨B,G,D,E,F⟩:=I;exact⟨B,G,D,E,Ex F⟩
 ·show Ay (st.O.map λp=>(p.1,wc (C++X) (CR++Z) C.length CR.length p.2)) j=C7;rw[DD (wc (C++X) (CR++Z) C.length CR.length),q.ok j f];rfl
 ·obtain⟨
      τ,Q⟩:=q.wf;refine⟨τ,λt=>?_⟩;have c:=Q t;unfold Cu at c⊢;have hm:Ay (D0 (C++X) (CR++Z) C.length CR.length st).L t=(Ay st.L t).map (NJ (C++X) C.length):=DD (NJ (C++X) C.length) st.L t;rw[hm];cases z:Ay st.L t with
  |none=>trivial
  |some s=>
   rw[z]at c;show D9 τ _ (res C (NJ (C++X) C.length s));have np:∀s:SV N.T,RW s=Bp->D9 τ (An (CR++Z) st.O) s->D9 τ (An CR (D0 (C++X) (CR++Z) C.length CR.length st).O) s:=λs v hv=>by cases s<;>first|exact hv|cases v
   cases s with
   |Cv j=>
    simp only[res]at c;rw[Aae]at c;unfold NJ;split
    ·rename_i J;have f:j<C.length:=by simpa using J
     simp only[res];rw[Pe f]at c;rw[Aae];cases hc:C[j]? with
     |none=>trivial
     |some s0=>
      rw[hc]at c;exact np s0 (q.cP s0 (AS.2 (.inl (Aai hc)))) c
    ·split;
        · trivial
     ·rename_i o;rw[Aae]at o⊢;cases hc:(C++X)[j]? with
      |none=>trivial
      |some s0=>
       rw[hc]at c o;have hr:res C s0=s0:=by
        cases s0 with
        |Cv i=>exact absurd rfl (o i)
        |_=>rfl
       show D9 τ _ (res C s0);rw[hr];exact np s0 (q.cP s0 (Aai hc)) c
   |Ec k i off te y=>
    intro S t' l' P;rcases R k _ P with e|⟨s0,u,r⟩;· cases e
    ·rcases r with⟨e,_⟩|⟨_,_,_,e⟩;· exact c S t' l' (by rw[u,<-e])
     ·cases e
   |_=>exact c
end
end
section
variable {N : C9} {C : List (SV N.T)} {CR : List (SR N.T)} {n : Nat} {Of : Fm} {bs : List (Nat × BZ)} {st : St N.T} {η : Nat -> BZ} {H : Hp} {a : Act} {w : IW}
def gW:List (Nat×SP)->SV N.T->List (SV N.T)->Option (List (Nat×SP)×(SV N.T×List (SV N.T)))
 | [],b,C=>Ac ([],(b,C))
 |(s,q)::e,b,C=>match b with
  | .lf d x r=>match Hj s d with
   |true=>match q with
    | .Am=>match x with
     | .Cv j=>(gW e r C).map λp=>((s, .c j)::p.1,(.lf d (.Cv j) p.2.1,p.2.2))
     |x=>(gW e r (C++[x])).map λp=>((s, .c C.length)::p.1,(.lf d (.Cv C.length) p.2.1,p.2.2))
    |q=>(gW e r C).map λp=>((s,q)::p.1,(.lf d x p.2.1,p.2.2))
   |false=>C7
  |_=>C7
theorem Fq:∀ {ls d:List (Nat×SP)} {b b':SV N.T} {C C':List (SV N.T)},gW ls b C=Ac (d,(b',C'))->∃X,C'=C++X
 | [],_,_,_,_,_,h=>by cases h;simp
 |(s,q)::ls,_,b,_,C,_,h=>by
  unfold gW at h;split at h
  ·split at h
   ·split at h
    ·split at h;· obtain⟨p,c,e⟩:=Pd.1 h;cases e;exact Fq c
     ·obtain⟨p,c,e⟩:=Pd.1 h;cases e;obtain⟨X,f⟩:=Fq c;exact⟨[_]++X,by rw[f,Aal]⟩
    ·obtain⟨p,c,e⟩:=Pd.1 h;cases e;exact Fq c
   grind
  grind
theorem P_{g:Nat} :∀ {ls E:List (Nat×SP)} {b b':SV N.T} {C C':List (SV N.T)} {v:BZ},gW ls b C=Ac (E,(b',C'))->((C'.drop g).all clean)=Bp->g<=C.length->b.is C η H v->b'.is C' η H v
 | [],_,_,_,_,_,_,h,_,_,B=>by cases h;omega
 |(s,q)::ls,_,b,_,C,C',v,h,hc,F,B=>by
  unfold gW at h;split at h
  ·rename_i I x r;split at h
   ·split at h
    ·split at h;· rename_i j;obtain⟨p,d,e⟩:=Pd.1 h;cases e;obtain⟨X,A⟩:=Fq d;obtain⟨f,k,u,l,m,o,t,y,z⟩:=B;exact⟨f,k,u,l,m,by rw[A];exact Kv (s:= .Cv j) o,t,y,P_ d hc F z⟩
     ·obtain⟨p,d,e⟩:=Pd.1 h;cases e;obtain⟨X,A⟩:=Fq d;obtain⟨f,k,u,l,m,o,t,y,z⟩:=B;have c:p.2.2[C.length]?=Ac x:=by simp_all
      have D:clean x=Bp:=by refine IT.1 hc x (Aai (i:=C.length-g) ?_);rw[Aft,show g+(C.length-g)=C.length by omega];exact c
      exact⟨f,k,u,l,m,⟨x,c,CB D o⟩,t,y,P_ d hc (by simp;omega) (Kv z)⟩
    ·obtain⟨p,d,e⟩:=Pd.1 h;cases e;obtain⟨X,A⟩:=Fq d;obtain⟨f,k,u,l,m,o,t,y,z⟩:=B;exact⟨f,k,u,l,m,by rw[A];exact Kv o,t,y,P_ d hc F z⟩
   grind
  grind
def klB(C C':List (SV N.T))(nk:Nat):Bool:=(C'.drop C.length).all clean&&(C'.drop C.length).all λs=>s.AJ.all λk=>bg k nk
theorem qE{k:Nat}{g:Gs}{b b':SV N.T}{ls F:List (Nat×SP)}{C':List (SV N.T)}(h:Sat C CR n Of bs st η H a w)(p:WF C CR bs st)(r:Ay st.O k=Ac (.Ah g b))(I:gW ls b C=Ac (F,(b',C')))(q:klB C C' st.nk=Bp):
  Sat C' CR n Of bs ⟨st.L,(k, .Ah g b')::st.O,st.nk⟩ η H a w/\WF C' CR bs ⟨st.L,(k, .Ah g b')::st.O,st.nk⟩:=by
 obtain⟨X,o⟩:=Fq I;unfold klB at q;rw[AT]at q;have m:∀s∈X,clean s=Bp/\∀k∈s.AJ,k<st.nk:=λs c=>by
  have J:s∈C'.drop C.length:=by grind
  exact⟨IT.1 q.1 s J,λk r=>by have:=IT.1 (IT.1 q.2 s J) k r;simp_all⟩
 have z:An CR st.O k=Ac (.Ah g b):=by unfold An;rw[r];rfl
 have hkn:k<st.nk:=Aby λA=>by rw[p.ok k A]at r;grind
 have K:∀j,An CR ((k, .Ah g b')::st.O) j=match Hj k j with|true=>Ac (.Ah g b')|false=>An CR st.O j:=λj=>by unfold An;simp only[Ay];cases Hj k j<;>rfl
 refine⟨⟨h.inv,h.defers,h.size,λt sv D=>by rw[o];exact Kv (h.Bo t sv D),h.base,?_⟩,⟨p.lo,λj d=>?_,?_,λj d=>?_,λs c=>?_⟩⟩
 ·obtain⟨Y,T,U,V,G⟩:=h.own;refine⟨Y,T,U,V,λj L d=>?_⟩;have f:An CR ((k, .Ah g b')::st.O) j=Ac L:=d;rw[K j]at f;split at f
  ·rename_i Z;have:=AI Z;subst this;cases f;rcases G k _ z with e|⟨x,u,B,M,P,Q,R⟩;· cases e
   ·exact .inr ⟨x,u,B,M,P,Q,P_ I q.1 (Aac _) R⟩
  ·exact(G j L f).imp id λ⟨x,u,W⟩=>⟨x,u,by rw[o];exact Wh W⟩
 ·have d:st.nk<=j:=d;rw[A3 (by omega)];exact p.ok j d
 ·obtain⟨τ,E⟩:=p.wf;refine⟨τ,λt=>?_⟩;have v:=E t;have e:Cu C' st.L t=Cu C st.L t:=by
   unfold Cu;cases D:Ay st.L t with
   |none=>rfl
   |some s=>
    cases s with
    |Cv j=>
     obtain⟨s0,O,_⟩:=h.Bo t _ D;simp only[res];rw[Aae,Aae,o,Pe (No.1 O).1]
    |_=>rfl
  show D9 τ (An CR ((k, .Ah g b')::st.O)) (Cu C' st.L t);rw[e];generalize Cu C st.L t=sv at v;cases sv with
  |Ec j i off te y=>
   intro S t' l' l;rw[K j]at l;split at l;· cases l
   ·exact v S t' l' l
  |_=>exact v
 ·obtain⟨s,c,d⟩:=Aad.1 d;rw[o]at c;rcases AS.1 c with c|c;· exact p.mC j (Aad.2 ⟨s,c,d⟩)
  ·exact(m s c).2 j d
 ·rw[o]at c;rcases AS.1 c with c|c;· exact p.cP s c
  ·exact Lk (m s c).1
def w7:List (Nat×SP)->Bool
 | []=>Aj
 |(_, .Am)::_=>Bp
 |_::l=>w7 l
def qD:List (Nat×RP)->List (SV N.T)->St N.T->Option (List (Nat×RP)×(St N.T×List (SV N.T)))
 | [],C,st=>Ac ([],(st,C))
 |q::l,C,st=>match q.2 with
  | .Ah g e=>match w7 e with
   |true=>match Ay st.O q.1 with
    |some (.Ah h b)=>match gW e b C with
     |some (c,(f,d))=>match klB C d st.nk with
      |true=>(qD l d ⟨st.L,(q.1, .Ah h f)::st.O,st.nk⟩).map λp=>((q.1, .Ah g c)::p.1,p.2)
      |false=>C7
     |none=>C7
    |_=>C7
   |false=>(qD l C st).map λp=>(q::p.1,p.2)
  |_=>(qD l C st).map λp=>(q::p.1,p.2)
theorem UD:∀ {l ro:List (Nat×RP)} {C C':List (SV N.T)} {st d:St N.T},qD l C st=Ac (ro,(d,C'))->Sat C CR n Of bs st η H a w->WF C CR bs st->(∃X,C'=C++X)/\Sat C' CR n Of bs d η H a w/\WF C' CR bs d
 | [],_,_,_,_,_,h,g,i=>by cases h;simp_all
 |q::l,ro,C,C',st,d,h,g,i=>by
  have f:(qD l C st).map (λp=>(q::p.1,p.2))=Ac (ro,(d,C'))->(∃X,C'=C++X)/\Sat C' CR n Of bs d η H a w/\WF C' CR bs d:=λh=>by obtain⟨⟨r,s,c⟩,j,e⟩:=Pd.1 h;cases e;exact UD j g i
  unfold qD at h;split at h
  ·split at h
   ·split at h
    ·rename_i D b y;split at h
     ·rename_i z B A k;split at h;· rename_i x;obtain⟨⟨r,s,c⟩,j,e⟩:=Pd.1 h;cases e;obtain⟨m,o⟩:=qE g i y k x;obtain⟨⟨Y,v⟩,t⟩:=UD j m o;obtain⟨X,u⟩:=Fq k;exact⟨⟨X++Y,by rw[v,u,Aal]⟩,t⟩
      ·cases h
     ·cases h
    ·cases h
   grind
  grind
end
section
variable{w:IW}{P:GQ}{g:Dn}{ps:Array Tmp}{assign b:Code}{Q:Exit->Act->IW->Prop}{a:Act}{f:FuncId}{us caps:List BZ}{H:Hp}{A O:List Ax}
abbrev EC(D:Nat):Deferred:= {target:= .collected D,args:= #[]}
abbrev BF(D:Nat):Ax:= .Ah D (.deferred (Ac []))
def R2(O:List Ax)(M:List Nat):Fm:=⟨M.map BF++O,M.map EC⟩
def K9(D:Nat)(Of:Fm):Fm:=⟨BF D::Of.O,EC D::Of.ds⟩
abbrev Bj(fn:FuncId)(tmps:Array BZ)(ps:Array Tmp)(assign body:Code)(D:Nat):Loop:= {state:= .ready,pending:=C7,fn,tmps,params:=ps,assign,body,defers:=D}
theorem Xh(m:a.eval g= .func (.func f) us.toArray caps.toArray)(d:TY P f)
  (h:∀fn,Calls P f (us++[BZ.func (.yield (w.heap.size+1)) #[] #[]]++caps).toArray ((w.alloc (.deferred (Ac []))).alloc (.loop (Bj fn a.tmps ps assign b w.heap.size))) (λe w'=> ∃v,e= .returned v/\w'.heap[w.heap.size+1]?=Ac (.loop (Bj fn a.tmps ps assign b w.heap.size))/\
   Q .normal {a with defers:=EC w.heap.size::a.defers} (w'.putObj (w.heap.size+1) (.loop {Bj fn a.tmps ps assign b w.heap.size with state:= .exhausted})))):(Alx g ps assign b).wp P Q a w:=by
 refine(wpIn_wide (n:=0)).1 (wpIn_rangeFunc λfn _=>?_);refine⟨w.heap.size+1,[EC w.heap.size],(w.alloc (.deferred (Ac []))).alloc (.loop (Bj fn a.tmps ps assign b w.heap.size)),⟨.fn (.func f) caps.toArray,us.toArray++ #[BZ.func (.yield (w.heap.size+1)) #[] #[]]⟩,(w.alloc (.deferred (Ac []))).alloc (.loop (Bj fn a.tmps ps assign b w.heap.size)),f,(us++[BZ.func (.yield (w.heap.size+1)) #[] #[]]++caps).toArray,(w.alloc (.deferred (Ac []))).alloc (.loop (Bj fn a.tmps ps assign b w.heap.size)),?_,?_,?_,?_,?_,?_⟩;· simp_all[run_enterLoop_outer]
 ·have:a.eval (.const (BZ.func (.yield (w.heap.size+1)) #[] #[]))=BZ.func (.yield (w.heap.size+1)) #[] #[]:=rfl;simp_all[resolve,rm]
 ·exact λ_ _=>trivial
 ·have:=d.run (us++[BZ.func (.yield (w.heap.size+1)) #[] #[]]++caps).toArray ((w.alloc (.deferred (Ac []))).alloc (.loop (Bj fn a.tmps ps assign b w.heap.size)));grind[invoke]
 ·trivial
 ·refine callsIn_wide.2 ((h fn).mono ?_);rintro e w' ⟨v,rfl,k,l⟩;exact⟨C7,_,by simp_all[run_endLoop],l⟩
theorem Xg(r:a.eval g= .func (.func f) us.toArray caps.toArray)(l:TY P f)
  (h:∀fn,Calls P f (us++[BZ.func (.yield (w.heap.size+1)) #[] #[]]++caps).toArray ((w.alloc (.deferred (Ac []))).alloc (.loop (Bj fn a.tmps ps assign b w.heap.size))) (λe w'=> ∃v d,e= .returned v/\w'.heap[w.heap.size+1]?=Ac (.loop d)/\d.state≠ .busy/\
   (
    match d.pending with
    |none=>Q .normal {a with defers:=EC w.heap.size::a.defers} (w'.putObj (w.heap.size+1) (.loop {d with state:= .exhausted}))
    |some c=>c.wp P Q {a with defers:=EC w.heap.size::a.defers} (w'.putObj (w.heap.size+1) (.loop {d with state:= .exhausted}))))):(Alx g ps assign b).wp P Q a w:=by
 refine(wpIn_wide (n:=0)).1 (wpIn_rangeFunc λfn _=>?_);refine⟨w.heap.size+1,[EC w.heap.size],(w.alloc (.deferred (Ac []))).alloc (.loop (Bj fn a.tmps ps assign b w.heap.size)),⟨.fn (.func f) caps.toArray,us.toArray++ #[BZ.func (.yield (w.heap.size+1)) #[] #[]]⟩,(w.alloc (.deferred (Ac []))).alloc (.loop (Bj fn a.tmps ps assign b w.heap.size)),f,(us++[BZ.func (.yield (w.heap.size+1)) #[] #[]]++caps).toArray,(w.alloc (.deferred (Ac []))).alloc (.loop (Bj fn a.tmps ps assign b w.heap.size)),?_,?_,?_,?_,?_,?_⟩;· simp_all[run_enterLoop_outer]
 ·have:a.eval (.const (BZ.func (.yield (w.heap.size+1)) #[] #[]))=BZ.func (.yield (w.heap.size+1)) #[] #[]:=rfl;simp_all[resolve,rm]
 ·exact λ_ _=>trivial
 ·have:=l.run (us++[BZ.func (.yield (w.heap.size+1)) #[] #[]]++caps).toArray ((w.alloc (.deferred (Ac []))).alloc (.loop (Bj fn a.tmps ps assign b w.heap.size)));grind[invoke]
 ·trivial
 ·refine callsIn_wide.2 ((h fn).mono ?_);rintro e w' ⟨v,d,rfl,p,q,m⟩;refine⟨d.pending,_,run_endLoop (P:=P) p q,?_⟩;obtain⟨st,s,o,y,x,aS,t,u⟩:=d;cases s with
  |none=>exact m
  |some c=>exact wpIn_wide.2 m
theorem Jp(w:IW)(b:Nat)(o:Obj):w.grownBy (w.putObj b o) (Ac b):=⟨rfl,rfl,rfl,by simp,λk _ a=>IW.putObj_heap_other (λe=>by grind)⟩
theorem Agh{b:Nat}{o:Obj}(h:SH w H (A++ .Ah b o::O))(o':Obj):SH (w.putObj b o') H (A++O):=by
 have g:(A++ .Ah b o::O)[A.length]?=Ac (.Ah b o):=by simp
 have j:w.heap[b]?=Ac o:=h.ok _ _ g;have d:b<w.heap.size:=(Adv.1 j).1;have i:=h.set g (r':= .Ah b o') (Jp w b o') (IW.putObj_heap_same d) (λc hc=> .inl hc);have f:=i.drop A.length;grind
theorem Ahd{x y:Ax}(h:SH w H (x::y::(A++O))):SH w H (A++x::y::O):=by
 refine h.pick (λi=>if i<A.length then i+2 else if i<A.length+2 then i-A.length else i) (λi r a=>?_) λi j _ _ e=>?_
 ·by_cases b:i<A.length;· simp_all[if_true,Pe,Acs]
  ·rw[Aab (by omega)]at a;simp only[b,if_false];by_cases c:i<A.length+2;· grind
   ·simp only[c,if_false];obtain⟨j,rfl⟩:∃j,i=A.length+2+j:=⟨i-(A.length+2),by omega⟩;rw[show A.length+2+j-A.length=j+2 by omega]at a;rw[show A.length+2+j=(A.length+j)+2 by omega];simp_all[Acs,Aab]
 grind
end
section
variable {N : C9} {R : Type} {P : GQ} [C3 N P] {C : List (SV N.T)} {CR : List (SR N.T)} {n : Nat} {O : List Ax} {bs : List (Nat × BZ)} {r : R}
section
variable{H:Hp}{st:St N.T}{η:Nat->BZ}{fn:Func}
def FF(l:SV N.T)(cs:List Nat):List (SV N.T):=Te l++[.no]++cs.map (λc=> .loc c 0)
def oL(C:List (SV N.T))(CR:List (SR N.T))(n:Nat)(st:St N.T)(a:List (SV N.T))(cs:List Nat)(kn:St N.T->Option R):List (PQ N)->Option R
 | []=>C7
 |q::c=>match WV C (An CR st.O) st.nk q a cs (λs b=>match Hb CR n st C7 s b with|true=>kn (app st C7 s b)|false=>C7)with
  |some z=>z
  |none=>oL C CR n st a cs kn c
def oN(Φ:Nat->Option (CQ N))(C:List (SV N.T))(CR:List (SR N.T))(n:Nat)(g:Dn)(st:St N.T)(kn:St N.T->Option R):Option R:=match Aw (Cu C st.L) g with
 | .AK f l a=>match vv l&&a.all λc=>match An CR st.O c with|some (.Ah _ _)=>Bp|_=>Aj with
  |true=>match Φ f with
   |some (.PS b)=>oL C CR n st (FF l a) a kn b
   |_=>C7
  |false=>C7
 |_=>C7
theorem fY{Φ:Nat->Option (CQ N)}(hΦ:∀f q,Φ f=Ac q->Bu P f q){g:Dn}{ps:Array Tmp}{assign d:Code}{kn:St N.T->Option R}{Of:Fm}{a:Act}{w:IW}{Q:Exit->Act->IW->Prop}
  (h:Sat C CR n Of bs st η H a w) (hw:WF C CR bs st) (o:oN Φ C CR n g st kn=Ac r)
  (hn:∀D I η' L a' w',H.le L->Sat C CR n (K9 D Of) bs I η' L a' w'->WF C CR bs I->kn I=Ac r->Q .normal a' w'):(Alx g ps assign d).wp P Q a w:=by
 unfold oN at o;split at o
 ·rename_i f l G hs;
           split at o
  ·rename_i hb;
         rw[AT]at hb;split at o;· rename_i qs hq;have hS:∀q∈qs,Cr P f q:=hΦ f _ hq;clear hq;have hg:=h.ev g;rw[hs]at hg;obtain⟨us,e,hl⟩:=hg;obtain⟨g1,g2⟩:=Nh hb.1 hl;induction qs with
    |nil=>cases o
    |cons q qs ih=>
     unfold oL at o;split at o
     ·rename_i z E;subst o;unfold WV at E;simp only at E;split at E
      ·rename_i m;simp only[AT]at m;split at E
       ·rename_i x hx;obtain⟨y,hy,E⟩:=Bi (Abs E);have W:=hS q (by simp);obtain⟨c1,c2⟩:=Nn (P:=P) (f:=f) (ex:=G) W m.2.2.1 m.2.2.2 (AI m.1) (λp hp=>by simpa using IT.1 m.2.1 p hp) hx hy (λj hj=>by unfold An;rw[hw.ok j hj]);split at E
        ·rename_i hsb;have hW:Pp C CR n st C7 ⟨(Jn q y).DP (G0 (Hk C (An CR st.O) (λi=>(FF l G).getD i .no) q.pi) q.pi.nk st.nk),q.pi.ro.map (λp=>AZ (Hk C (An CR st.O) (λi=>(FF l G).getD i .no) q.pi) p.1)++G,Pr q (G0 (Hk C (An CR st.O) (λi=>(FF l G).getD i .no) q.pi) q.pi.nk st.nk) y⟩ (st.nk+(q.po.nk-q.pi.nk)):=⟨hsb,Nat.le_add_right _ _,c2,λτ _=>VO m.2.2.2⟩;refine Xh (us:=us) (caps:=G.map η) e W.cq λfn=>?_;have hw1:SH ((w.alloc (.deferred (Ac []))).alloc (.loop (Bj fn a.tmps ps assign d w.heap.size))) H (.Ah (w.heap.size+1) (.loop (Bj fn a.tmps ps assign d w.heap.size))::BF w.heap.size::(h.own.choose.map (·.2)++Of.O)):=by
          have:=(h.own.choose_spec.2.1.alloc (.deferred (Ac []))).alloc (.loop (Bj fn a.tmps ps assign d w.heap.size));simpa using this
         have T:Sat C CR n ⟨.Ah (w.heap.size+1) (.loop (Bj fn a.tmps ps assign d w.heap.size))::BF w.heap.size::Of.O,Of.ds⟩ bs st η H a ((w.alloc (.deferred (Ac []))).alloc (.loop (Bj fn a.tmps ps assign d w.heap.size))):=
          ⟨h.inv,h.defers,h.size,h.Bo,h.base,h.own.choose,h.own.choose_spec.1,Ahd hw1,h.own.choose_spec.2.2.1,h.own.choose_spec.2.2.2⟩;refine T.stepG hw hW (goal:=Calls P f _ _ _) (K:=λv w'=>(w'.heap[w.heap.size+1]?=Ac (.loop (Bj fn a.tmps ps assign d w.heap.size))/\Q .normal {a with defers:=EC w.heap.size::a.defers} (w'.putObj (w.heap.size+1) (.loop {Bj fn a.tmps ps assign d w.heap.size with state:= .exhausted})))) (λY hn' hsh hr hf hk=>?_) λη' L v w' hle u=>?_
         ·refine c1 η H _ _ Y hn' hsh h.inv hr hf (us++[BZ.func (.yield (w.heap.size+1)) #[] #[]]++G.map η) (by simp[FF,g1]) (λi s t=>?_) _ _ (λO' R' ht U hk'=>?_) hk
          ·unfold FF at t;rw[Aal]at t⊢;by_cases c1':i<(Te l).length;· rw[Pe c1']at t;rw[Pe (by omega)];exact g2 i s t
           ·rw[Aab (by omega)]at t;rw[Aab (by omega),g1];generalize hj:i-(Te l).length=j at t⊢;cases j with
            |zero=>
             simp at t;subst t;exact⟨_,rfl,trivial⟩
            |succ j=>
             simp only[Afh,Ach,Acs,Acb]at t⊢;obtain⟨c,hc,rfl⟩:=Pd.1 t;have S:=Aai hc;have M:=IT.1 hb.2 c S;refine⟨η c,by rw[hc];rfl,?_⟩;split at M
             ·rename_i g' b hR;rcases hr c (.inl (Abz _ S)) _ hR with e|⟨X,_,B,_,b1,_⟩;· cases e
              ·exact⟨B,b1,b1⟩
             ·cases M
          ·refine(ht _ U).mono ?_;rintro e' w' ⟨v,L,O2,rfl,k2,k3,k4⟩;obtain⟨q1,q2⟩:=hk' v w' L O2 k2 k4 k3;exact⟨v,rfl,q1,q2⟩
         ·obtain⟨Z,y1,y2,y3,y4⟩:=u.own;have t:(Z.map (·.2)++Ax.Ah (w.heap.size+1) (.loop (Bj fn a.tmps ps assign d w.heap.size))::BF w.heap.size::Of.O)[(Z.map (·.2)).length]?=Ac (.Ah (w.heap.size+1) (.loop (Bj fn a.tmps ps assign d w.heap.size))):=by simp
          have hob:w'.heap[w.heap.size+1]?=Ac (.loop (Bj fn a.tmps ps assign d w.heap.size)):=y2.ok _ _ t;refine⟨hob,?_⟩;have V:=Agh (A:=Z.map (·.2)) y2 (.loop {Bj fn a.tmps ps assign d w.heap.size with state:= .exhausted});refine hn w.heap.size _ η' L _ _ hle ⟨u.inv,?_,u.size,u.Bo,u.base,Z,y1,V,y3,y4⟩ (hw.VG hW) E;show EC w.heap.size::a.defers=EC w.heap.size::Of.ds;rw[h.defers]
        ·cases E
       trivial
      grind
     grind
   grind
  grind
 grind
theorem Jw{fn:Func}{st:St N.T}{η:Nat->BZ}{H:Hp}{X:Ending->IW->Prop} :∀ {M:List Nat} {a:Act} {w:IW},Sat C CR n (R2 O M) bs st η H a w->
  (∀w',Sat C CR n (R2 O []) bs st η H {a with defers:=[]} w'->∃v,(results fn a.tmps).run P w'= .ok v w'/\X (.returned v) w')->LeavesInM qA 0 P fn a.tmps X (M.map EC) .returning w
 | [],a,w,h,k=>(λ(_:C3 N P)=>k w ⟨h.inv,rfl,h.size,h.Bo,h.base,h.own⟩) inferInstance
 |D::M,a,w,h,k=>by
  obtain⟨Y,i,j,l,m⟩:=h.own;have c:SH w H (Y.map (·.2)++Ax.Ah D (.deferred (Ac []))::(R2 O M).O):=j;have f:(Y.map (·.2)++Ax.Ah D (.deferred (Ac []))::(R2 O M).O)[(Y.map (·.2)).length]?=Ac (.Ah D (.deferred (Ac []))):=by simp
  have g:w.heap[D]?=Ac (.deferred (Ac [])):=c.ok _ _ f;refine⟨by simp, .inl ⟨D,_,rfl,run_takeDeferred g,?_⟩⟩;have e:=Agh c (.deferred C7);exact Jw (a:= {a with defers:=M.map EC}) ⟨h.inv,rfl,h.size,h.Bo,h.base,Y,i,e,l,m⟩ k
theorem TB.ofM{f:FuncId}{c:Code}{vs:List BZ}{R:BZ->Hp->List Ax->Prop}(e:P.funcs[f]?=Ac fn)(d:fn.body=Ac c)(g:fn.ntmps=n)(b:iT vs.length n=Bp)
  (h:∀a w,Fr a n (KS 0 vs)->SH w H O->c.wp P (bodyPostM qA 0 P fn (Ret H R)) a w):TB P f vs H O R:=λw i=>by
 subst g;exact(callsIn_wide (n:=0)).1 (callsIn_of_wp_marks e d trivial ((wpIn_wide (n:=0)).2 (h _ w (Fr.enter vs _ b) i)) rfl)
end
end
inductive Gh where
 |fz (t:Nat)
 |own (t:Nat) (g:Gs) (te:Ty)
 |M5 (t off:Nat)
 |Ey (t off:Nat) (g:Gs) (te:Ty)
 |fm (t:Nat) (e:Gs)
structure Cx(N:C9)where
 P:GQ
 Φ:Nat->Option (CQ N)
 la:Nat->Option A'
 jn:Nat->Option A'
 pre:Nat->List Gh
 post:Nat->List Gh
 kb:Nat
 n:Nat
 ct:Nat->Nat:=λ_=>0
def Lw:Code->Option Nat
 | .region i _ _=>Ac i
 | .seq a b=>match Lw a with
  |some i=>Ac i
  |none=>Lw b
 | .cond _ a b=>match Lw a with
  |some i=>Ac i
  |none=>Lw b
 | .block _ a=>Lw a
 | .loop a=>Lw a
 | .scope a=>Lw a
 | .rangeFunc _ _ a b=>match Lw a with
  |some i=>Ac i
  |none=>Lw b
 |_=>C7
section
variable {N : C9} {R : Type}
def Qi(C:List (SV N.T))(CR:List (SR N.T)):List Gh->St N.T->(St N.T->Option R)->Option R
 | [],st,k=>k st
 | .fz t::l,st,k=>match Cu C st.L t with
  | .AH j=>match An CR st.O j with
   |some (.row _ a c)=>Qi C CR l (JM j a c st) k
   |some (.Ck _ _ a _ c)=>Ag (c.all (·.1)=Bp) (Qi C CR l (JM j (.sl a) (c.map (·.2)) st) k)
   |_=>C7
  | .d _ _=>Qi C CR l st k
  |_=>C7
 | .own t g a::l,st,k=>match Cu C st.L t with
  | .AH _=>Qi C CR l st k
  | .raw (.slice C7 0 0)=>match C0 CR st st.nk with
   |true=>Qi C CR l ⟨(t, .AH st.nk)::st.L,(st.nk, .row g a [])::st.O,st.nk+1⟩ k
   |false=>C7
  |_=>C7
 | .M5 t off::l,st,k=>match Cu C st.L t with
  | .loc b _=>match An CR st.O b with
   |some (.Ah _ x)=>match E0 N C x off C7 with
    |some (.AH j)=>match An CR st.O j with
     |some (.row _ a c)=>Qi C CR l (JM j a c st) k
     |_=>C7
    |_=>C7
   |_=>C7
  |_=>C7
 | .Ey t off g a::l,st,k=>match Cu C st.L t with
  | .loc b _=>match An CR st.O b with
   |some (.Ah i x)=>match E0 N C x off C7,C0 CR st st.nk,fc N C 64 x off 1 (.AH st.nk)with
    |some (.raw (.slice C7 0 0)),Bp,Ac m=>Qi C CR l ⟨st.L,(b, .Ah i m)::(st.nk, .row g a [])::st.O,st.nk+1⟩ k
    |_,_,_=>C7
   |_=>C7
  |_=>C7
 | .fm t e::l,st,k=>match Cu C st.L t with
  | .AH b=>match An CR st.O b,C0 CR st st.nk with
   |some (.row g (.sl a) c),Bp=>Qi C CR l ⟨st.L,(b, .Ck g e a st.nk (Uh c.length (Aj,[])))::(st.nk, .gone)::st.O,st.nk+1⟩ k
   |_,_=>C7
  |_=>C7
variable {P : GQ} [C3 N P] {C : List (SV N.T)} {CR : List (SR N.T)} {n : Nat} {Of : Fm} {O : List Ax} {bs : List (Nat × BZ)} {r : R}
theorem FH{a:Act}{w:IW}{k:St N.T->Option R}{X:Prop} :∀ {l:List Gh} {st:St N.T} {η:Nat->BZ} {H:Hp},Sat C CR n Of bs st η H a w->WF C CR bs st->Qi C CR l st k=Ac r->
  (∀c η' u,H.le u->Sat C CR n Of bs c η' u a w->WF C CR bs c->k c=Ac r->X)->X
 | [],st,η,H,h,f,b,d=>d st η H (Hp.le.refl H) h f b
 | .fz t::l,st,η,H,h,f,b,d=>by
  unfold Qi at b;split at b
  ·split at b;· rename_i g s D m;obtain⟨u,A,o,p⟩:=SD h f m;exact FH o p b λc η' i q v y z=>d c η' i (A.trans q) v y z
   ·rename_i g J s Q D m;obtain⟨hc,b⟩:=AF b;obtain⟨u,A,o,p⟩:=qY h f m hc;exact FH o p b λc η' i q v y z=>d c η' i (A.trans q) v y z
   grind
  ·exact FH h f b d
  grind
 | .own t g s::l,st,η,H,h,f,b,d=>by
  unfold Qi at b;split at b;· exact FH h f b d
  ·rename_i e;split at b;· rename_i m;obtain⟨η',o,p⟩:=oU (g:=g) (t:=s) h f m e;exact FH o p b d
   ·cases b
  grind
 | .M5 t off::l,st,η,H,h,f,b,d=>by
  unfold Qi at b;split at b
  ·split at b
   ·split at b
    ·split at b;· rename_i g s D m;obtain⟨u,A,o,p⟩:=SD h f m;exact FH o p b λc η' i q v y z=>d c η' i (A.trans q) v y z
     ·cases b
    ·cases b
   ·cases b
  ·cases b
 | .Ey t off g s::l,st,η,H,h,f,b,d=>by
  unfold Qi at b;split at b
  ·split at b
   ·rename_i M x I;split at b;· rename_i S B m F;obtain⟨η',o,p⟩:=gr (g:=g) (t:=s) h f m I B F rfl;exact FH o p b d
    ·cases b
   ·cases b
  ·cases b
 | .fm t e::l,st,η,H,h,f,b,d=>by
  unfold Qi at b;split at b
  ·split at b;· rename_i g s D B m;obtain⟨η',o,p⟩:=xf (e:=e) h f m B;exact FH o p b d
   ·cases b
  ·cases b
def xv(C:List (SV N.T))(st:St N.T)(p:A'):List (SV N.T):=(Lz st.L p.sl C).2
def i_(CR:List (SR N.T))(st:St N.T)(p:A'):List (SR N.T):=(LA st.O p.ro CR).2
def rH(C:List (SV N.T))(CR:List (SR N.T))(st:St N.T)(p:A'):St N.T:=⟨vu (Lz st.L p.sl C).1++st.L,nH (LA st.O p.ro CR).1++st.O,st.nk⟩
def cnK(C:List (SV N.T))(CR:List (SR N.T))(st:St N.T)(p:A'):Bool:=cnB C (xv C st p) CR st p.sl&&CR.all (S' C.length)
structure Kc(T:Nat->Type)where
 sl:List (Nat×SP)
 ro:List (Nat×RP)
 C:List (SV T)
 CR:List (SR T)
 st:St T
section
variable{H:Hp}{st:St N.T}{η:Nat->BZ}{a:Act}{w:IW}{p:A'}{C':List (SV N.T)}{b:List (SR N.T)}{G:Hp->Fm->R->Prop}{k:St N.T->Option R}{Q:Act->IW->Prop}
def wR(C:List (SV N.T))(CR:List (SR N.T))(st:St N.T)(p:A'):Option (Kc N.T):=match qD p.ro C st with
 |some (b,(a,c))=>match cnK c CR a ⟨p.hs,p.sl,b,p.nk⟩&&CR.all (S' C.length)with
  |true=>Ac ⟨(Lz a.L p.sl c).1,(LA a.O b CR).1,xv c a ⟨p.hs,p.sl,b,p.nk⟩,i_ CR a ⟨p.hs,p.sl,b,p.nk⟩,rH c CR a ⟨p.hs,p.sl,b,p.nk⟩⟩
  |false=>C7
 |none=>C7
def GS(p:A')(q:Kc N.T):A':=⟨p.hs,q.sl,q.ro,p.nk⟩
theorem rG(h:Sat C CR n Of bs st η H a w)(c:WF C CR bs st)(b:cnK C CR st p=Bp):
  (∃X,xv C st p=C++X)/\(∃Z,i_ CR st p=CR++Z)/\CR.all (S' C.length)=Bp/\Sat (xv C st p) (i_ CR st p) n Of bs (rH C CR st p) η H a w/\WF (xv C st p) (i_ CR st p) bs (rH C CR st p):=by
 unfold cnK at b;rw[AT]at b;exact⟨(KI p.sl C).1,(KJ p.ro CR λ_ _ _ _=> .inr trivial).1,b.2,xu h c b.1⟩
theorem ZW(d:∃X,C'=C++X)(e:∃Z,b=CR++Z)(c:CR.all (S' C.length)=Bp)(h:Sat C' b n Of bs st η H a w)(f:WF C' b bs st):
  Sat C CR n Of bs (D0 C' b C.length CR.length st) η H a w/\WF C CR bs (D0 C' b C.length CR.length st):=by
 grind[wb]
theorem UE{q:Kc N.T}(h:Sat C CR n Of bs st η H a w)(m:WF C CR bs st)(b:wR C CR st p=Ac q):
  (∃X,q.C=C++X)/\(∃Z,q.CR=CR++Z)/\CR.all (S' C.length)=Bp/\Sat q.C q.CR n Of bs q.st η H a w/\WF q.C q.CR bs q.st:=by
 unfold wR at b;split at b
 ·rename_i t o s l;split at b;· rename_i hc;cases b;rw[AT]at hc;obtain⟨⟨X,k⟩,i,j⟩:=UD l h m;obtain⟨⟨c,d⟩,e,_,f,g⟩:=rG i j hc.1;simp_all
  grind
 grind
def Kn(C:List (SV N.T))(CR:List (SR N.T))(n:Nat)(G:Hp->Fm->R->Prop)(bs:List (Nat×BZ))(H:Hp)(k:St N.T->Option R)(Q:Act->IW->Prop):Prop:= ∀Of r st η b a w,H.le b->G b Of r->Sat C CR n Of bs st η b a w->WF C CR bs st->k st=Ac r->Q a w
theorem Kn.le{d:Hp}(h:Kn C CR n G bs H k Q)(c:H.le d):Kn C CR n G bs d k Q:=λOf r st η b a w e=>h Of r st η b a w (c.trans e)
theorem Kn.rs(l:∃X,C'=C++X)(m:∃Z,b=CR++Z)(c:CR.all (S' C.length)=Bp)(h:Kn C CR n G bs H k Q):
  Kn C' b n G bs H (λs=>k (D0 C' b C.length CR.length s)) Q:=λOf r st η d a w p o g i j=>by
 obtain⟨e,f⟩:=ZW l m c g i;exact h Of r _ η d a w p o e f j
end
end
section
variable {N : C9} {C : List (SV N.T)} {CR : List (SR N.T)} {n : Nat} {Of : Fm} {bs : List (Nat × BZ)} {st : St N.T} {η : Nat -> BZ} {H : Hp} {a : Act} {w : IW}
section
variable{T:Nat->Type}{Hs:List (Nat×SV N.T)}{m:List (Nat×Nat)}{b:List HT}{x:BJ N b}{t:Ty}{v:t.den N.T}{ρ:Nat->Nat}{A:Nat->SV N.T}{q:A'}{O:List (Nat×SR N.T)}
def kp1:SV T->SV T->Bool
 | .AH k, .AH j=>Hj k j
 | .mp k, .mp j=>Hj k j
 | .AK f .vn c, .AK g .vn b=>Hj f g&&Np c b
 | .px c .sf, .px b .sf=>Np c b
 |_,_=>Aj
theorem qC{T:Nat->Type}{a b:SV T}(h:kp1 a b=Bp):a=b:=by
 unfold kp1 at h;split at h;· simp_all
 ·simp_all
 ·grind[ba,FA]
 all_goals grind[FA]
def kpV(p:SP)(a b:SV T):Bool:=match p with
 | .v _ t=>match a,b with
  | .d _ _, .d c _=>c.JR t
  |_,_=>Aj
 |_=>kp1 a b
def kpL{T:Nat->Type} :List (Nat×SP)->SV T->SV T->Bool
 | [], .nl, .nl=>Bp
 |(s,p)::c, .lf n a l, .lf m b r=>Hj s m&&(Hj n m&&(bg 0 m&&(kpV p a b&&kpL c l r)))
 |_,_,_=>Aj
def wQ(p:RP)(a b:SR T):Bool:=match p,a,b with
 | .row _ _, .row c _ _, .row d _ _=>Hj c d
 | .Ah _ e, .Ah c a, .Ah d b=>Hj c d&&kpL e a b
 |_,_,_=>Aj
theorem RK(i:dT C Hs (Ct N b x)){j:Nat}(o:(j,SV.d t v)∈Hs):Ct N b x j= .no\/(∃k,Ct N b x j= .na k)\/Ct N b x j= .d t v:=by
 rcases i.ok j _ o with e|⟨h,y,c,g⟩;· grind
 ·cases h with
  |nat=>trivial
  |Ae t2=>
   have c:fj N t2 (.d t v)=Ac y:=c;obtain⟨f,m,rfl⟩:=Pd.1 c;obtain⟨l,rfl⟩:=BB m;have e:=Adl l;subst e;exact .inr (.inr g)
theorem qy{t2:Ty}{m:Nat}{r:SV N.T}(g:bg 0 m=Bp)(b:t.JR t2=Bp):E0 N C (.lf m (.d t v) r) 0 (Ac t2)=Ac (.d t v):=by
 have e:=Adl b;subst e;have c:Fj N 16 t v 0 t=Ac v:=by unfold Fj Qu;rw[dif_pos b];rfl
 grind[E0,Hj,PV,res,Fj]
theorem qx{s:Nat}{a l:SV N.T}{o:Nat}{b:Option Ty} :E0 N C (.lf s a l) (s+o) b=E0 N C l o b:=by
 have h:bg (s+o) s=Aj:=by
  cases c:bg (s+o) s with
  |false=>rfl
  |true=>
   have:s+o<s:=by simp_all
   omega
 simp_all[E0]
theorem bn{g:List HT}{x:BJ N g}{Hs:List (Nat×SV N.T)}{b:SV N.T}{ρ:Nat->Nat}(A:dT C Hs (Ct N g x)):∀(ls:List (Nat×SP)) (off:Nat) (f:SV N.T),(∀o i,E0 N C b (off+o) i=E0 N C f o i)->(∀q∈NS off ls,∀j t,q.2.2= .v j t->(j,(E0 N C b q.1 (Ac t)).getD .no)∈Hs)->kpL ls ((instL N g x ls).DP ρ) f=Bp->(instL N g x ls).DP ρ=f
 | [],_,f,_,_,h=>by
  cases f with
  |nl=>rfl
  |_=>cases h
 |(s,p)::ls,off,f,D,E,h=>by
  cases f with
  |lf m d r=>
   have h:(Hj s m&&(Hj s m&&(bg 0 m&&(kpV p ((inst N g x p).DP ρ) d&&kpL ls ((instL N g x ls).DP ρ) r))))=Bp:=h;simp only[AT]at h;obtain⟨e,_,G,u,I⟩:=h;have e:=AI e;subst e;have K:=bn (Hs:=Hs) (b:=b) (ρ:=ρ) A ls (off+s) r (λo i=>by rw[Adt,D,qx]) (λq y=>E q (Aag _ y)) I;have J:(inst N g x p).DP ρ=d:=by
    unfold kpV at u;split at u
    ·rename_i j t;split at u
     ·rename_i L M t2 O l;have B:=E (off,s, .v j t) (Aau ..) j t rfl;have F:E0 N C b off (Ac t)=Ac (.d t2 O):=by
       rw[show off=off+0 from rfl,D];exact qy G u
      rw[F]at B;have l:(Ct N g x j).DP ρ= .d L M:=l;rcases RK A B with e|⟨k,e⟩|e;· rw[e]at l;cases l
      ·rw[e]at l;cases l
      ·show(Ct N g x j).DP ρ=_;rw[e];rfl
     grind
    grind[qC]
   show SV.lf s ((inst N g x p).DP ρ) ((instL N g x ls).DP ρ)=_;grind
  |_=>cases h
theorem qB{i:List HT}{x:BJ N i}(v:dT C Hs (Ct N i x)){p:RP}{f:SR N.T}(h1:∀g j r t l,p= .row g j->f= .row r t l->(j,SV.d (.sl t) l)∈Hs)(h2:∀g ls r b,p= .Ah g ls->f= .Ah r b->∀z∈qV N C b ls,z∈Hs)(h:wQ p ((instR N i x p).DP ρ) f=Bp):(instR N i x p).DP ρ=f:=by
 unfold wQ at h;split at h
 ·rename_i g j s F D u t2 E e;have A:=h1 g j u t2 E rfl rfl;have e:(match Ct N i x j with
   | .d (.sl t) l=>SR.row g t l
   |_=> .gone:SR N.T).DP ρ= .row s F D:=e;show(match Ct N i x j with
   | .d (.sl t) l=>SR.row g t l
   |_=> .gone:SR N.T).DP ρ=_;rcases RK v A with m|⟨k,m⟩|m;· rw[m]at e;cases e
  ·rw[m]at e;cases e
  ·rw[m]at e⊢;cases e;rw[<-AI h];rfl
 ·rename_i g ls s a u b e;rw[AT]at h;have e:SR.Ah g ((instL N i x ls).DP ρ)= .Ah s a:=e;cases e;have:=bn (Hs:=Hs) (b:=b) (ρ:=ρ) v ls 0 b (λo y=>by simp) (λq B j t e=>h2 g ls u b rfl rfl _ ((GH B).1 j t e)) h.2;simp_all
 grind
theorem cm{Rr:Nat->Option (SR N.T)}{x:BJ N q.hs}(d:JS C Rr A m q=Ac x):dT C (ff C A q.sl++fg C Rr m q.ro) (Ct N q.hs x):=by
 unfold JS at d;split at d;· rename_i b;simp only[AT]at b;obtain⟨l,p,o,i⟩:=b;have c:=BK i;exact⟨λj s k=>by
  rcases JL q.hs 0 x d j with e|⟨h,y,f,g⟩;· grind
  ·refine .inr ⟨h,y,?_,g⟩;rw[Abm,CK c k]at f;exact f⟩
 grind
def Zh(CR:List (SR N.T))(b:List HT)(x:BJ N b)(m:List (Nat×Nat))(O:List (Nat×SR N.T)):List (Nat×RP)->List (Nat×SR N.T)
 | []=>[]
 |p::l=>match Ay O (AZ m p.1)with
  |some (.Cv j)=>match wQ p.2 ((instR N b x p.2).DP (AZ m)) (C6 CR (.Cv j))with
   |true=>(AZ m p.1, .Cv j)::Zh CR b x m O l
   |false=>Zh CR b x m O l
  |_=>Zh CR b x m O l
def U1(l:List (Nat×SR N.T))(st:St N.T):St N.T:=⟨st.L,l++st.O,st.nk⟩
theorem QM{b:List HT}{x:BJ N b}{m:List (Nat×Nat)}{O:List (Nat×SR N.T)} :∀ {l:List (Nat×RP)} {z:Nat×SR N.T},z∈Zh CR b x m O l->∃p∈l,z.1=AZ m p.1/\Ay O z.1=Ac z.2/\wQ p.2 ((instR N b x p.2).DP (AZ m)) (C6 CR z.2)=Bp
 | [],z,h=>by cases h
 |p::l,z,h=>by
  unfold Zh at h;have d:z∈Zh CR b x m O l->∃c∈p::l,z.1=AZ m c.1/\Ay O z.1=Ac z.2/\wQ c.2 ((instR N b x c.2).DP (AZ m)) (C6 CR z.2)=Bp:=λh=>by obtain⟨c,f,g⟩:=QM h;grind
  grind
theorem xB{x:BJ N q.hs}(G:JS C (An CR O) A m q=Ac x)(r:(q.ro.map λp=>AZ m p.1).Nodup)(k:Nat):An CR (Zh CR q.hs x m O q.ro++((q.ro.map λp=>(AZ m p.1,(instR N q.hs x p.2).DP (AZ m)))++O)) k=An CR ((q.ro.map λp=>(AZ m p.1,(instR N q.hs x p.2).DP (AZ m)))++O) k:=by
 have s:=cm G;cases o:Ay (Zh CR q.hs x m O q.ro) k with
 |none=>grind[An,BT]
 |some v=>
  obtain⟨p,u,e,y,B⟩:=QM (A4 o);have e:k=AZ m p.1:=e;have d:An CR O (AZ m p.1)=Ac (C6 CR v):=by grind[An]
  have key:=qB (ρ:=AZ m) s (λg j D t l i h=>Abz _ (Aad.2 ⟨p,u,by simp_all⟩)) (λg J D b i h z I=>Abz _ (Aad.2 ⟨p,u,by rw[i,d,h];exact I⟩)) B;have F:Ay ((q.ro.map λp=>(AZ m p.1,(instR N q.hs x p.2).DP (AZ m)))++O) k=Ac ((instR N q.hs x p.2).DP (AZ m)):=by
   have E:Ay (q.ro.map λp=>(AZ m p.1,(instR N q.hs x p.2).DP (AZ m))) k=Ac ((instR N q.hs x p.2).DP (AZ m)):=by rw[e];exact CK (by unfold keys;rw[Aaj];exact r) (By.2 ⟨p,u,rfl⟩)
   rw[BT,E]
  unfold An;rw[BT,o,F,key];show Ac (C6 CR v)=Ac (C6 CR (C6 CR v));rw[<-key];cases instR N q.hs x p.2<;>rfl
theorem xC{l:List (Nat×SR N.T)}(h:Sat C CR n Of bs st η H a w)(b:WF C CR bs st)(q:∀k,An CR (l++st.O) k=An CR st.O k)(p:∀z∈l,z.1<st.nk):Sat C CR n Of bs (U1 l st) η H a w/\WF C CR bs (U1 l st):=by
 have e:An CR (U1 l st).O=An CR st.O:=funext q;refine⟨⟨h.inv,h.defers,h.size,h.Bo,h.base,?_⟩,⟨b.lo,λj d=>?_,?_,b.mC,b.cP⟩⟩;· obtain⟨Y,g,i,m,o⟩:=h.own;exact⟨Y,g,i,m,λk r f=>o k r (by simp_all)⟩
 ·show Ay (l++st.O) j=C7;rw[BT];cases c:Ay l j with
  |none=>exact b.ok j d
  |some v=>exact absurd (p _ (A4 c)) (Nat.not_lt.2 d)
 ·rw[e];exact b.wf
end
end
section
variable{ro:Option Nat}{n:Nat}{P:GQ}{w:IW}{f:FuncId}{vs:Array BZ}{R:Ending->IW->Prop}{o:K_}
abbrev FR:Option Nat->Fence
 |none=>qA
 |some l=>qA.inRound l
theorem Xa(ro:Option Nat)(f:FuncId):(FR ro).fn f:=by cases ro<;>trivial
theorem dY(h:Calls P f vs w R):CallsIn (FR ro) n P f vs w R:=by
 cases ro with
 |none=>grind[callsIn_wide]
 |some l=>exact(callsIn_wide (n:=n)).2 h
theorem jM{s:String}{R:BZ->IW->Prop}(h:Rows P s vs w R):RowsIn (FR ro) n P s vs w R:=λc a _=>by
 obtain⟨v,e,b,d⟩:=h c a;refine⟨v,e,b,?_⟩;cases ro with
 |none=>grind[stepsIn_wide]
 |some l=>exact stepsIn_wide.2 d
theorem dW{l:Nat}{b:Array BZ}{d a:Code}(h:RoundIn qA 0 P l f b d a w R):RoundIn (FR ro) n P l f b d a w R:=by refine⟨Xa ro f,λc e _=>?_⟩;have:=h.2 c e (room_wide _);cases ro<;>exact this
theorem dX(ro:Option Nat):(FR ro).depth=C7:=by cases ro<;>rfl
theorem sX:(FR ro).depth.isSome=Bp->1<=n:=λh=>by grind[dX]
def V1(o:K_):Bool:=match o.op with
 | .defer _=>Aj
 |_=>Bp
theorem aD(h:V1 o=Bp):∀c,o.op≠ .defer c:=λc e=>by grind[V1]
theorem Agz{a:Act}{K:Act->IW->Prop}{Q:Exit->Act->IW->Prop}(b:V1 o=Bp)(h:o.wp P a w K Q):o.wpIn (FR ro) 0 P a w K Q:=by
 refine⟨λf _=>Xa ro f,?_⟩;rw[K_.semAt_eq _ _ _ (aD b)];unfold K_.wp at h;revert h;generalize(Kt a.eval o).run P w=z;intro h;unfold K_.upon at h;split at h;· exact h
 ·exact h
 ·exact h
 ·exact⟨sX,dY h⟩
 ·exact⟨sX,jM h⟩
 all_goals trivial
end
section
variable {N : C9} {R : Type}
structure YL(N:C9)(R:Type)where
 ky:Nat
 f:List (SV N.T)->List (SV N.T)->(Bool->Option R)->Option R
 ag:R->R->Option R:=λ_ _=>C7
 nR:∀a b r,ag a b=Ac r->a=r/\b=r:=by intros;contradiction
section
variable{α:Type}{P:GQ}{Y:List (Nat×Ax)}{x:α}{T:Nat->Type}{C:List (SV N.T)}{a:Act}{yv:BZ}{H:Hp}{η:Nat->BZ}{o:K_}{cs:List Nat}{g:Nat->Nat}
def agE[DecidableEq α](x y:α):Bool:=Di (x=y)
theorem U7[DecidableEq α]{y:α}(h:agE x y=Bp):x=y:=of_decide_eq_true h
def agN:List α->List α->Bool
 | [],[]=>Bp
 |_,_=>Aj
theorem sO:∀ {x y:List α},agN x y=Bp->x=y
 | [],[],_=>rfl
 | [],_::_,h=>by cases h
 |_::_,_,h=>by cases h
def agT:(t:Ty)->t.den T->t.den T->Bool
 | .int _,x,y=>agE (α:=Int) x y
 | .bool,x,y=>agE (α:=Bool) x y
 | .str,x,y=>agE (α:=Aq) x y
 | .sl t,x,y=>agN (α:=t.den T) x y
 |_,_,_=>Aj
theorem sN:∀ {t:Ty} {x y:t.den T},agT t x y=Bp->x=y
 | .int _,_,_,h=>U7 (α:=Int) h
 | .bool,_,_,h=>U7 (α:=Bool) h
 | .str,_,_,h=>U7 (α:=Aq) h
 | .sl _,_,_,h=>sO h
 | .st _,_,_,h=>by cases h
 | .pr _ _,_,_,h=>by cases h
 | .un,_,_,h=>by rfl
 | .bs,_,_,h=>by cases h
 | .nm _,_,_,h=>by cases h
 | .ar _ _,_,_,h=>by cases h
def agH:(h:HT)->h.den N->h.den N->Bool
 | .Ae t,x,y=>agT t x y
 | .nat,x,y=>Hj x y
theorem dL:∀ {h:HT} {x y:h.den N},agH h x y=Bp->x=y
 | .Ae t,_,_,h=>sN (t:=t) h
 | .nat,_,_,h=>AI h
def agP:(a:List HT)->BJ N a->BJ N a->Bool
 | [],_,_=>Bp
 | [t],x,y=>agH t x y
 |t::u::ts,x,y=>agH t x.1 y.1&&agP (u::ts) x.2 y.2
theorem dJ:∀ {a:List HT} {x y:BJ N a},agP a x y=Bp->x=y
 | [],_,_,_=>rfl
 | [_],_,_,h=>dL h
 |t::u::b,(x,c),(y,d),h=>by have h:(agH t x y&&agP (u::b) c d)=Bp:=h;rw[AT]at h;rw[dL h.1,dJ h.2]
def agO(b:Bool)(x:α):Option α:=match b with
 |true=>Ac x
 |false=>C7
theorem Nu{b:Bool}{r:α}(h:agO b x=Ac r):b=Bp/\x=r:=by cases b<;>cases h;simp
def noP(b:List HT):YL N (BJ N b):= {ky:=0,f:=λ_ _ _=>C7,ag:=λx y=>agO (agP b x y) x,nR:=λ_ _ _ h=>⟨(Nu h).2,(dJ (Nu h).1).symm.trans (Nu h).2⟩}
structure QU(P:GQ)(bs:List (Nat×BZ))(yl:YL N R)(yv:BZ)(G:Hp->Fm->R->Prop):Prop where
 mem:∀C As k r,yl.f C As k=Ac r->(yl.ky,yv)∈bs
 ok:∀C As k r Of H,N.inv H->G H Of r->yl.f C As k=Ac r->∀η A vs w,vs.length=As.length->(∀(i:Nat) (s:SV N.T),As[i]?=Ac s->∃v,vs[i]?=Ac v/\s.is C η H v)->SH w H (A++Of.O)->
  I7 P yv vs w λb w'=> ∃H' Of' r',H.le H'/\Of'.ds=Of.ds/\SH w' H' (A++Of'.O)/\G H' Of' r'/\k b=Ac r'
theorem pV{a:List HT}{bs:List (Nat×BZ)}{G:Hp->Fm->BJ N a->Prop} :QU P bs (noP a:YL N (BJ N a)) yv G:=⟨(λ_ _ _ _ h=>by cases h),(λ_ _ _ _ _ _ _ _ h=>by cases h)⟩
def Q5:(ts:List Ty)->DQ N ts->List (SV N.T)
 | [],_=>[]
 | [t],x=>[.d t x]
 |t::u::ts,x=> .d t x.1::Q5 (u::ts) x.2
theorem US{C:List (SV N.T)}{H:Hp}{η:Nat->BZ} :∀(ts:List Ty) (y:DQ N ts) (vs:List BZ),Zc H ts y vs->vs.length=(Q5 ts y).length/\(Q5 ts y).length=ts.length/\∀(i:Nat) (s:SV N.T),(Q5 ts y)[i]?=Ac s->∃v,vs[i]?=Ac v/\s.is C η H v
 | [],_,vs,h=>by subst h;exact⟨rfl,rfl,λi s b=>by trivial⟩
 | [t],y,vs,⟨v,e,c⟩=>by
  subst e;refine⟨rfl,rfl,λi s b=>?_⟩;cases i with
  |zero=>simp[Q5]at b;subst b;exact⟨v,rfl,WA c⟩
  |succ i=>trivial
 |t::u::ts,y,vs,⟨v,g,e,c,f⟩=>by
  subst e;obtain⟨j,k,d⟩:=US (u::ts) y.2 g f;refine⟨by grind[Q5],by grind[Q5],λi s b=>?_⟩;cases i with
  |zero=>simp[Q5]at b;subst b;exact⟨v,rfl,WA c⟩
  |succ i=>exact d i s (by trivial)
theorem jm{S:Nat->SV N.T}{Rr:Nat->Option (SR N.T)}{x:Dn}{xs:List Dn}{tys:Array Gs}{c:Ca N.T}(M:o.op= .call {callee:= .value x,args:=xs.toArray,argTypes:=tys})(h:Tm S Rr x xs=Ac c)(r:TY P c.f)(V:∀x,(Aw S x).is C η H (a.eval x))(O:∀k∈c.cs,∀F,Rr k=Ac F->DU C η H Y k F):
  ∃vs:List BZ,vs.length=c.As.length/\(∀(i:Nat) (s:SV N.T),c.As[i]?=Ac s->∃v,vs[i]?=Ac v/\s.is C η H v)/\∀w (K:Act->IW->Prop) Q,Calls P c.f vs.toArray w (λe w'=> ∃v,e= .returned v/\K (a.put o.dst v) w')->o.wp P a w K Q:=by
 unfold Tm at h;split at h
 ·rename_i f l y T;split at h
  ·rename_i z;cases h;rw[AT]at z;have u:(Aw S x).is C η H (a.eval x):=V x;rw[T]at u;obtain⟨A,e,L⟩:=u;obtain⟨G,Z⟩:=Nh z.1 L;refine⟨A++xs.map a.eval++y.map η,by grind,λi s n=>?_,λw K Q U=>?_⟩
   ·rw[Aal]at n⊢;by_cases W:i<(Te l).length;· grind
    ·rw[Aab (by omega)]at n;rw[Aab (by omega),G];by_cases E:i-(Te l).length<xs.length;· rw[Pe (by simp_all),Acb]at n;grind
     ·rw[Aab (by simpa using E),Acb]at n;rw[Aab (by simpa using E),Acb];simp only[Aaq]at n⊢;obtain⟨c,hc,rfl⟩:=Pd.1 n;have q:=Aai hc;have p:=IT.1 z.2 c q;refine⟨η c,by rw[hc];rfl,?_⟩;split at p
      ·rename_i g b J;rcases O c q _ J with e|⟨X,_,B,_,D,_⟩;· cases e
       ·exact⟨B,D,D⟩
      ·cases p
   ·have t:(Kt a.eval o).run P w= .ok (.enter f (A++xs.map a.eval++y.map η).toArray) w:=by
     have:=r.run (A++xs.map a.eval++y.map η).toArray w;simp[Kt,M,resolve,rm,e,invoke]at this⊢;rw[this]
    unfold K_.wp;rw[t];refine Calls.mono U ?_;rintro e w' ⟨v,rfl,I⟩;exact I
  grind
 grind
theorem oH(l:(keys Y).Nodup)(hc:cs.Nodup)(n:(cs.map g).Nodup)(r:∀c∈cs,∃X,Ay Y (g c)=Ac X):
  keys (cs.map λc=>(c,(Ay Y (g c)).getD .emp))=cs/\(∀c∈cs,Ay (cs.map λc=>(c,(Ay Y (g c)).getD .emp)) c=Ay Y (g c))/\
  ∀w H O,SH w H (Y.map (·.2)++O)->SH w H ((cs.map λc=>(c,(Ay Y (g c)).getD .emp)).map (·.2)++((Y.filter λp=> !B_ (cs.map g) p.1).map (·.2)++O)):=by
 have i:keys (cs.map λc=>(c,(Ay Y (g c)).getD .emp))=cs:=by unfold keys;rw[Aaj];exact Afi _
 refine⟨i,λc d=>?_,λw H O f=>?_⟩;· have o:=CK (Y:=cs.map λc=>(c,(Ay Y (g c)).getD .emp)) (by grind) (By.2 ⟨c,d,rf⟩);grind
 ·have j:=SH.Ri f (Z:=(cs.map λc=>(g c,(Ay Y (g c)).getD .emp))++Y.filter λp=> !B_ (cs.map g) p.1) (by
   have e:keys (cs.map λc=>(g c,(Ay Y (g c)).getD .emp))=cs.map g:=by simp[keys]
   unfold keys at e⊢;rw[Aap,e];refine Acq.2 ⟨n,(Aco.map _).nodup l,λk i s m e=>?_⟩;grind[AR]) (λp q=>by
   grind[CK]);rw[Aap,Aaj,Aal]at j;rw[Aaj];exact j
theorem wS{Yc:List (Nat×Ax)}(j:(keys Y).Nodup)(l:(cs.map g).Nodup)(b:keys Yc=cs):
  keys (Yc.map λp=>(g p.1,p.2))=cs.map g/\(keys ((Yc.map λp=>(g p.1,p.2))++Y.filter λp=> !B_ (cs.map g) p.1)).Nodup/\
  (∀c X,Ay Yc c=Ac X->Ay ((Yc.map λp=>(g p.1,p.2))++Y.filter λp=> !B_ (cs.map g) p.1) (g c)=Ac X)/\(∀k,k∉cs.map g->Ay ((Yc.map λp=>(g p.1,p.2))++Y.filter λp=> !B_ (cs.map g) p.1) k=Ay Y k)/\
  ∀w H O,SH w H (Yc.map (·.2)++((Y.filter λp=> !B_ (cs.map g) p.1).map (·.2)++O))->SH w H (((Yc.map λp=>(g p.1,p.2))++Y.filter λp=> !B_ (cs.map g) p.1).map (·.2)++O):=by
 have e:keys (Yc.map λp=>(g p.1,p.2))=cs.map g:=by unfold keys at b⊢;rw[Aaj,<-b,Aaj];rfl
 have h:(keys ((Yc.map λp=>(g p.1,p.2))++Y.filter λp=> !B_ (cs.map g) p.1)).Nodup:=by unfold keys at e⊢;rw[Aap,e];refine Acq.2 ⟨l,(Aco.map _).nodup j,λk b n d e=>?_⟩;grind[AR]
 refine⟨e,h,λc X i=>CK h (Abt _ (By.2 ⟨_,A4 i,rf⟩)),λk d=>?_,λw H O m=>?_⟩;· grind[BT,Cz,LS]
 ·rw[Aap,Aaj,Aal];trivial
def okJ(q:JQ N):Bool:=Ci (q.pi.ro.map (·.1))
def NP(q:JQ N)(x:BJ N q.pi.hs)(m:List (Nat×Nat))(cs:List Nat):Bx N.T:=⟨.no,cs,q.pi.ro.map λp=>(AZ m p.1,(instR N q.pi.hs x p.2).DP (AZ m))⟩
def rz(q:JQ N)(d:Option Nat)(b:Bool)(st:St N.T):St N.T:=match q.rb,d with
 |true,Ac t=>Km t (.lb b) st
 |_,_=>st
def cv(a:YL N R)(C:List (SV N.T))(ts:List Ty)(kb:Bool->Option R):List (DQ N ts)->Option Bool->Option R
 | [],Ac b=>kb b
 | [],C7=>C7
 |y::l,b=>a.f C (Q5 ts y) λc=>match c with
  |true=>cv a C ts kb l b
  |false=>kb Aj
def jq1(c:YL N R)(C:List (SV N.T))(CR:List (SR N.T))(n:Nat)(d:Option Nat)(st:St N.T)(a:List (SV N.T))(cs:List Nat)(kn:St N.T->Option R)(q:JQ N):Option (Option R):=
 match Hj a.length q.pi.sl.length&&(q.pi.sl.all (λp=>bg p.1 a.length)&&okJ q)with
 |false=>C7
 |true=>match JS C (An CR st.O) (λi=>a.getD i .no) (Hk C (An CR st.O) (λi=>a.getD i .no) q.pi) q.pi with
  |none=>C7
  |some x=>match Hj (AZ (Hk C (An CR st.O) (λi=>a.getD i .no) q.pi) q.ky) c.ky&&Hb CR n st d (NP q x (Hk C (An CR st.O) (λi=>a.getD i .no) q.pi) cs) st.nk with
   |false=>C7
   |true=>Ac (Ab (q.F x) λr=>cv c C q.ts (λb=>kn (rz q d b (U1 (Zh CR q.pi.hs x (Hk C (An CR st.O) (λi=>a.getD i .no) q.pi) st.O q.pi.ro) (app st d (NP q x (Hk C (An CR st.O) (λi=>a.getD i .no) q.pi) cs) st.nk)))) r.1 r.2)
def jqs(f:JQ N->Option (Option R)):List (JQ N)->Option R
 | []=>C7
 |q::l=>match f q with
  |some z=>z
  |none=>jqs f l
theorem Sn{f:JQ N->Option (Option R)}{r:R} :∀ {l:List (JQ N)},jqs f l=Ac r->∃q∈l,f q=Ac (Ac r)
 | [],h=>by cases h
 |q::l,h=>by
  unfold jqs at h;split at h;· grind
  ·obtain⟨c,a,b⟩:=Sn h;grind
def qJ(
     d:YL N R) (Φ:Nat->Option (CQ N)) (C:List (SV N.T)) (CR:List (SR N.T)) (n:Nat) (o:K_) (st:St N.T) (kn:St N.T->Option R):Option (Option R):=match o.op with
 | .call {callee:= .value x,args:=⟨xs⟩,argTypes:=_} =>match Aw (Cu C st.L) x with
  | .AK f _ _=>match Φ f with
   |some (.qH b)=>match Tm (Cu C st.L) (An CR st.O) x xs with
    |some c=>match Hj f c.f with
     |true=>Ac (jqs (jq1 d C CR n o.dst st c.As c.cs kn) b)
     |false=>C7
    |none=>C7
   |_=>C7
  |_=>C7
 |_=>C7
theorem g_{C:List (SV N.T)}{CR:List (SR N.T)}{n:Nat}{Of:Fm}{bs:List (Nat×BZ)}{st:St N.T}{η:Nat->BZ}{H:Hp}{a:Act}{w:IW}{P:GQ} [C3 N P]{Φ:Nat->Option (CQ N)}{G:Hp->Fm->R->Prop}{yl:YL N R}{yv:BZ}
  (hΦ:∀f q,Φ f=Ac q->Bu P f q) (hG:∀H l Of r,H.le l->G H Of r->G l Of r) (hY:QU P bs yl yv G) {o:K_} {kn:St N.T->Option R} {r:R} (hg:G H Of r) (h:Sat C CR n Of bs st η H a w) (hw:WF C CR bs st) (E:qJ yl Φ C CR n o st kn=Ac (Ac r)) {K:Act->IW->Prop} {Q:Exit->Act->IW->Prop}
  (hK:∀d r' st' η' l a' w',H.le l->G l d r'->Sat C CR n d bs st' η' l a' w'->WF C CR bs st'->kn st'=Ac r'->K a' w'):o.wp P a w K Q:=by
 unfold qJ at E;split at E;case h_2=>grind
 rename_i x xs tys ho;split at E;case h_2=>grind
 split at E;case h_2=>grind
 rename_i qs hq;split at E;case h_2=>grind
 rename_i c hcal;split at E;case h_2=>grind
 rename_i hf;have hf:=AI hf;subst hf;obtain⟨q,hqm,E⟩:=Sn (Abs E);have hsp:I8 P c.f q:=hΦ _ _ hq q hqm;unfold jq1 at E;split at E;· grind
 rename_i M;simp only[AT]at M;obtain⟨ck1,ck2,ck3⟩:=M;split at E;· grind
 rename_i z hz;generalize hm:Hk C (An CR st.O) (λi=>c.As.getD i .no) q.pi=m at hz E;split at E;· grind
 rename_i M;rw[AT]at M;obtain⟨ck4,ck5⟩:=M;have ck4:=AI ck4;obtain⟨⟨ys,b0⟩,hys,E⟩:=Bi (Abs E);have hnr:=BK ck3;have hkw:keys (NP q z m c.cs).wr=(q.pi.ro.map (·.1)).map (AZ m):=by unfold keys NP;rw[Aaj,Aaj];rfl
 have hlt:∀p∈q.pi.sl,p.1<c.As.length:=λp D=>by simpa using IT.1 ck2 p D
 have cq:∀Y,(∀k,(k∈c.cs\/k∈keys (NP q z m c.cs).wr)->∀L,An CR st.O k=Ac L->DU C η H Y k L)->∃vs:List BZ,vs.length=q.pi.sl.length/\(q.pi.ro.map λp=>AZ m p.1).Nodup/\(∀p∈q.pi.sl,∃v,vs[p.1]?=Ac v/\(inst N q.pi.hs z p.2).is [] (λc=>η (AZ m c)) H v)/\
   (∀p∈q.pi.ro,(∃L,An CR st.O (AZ m p.1)=Ac L)/\∃X,Ay Y (AZ m p.1)=Ac X/\(instR N q.pi.hs z p.2).is [] (λc=>η (AZ m c)) H p.1 X)/\∀w (K:Act->IW->Prop) Q,Calls P c.f vs.toArray w (λe w'=> ∃v,e= .returned v/\K (a.put o.dst v) w')->o.wp P a w K Q:=λY hr=>by
  obtain⟨vs,v1,v2,v3⟩:=jm ho hcal hsp.cq (λx=>h.ev x) (Y:=Y) (λk hk L B=>hr k (.inl hk) L B);have J:vs.length=q.pi.sl.length:=by rw[v1];exact AI ck1
  obtain⟨V,e2,e3⟩:=LZ (C:=C) (η:=η) (H:=H) (Y:=Y) (vs:=vs) (A:=λi=>c.As.getD i .no) hz J (λp D=>by obtain⟨v,g1,g2⟩:=v2 p.1 (c.As[p.1]'(hlt p D)) (IS (hlt p D));refine⟨v,g1,?_⟩;rw[Aae,IS (hlt p D)];exact g2) (λp D L B=>hr _ (.inr (by exact By.2 ⟨_,By.2 ⟨p,D,rfl⟩,rfl⟩)) L B);exact⟨vs,J,V,e2,e3,v3⟩
 have hW:Pp C CR n st o.dst (NP q z m c.cs) st.nk:=⟨ck5,Aac _,λj hj S=>(by
  obtain⟨_,_,_,_,e3,_⟩:=cq h.own.choose λk _ L B=>h.own.choose_spec.2.2.2 k L B;obtain⟨p,D,rfl⟩:=By.1 hj;obtain⟨p',hp',rfl⟩:=By.1 D;obtain⟨⟨L,B⟩,_⟩:=e3 p' hp';rw[B]at S;cases S),λτ _=>trivial⟩;have u:=ck5;unfold Hb at u;simp only[AT]at u;have u:=u.1.1;have hbk:∀ {η':Nat->BZ} {l:Hp} {d:Fm} {a':Act} {w':IW},Sat C CR n d bs (app st o.dst (NP q z m c.cs) st.nk) η' l a' w'->Sat C CR n d bs (U1 (Zh CR q.pi.hs z m st.O q.pi.ro) (app st o.dst (NP q z m c.cs) st.nk)) η' l a' w'/\WF C CR bs (U1 (Zh CR q.pi.hs z m st.O q.pi.ro) (app st o.dst (NP q z m c.cs) st.nk)):=λhs'=>
  xC hs' (hw.VG hW) (λk=>xB hz (by obtain⟨_,_,V,_⟩:=cq h.own.choose λk _ L B=>h.own.choose_spec.2.2.2 k L B;exact V) k) λy hy=>by obtain⟨p,_,_,e,_⟩:=QM hy;exact Aby λhle=>by rw[hw.ok _ hle]at e;cases e
 generalize hkb:(λb=>kn (rz q o.dst b (U1 (Zh CR q.pi.hs z m st.O q.pi.ro) (app st o.dst (NP q z m c.cs) st.nk))))=kb at E;refine h.lB (goal:=o.wp P a w K Q) (K:=λv w' d l=> ∀b r',G l d r'->(q.rb=Bp->v= .bool b)->kb b=Ac r'->K (a.put o.dst v) w') hw hW (λY hn hsh hr hf hk=>?_) λη' l v w' d hl hs b r' hg' hv F=>?_
 ·obtain⟨vs,J,V,e2,e3,v3⟩:=cq Y hr;have V:((q.pi.ro.map (·.1)).map (AZ m)).Nodup:=by rw[Aaj];exact V
  obtain⟨s1,s2,s3⟩:=oH (Y:=Y) (cs:=q.pi.ro.map (·.1)) (g:=AZ m) hn hnr V (λc hc=>by obtain⟨p,D,rfl⟩:=By.1 hc;obtain⟨_,X,hX,_⟩:=e3 p D;exact⟨X,hX⟩);generalize hYc:((q.pi.ro.map (·.1)).map λc=>(c,(Ay Y (AZ m c)).getD .emp))=Yc at s1 s2 s3;refine v3 w K Q ?_;generalize hYr:(Y.filter λp=> !B_ ((q.pi.ro.map (·.1)).map (AZ m)) p.1)=Yr at s3;refine Calls.mono (hsp.ok z (ys,b0) hys (λc=>η (AZ m c)) (λl O r2=>H.le l/\∃(d:Fm) (r':R),d.ds=Of.ds/\O=Yr.map (·.2)++d.O/\G l d r'/\cv yl C q.ts kb r2.1 r2.2=Ac r') (λH1 H2 O r2 hl ⟨k0,d,r',k1,k2,k3,k4⟩=>⟨k0.trans hl,d,r',k1,k2,hG _ _ _ _ hl k3,k4⟩) (λH1 O ⟨_,_,_,_,_,_,k4⟩=>(by cases k4)) (λH1 O y rest b hinv1 ⟨k0,d,r',k1,k2,k3,k4⟩ A ws w1 hArg hSH=>?_) H (Yr.map (·.2)++Of.O) Yc vs w (by rw[s1];exact hnr) J e2 s1 (λp D=>?_) ⟨Hp.le.refl H,Of,r,rfl,rfl,hg,E⟩ h.inv (s3 w H Of.O hsh)) ?_
  ·subst k2;have hyv:yv=η (AZ m q.ky):=by rw[ck4];exact(h.base _ (hY.mem _ _ _ _ k4)).symm
   obtain⟨p1,p2,p3⟩:=US (C:=C) (η:=η) q.ts y ws hArg;have:=hY.ok C (Q5 q.ts y) _ r' d H1 hinv1 k3 k4 η (A++Yr.map (·.2)) ws w1 p1 p3 (by rw[Aal];exact hSH);rw[hyv]at this;refine this.mono λc' w' ⟨l,U,r'',l1,l2,l3,l4,l5⟩=>⟨l,Yr.map (·.2)++U.O,l1,by rw[Aal]at l3;exact l3,k0.trans l1,U,r'',l2.trans k1,rfl,l4,?_⟩;cases c' with
   |true=>exact l5
   |false=>exact l5
  ·obtain⟨_,X,hX,hX2⟩:=e3 p D;exact⟨X,by rw[s2 p.1 (By.2 ⟨p,D,rfl⟩)];exact hX,hX2⟩
  ·rintro e w' ⟨v,l,O',Y',b,rfl,hl,W,hk',hro',⟨k0,d,r',k1,rfl,k2,k3⟩,hvb⟩;obtain⟨j1,j2,j3,j4,j5⟩:=wS (Y:=Y) (Yc:=Y') (cs:=q.pi.ro.map (·.1)) (g:=AZ m) hn V hk';rw[<-hYr]at W;refine⟨v,rfl,hk v w' l η _ d k1 hl (λ_ _=>rfl) (λk hkn=>j4 k (by rw[<-hkw];exact hkn)) (λk L hks=>?_) j2 (λk I=>?_) (j5 _ _ _ W) trivial b r' k2 hvb k3⟩;· obtain⟨p,D,e⟩:=By.1 (A4 hks);cases e;obtain⟨X,x1,x2⟩:=hro' p D;exact .inr ⟨X,j3 p.1 X x1,SR.MA rfl (λ_ _=>rfl) x2⟩
   ·unfold keys at I j1;rw[Aap,j1]at I;rcases AS.1 I with I|I;· exact .inr (by rw[hkw];exact I)
    ·obtain⟨p,D,rfl⟩:=By.1 I;exact .inl (By.2 ⟨p,(Aaz.1 D).1,rfl⟩)
 ·subst hkb;obtain⟨hs,hwf⟩:=hbk hs;unfold rz at F;split at F
  ·rename_i t hrb hdt;rw[hdt]at hs hwf F⊢;rw[hdt]at u;have htn:t<n:=by simpa [NW]using u
   obtain⟨g1,g2⟩:=PL (t:=t) (s:= .lb b) hs hwf (by rw[H5 (by rw[h.size];exact htn),Agk];exact hv hrb) rfl rfl;exact hK d r' _ η' l _ w' hl hg' g1 g2 F
  ·exact hK d r' _ η' l _ w' hl hg' hs hwf F
def jkey(Φ:Nat->Option (CQ N))(S:Nat->SV N.T)(Rr:Nat->Option (SR N.T)):Op->Option Nat
 | .call {callee:= .value x,args:=⟨xs⟩,argTypes:=_} =>match Aw S x with
  | .AK f _ _=>match Φ f with
   |some (.qH (q::_))=>match Tm S Rr x xs with
    |some c=>V9 c.As q.pi.sl
    |none=>C7
   |_=>C7
  |_=>C7
 |_=>C7
def gZ(b:YL N R)(Φ:Nat->Option (CQ N))(C:List (SV N.T))(CR:List (SR N.T))(n:Nat)(o:K_):Nat->St N.T->(St N.T->Option R)->Option (Option R)
 |0,_,_=>C7
 |m+1,st,kn=>match jkey Φ (Cu C st.L) (An CR st.O) o.op with
  |some a=>match An CR st.O a with
   |some (.row _ c l)=>gZ b Φ C CR n o m (JM a c l st) kn
   |_=>C7
  |none=>qJ b Φ C CR n o st kn
def qI(a:YL N R)(Φ:Nat->Option (CQ N))(C:List (SV N.T))(CR:List (SR N.T))(n:Nat)(o:K_)(st:St N.T)(kn:St N.T->Option R):Option (Option R):=gZ a Φ C CR n o 4 st kn
theorem We{C:List (SV N.T)}{CR:List (SR N.T)}{n:Nat}{Of:Fm}{bs:List (Nat×BZ)}{a:Act}{w:IW}{P:GQ} [C3 N P]{Φ:Nat->Option (CQ N)}{G:Hp->Fm->R->Prop}{p:YL N R}{yv:BZ}
  (i:∀f q,Φ f=Ac q->Bu P f q) (k:∀H d Of r,H.le d->G H Of r->G d Of r) (v:QU P bs p yv G) {o:K_} {kn:St N.T->Option R} {r:R} {K:Act->IW->Prop} {Q:Exit->Act->IW->Prop} :∀ {m:Nat} {st:St N.T} {η:Nat->BZ} {H:Hp},G H Of r->Sat C CR n Of bs st η H a w->WF C CR bs st->gZ p Φ C CR n o m st kn=Ac (Ac r)->
  (∀c r' b η' d a' w',H.le d->G d c r'->Sat C CR n c bs b η' d a' w'->WF C CR bs b->kn b=Ac r'->K a' w')->o.wp P a w K Q
 |0,_,_,_,_,_,_,e,_=>by cases e
 |m+1,st,η,H,x,h,A,e,u=>by
  unfold gZ at e;split at e
  ·split at e;· rename_i B l y;obtain⟨d,j,s,t⟩:=SD h A y;exact We i k v (k _ _ _ _ j x) s t e λc r' b η' g a' w' z=>u c r' b η' g a' w' (j.trans z)
   grind
  grind[g_]
theorem Wd{C:List (SV N.T)}{CR:List (SR N.T)}{n:Nat}{Of:Fm}{bs:List (Nat×BZ)}{st:St N.T}{η:Nat->BZ}{H:Hp}{a:Act}{w:IW}{P:GQ} [C3 N P]{Φ:Nat->Option (CQ N)}{G:Hp->Fm->R->Prop}{g:YL N R}{yv:BZ}
 (e:∀f q,Φ f=Ac q->Bu P f q) (i:∀H c Of r,H.le c->G H Of r->G c Of r) (k:QU P bs g yv G) {o:K_} {kn:St N.T->Option R} {r:R} (m:G H Of r) (h:Sat C CR n Of bs st η H a w) (p:WF C CR bs st) (l:qI g Φ C CR n o st kn=Ac (Ac r)) {K:Act->IW->Prop} {Q:Exit->Act->IW->Prop}
 (j:∀d r' b η' c a' w',H.le c->G c d r'->Sat C CR n d bs b η' c a' w'->WF C CR bs b->kn b=Ac r'->K a' w'):o.wp P a w K Q:=We e i k m h p l j
def vK(c:YL N R)(C:List (SV N.T))(n:Nat)(o:K_)(st:St N.T)(kn:St N.T->Option R):Option (Option R):=match o.op with
 | .call {callee:= .value x,args:=⟨xs⟩,argTypes:=_} =>match Aw (Cu C st.L) x with
  | .mp k=>match Hj k c.ky&&NW n o.dst with
   |true=>Ac (c.f C (xs.map (Aw (Cu C st.L))) λb=>kn ⟨RH o.dst (.lb b) st.L,st.O,st.nk⟩)
   |false=>C7
  |_=>C7
 |_=>C7
def Rk(a:YL N R)(P:GQ)(Φ:Nat->Option (CQ N))(C:List (SV N.T))(CR:List (SR N.T))(n:Nat)(o:K_)(st:St N.T)(kn:St N.T->Option R):Option R:=match vK a C n o st kn with
 |some z=>z
 |none=>match V1 o with
  |true=>match qI a Φ C CR n o st kn with
   |some z=>z
   |none=>ZD P Φ C CR n o st kn
  |false=>C7
def guY(c:YL N R)(P:GQ)(Φ:Nat->Option (CQ N))(C:List (SV N.T))(CR:List (SR N.T))(n:Nat)(b:Array K_)(o:K_)(st:St N.T)(kn:St N.T->Option R):Option R:=match o.guard with
 |none=>Rk c P Φ C CR n o st kn
 |some (
     j,a)=>match BL b j with
  |none=>C7
  |some t=>match Cu C st.L t with
   | .ud=>It n o.dst st kn
   |s=>xA s st
    (λst=>let st:=Km t (.lb Bp) st
     match a with
     |true=>Rk c P Φ C CR n o st kn
     |false=>It n o.dst st kn)
    (λst=>let st:=Km t (.lb Aj) st
     match a with
     |false=>Rk c P Φ C CR n o st kn
     |true=>It n o.dst st kn)
def cw(b:YL N R)(P:GQ)(Φ:Nat->Option (CQ N))(C:List (SV N.T))(CR:List (SR N.T))(n:Nat)(a:Array K_):List K_->St N.T->(St N.T->Option R)->Option R
 | [],st,kn=>kn st
 |o::os,st,kn=>guY b P Φ C CR n a o st λst=>cw b P Φ C CR n a os st kn
end
variable {C : List (SV N.T)} {CR : List (SR N.T)} {n : Nat} {Of : Fm} {bs : List (Nat × BZ)} {st : St N.T} {η : Nat -> BZ} {H : Hp} {a : Act} {w : IW} {P : GQ} [C3 N P] {Φ : Nat -> Option (CQ N)} {G : Hp -> Fm -> R -> Prop} {yl : YL N R} {yv : BZ} {ro : Option Nat}
section
variable{d:Option Nat}{s:SV N.T}
theorem gj(c:WF C CR bs st)(g:EY s=Bp)(hc:R1 s=Bp):WF C CR bs ⟨RH d s st.L,st.O,st.nk⟩:=by
 cases d with
 |none=>exact c
 |some d=>
  refine c.Gy λτ b q=>?_;have e:=b q;unfold Cu at e⊢;simp only[RH,Ay];cases f:Hj d q with
  |true=>
   have:res C s=s:=by cases s<;>first|rfl|cases hc
   grind[DC]
  |false=>omega
theorem Sat.yld{c:Fm}{g:Hp}{w':IW}{v:BZ}{Y:List (Nat×Ax)}(h:Sat C CR n Of bs st η H a w)(b:H.le g)(m:c.ds=Of.ds)(q:NW n d=Bp)(B:s.is C η g v)
  (u:(keys Y).Nodup) (y:SH w' g (Y.map (·.2)++c.O)) (z:∀k∈keys Y,k<st.nk) (A:∀k i,An CR st.O k=Ac i->DU C η H Y k i):Sat C CR n c bs ⟨RH d s st.L,st.O,st.nk⟩ η g (a.put d v) w':=by
 refine⟨N.CY b h.inv,?_,?_,λt sv f=>?_,h.base,Y,u,y,z,λk i r=>?_⟩;· rw[m];cases d<;>exact h.defers
 ·cases d<;>simp[Act.put,h.size]
 ·cases d with
  |none=>exact(h.Bo t sv f).mono b
  |some d=>
   have q:d<n:=by simp_all[NW]
   have f:Ay ((d,s)::st.L) t=Ac sv:=f;rw[H5 (by rw[h.size];omega)];simp only[Ay]at f;cases l:Hj d t with
   |true=>grind
   |false=>rw[l]at f;exact(h.Bo t sv f).mono b
 ·rcases A k i r with e|⟨x,o,p⟩;· exact .inl e
  ·exact .inr ⟨x,o,p.mono b⟩
theorem Mk(B:∀f q,Φ f=Ac q->Bu P f q)(U:∀H j Of r,H.le j->G H Of r->G j Of r)(I:QU P bs yl yv G){o:K_}{kn:St N.T->Option R}{r:R}(L:G H Of r)(h:Sat C CR n Of bs st η H a w)(M:WF C CR bs st)(p:Rk yl P Φ C CR n o st kn=Ac r){K:Act->IW->Prop}{Q:Exit->Act->IW->Prop}
  (F:∀m r' g η' j a' w',H.le j->G j m r'->Sat C CR n m bs g η' j a' w'->WF C CR bs g->kn g=Ac r'->K a' w'):o.wpIn (FR ro) 0 P a w K Q:=by
 unfold Rk at p;split at p
 ·rename_i z d;subst p;unfold vK at d;split at d
  ·rename_i x T tys ho;split at d
   ·rename_i k hs;split at d
    ·rename_i J;have d:=Abs d;rw[AT]at J;have hk:=AI J.1;subst hk;have X:=h.ev x;rw[hs]at X;have S:a.eval x=yv:=X.1.trans (h.base _ (I.mem _ _ _ _ d));obtain⟨Y,y1,y2,y3,y4⟩:=h.own;have t:∀(i:Nat) (s:SV N.T),(T.map (Aw (Cu C st.L)))[i]?=Ac s->∃v,(T.map a.eval)[i]?=Ac v/\s.is C η H v:=λi s V=>by
      rw[Acb]at V;obtain⟨z,d,rfl⟩:=Pd.1 V;exact⟨a.eval z,by grind,h.ev z⟩
     obtain⟨l,f,D,E,u,e1,e2,e3⟩:=I.ok _ _ _ _ Of H h.inv L d η (Y.map (·.2)) (T.map a.eval) w (by simp) t y2;refine⟨λf _=>Xa ro f,?_⟩;have A:(Kt a.eval o).run P w= .ok (.round l f D E u) w:=by have O:a.eval x= .func (.yield l) #[] #[]:=S.trans e1;simp[Kt,ho,resolve,rm,O,invoke]at e2⊢;omega
     rw[K_.semAt_eq _ _ _ (λc e=>by grind),A];refine⟨sX,dW (e3.mono ?_)⟩;rintro e w' ⟨b,rfl,j,m,r',Z,k2,k3,k4,k5⟩;exact F m r' _ η j _ w' Z k4 (h.yld (s:= .lb b) Z k2 J.2 (rfl:BZ.bool b= .bool b) y1 k3 y3 y4) (gj M rfl rfl) k5
    grind
   grind
  grind
 ·split at p
  ·rename_i W;split at p;· rename_i z d;subst p;exact Agz W (Wd B U I L h M d F)
   exact Agz W (Rm B h M p λg η' j a' w' y h1 h2 h3=>F Of r g η' j a' w' y (U _ _ _ _ y L) h1 h2 h3)
  ·cases p
theorem qW(m:∀f q,Φ f=Ac q->Bu P f q)(D:∀H g Of r,H.le g->G H Of r->G g Of r)(F:QU P bs yl yv G){p:Array K_}{o:K_}{kn:St N.T->Option R}{r:R}(l:G H Of r)(h:Sat C CR n Of bs st η H a w)(S:WF C CR bs st)(k:guY yl P Φ C CR n p o st kn=Ac r){K:Act->IW->Prop}{Q:Exit->Act->IW->Prop}
  (E:∀i r' c η' g a' w',H.le g->G g i r'->Sat C CR n i bs c η' g a' w'->WF C CR bs c->kn c=Ac r'->K a' w'):if fy o (yielded p a.tmps)then o.wpIn (FR ro) 0 P a w K Q else(∀f,o.about P w a.eval=Ac f->(FR ro).fn f)/\K (a.put o.dst undef) w:=by
 have u:∀ {d:St N.T},Sat C CR n Of bs d η H a w->WF C CR bs d->It n o.dst d kn=Ac r->(∀f,o.about P w a.eval=Ac f->(FR ro).fn f)/\K (a.put o.dst undef) w:=λ{d} T U V=>by grind[Rv,Xa,Hp.le.refl]
 unfold guY at k;split at k;· rw[if_pos (by grind[fy])];grind[Mk]
 ·rename_i j e z;split at k;· grind
  ·rename_i t I;split at k;· rename_i O;have J:=h.lk t;rw[O]at J;rw[if_neg (by simp[fy,z,IF I J])];grind
   ·obtain⟨b,c,B,L,M,v⟩:=UY h S k;have A:=Gr I B;obtain⟨x,y⟩:=PL (t:=t) (s:= .lb b) L M B rfl rfl;cases b with
    |true=>
     cases e with
     |true=>
      rw[if_pos (by grind[fy])];exact Mk m D F l x y v E
     |false=>
      rw[if_neg (by simp[fy,z,A])];exact u x y v
    |false=>
     cases e with
     |false=>
      rw[if_pos (by simp[fy,z,A])];exact Mk m D F l x y v E
     |true=>
      rw[if_neg (by simp[fy,z,A])];exact u x y v
theorem SY(i:∀f q,Φ f=Ac q->Bu P f q)(B:∀H c Of r,H.le c->G H Of r->G c Of r)(D:QU P bs yl yv G){j:Array K_}{Q:Exit->Act->IW->Prop}{kn:St N.T->Option R} :∀ {os:List K_} {Of:Fm} {r:R} {st:St N.T} {η:Nat->BZ} {H:Hp} {a:Act} {w:IW},G H Of r->Sat C CR n Of bs st η H a w->WF C CR bs st->cw yl P Φ C CR n j os st kn=Ac r->
  (∀d r' b η' c a' w',H.le c->G c d r'->Sat C CR n d bs b η' c a' w'->WF C CR bs b->kn b=Ac r'->Q .normal a' w')->wpListIn (FR ro) 0 P j Q os a w
 | [],Of,r,st,η,H,a,w,v,h,y,u,s=>s Of r st η H a w (Hp.le.refl H) v h y u
 |o::os,Of,r,st,η,H,a,w,v,h,y,u,s=>by refine wpListIn_step λK t=>qW i B D v h y u λd r' b η' c a' w' x L M O S=>t a' w' ?_;exact SY i B D L M O S λe z k l m p A g E F I J=>s e z k l m p A (x.trans g) E F I J
end
end
section
variable{A B:List K_}{i:Nat}
def PF(P:GQ)(b:Array K_)(Q:Exit->Act->IW->Prop):List K_->Act->IW->Prop
 | [],a,w=>Q .normal a w
 |o::c,a,w=>if fy o (yielded b a.tmps)then o.wp P a w (PF P b Q c) Q else PF P b Q c (a.put o.dst undef) w
theorem Tr:∀(os:List K_) (acc:List Nat),(Ns acc os).length=acc.length+os.length
 | [],acc=>rfl
 |o::os,acc=>by show(Ns (acc++[_]) os).length=_;rw[Tr];grind
theorem Tq:∀(os:List K_) (acc:List Nat) (i:Nat),i<acc.length->(Ns acc os).getD i 0=acc.getD i 0
 | [],_,_,_=>rfl
 |o::os,acc,i,h=>by show(Ns (acc++[_]) os).getD i 0=_;rw[Tq os _ i (by grind),Aae,Pe h,<-Aae]
theorem Ts:∀(A B:List K_) (acc:List Nat),Ns acc (A++B)=Ns (Ns acc A) B
 | [],_,_=>rfl
 |o::A,B,acc=>by exact Ts A B _
theorem W4(h:i<A.length):U5 (A++B) i=U5 A i:=by grind[U5,Ts,Tq,Tr]
def Yl(m:Nat)(l:List K_):Bool:=(a_ l.length).all λj=>bg j m||(a_ j).all λi=>(U5 l j).testBit i
theorem Yk{m:Nat}{l:List K_}(h:Yl m l=Bp){j:Nat}(c:j<l.length)(d:m<=j)(hi:i<j):(U5 l j).testBit i=Bp:=by
 have a:=IT.1 h j (Abg.2 c);rw[Adx]at a;rcases a with a|a
 ·have:j<m:=by simp_all
  omega
 grind
theorem iS{P:GQ}{Q:Exit->Act->IW->Prop}{id:Nat}(z:P.follows .mixedOrders=Bp)(V:GW 0 (A++B)=Bp)(E:Yl A.length (A++B)=Bp){J:(Nat->Bool)->Act->IW->Prop}
  (step:∀p a w i o,A[i]?=Ac o->p i=Aj->HS A p->(∀j,(U5 A i).testBit j=Bp->p j=Bp)->(∀j M,A[j]?=Ac M->p j=Bp->∀m,(U5 A j).testBit m=Bp->p m=Bp)->J p a w->
   if fy o (yielded (A++B).toArray a.tmps)then o.wp P a w (J (I' p i)) Q else J (I' p i) (a.put o.dst undef) w)
  (L:∀p a w,(∀i,i<A.length->p i=Bp)->J p a w->PF P (A++B).toArray Q B a w) {a:Act} {w:IW} (h:J (λ_=>Aj) a {w with drawn:=w.drawn+1}):(Code.region id (A++B).toArray Bp).wp P Q a w:=by
 refine L6 z V (J:=λp a w=>((∀j,A.length<=j->j<(A++B).length->p j=Aj)/\J p a w)\/∃m,A.length<=m/\(∀j,j<(A++B).length->p j=Di (j<m))/\PF P (A++B).toArray Q ((A++B).drop m) a w) ?_ ?_ (.inl ⟨λ_ _ _=>rfl,h⟩)
 ·intro p a w i o y H R v x u;have g:i<(A++B).length:=(No.1 y).1;have I:∀j,j≠i->I' p i j=p j:=λj f=>by grind[I']
  have K:I' p i i=Bp:=by simp[I']
  have full:A.length<=i->∀j,j<i->p j=Bp:=λr j f=>v j (Yk E g r f);have seq:∀m,m=i->A.length<=m->(∀j,j<(A++B).length->p j=Di (j<m))->PF P (A++B).toArray Q ((A++B).drop m) a w->if fy o (yielded (A++B).toArray a.tmps)then o.wp P a w (λa w=>((∀j,A.length<=j->j<(A++B).length->I' p i j=Aj)/\J (I' p i) a w)\/∃m,A.length<=m/\(∀j,j<(A++B).length->I' p i j=Di (j<m))/\PF P (A++B).toArray Q ((A++B).drop m) a w) Q
    else((∀j,A.length<=j->j<(A++B).length->I' p i j=Aj)/\J (I' p i) (a.put o.dst undef) w)\/∃m,A.length<=m/\(∀j,j<(A++B).length->I' p i j=Di (j<m))/\PF P (A++B).toArray Q ((A++B).drop m) (a.put o.dst undef) w:=λm e z t s=>by
   subst e;have W:(A++B).drop m=o::(A++B).drop (m+1):=by grind[List.drop_eq_getElem_cons,Option.some.inj,lr]
   rw[W]at s;have G:∀j,j<(A++B).length->I' p m j=Di (j<m+1):=λj f=>by
    by_cases e:j=m;· grind
    ·rw[I j e,t j f];have:j<m↔j<m+1:=by omega
     simp[this]
   unfold PF at s;split at s;· rename_i C;rw[if_pos C];exact K_.wp_mono (λa w h=> .inr ⟨m+1,by omega,G,h⟩) s
   grind
  rcases u with⟨D,u⟩|⟨m,z,t,s⟩
  ·by_cases r:i<A.length
   ·have X:A[i]?=Ac o:=by grind
    have st:=step p a w i o X H (λj M f=>R j M (by rw[Pe (No.1 f).1];exact f)) (λj f=>v j (by rw[W4 r];exact f)) (λj M f t m z=>x j M (by rw[Pe (No.1 f).1];exact f) t m (by rw[W4 (No.1 f).1];exact z)) u;have T:∀j,A.length<=j->j<(A++B).length->I' p i j=Aj:=λj k N=>by rw[I j (by omega)];exact D j k N
    split at st;· rename_i C;rw[if_pos C];exact K_.wp_mono (λa w h=> .inl ⟨T,h⟩) st
    grind
   ·have r:A.length<=i:=by omega
    have e:A.length=i:=by refine Akx r (Ajf λn=>?_);have k:=full r A.length n;rw[D A.length (Aac _) (by omega)]at k;cases k
    refine seq A.length e (Aac _) (λj f=>?_) ?_
    ·by_cases F:j<A.length;· rw[full r j (by omega)];simp[F]
     ·rw[D j (by omega) f];simp[F]
    ·rw[Alf];exact L p a w (λj f=>full r j (by omega)) u
  ·refine seq m ?_ z t s;have k:=t i g;rw[H]at k;have k:¬i<m:=by simpa using k.symm
   refine Akx (by omega) (Ajf λn=>?_);have N:=full (by omega) m n;rw[t m (by omega)]at N;simp at N
 ·intro p a w l u;rcases u with⟨D,u⟩|⟨m,z,t,s⟩
  ·have U:B=[]:=by
    cases B with
    |nil=>rfl
    |cons b B=>
     have k:=l A.length (by simp);rw[D A.length (Aac _) (by simp)]at k;cases k
   have:=L p a w (λi r=>l i (by rw[Aaa];omega)) u;rw[U]at this;exact this
  ·have S:(A++B).length<=m:=by
    refine Ajf λg=>?_;have k:=t m g;rw[l m g]at k;simp at k
   rw[Aax S]at s;exact s
end
section
variable {N : C9} {R : Type}
def Rn(a:YL N R)(P:GQ)(Φ:Nat->Option (CQ N))(C:List (SV N.T))(CR:List (SR N.T))(n:Nat)(o:K_)(st:St N.T)(kn:St N.T->Option R):Option R:=match qI a Φ C CR n o st kn with
 |some z=>z
 |none=>ZD P Φ C CR n o st kn
def guJ(c:YL N R)(P:GQ)(Φ:Nat->Option (CQ N))(C:List (SV N.T))(CR:List (SR N.T))(n:Nat)(b:Array K_)(o:K_)(st:St N.T)(kn:St N.T->Option R):Option R:=match o.guard with
 |none=>Rn c P Φ C CR n o st kn
 |some (
     j,a)=>match BL b j with
  |none=>C7
  |some t=>match Cu C st.L t with
   | .ud=>It n o.dst st kn
   |s=>xA s st
    (λst=>let st:=Km t (.lb Bp) st
     match a with
     |true=>Rn c P Φ C CR n o st kn
     |false=>It n o.dst st kn)
    (λst=>let st:=Km t (.lb Aj) st
     match a with
     |false=>Rn c P Φ C CR n o st kn
     |true=>It n o.dst st kn)
def cy(c:YL N R)(P:GQ)(Φ:Nat->Option (CQ N))(C:List (SV N.T))(CR:List (SR N.T))(n:Nat)(a:Array K_):List K_->St N.T->(St N.T->Option R)->Option R
 | [],st,b=>b st
 |o::d,st,b=>guJ c P Φ C CR n a o st λst=>cy c P Φ C CR n a d st b
def cD(c:YL N R)(P:GQ)(Φ:Nat->Option (CQ N))(C:List (SV N.T))(CR:List (SR N.T))(n:Nat)(a:Array K_)(m:Nat)(st:St N.T)(kn:St N.T->Option R):Option R:=match iT m a.size&&(GW 0 a.toList&&Yl m a.toList)with
 |true=>xp P Φ C CR n (a.toList.take m).toArray st λst=>cy c P Φ C CR n a (a.toList.drop m) st kn
 |false=>C7
variable {C : List (SV N.T)} {CR : List (SR N.T)} {n : Nat} {bs : List (Nat × BZ)} {P : GQ} [C3 N P] {Φ : Nat -> Option (CQ N)} {G : Hp -> Fm -> R -> Prop} {yl : YL N R} {yv : BZ}
section
variable{o:K_}{kn:St N.T->Option R}{Q:Exit->Act->IW->Prop}
theorem Ml(g:∀f q,Φ f=Ac q->Bu P f q)(j:∀H c Of r,H.le c->G H Of r->G c Of r)(u:QU P bs yl yv G){o:K_}{Of:Fm}{st:St N.T}{η:Nat->BZ}{H:Hp}{a:Act}{w:IW}{kn:St N.T->Option R}{r:R}(l:G H Of r)(h:Sat C CR n Of bs st η H a w)(m:WF C CR bs st)(i:Rn yl P Φ C CR n o st kn=Ac r){K:Act->IW->Prop}{Q:Exit->Act->IW->Prop}
  (k:∀d r' b η' c a' w',H.le c->G c d r'->Sat C CR n d bs b η' c a' w'->WF C CR bs b->kn b=Ac r'->K a' w'):o.wp P a w K Q:=by
 grind[Rn,Wd,Rm]
theorem qX(l:∀f q,Φ f=Ac q->Bu P f q)(D:∀H p Of r,H.le p->G H Of r->G p Of r)(E:QU P bs yl yv G){x:Array K_}{Of:Fm}{st:St N.T}{η:Nat->BZ}{H:Hp}{a:Act}{w:IW}{r:R}(d:G H Of r)(h:Sat C CR n Of bs st η H a w)(F:WF C CR bs st)(g:guJ yl P Φ C CR n x o st kn=Ac r){K:Act->IW->Prop}
  (A:∀v r' c η' p a' w',H.le p->G p v r'->Sat C CR n v bs c η' p a' w'->WF C CR bs c->kn c=Ac r'->K a' w'):if fy o (yielded x a.tmps)then o.wp P a w K Q else K (a.put o.dst undef) w:=by
 have m:∀ {e:St N.T},Sat C CR n Of bs e η H a w->WF C CR bs e->It n o.dst e kn=Ac r->K (a.put o.dst undef) w:=λ{e} M O S=>by grind[Rv,Hp.le.refl]
 unfold guJ at g;split at g;· rw[if_pos (by grind[fy])];grind[Ml]
 ·rename_i j i k;split at g;· grind
  ·rename_i t J;split at g;· rename_i V;have L:=h.lk t;rw[V]at L;rw[if_neg (by simp[fy,k,IF J L])];grind
   ·obtain⟨b,c,I,T,U,u⟩:=UY h F g;have B:=Gr J I;obtain⟨y,z⟩:=PL (t:=t) (s:= .lb b) T U I rfl rfl;cases b with
    |true=>
     cases i with
     |true=>
      rw[if_pos (by grind[fy])];grind[Ml]
     |false=>
      rw[if_neg (by simp[fy,k,B])];exact m y z u
    |false=>
     cases i with
     |false=>
      rw[if_pos (by simp[fy,k,B])];exact Ml l D E d y z u A
     |true=>
      rw[if_neg (by simp[fy,k,B])];exact m y z u
theorem SZ(i:∀f q,Φ f=Ac q->Bu P f q)(A:∀H c Of r,H.le c->G H Of r->G c Of r)(B:QU P bs yl yv G){j:Array K_}{Q:Exit->Act->IW->Prop}{kn:St N.T->Option R} :∀ {os:List K_} {Of:Fm} {r:R} {st:St N.T} {η:Nat->BZ} {H:Hp} {a:Act} {w:IW},G H Of r->Sat C CR n Of bs st η H a w->WF C CR bs st->cy yl P Φ C CR n j os st kn=Ac r->
  (∀d r' b η' c a' w',H.le c->G c d r'->Sat C CR n d bs b η' c a' w'->WF C CR bs b->kn b=Ac r'->Q .normal a' w')->PF P j Q os a w
 | [],Of,r,st,η,H,a,w,u,h,x,t,s=>s Of r st η H a w (Hp.le.refl H) u h x t
 |o::os,Of,r,st,η,H,a,w,u,h,x,t,s=>by exact qX i A B u h x t λd r' b η' c a' w' v J K L M=>SZ i A B J K L M λe y k l m p z g D E F I=>s e y k l m p z (v.trans g) D E F I
theorem T0{A B:List K_}{g:Array BZ}(h:∀j b,o.guard=Ac (j,b)->∃t,BL A.toArray j=Ac t):fy o (yielded (A++B).toArray g)=fy o (yielded A.toArray g):=by
 cases i:o.guard with
 |none=>grind[fy]
 |some l=>
  obtain⟨j,b⟩:=l;grind[BL,yielded,fy]
theorem cC(hΦ:∀f q,Φ f=Ac q->Bu P f q)(hm:P.follows .mixedOrders=Bp)(hG:∀H F Of r,H.le F->G H Of r->G F Of r)(hY:QU P bs yl yv G){Of:Fm}{Q:Exit->Act->IW->Prop}{id m:Nat}{u:Array K_}{kn:St N.T->Option R}{r:R}{st:St N.T}{η:Nat->BZ}{H:Hp}{a:Act}{w:IW}(hg:G H Of r)(h:Sat C CR n Of bs st η H a w)(hw:WF C CR bs st)
  (L:cD yl P Φ C CR n u m st kn=Ac r) (hK:∀I r' D η' F a' w',H.le F->G F I r'->Sat C CR n I bs D η' F a' w'->WF C CR bs D->kn D=Ac r'->Q .normal a' w'):(Code.region id u Bp).wp P Q a w:=by
 unfold cD at L;split at L;case h_2=>grind
 rename_i hck;simp only[AT]at hck;obtain⟨hsz,hbk,hct⟩:=hck;have hsz:m<=u.size:=by simp_all
 obtain⟨A,B,rfl,hA⟩:∃A B:List K_,u=(A++B).toArray/\A.length=m:=⟨u.toList.take m,u.toList.drop m,by simp,by grind⟩;have e1:(A++B).toArray.toList.take m=A:=by grind
 have e2:(A++B).toArray.toList.drop m=B:=by grind
 rw[e1,e2]at L;rw[<-hA]at hct;unfold xp at L;split at L;case h_2=>grind
 rename_i hfr;have iv0:IV P C CR n bs A st st [] 0:=⟨rfl,λt sv ht η H v hv=>by have hv:(s0 st t).is C η H v:=hv;simp_all[s0],λk=>rfl,hw,Aac _,λj s K=>by simp at K,λj o s hj=>by omega⟩;obtain⟨D,O,k1,V⟩:=Lh (l:=A) hΦ A st [] 0 rfl (Abe _) iv0 (by simpa using L);split at k1;case h_2=>cases k1
 rename_i g
 have y:=hfr;unfold C0 at y;rw[AT]at y;have hTr:∀i o,A[i]?=Ac o->∃s,O[i]?=Ac s:=λi o ho=>by
  have:i<O.length:=by rw[(Kl g).2.1];exact(No.1 ho).1
  exact⟨O[i],IS this⟩
 have hl:∀i o s,A[i]?=Ac o->O[i]?=Ac s->dS P C A.toArray n st.nk o s (λt=>Ce A O (s0 st) (λ_=>Bp) t i) (λk=>Cp O (An CR st.O) (λ_=>Bp) k i):=λi o s ho K=>V.loc i o s (No.1 ho).1 ho K;refine iS (J:=JV C n Of bs st.nk A O (s0 st) (An CR st.O) H) hm (by simpa using hbk) (by simpa using hct) (λp a' w' i o U hpi hcl hanc S hJ=>?_) (λp a' w' Z hJ=>?_) ?_
 ·rw[T0 λj b hgd=>by
   obtain⟨s,K⟩:=hTr i o U;have M:=hl i o s U K;cases s with
   |skip=>
    obtain⟨j',b',t,E,W,_⟩:=M.skip rfl;rw[hgd]at E;cases E;exact⟨t,W⟩
   |run z=>
    obtain⟨t,E,_⟩:=(M.run z rfl).1 j b hgd;exact⟨t,E⟩];refine Tp h.inv g hw.mC (λt k c=>?_) (λk x c=>⟨?_,D1 c hfr⟩) hw.lo hl p a' w' i o U hpi hcl hanc S hJ
  ·unfold s0 at c;split at c;· rename_i s K;have:=IT.1 (IT.1 y.1 _ (A4 K)) k c;simpa using this
   ·cases c
  ·have hlk:Ay st.O k≠C7:=λe=>by unfold An at c;rw[e]at c;cases c
   exact Aby λT=>hlk (hw.ok k T)
 ·obtain⟨η',F,Y,E,W,g3,g4,g5,g6,g7,g8,g9⟩:=hJ.all Z;refine SZ hΦ hG hY (hG _ _ _ _ E hg) (st:=D) (η:=η') (H:=F) ⟨N.CY E h.inv,W,g3,λt sv ht=>V.sl t sv ht η' F _ (g4 t),g5,Y,g6,g7,λk c=>?_,λk sr c=>g9 k sr (by rw[<-V.ow k];exact c)⟩ V.wf k1 λI r' st2 η2 H2 a2 w2 T q0 q1 q2 q3=>hK I r' st2 η2 H2 a2 w2 (E.trans T) q0 q1 q2 q3;rcases g8 k c with e|⟨j,s,_,e2,e3⟩;· exact Abq e V.le
  ·exact V.ks j s e2 k e3
 ·obtain⟨Y,E,W,g3,g4⟩:=h.own;refine⟨η,H,Y,Hp.le.refl H,h.defers,h.size,λt=>?_,h.base,E,W.drew,λk c=> .inl (g3 k c),λk sr c=>g4 k sr ?_⟩
  ·rw[HK (i:=0) A.length (Abe _) (λ_ _ _ _=>rfl)];show(s0 st t).is C η H _;unfold s0;split;· rename_i s K;exact h.Bo t s K
   ·trivial
  ·rw[HJ (i:=0) A.length (Abe _) (λ_ _ _ _ _ _=>rfl)]at c;exact c
end
end
section
variable {N : C9} {R : Type}
def Uk:List Tmp->List (SV N.T)->List (Nat×SV N.T)->List (Nat×SV N.T)
 |t::ts,s::ss,L=>Uk ts ss ((t,s)::L)
 |_,_,L=>L
def IC{X Y:Type}(f:Y->X->(X->Option R)->Option R)(a:X->Option R):List Y->X->Option R
 | [],x=>a x
 |y::ys,x=>f y x (IC f a ys)
def Rg(e:Bool)(k:Option R):Option R:=match e with
 |true=>k
 |false=>C7
def isC(p:Nat×SP):Bool:=match p.2 with
 | .c _=>Bp
 |_=>Aj
def vr(q:IQ N):Bool:=((q.pi.ro.map (·.1)).all λk=>bg k q.pi.nk)&&(Ci (q.pi.ro.map (·.1))&&(q.pi.ro.all λp=>p.2.ks.all λk=>B_ (q.pi.ro.map (·.1)) k))
def Sf(a:List Nat)(st:St N.T):St N.T:=app st C7 ⟨.no,[],a.map λk=>(k, .gone)⟩ st.nk
def WY(q:IQ N)(x:BJ N q.pi.hs)(m:List (Nat×Nat))(s:St N.T):St N.T:=⟨s.L,(q.pi.ro.map λp=>(AZ m p.1,(instR N q.pi.hs x p.2).DP (AZ m)))++s.O,s.nk⟩
abbrev eY(N:C9)(R:Type):=Nat->List (SV N.T)->List (SR N.T)->St N.T->(St N.T->Option R)->(Nat->St N.T->Option R)->(St N.T->Option R)->Option R
def fZ(C:List (SV N.T))(CR:List (SR N.T))(nk:Nat)(ps:Array Tmp)(q:IQ N)(x:BJ N q.pi.hs)(m:List (Nat×Nat))(p:A')(z:Kc N.T)(b c:eY N R)(ke:Nat->St N.T->Option R)(kr:St N.T->Option R)(y:DQ N q.ts)(a:BJ N (GS p z).hs)(nx:BJ N (GS p z).hs->Option R):Option R:=b nk z.C z.CR ⟨Uk ps.toList (Q5 q.ts y) (FI N (GS p z) a).L,(FI N (GS p z) a).O,(FI N (GS p z) a).nk⟩ (λs=>c nk z.C z.CR s (λs=>Ab (SQ N z.C z.CR nk (GS p z) ⟨(FI N (GS p z) a).L,s.O,s.nk⟩) nx) (λi s=>ke i (D0 z.C z.CR C.length CR.length (WY q x m ⟨(FI N (GS p z) a).L,s.O,s.nk⟩))) (λs=>kr (D0 z.C z.CR C.length CR.length (WY q x m ⟨(FI N (GS p z) a).L,s.O,s.nk⟩)))) (λ_ _=>C7) (λ_=>C7)
def oM(
     C:List (SV N.T)) (CR:List (SR N.T)) (n:Nat) (ps:Array Tmp) (e:Option A') (st:St N.T) (q:IQ N) (l:SV N.T) (cs:List Nat) (c d:eY N R) (kn:St N.T->Option R) (ke:Nat->St N.T->Option R) (kr:St N.T->Option R):Option (Option R):=
 match(Hj (FF l cs).length q.pi.sl.length&&q.pi.sl.all (λp=>bg p.1 (FF l cs).length))&&(vr q&&Hj q.yi (Te l).length)with
 |false=>C7
 |true=>
      match JS C (An CR st.O) (λi=>(FF l cs).getD i .no) (Hk C (An CR st.O) (λi=>(FF l cs).getD i .no) q.pi) q.pi with
  |none=>C7
  |some x=>Ac (match e with
   |none=>C7
   |some p=>match wR C CR (Sf (q.pi.ro.map λp=>AZ (Hk C (An CR st.O) (λi=>(FF l cs).getD i .no) q.pi) p.1) st) p with
    |none=>C7
    |some z=>match(z.sl.all isC&&Hj z.st.nk st.nk)&&(Hj ps.size q.ts.length&&ps.toList.all (λt=>bg t n))with
     |false=>C7
     |true=>Ab (q.F x) λys=>Ab (SQ N z.C z.CR st.nk (GS p z) z.st) λx0=>
      IC (fZ C CR st.nk ps q x (Hk C (An CR st.O) (λi=>(FF l cs).getD i .no) q.pi) p z c d ke kr)
       (λf=>Rg ys.2 (kn (D0 z.C z.CR C.length CR.length (WY q x (Hk C (An CR st.O) (λi=>(FF l cs).getD i .no) q.pi) (FI N (GS p z) f))))) ys.1 x0)
structure Sa(C:List (SV N.T))(CR:List (SR N.T))(n:Nat)(bs:List (Nat×BZ))(st:St N.T)(η:Nat->BZ)(H:Hp)(tm:Array BZ)(Y:List (Nat×Ax)):Prop where
 inv:N.inv H
 size:tm.size=n
 Bo:∀t sv,Ay st.L t=Ac sv->sv.is C η H (tm.getD t undef)
 base:∀p∈bs,η p.1=p.2
 nd:(keys Y).Nodup
 lt:∀k∈keys Y,k<st.nk
 res:∀k sr,An CR st.O k=Ac sr->DU C η H Y k sr
variable {C : List (SV N.T)} {CR : List (SR N.T)} {n : Nat} {Of : Fm} {bs : List (Nat × BZ)} {st : St N.T} {η : Nat -> BZ} {H : Hp} {a : Act} {w : IW} {Y : List (Nat × Ax)}
section
variable{nk:Nat}{η':Nat->BZ}{c:Hp}{k:Nat}{L:List (Nat×SV N.T)}{τ:Nat->Nat}{q:IQ N}{x:BJ N q.pi.hs}{m:List (Nat×Nat)}{tm:Array BZ}
theorem Sat.sa(h:Sat C CR n Of bs st η H a w):∃Y,Sa C CR n bs st η H a.tmps Y/\SH w H (Y.map (·.2)++Of.O):=by obtain⟨Y,b,c,d,e⟩:=h.own;exact⟨Y,⟨h.inv,h.size,h.Bo,h.base,b,d,e⟩,c⟩
theorem Sa.sat{b:Array BZ}(h:Sa C CR n bs st η H b Y){O:List Ax}{ds:List Deferred}(c:SH w H (Y.map (·.2)++O)):Sat C CR n ⟨O,ds⟩ bs st η H ⟨b,ds⟩ w:=
 ⟨h.inv,rfl,h.size,h.Bo,h.base,Y,h.nd,c,h.lt,h.res⟩
theorem Sa.mono{d:Array BZ}(h:Sa C CR n bs st η H d Y)(b:H.le c):Sa C CR n bs st η c d Y:=
 ⟨N.CY b h.inv,h.size,λt sv i=>(h.Bo t sv i).mono b,h.base,h.nd,h.lt,λk j g=>(h.res k j g).imp id λ⟨x,e,f⟩=>⟨x,e,f.mono b⟩⟩
def FP(η:Nat->BZ)(nk:Nat):List (Nat×BZ):=(a_ nk).map λk=>(k,η k)
theorem Nt(h:k<nk):(k,η k)∈FP η nk:=By.2 ⟨k,Abg.2 h,rfl⟩
theorem Ii{p:Nat×BZ}(h:p∈FP η nk):p.1<nk/\p.2=η p.1:=by obtain⟨k,b,rfl⟩:=By.1 h;grind
theorem L1(h:∀p∈FP η nk,η' p.1=p.2)(b:k<nk):η' k=η k:=h _ (Nt b)
theorem Ym{e:Array BZ}(hc:∀t sv,Ay L t=Ac sv->∃j,sv= .Cv j)(g:∀k∈CV C,η' k=η k)(b:H.le c)(h:∀t sv,Ay L t=Ac sv->sv.is C η H (e.getD t undef)):∀t sv,Ay L t=Ac sv->sv.is C η' c (e.getD t undef):=λt sv d=>by obtain⟨j,rfl⟩:=hc t sv d;exact((h t _ d).env g (λk f=>by cases f)).mono b
theorem cM{O e:List (Nat×SR N.T)}(hc:∀t sv,Ay L t=Ac sv->∃j,sv= .Cv j)(f:∀s∈C,RW s=Bp)(h:Ny (An CR O) (Cu C L) τ):Ny (An CR e) (Cu C L) τ:=λt=>by
 have b:=h t;unfold Cu at b⊢;cases d:Ay L t with
 |none=>trivial
 |some sv=>
  obtain⟨j,rfl⟩:=hc t sv d;rw[d]at b;simp only[res]at b⊢;rw[Aae]at b⊢;cases c:C[j]? with
  |none=>trivial
  |some s=>
   rw[c]at b;have:=f s (Aai c);cases s<;>first|exact b|trivial
theorem iO{p:A'}{x:BJ N p.hs}(h:p.sl.all isC=Bp):∀t sv,Ay (FI N p x).L t=Ac sv->∃j,sv= .Cv j:=λt sv c=>by
 obtain⟨q,b,_,rfl⟩:=DF c;have:=IT.1 h q b;unfold isC at this;split at this;· rename_i j e;rw[e];exact⟨j,rfl⟩
 grind
theorem ae{η:Nat->BZ} :∀(ts:List Tmp) (ss:List (SV N.T)) (vs:List BZ) (L:List (Nat×SV N.T)) (b:Array BZ),vs.length=ss.length->ss.length=ts.length->(∀t∈ts,t<b.size)->(∀(i:Nat) (s:SV N.T),ss[i]?=Ac s->∃v,vs[i]?=Ac v/\s.is C η H v)->
  (∀t sv,Ay L t=Ac sv->sv.is C η H (b.getD t undef))->((ts.zip vs).foldl (λb (p:Tmp×BZ)=>b.setIfInBounds p.1 p.2) b).size=b.size/\∀t sv,Ay (Uk ts ss L) t=Ac sv->sv.is C η H (((ts.zip vs).foldl (λb (p:Tmp×BZ)=>b.setIfInBounds p.1 p.2) b).getD t undef)
 | [],[],[],L,b,_,_,_,_,h=>⟨rfl,h⟩
 | [],_::_,_,_,_,_,h,_,_,_=>by grind
 |_::_,[],_,_,_,_,h,_,_,_=>by grind
 |_,_::_,[],_,_,h,_,_,_,_=>by grind
 | [],[],_::_,_,_,h,_,_,_,_=>by grind
 |t::ts,s::ss,v::vs,L,b,m,o,j,k,q=>by
  have:=ae ts ss vs ((t,s)::L) (b.setIfInBounds t v) (by grind) (by grind) (λu d=>by grind) (λi s r=>k (i+1) s (by grind)) λu sv d=>by
   simp only[Ay]at d;cases f:Hj t u with
   |true=>
    rw[f]at d;have:=AI f;obtain⟨z,e,y⟩:=k 0 s rfl;simp_all
   |false=>
    simp_all[ne,Abf]
  exact⟨by simp_all,this.2⟩
theorem O3:∀(ts:List Ty) (y:DQ N ts),∀s∈Q5 ts y,EY s=Bp/\R1 s=Bp
 | [],_,s,h=>by trivial
 | [t],y,s,h=>by simp[Q5]at h;subst h;trivial
 |t::u::ts,y,s,h=>by
  simp only[Q5,Aav]at h;rcases h with rfl|h;· trivial
  ·exact O3 (u::ts) y.2 s h
theorem VW{τ:Nat->Nat}{Rr:Nat->Option (SR N.T)} :∀(ts:List Tmp) (ss:List (SV N.T)) (L:List (Nat×SV N.T)),(∀s∈ss,EY s=Bp/\R1 s=Bp)->Ny Rr (Cu C L) τ->Ny Rr (Cu C (Uk ts ss L)) τ
 | [],_,_,_,h=>h
 |_::_,[],_,_,h=>h
 |t::ts,s::ss,L,c,h=>by
  refine VW ts ss ((t,s)::L) (λz f=>c z (by grind)) λq=>?_;have b:=h q;unfold Cu at b⊢;simp only[Ay];cases g:Hj t q with
  |true=>
   obtain⟨d,e⟩:=c s (by simp);have:res C s=s:=by cases s<;>first|rfl|cases e
   grind[DC]
  |false=>omega
theorem gS{A:Nat->SV N.T}{vs:List BZ}(hx:JS C (An CR st.O) A m q.pi=Ac x)(M:vr q=Bp)(len:vs.length=q.pi.sl.length)(hv:∀p∈q.pi.sl,∃v,vs[p.1]?=Ac v/\(A p.1).is C η H v)
  (h:Sa C CR n bs st η H tm Y) (hw:WF C CR bs st):
  (q.pi.ro.map λp=>AZ m p.1).Nodup/\(∀p∈q.pi.ro,AZ m p.1<st.nk)/\(∀p∈q.pi.sl,∃v,vs[p.1]?=Ac v/\(inst N q.pi.hs x p.2).is [] (λc=>η (AZ m c)) H v)/\WF C CR bs (Sf (q.pi.ro.map λp=>AZ m p.1) st)/\
  ∃Yc U:List (Nat×Ax),keys Yc=q.pi.ro.map (·.1)/\(∀p∈q.pi.ro,∃X,Ay Yc p.1=Ac X/\(instR N q.pi.hs x p.2).is [] (λc=>η (AZ m c)) H p.1 X)/\Sa C CR n bs (Sf (q.pi.ro.map λp=>AZ m p.1) st) η H tm U/\∀w O,SH w H (Y.map (·.2)++O)->SH w H (Yc.map (·.2)++(U.map (·.2)++O)):=by
 obtain⟨B,Q,D⟩:=LZ (C:=C) (η:=η) (H:=H) (Y:=Y) (vs:=vs) (A:=A) hx len hv (λp d r f=>h.res _ r f);generalize o:(q.pi.ro.map λp=>AZ m p.1)=l at B;have T:∀k∈l,∃r,An CR st.O k=Ac r:=λk b=>by grind
 have S:∀k∈l,k<st.nk:=λk b=>by refine Aby λL=>?_;have:=hw.ok k L;grind[An]
 have F:keys (l.map λk=>(k,(SR.gone:SR N.T)))=l:=by unfold keys;rw[Aaj];exact Afi _
 refine⟨B,λp d=>S _ (by grind),Q,hw.VG (n:=n) ⟨?_,Aac _,λj W i=>?_,λ_ _=>trivial⟩,q.pi.ro.map (λp=>(p.1,(Ay Y (AZ m p.1)).getD .emp)),Y.filter (λp=> !B_ l p.1),?_,λp d=>?_,⟨h.inv,h.size,λt sv I=>?_,h.base,(Aco.map _).nodup h.nd,λk b=>?_,λk r b=>?_⟩,λw O P=>?_⟩;· unfold Hb;simp only[NW,R1,Bool.and_self,Alh,AT,Agk,and_true];refine IT.2 λp d=>?_;grind[Ot,nD]
 ·grind
 ·simp[keys]
 ·obtain⟨_,X,J,h2⟩:=D p d;refine⟨X,?_,h2⟩;unfold vr at M;have nd:(keys (q.pi.ro.map (λp=>(p.1,(Ay Y (AZ m p.1)).getD .emp)))).Nodup:=by
   unfold keys;grind
  rw[CK nd (By.2 ⟨p,d,rfl⟩),J];rfl
 ·have I:Ay (jc (keys (l.map λk=>(k,(SR.gone:SR N.T)))) st.L) t=Ac sv:=I;rw[QH]at I;obtain⟨z,y,rfl⟩:=Pd.1 I;exact QI (h.Bo t z y)
 ·obtain⟨p,d,rfl⟩:=By.1 b;exact h.lt _ (By.2 ⟨p,(Aaz.1 d).1,rfl⟩)
 ·have b:An CR ((l.map λk=>(k,(SR.gone:SR N.T)))++st.O) k=Ac r:=b;rw[Hd _ _ (λp d=>by obtain⟨k,_,rfl⟩:=By.1 d;rfl)]at b;unfold RT at b;split at b;· rename_i s G;cases b;obtain⟨k',_,e⟩:=By.1 (A4 G);cases e;exact .inl rfl
  ·have hn:k∉l:=λhm=>by
    obtain⟨z,y⟩:=Du (show k∈keys (l.map λk=>(k,(SR.gone:SR N.T))) by rw[F];exact hm);grind
   exact(h.res k r b).imp id λ⟨z,g1,g2⟩=>⟨z,by rw[LS hn];exact g1,g2⟩
 ·have y:=SH.Ri P (Z:=(q.pi.ro.map λp=>(AZ m p.1,(Ay Y (AZ m p.1)).getD .emp))++Y.filter λp=> !B_ l p.1) (by
   unfold keys;rw[Aap,Aaj];refine Acq.2 ⟨by show(q.pi.ro.map λp=>AZ m p.1).Nodup;rw[o];exact B,(Aco.map _).nodup h.nd,λk b k' K e=>?_⟩;subst e;obtain⟨p,d,rfl⟩:=By.1 K;have V:=(Aaz.1 d).2;have b:p.1∈q.pi.ro.map λp=>AZ m p.1:=b;rw[o]at b;rw[AR.2 b]at V;cases V) (λp d=>by
   rcases AS.1 d with d|d;· obtain⟨z,y,rfl⟩:=By.1 d;obtain⟨_,X,J,_⟩:=D z y;simp only[J,Acv]
   ·exact CK h.nd (Aaz.1 d).1);rw[Aap,Aaj,Aal]at y;rw[Aaj];exact y
theorem XF{ρ:Nat->Nat}(s:SR N.T):Ot (s.DP ρ)=Bp:=by cases s<;>rfl
theorem iD{G:Hp}{Yc:List (Nat×Ax)}(W:vr q=Bp)(o:(q.pi.ro.map λp=>AZ m p.1).Nodup)(B:∀p∈q.pi.ro,AZ m p.1<nk)(V:nk<=st.nk)(M:∀k,k<nk->η' k=η k)
  (hc:∀t sv,Ay st.L t=Ac sv->∃j,sv= .Cv j) (r:keys Yc=q.pi.ro.map (·.1)) (hr:∀p∈q.pi.ro,∃X,Ay Yc p.1=Ac X/\(instR N q.pi.hs x p.2).is [] (λc=>η (AZ m c)) G p.1 X) (h:Sa C CR n bs st η' G tm Y) (J:WF C CR bs st):
  WF C CR bs (WY q x m st)/\∃Y',Sa C CR n bs (WY q x m st) η' G tm Y'/\∀w O,SH w G (Yc.map (·.2)++(Y.map (·.2)++O))->SH w G (Y'.map (·.2)++O):=by
 unfold vr at W;simp only[AT]at W;obtain⟨o1,o2,o3⟩:=W;generalize u:(q.pi.ro.map λp=>AZ m p.1)=K at o;have y:keys (q.pi.ro.map λp=>(AZ m p.1,(instR N q.pi.hs x p.2).DP (AZ m)))=K:=by unfold keys;rw[Aaj,<-u];rfl
 have inj:∀c∈q.pi.ro.map (·.1),∀d∈q.pi.ro.map (·.1),AZ m c=AZ m d->c=d:=λc hc d U e=>by obtain⟨p,i,rfl⟩:=By.1 hc;obtain⟨p',D,rfl⟩:=By.1 U;grind[AZ,Qd]
 have b:keys (Yc.map λp=>(AZ m p.1,p.2))=K:=by
  unfold keys at r⊢;rw[Aaj];have e:(Yc.map ((·.1)∘λp=>(AZ m p.1,p.2)))=(Yc.map (·.1)).map (AZ m):=by simp
  rw[e,r,Aaj,<-u];rfl
 refine⟨⟨J.lo,λj A=>?_,?_,J.mC,J.cP⟩,(Yc.map λp=>(AZ m p.1,p.2))++Y.filter (λp=> !B_ K p.1),⟨h.inv,h.size,h.Bo,h.base,?_,λk l=>?_,λk sr g=>?_⟩,λw O hsh=>?_⟩;· have A:st.nk<=j:=A;show Ay ((q.pi.ro.map λp=>(AZ m p.1,(instR N q.pi.hs x p.2).DP (AZ m)))++st.O) j=C7;rw[BT,J.ok j A,Cz λI=>?_];grind
 ·obtain⟨τ,hτ⟩:=J.wf;exact⟨τ,cM hc J.cP hτ⟩
 ·unfold keys at b⊢;rw[Aap,b];refine Acq.2 ⟨o,(Aco.map _).nodup h.nd,λk r k' g e=>?_⟩;grind[AR]
 ·show k<st.nk;unfold keys at l b;rw[Aap,b]at l;rcases AS.1 l with l|l;· grind
  ·obtain⟨p,i,rfl⟩:=By.1 l;exact h.lt _ (By.2 ⟨p,(Aaz.1 i).1,rfl⟩)
 ·have g:An CR ((q.pi.ro.map λp=>(AZ m p.1,(instR N q.pi.hs x p.2).DP (AZ m)))++st.O) k=Ac sr:=g;rw[Hd _ _ (λp i=>by obtain⟨z,_,rfl⟩:=By.1 i;exact Jm (XF _))]at g;unfold RT at g;split at g
  ·rename_i s S;cases g;obtain⟨p,i,e⟩:=By.1 (A4 S);cases e;obtain⟨X,x1,x2⟩:=hr p i;have Z:p.1∈q.pi.ro.map (·.1):=By.2 ⟨p,i,rfl⟩;refine .inr ⟨X,?_,SR.MA (M _ (B p i)) (λj A=>?_) x2⟩;· rw[BT,V7 (λd U e=>inj d (by rw[<-r];exact U) p.1 Z e),x1]
   ·have A:=instR_ment _ _ _ _ A;have:=AR.1 (IT.1 (IT.1 o3 p i) j A);obtain⟨p',D,rfl⟩:=By.1 this;exact M _ (B p' D)
  ·rename_i S;have Q:k∉K:=λI=>by
    obtain⟨z,hz⟩:=Du (show k∈keys (q.pi.ro.map λp=>(AZ m p.1,(instR N q.pi.hs x p.2).DP (AZ m))) by rw[y];exact I);rw[hz]at S;cases S
   refine(h.res k sr g).imp id λ⟨z,g1,g2⟩=>⟨z,?_,g2⟩;rw[BT,Cz (by rw[b];exact Q),LS Q];exact g1
 ·have L:SH w G (((Yc.map λp=>(AZ m p.1,p.2))++Y).map (·.2)++O):=by
   rw[Aap,Aaj,Aal];exact hsh
  refine SH.Ri L ?_ λp i=>?_;· unfold keys at b⊢;rw[Aap,b];refine Acq.2 ⟨o,(Aco.map _).nodup h.nd,λk r k' g e=>?_⟩;subst e;obtain⟨p,i,rfl⟩:=By.1 g;have v:=(Aaz.1 i).2;rw[AR.2 r]at v;cases v
  ·rw[BT];rcases AS.1 i with i|i;· rw[CK (by rw[b];exact o) i]
   ·have v:=(Aaz.1 i).2;have Q:p.1∉K:=λI=>by rw[AR.2 I]at v;cases v
    rw[Cz (by rw[b];exact Q)];exact CK h.nd (Aaz.1 i).1
end
end
section
variable{w:IW}{H:Hp}{A O B D:List Ax}{b:Nat}{o:Obj}
theorem Age(h:SH w H (A++(B++(D++O)))):SH w H (D++(B++(A++O))):=by grind[Agx,List.append_assoc]
theorem Ais(h:SH w H (A++(B++(D++O)))):SH w H (A++(D++(B++O))):=Agx (Age (Agx h))
theorem Agy(h:SH w H (A++ .Ah b o::O))(o':Obj):SH (w.putObj b o') H (A++ .Ah b o'::O):=by
 have f:(A++ .Ah b o::O)[A.length]?=Ac (.Ah b o):=by simp
 have g:w.heap[b]?=Ac o:=h.ok _ _ f;have a:b<w.heap.size:=(Adv.1 g).1;have d:=h.set f (r':= .Ah b o') (Jp w b o') (IW.putObj_heap_same a) (λc hc=> .inl hc);grind
theorem SH.at_(h:SH w H (A++ .Ah b o::O)):w.heap[b]?=Ac o:=h.ok A.length (.Ah b o) (by simp)
end
section
variable {N : C9} {R : Type}
def GX(X:List Ax)(ds:List Deferred)(G:Hp->Fm->R->Prop):Hp->Fm->R->Prop:=λH Of r=> ∃a,Of=⟨X++a.O,[]⟩/\G H a r/\a.ds=ds
variable {C : List (SV N.T)} {CR : List (SR N.T)} {n : Nat} {Of : Fm} {bs : List (Nat × BZ)} {st : St N.T} {η : Nat -> BZ} {H : Hp} {a : Act} {w : IW} {Y : List (Nat × Ax)} {P : GQ} [C3 N P] {G : Hp -> Fm -> R -> Prop} {yl : YL N R} {yv : BZ}
section
variable{nk:Nat}
theorem QU.frame{f:List (Nat×BZ)}{X:List Ax}{ds:List Deferred}(l:QU P bs yl yv G)(x:∀p∈bs,p∈f):QU P f yl yv (GX X ds G):=by
 refine⟨λC i k r h=>x _ (l.mem C i k r h),λC i k r Of H s ⟨d,e,g,q⟩ v η A F w t u j=>?_⟩;subst e;have j:SH w H ((A++X)++d.O):=by grind
 refine(l.ok C i k r d H s g v η (A++X) F w t u j).mono λb J ⟨o,c,E,y,z,m,B,D⟩=>⟨o,⟨X++c.O,[]⟩,E,y,rf,by grind,⟨c,rf,B,z.trans q⟩,D⟩
def yy(P:GQ)(n:Nat)(yl:YL N R)(yv:BZ)(c:Code)(d:eY N R):Prop:= ∀(l:Nat) {C:List (SV N.T)} {CR:List (SR N.T)} {kb:Nat} {bs:List (Nat×BZ)} {G:Hp->Fm->R->Prop} {Of:Fm} {r:R} {st:St N.T} {kn:St N.T->Option R} {ke:Nat->St N.T->Option R} {kr:St N.T->Option R} {η:Nat->BZ} {H:Hp} {a:Act} {w:IW} {Q:Exit->Act->IW->Prop},(∀q∈bs,q.1<kb)->(∀H b Of r,H.le b->G H Of r->G b Of r)->QU P bs yl yv G->G H Of r->Sat C CR n Of bs st η H a w->WF C CR bs st->d kb C CR st kn ke kr=Ac r->Kn C CR n G bs H kn (Q .normal)->(∀i,Kn C CR n G bs H (ke i) (Q (.exit i)))->Kn C CR n G bs H kr (Q .ret)->c.wpIn (FR (Ac l)) 0 P Q a w
theorem nt(b:WF C CR (FP η nk) st):nk<=st.nk:=by
 cases nk with
 |zero=>omega
 |succ k=>exact b.lo _ (Nt (Aff k))
theorem QP{η' f:Nat->BZ}{m g:Hp}{u:Array BZ}{L:List (Nat×SV N.T)}{o:List (Nat×SR N.T)}{e:Nat}{b:St N.T}{O:List Ax}{v:Act}(hc:∀t sv,Ay L t=Ac sv->∃j,sv= .Cv j)(q:∀k∈CV C,k<nk)(i:m.le g)
  (s:Sa C CR n (FP η nk) ⟨L,o,e⟩ η' m u Y) (r:WF C CR (FP η nk) ⟨L,o,e⟩) (h1:Sat C CR n ⟨O,[]⟩ (FP η nk) b f g v w) (c:WF C CR (FP η nk) b):
  WF C CR (FP η nk) ⟨L,b.O,b.nk⟩/\∃h,Sa C CR n (FP η nk) ⟨L,b.O,b.nk⟩ f g u h/\SH w g (h.map (·.2)++O):=by
 obtain⟨h,d,x⟩:=h1.sa;obtain⟨τ,l⟩:=r.wf;refine⟨⟨c.lo,c.ok,⟨τ,cM hc r.cP l⟩,c.mC,c.cP⟩,h,⟨d.inv,s.size,?_,d.base,d.nd,d.lt,d.res⟩,x⟩;exact Ym hc (λk p=>(L1 d.base (q k p)).trans (L1 s.base (q k p)).symm) i s.Bo
theorem fX{q:IQ N}{f:Nat}{l:SV N.T}{cs:List Nat}{asg body:Code}{da db:eY N R}{ps:Array Tmp}{g:Dn}{pp:Option A'}{kn:St N.T->Option R}{ke:Nat->St N.T->Option R}{kr:St N.T->Option R}{r:R}{Q:Exit->Act->IW->Prop}(hsp:I9 P f q)(hda:yy P n yl yv asg da)(hdb:yy P n yl yv body db)
  (hG:∀H H' Of r,H.le H'->G H Of r->G H' Of r) (hpush:∀H Of r D,G H Of r->G H (K9 D Of) r) (hY:QU P bs yl yv G) (hg:G H Of r) (h:Sat C CR n Of bs st η H a w) (hw:WF C CR bs st) {us:List BZ} (he:a.eval g= .func (.func f) us.toArray (cs.map η).toArray) (hl:l.is C η H (.tuple us.toArray)) (hb:vv l=Bp)
  (hcs:∀c∈cs,∃g b,An CR st.O c=Ac (.Ah g b)) (hd:oM C CR n ps pp st q l cs da db kn ke kr=Ac (Ac r)) (hn:Kn C CR n G bs H kn (Q .normal)) (hke:∀i,Kn C CR n G bs H (ke i) (Q (.exit i))) (hkr:Kn C CR n G bs H kr (Q .ret)):(Alx g ps asg body).wp P Q a w:=by
 unfold oM at hd;split at hd;· grind
 rename_i hck;simp only[AT]at hck;obtain⟨⟨ck1,ck2⟩,ck3,ck4⟩:=hck;split at hd;· grind
 rename_i x hx;replace hd:=Abs hd;generalize hm:Hk C (An CR st.O) (λi=>(FF l cs).getD i .no) q.pi=m at hx hd;split at hd;· grind
 rename_i p;split at hd;· grind
 rename_i z hz;split at hd;· grind
 rename_i hck2;simp only[AT]at hck2;obtain⟨⟨cz1,cz2⟩,cz3,cz4⟩:=hck2;obtain⟨ys,hys,hd⟩:=Bi hd;obtain⟨x0,hx0,hd⟩:=Bi hd;obtain⟨g1,g2⟩:=Nh hb hl;obtain⟨Y,sa,hsh⟩:=h.sa;refine Xg (us:=us) (caps:=cs.map η) he hsp.cq λfn=>?_;generalize hD:w.heap.size=D;generalize K:Bj fn a.tmps ps asg body D=d;have hlen:(us++[BZ.func (.yield (D+1)) #[] #[]]++cs.map η).length=q.pi.sl.length:=by simp_all[FF]
 have hargs:∀(i:Nat) (s:SV N.T),(FF l cs)[i]?=Ac s->∃v,(us++[BZ.func (.yield (D+1)) #[] #[]]++cs.map η)[i]?=Ac v/\s.is C η H v:=λi s hi=>by
  unfold FF at hi;rw[Aal]at hi⊢;by_cases c1':i<(Te l).length;· grind
  · rw[Aab (by omega)]at hi;rw[Aab (by omega),g1];generalize hj:i-(Te l).length=j at hi⊢;cases j with
    |zero=>
     simp at hi;subst hi;exact⟨_,rfl,trivial⟩
    |succ j=>
     simp only[Afh,Ach,Acs,Acb]at hi⊢;obtain⟨c,hc,rfl⟩:=Pd.1 hi;have hcm:=Aai hc;obtain⟨g',b,hR⟩:=hcs c hcm;refine⟨η c,by grind,?_⟩;rcases sa.res c _ hR with e|⟨X,_,B,_,b1,_⟩;· cases e
     ·exact⟨B,b1,b1⟩
 have hsl:∀p∈q.pi.sl,∃v,(us++[BZ.func (.yield (D+1)) #[] #[]]++cs.map η)[p.1]?=Ac v/\((FF l cs).getD p.1 .no).is C η H v:=λp U=>by
  have hlt:p.1<(FF l cs).length:=by simpa using IT.1 ck2 p U
  obtain⟨v,e1,e2⟩:=hargs p.1 (FF l cs)[p.1] (IS hlt);refine⟨v,e1,?_⟩;rw[Aae,IS hlt];exact e2
 obtain⟨l1,l2,l3,l4,Yc,Yr,l5,l6,l7,l8⟩:=gS (A:=λi=>(FF l cs).getD i .no) hx ck3 hlen hsl sa hw;generalize hks:(q.pi.ro.map λp=>AZ m p.1)=ks at l1 l4 l7 hz;have hw1:SH ((w.alloc (.deferred (Ac []))).alloc (.loop d)) H (.Ah (D+1) (.loop d)::BF D::(Y.map (·.2)++Of.O)):=by have:=(hsh.alloc (.deferred (Ac []))).alloc (.loop d);rw[<-hD];simpa using this
 generalize hW1:(w.alloc (.deferred (Ac []))).alloc (.loop d)=w1 at hw1;have hw2:SH w1 H (Yr.map (·.2)++(([.Ah (D+1) (.loop d),BF D]:List Ax)++(Yc.map (·.2)++Of.O))):=Ais (B:=Yc.map (·.2)) (Agx (l8 w1 _ (Ahd hw1)));have l7':Sa C CR n (FP η st.nk) (Sf ks st) η H a.tmps Yr:=⟨l7.inv,l7.size,l7.Bo,λp U=>(Ii U).2.symm,l7.nd,l7.lt,l7.res⟩;have l4':WF C CR (FP η st.nk) (Sf ks st):=⟨λp U=>(Ii U).1,l4.ok,l4.wf,l4.mC,l4.cP⟩;obtain⟨c1,c2,c3,c4,c5⟩:=UE (l7'.sat (ds:=[]) hw2) l4' hz;obtain⟨η0,e1,e2⟩:=M9 c4 c5 (λp U=>(Ii U).1) hx0;obtain⟨Y0,s0,hsh0⟩:=e1.sa;have hnkz:=AI cz2;have hmz:∀k∈CV z.C,k<st.nk:=λk hk=>by rw[<-hnkz];exact c5.mC k hk
 have W:∀J:BJ N (GS p z).hs,∀t sv,Ay (FI N (GS p z) J).L t=Ac sv->∃j,sv= .Cv j:=λJ=>iO (show(GS p z).sl.all isC=Bp from cz1);let G2:Hp->List Ax->List (DQ N q.ts)×Bool->Prop:=λH' O ys'=>H.le H'/\∃I r',G H' I r'/\I.ds=Of.ds/\
  (
   (∃J E Z,O= .Ah (D+1) (.loop d)::BF D::(Z.map (·.2)++I.O)/\Sa z.C z.CR n (FP η st.nk) (FI N (GS p z) J) E H' a.tmps Z/\WF z.C z.CR (FP η st.nk) (FI N (GS p z) J)/\IC (fZ C CR st.nk ps q x m p z da db ke kr) (λJ=>Rg ys'.2 (kn (D0 z.C z.CR C.length CR.length (WY q x m (FI N (GS p z) J))))) ys'.1 J=Ac r')\/
   (
    ys'=([],Bp)/\∃c s E Z,O= .Ah (D+1) (.loop {d with state:= .done,pending:=Ac c})::BF D::(Z.map (·.2)++I.O)/\(∀t sv,Ay s.L t=Ac sv->∃j,sv= .Cv j)/\Sa z.C z.CR n (FP η st.nk) s E H' a.tmps Z/\WF z.C z.CR (FP η st.nk) s/\
    ((c= .ret/\kr (D0 z.C z.CR C.length CR.length (WY q x m s))=Ac r')\/∃i,c= .exit i/\ke i (D0 z.C z.CR C.length CR.length (WY q x m s))=Ac r')));have mono2:∀S H2 O r,S.le H2->G2 S O r->G2 H2 O r:=λS H2 O r' hle ⟨k0,I,r1,k1,k2,k3⟩=>by
  refine⟨k0.trans hle,I,r1,hG _ _ _ _ hle k1,k2,?_⟩;rcases k3 with⟨J,E,Z,q1,q2,q3,q4⟩|⟨q0,c,s,E,Z,q1,q2,q3,q4,q5⟩;· exact .inl ⟨J,E,Z,q1,q2.mono hle,q3,q4⟩
  · exact .inr ⟨q0,c,s,E,Z,q1,q2,q3.mono hle,q4,q5⟩
 have no2:∀S O,¬G2 S O ([],Aj):=λS O ⟨_,_,_,_,_,k3⟩=>by
  rcases k3 with⟨_,_,_,_,_,_,e⟩|⟨e,_⟩;· cases e
  · cases e
 have yld2:∀S O y r ce,N.inv S->G2 S O (y::r,ce)->∀A vs w,Zc S q.ts y vs->SH w S (A++O)->I7 P (.func (.yield (D+1)) #[] #[]) vs w λb w'=> ∃H' O',S.le H'/\SH w' H' (A++O')/\G2 H' O' (Lo (r,ce) b):=λS O y rest ce _ ⟨k0,I,r',k1,k2,k3⟩ A vs w' hArg hSH=>by
  rcases k3 with⟨J,E,Z,rfl,s1,f1,M⟩|⟨e,_⟩;case inr=>cases e
  have M:fZ C CR st.nk ps q x m p z da db ke kr y J (IC (fZ C CR st.nk ps q x m p z da db ke kr) (λJ=>Rg ce (kn (D0 z.C z.CR C.length CR.length (WY q x m (FI N (GS p z) J))))) rest)=Ac r':=M;obtain⟨p1,p2,p3⟩:=US (C:=z.C) (η:=E) q.ts y vs hArg;have hps:ps.size=q.ts.length:=AI cz3;obtain⟨q1,q2⟩:=ae (C:=z.C) ps.toList (Q5 q.ts y) vs (FI N (GS p z) J).L a.tmps p1 (by rw[p2,<-hps];simp) (λt ht=>by rw[h.size];simpa using IT.1 cz4 t ht) p3 s1.Bo;have hhp:w'.heap[D+1]?=Ac (.loop d):=SH.at_ hSH;have hrp:d.params=ps:=by rw[<-K]
  have hrt:d.tmps=a.tmps:=by rw[<-K]
  have hra:d.assign=asg:=by rw[<-K]
  have hrb:d.body=body:=by rw[<-K]
  have hrs:d.state= .ready:=by rw[<-K]
  have hry:=run_yield (P:=P) (args:=vs.toArray) hhp (by rw[hrp];simp[p1,p2,hps]);rw[hrp,hrt,hra,hrb,<-Array.foldl_toList,Array.toList_zip]at hry;refine⟨D+1,d.fn,_,asg,body,rfl,hry,?_⟩;generalize htm:(ps.toList.zip vs.toArray.toList).foldl (λtm (p:Tmp×BZ)=>tm.setIfInBounds p.1 p.2) a.tmps=tm' at*;have q1':tm'.size=n:=q1.trans h.size;have q2':∀t sv,Ay (Uk ps.toList (Q5 q.ts y) (FI N (GS p z) J).L) t=Ac sv->sv.is z.C E S (tm'.getD t undef):=q2;have hX:SH w' S (Z.map (·.2)++((.Ah (D+1) (.loop d)::BF D::A)++I.O)):=Age (A:=A) (B:=[.Ah (D+1) (.loop d),BF D]) (D:=Z.map (·.2)) (O:=I.O) hSH;have hYm:∀p∈bs,p∈FP η st.nk:=λp U=>by have e:=h.base p U;obtain⟨k,v⟩:=p;have e:η k=v:=e;rw[<-e];exact Nt (hw.lo _ U)
  have gm:∀X:List Ax,∀H H' Of3 r,H.le H'->GX X Of.ds G H Of3 r->GX X Of.ds G H' Of3 r:=λX H H' Of3 r hle ⟨O2,e,g,gd⟩=>⟨O2,e,hG _ _ _ _ hle g,gd⟩;refine roundIn_of_wpIn (F:=qA) trivial ?_;refine hda (D+1) (G:=GX (.Ah (D+1) (.loop d)::BF D::A) Of.ds G) (r:=r') (a:=⟨tm',[]⟩) (st:=⟨Uk ps.toList (Q5 q.ts y) (FI N (GS p z) J).L,(FI N (GS p z) J).O,(FI N (GS p z) J).nk⟩) (ke:=λ_ _=>C7) (kr:=λ_=>C7) (λp U=>(Ii U).1) (gm _) (hY.frame hYm) ⟨I,rfl,k1,k2⟩ (Sa.sat (st:=⟨Uk ps.toList (Q5 q.ts y) (FI N (GS p z) J).L,(FI N (GS p z) J).O,(FI N (GS p z) J).nk⟩) (ds:=[]) ⟨s1.inv,q1',q2',s1.base,s1.nd,s1.lt,s1.res⟩ hX) (f1.Gy λτ hτ=>VW _ _ _ (O3 _ _) hτ) M ?_ (λi Of1 r1 st1 η1 H2 a1 w1 _ _ _ _ hd1=>by cases hd1) (λOf1 r1 st1 η1 H2 a1 w1 _ _ _ _ hd1=>by cases hd1);intro Of1 r1 st1 η1 H2 a1 w1 hl1 ⟨Of2,e,g,gd⟩ h1 hw1 hd1;subst e;obtain⟨Y5,y1,y2,y3,y4⟩:=h1.own;refine⟨_,run_beginRound (SH.at_ (A:=Y5.map (·.2)) y2) hrs,?_⟩;refine hdb (D+1) (G:=GX (.Ah (D+1) (.loop {d with state:= .busy})::BF D::A) Of.ds G) (r:=r1) (Of:=⟨(.Ah (D+1) (.loop {d with state:= .busy})::BF D::A)++Of2.O,[]⟩) (λp U=>(Ii U).1) (gm _) (hY.frame hYm) ⟨Of2,rfl,g,gd⟩ ⟨h1.inv,h1.defers,h1.size,h1.Bo,h1.base,Y5,y1,Agy y2 _,y3,y4⟩ hw1 hd1 ?_ (λi=>?_) ?_
  · intro Of3 r3 st3 η3 H3 a3 w3 T ⟨Of4,e,g4,gd4⟩ V hw3 hd3;subst e;obtain⟨Y6,z1,z2,z3,z4⟩:=V.own;have hend:(Instr.endRound (D+1) C7).run P w3= .ok (.bool Bp) (w3.putObj (D+1) (.loop d)):=by
     have:=run_endRound (P:=P) C7 (SH.at_ (A:=Y6.map (·.2)) z2);rw[<-K]at this⊢;exact this
    obtain⟨b1,Y7,b2,b3⟩:=QP (w:=w3.putObj (D+1) (.loop d)) (O:=(.Ah (D+1) (.loop d)::BF D::A)++Of4.O) (W J) hmz (hl1.trans T) s1 f1 ⟨V.inv,V.defers,V.size,V.Bo,V.base,Y6,z1,Agy z2 _,z3,z4⟩ hw3;obtain⟨z',e3,e4⟩:=Bi hd3;obtain⟨η4,e5,e6⟩:=M9 (b2.sat (ds:=[]) b3) b1 (λp U=>(Ii U).1) e3;obtain⟨Y8,s8,g8⟩:=e5.sa;exact⟨_,_,hend,Bp,rfl,H3,_,hl1.trans T,Age (B:=[.Ah (D+1) (.loop d),BF D]) g8,(k0.trans hl1).trans T,Of4,r3,g4,gd4, .inl ⟨z',η4,Y8,rfl,s8,e6,e4⟩⟩
  · intro Of3 r3 st3 η3 H3 a3 w3 T ⟨Of4,e,g4,gd4⟩ V hw3 hd3;subst e;obtain⟨Y6,z1,z2,z3,z4⟩:=V.own;have hend:(Instr.endRound (D+1) (Ac (.exit i))).run P w3= .ok (.bool Aj) (w3.putObj (D+1) (.loop {d with state:= .done,pending:=Ac (.exit i)})):=by
     have:=run_endRound (P:=P) (Ac (.exit i)) (SH.at_ (A:=Y6.map (·.2)) z2);exact this
    obtain⟨b1,Y7,b2,b3⟩:=QP (w:=w3.putObj (D+1) (.loop {d with state:= .done,pending:=Ac (.exit i)})) (O:=(.Ah (D+1) (.loop {d with state:= .done,pending:=Ac (.exit i)})::BF D::A)++Of4.O) (W J) hmz (hl1.trans T) s1 f1 ⟨V.inv,V.defers,V.size,V.Bo,V.base,Y6,z1,Agy z2 _,z3,z4⟩ hw3;exact⟨_,_,hend,Aj,rfl,H3,_,hl1.trans T,Age (B:=[.Ah (D+1) (.loop {d with state:= .done,pending:=Ac (.exit i)}),BF D]) b3,(k0.trans hl1).trans T,Of4,r3,g4,gd4, .inr ⟨rfl, .exit i,⟨(FI N (GS p z) J).L,st3.O,st3.nk⟩,η3,Y7,rfl,W J,b2,b1, .inr ⟨i,rfl,hd3⟩⟩⟩
  · intro Of3 r3 st3 η3 H3 a3 w3 T ⟨Of4,e,g4,gd4⟩ V hw3 hd3;subst e;obtain⟨Y6,z1,z2,z3,z4⟩:=V.own;have hend:(Instr.endRound (D+1) (Ac .ret)).run P w3= .ok (.bool Aj) (w3.putObj (D+1) (.loop {d with state:= .done,pending:=Ac .ret})):=by
     have:=run_endRound (P:=P) (Ac .ret) (SH.at_ (A:=Y6.map (·.2)) z2);exact this
    obtain⟨b1,Y7,b2,b3⟩:=QP (w:=w3.putObj (D+1) (.loop {d with state:= .done,pending:=Ac .ret})) (O:=(.Ah (D+1) (.loop {d with state:= .done,pending:=Ac .ret})::BF D::A)++Of4.O) (W J) hmz (hl1.trans T) s1 f1 ⟨V.inv,V.defers,V.size,V.Bo,V.base,Y6,z1,Agy z2 _,z3,z4⟩ hw3;exact⟨_,_,hend,Aj,rfl,H3,_,hl1.trans T,Age (B:=[.Ah (D+1) (.loop {d with state:= .done,pending:=Ac .ret}),BF D]) b3,(k0.trans hl1).trans T,Of4,r3,g4,gd4, .inr ⟨rfl, .ret,⟨(FI N (GS p z) J).L,st3.O,st3.nk⟩,η3,Y7,rfl,W J,b2,b1, .inl ⟨rfl,hd3⟩⟩⟩
 have nd:(keys Yc).Nodup:=by rw[l5];have:=ck3;unfold vr at this;simp only[AT]at this;exact BK this.2.1
 have hyi:(us++[BZ.func (.yield (D+1)) #[] #[]]++cs.map η)[q.yi]?=Ac (BZ.func (.yield (D+1)) #[] #[]):=by rw[AI ck4,<-g1];simp
 refine(hsp.ok x ys hys G2 (.func (.yield (D+1)) #[] #[]) rfl mono2 no2 yld2 (λc=>η (AZ m c)) H (.Ah (D+1) (.loop d)::BF D::(Y0.map (·.2)++Of.O)) Yc _ w1 nd hlen l3 hyi l5 l6 ⟨Hp.le.refl H,Of,r,hg,rfl, .inl ⟨x0,η0,Y0,rfl,s0,e2,hd⟩⟩ h.inv (Age (B:=[.Ah (D+1) (.loop d),BF D]) hsh0)).mono ?_;rintro e w' ⟨v,S,O1,Y1,rfl,hle1,hsh1,hk1,hr1,k0,I,r',k1,k2,k3⟩;have endS:∀ {s:St N.T} {E:Nat->BZ} {Z:List (Nat×Ax)} {o:Obj} (o':Obj),(∀t sv,Ay s.L t=Ac sv->∃j,sv= .Cv j)->Sa z.C z.CR n (FP η st.nk) s E S a.tmps Z->WF z.C z.CR (FP η st.nk) s->SH w' S (Y1.map (·.2)++ .Ah (D+1) o::BF D::(Z.map (·.2)++I.O))->
    Sat C CR n (K9 D I) bs (D0 z.C z.CR C.length CR.length (WY q x m s)) E S {a with defers:=EC D::a.defers} (w'.putObj (D+1) o')/\WF C CR bs (D0 z.C z.CR C.length CR.length (WY q x m s)):=λ{s} {E} {Z} {o} o' hc s2 f2 hs=>by
  have hs:=Agh hs o';have hs:SH (w'.putObj (D+1) o') S (Y1.map (·.2)++(([BF D]:List Ax)++(Z.map (·.2)++I.O))):=hs;have hs:=Ais hs;obtain⟨u1,Y3,u2,u3⟩:=iD (η:=η) (nk:=st.nk) ck3 (by rw[hks];exact l1) l2 (nt f2) (λk hk=>L1 s2.base hk) hc hk1 hr1 s2 f2;have hs:=u3 _ _ hs;have u2':Sa z.C z.CR n bs (WY q x m s) E S a.tmps Y3:=⟨u2.inv,u2.size,u2.Bo,λp U=>(L1 s2.base (hw.lo p U)).trans (h.base p U),u2.nd,u2.lt,u2.res⟩;have u1':WF z.C z.CR bs (WY q x m s):=⟨λp U=>Abq (hw.lo p U) (show st.nk<=s.nk from nt f2),u1.ok,u1.wf,u1.mC,u1.cP⟩;have hst:=u2'.sat (ds:=EC D::a.defers) hs;have hst:Sat z.C z.CR n (K9 D I) bs (WY q x m s) E S {a with defers:=EC D::a.defers} (w'.putObj (D+1) o'):=by
    have e:K9 D I=⟨([BF D]:List Ax)++I.O,EC D::a.defers⟩:=by rw[h.defers,<-k2];rfl
    rw[e];exact hst
  exact ZW c1 c2 c3 hst u1'
 rcases k3 with⟨J,E,Z,rfl,s1,f1,M⟩|⟨_,c,s,E,Z,rfl,hc,s1,f1,hj⟩
 ·have hrs:d.state= .ready:=by rw[<-K]
  have hrn:d.pending=C7:=by rw[<-K]
  refine⟨v,d,rfl,SH.at_ hsh1,by rw[hrs];simp,?_⟩;rw[hrn];obtain⟨t1,t2⟩:=endS (.loop {d with state:= .exhausted,pending:=C7}) (W J) s1 f1 hsh1;exact hn _ r' _ E S _ _ k0 (hpush _ _ _ _ k1) t1 t2 M
 ·refine⟨v,{d with state:= .done,pending:=Ac c},rfl,SH.at_ hsh1,by simp,?_⟩;obtain⟨t1,t2⟩:=endS (.loop {d with state:= .exhausted,pending:=Ac c}) hc s1 f1 hsh1;rcases hj with⟨rfl,hj⟩|⟨i,rfl,hj⟩;· exact wp_ret (hkr _ r' _ E S _ _ k0 (hpush _ _ _ _ k1) t1 t2 hj)
  · exact wp_exit (hke i _ r' _ E S _ _ k0 (hpush _ _ _ _ k1) t1 t2 hj)
end
end
section
variable {N : C9} {R : Type}
def h_(f:IQ N->Option (Option R)):List (IQ N)->Option R
 | []=>C7
 |q::l=>match f q with
  |some z=>z
  |none=>h_ f l
def wg(Φ:Nat->Option (CQ N))(C:List (SV N.T))(CR:List (SR N.T))(n:Nat)(g:Dn)(ps:Array Tmp)(e:Option A')(st:St N.T)(b d:eY N R)(kn:St N.T->Option R)(ke:Nat->St N.T->Option R)(kr:St N.T->Option R):Option R:=match Aw (Cu C st.L) g with
 | .AK f l a=>match Φ f with
  |some (.its h)=>match vv l&&a.all λc=>match An CR st.O c with|some (.Ah _ _)=>Bp|_=>Aj with
   |true=>h_ (λq=>oM C CR n ps e st q l a b d kn ke kr) h
   |false=>C7
  |_=>oN Φ C CR n g st kn
 |_=>C7
def unK{T:Nat->Type} :Nat->(St T->(St T->Option R)->Option R)->St T->Option R
 |0,_,_=>C7
 |n+1,f,st=>f st (λa=>unK n f a)
def den(cx:Cx N)(n:YL N R)(fu:Nat):Code->Nat->Bool->List (SV N.T)->List (SR N.T)->St N.T->(St N.T->Option R)->(Nat->St N.T->Option R)->(St N.T->Option R)->Option R
 | .skip,_,_,_,_,st,f,_,_=>f st
 | .label _,_,_,_,_,st,f,_,_=>f st
 | .region i o d,_,l,C,e,st,f,_,_=>Qi C e (cx.pre i) st λst=>match d with
  |true=>match l with
   |true=>C7
   |false=>match cx.ct i with
    |0=>xp cx.P cx.Φ C e cx.n o st λst=>Qi C e (cx.post i) st f
    |m+1=>cD n cx.P cx.Φ C e cx.n o (m+1) st λst=>Qi C e (cx.post i) st f
  |false=>cw n cx.P cx.Φ C e cx.n o o.toList st λst=>Qi C e (cx.post i) st f
 | .seq a b,kb,l,C,e,st,f,h,k=>match(Lw b).bind cx.jn with
  |none=>den cx n fu a kb l C e st (λst=>den cx n fu b kb l C e st f h k) h k
  |some p=>match wR C e st p with
   |none=>C7
   |some q=>den cx n fu a kb l q.C q.CR q.st
     (λu=>Ab (SQ N q.C q.CR kb (GS p q) u) λx=>den cx n fu b kb l q.C q.CR (FI N (GS p q) x)
      (λs=>f (D0 q.C q.CR C.length e.length s)) (λi s=>h i (D0 q.C q.CR C.length e.length s)) (λs=>k (D0 q.C q.CR C.length e.length s)))
     (λi s=>h i (D0 q.C q.CR C.length e.length s)) (λs=>k (D0 q.C q.CR C.length e.length s))
 | .cond c a b,kb,l,C,e,st,f,h,k=>match c with
  | .tmp t=>match Cu C st.L t with
   | .px _ .ub=>match den cx n fu a kb l C e st f h k,den cx n fu b kb l C e st f h k with
    |some x,Ac y=>n.ag x y
    |_,_=>C7
   |s=>xA s st (λst=>den cx n fu a kb l C e st f h k) (λst=>den cx n fu b kb l C e st f h k)
  | .const (.bool Bp)=>den cx n fu a kb l C e st f h k
  | .const (.bool Aj)=>den cx n fu b kb l C e st f h k
  |_=>C7
 | .block i a,kb,l,C,e,st,f,h,k=>den cx n fu a kb l C e st f (λj st=>match Hj i j with
  |true=>f st
  |false=>h j st) k
 | .loop a,kb,l,C,e,st,f,h,k=>match(Lw a).bind cx.la with
  |none=>unK 9 (λst nx=>den cx n fu a kb l C e st nx h k) st
  |some p=>match wR C e st p with
   |none=>C7
   |some q=>Ab (SQ N q.C q.CR kb (GS p q) q.st) λz=>
    Ad fu (λx nx=>den cx n fu a kb l q.C q.CR (FI N (GS p q) x)
     (λu=>Ab (SQ N q.C q.CR kb (GS p q) u) nx)
     (λi s=>h i (D0 q.C q.CR C.length e.length s)) (λs=>k (D0 q.C q.CR C.length e.length s))) z
 | .scope a,kb,l,C,e,st,f,h,k=>match l with
  |true=>C7
  |false=>den cx n fu a kb l C e st f h k
 | .exit i,_,_,_,_,st,_,h,_=>h i st
 | .ret,_,_,_,_,st,_,_,k=>k st
 | .rangeFunc g w v r,_,l,C,e,st,f,h,k=>match l with
  |true=>C7
  |false=>wg cx.Φ C e cx.n g w ((Lw (.seq v r)).bind cx.la) st (λkb C e st f h k=>den cx n fu v kb Bp C e st f h k) (λkb C e st f h k=>den cx n fu r kb Bp C e st f h k) f h k
 |_,_,_,_,_,_,_,_,_=>C7
theorem L7{F:Fence}{n:Nat}{P:GQ}{Q:Exit->Act->IW->Prop}{X:Type}{c:Code}(I:X->Act->IW->Prop)(μ:X->Nat){x:X}{a:Act}{w:IW}(t:I x a w)
  (round:∀x a w,I x a w->c.wpIn F n P (Exit.then (λa' w'=> ∃D,I D a' w'/\μ D<μ x) Q) a w):(Code.loop c).wpIn F n P Q a w:=by
 intro b k v B y A;have key:∀j x a w,μ x=j->I x a w->
   ∃e a' w',Q e a' w'/\ArrivesIn (Machine.fenced P F) P (lone (b.atR a (.code c:: .inLoop c::k)) v w) b k v e a' w':=by
  intro j;induction j using Nat.strongRecOn with
  |_ j H=>
   intro x a w G E;obtain⟨e,f,g,m,d⟩:=round x a w E b (.inLoop c::k) v B y A;cases e with
   |normal=>
    obtain⟨o,p,z⟩:=m;obtain⟨s,r,u,q,i⟩:=H (μ o) (G▸z) o f g rfl p;exact⟨s,r,u,q, .of_steps (StepsIn.trans d (.one (fenced_calm y A rfl) stepR_inLoop)) i⟩
   |exit id=>exact⟨_,f,g,m, .pass (x:= .inLoop c) rfl (λ_ _=> .inl (by simp)) d⟩
   |goto l=>exact⟨_,f,g,m, .pass (x:= .inLoop c) rfl (λ_ _=> .inl (by simp)) d⟩
   |ret=>exact⟨_,f,g,m, .pass (x:= .inLoop c) rfl (λ_ _=> .inl (by simp)) d⟩
   |panic J=>exact⟨_,f,g,m, .pass (x:= .inLoop c) rfl (λ_ _=> .inl (by simp)) d⟩
   |outgrown=>exact⟨_,f,g,m, .pass (x:= .inLoop c) rfl (λ_ _=> .inl (by simp)) d⟩
 obtain⟨e,a',w',m,d⟩:=key _ x a w rfl t;exact⟨e,a',w',m, .of_steps (.one (fenced_calm y A rfl) stepR_loop) d⟩
theorem OQ{f:IQ N->Option (Option R)}{r:R} :∀ {l:List (IQ N)},h_ f l=Ac r->∃q∈l,f q=Ac (Ac r)
 | [],h=>by cases h
 |q::l,h=>by
  unfold h_ at h;split at h;· grind
  ·obtain⟨d,a,b⟩:=OQ h;grind
variable {P : GQ} [C3 N P] {yv : BZ}
theorem Cq{cx:Cx N} [C3 N cx.P](u:∀f q,cx.Φ f=Ac q->Bu cx.P f q)(M:cx.P.follows .mixedOrders=Bp){yl:YL N R}{fu:Nat} :∀(c:Code) {kb:Nat} {Z:Bool} {ro:Option Nat} {bs:List (Nat×BZ)} {G:Hp->Fm->R->Prop} {Of:Fm} {r:R} {C:List (SV N.T)} {CR:List (SR N.T)} {st:St N.T} {kn:St N.T->Option R} {ke:Nat->St N.T->Option R} {kr:St N.T->Option R} {η:Nat->BZ} {H:Hp} {a:Act} {w:IW} {Q:Exit->Act->IW->Prop},
  (Z=Aj->ro=C7/\∀H Of r D,G H Of r->G H (K9 D Of) r)->(∀q∈bs,q.1<kb)->(∀H H' Of r,H.le H'->G H Of r->G H' Of r)->QU cx.P bs yl yv G->G H Of r->
  Sat C CR cx.n Of bs st η H a w->WF C CR bs st->den cx yl fu c kb Z C CR st kn ke kr=Ac r->
  Kn C CR cx.n G bs H kn (Q .normal)->(∀i,Kn C CR cx.n G bs H (ke i) (Q (.exit i)))->Kn C CR cx.n G bs H kr (Q .ret)->c.wpIn (FR ro) 0 cx.P Q a w
 | .skip,_,_,_,_,_,Of,r,C,CR,st,kn,ke,kr,η,H,a,w,Q,_,_,_,_,v,h,A,k,F,E,I=>wpIn_skip (F Of r st η H a w (Hp.le.refl H) v h A k)
 | .label _,_,_,_,_,_,Of,r,C,CR,st,kn,ke,kr,η,H,a,w,Q,_,_,_,_,v,h,A,k,F,E,I=>wpIn_label (F Of r st η H a w (Hp.le.refl H) v h A k)
 | .ret,_,_,_,_,_,Of,r,C,CR,st,kn,ke,kr,η,H,a,w,Q,_,_,_,_,v,h,A,k,F,E,I=>wpIn_ret (I Of r st η H a w (Hp.le.refl H) v h A k)
 | .exit i,_,_,_,_,_,Of,r,C,CR,st,kn,ke,kr,η,H,a,w,Q,_,_,_,_,v,h,A,k,F,E,I=>wpIn_exit (E i Of r st η H a w (Hp.le.refl H) v h A k)
 | .region i ops d,kb,Z,ro,bs,G,Of,r,C,CR,st,kn,ke,kr,η,H,a,w,Q,o,n,B,J,v,h,A,k,F,E,I=>by
  simp only[den]at k;refine FH h A k λT U H1 hl1 h1 hw1 hd1=>?_;have fin:∀Of' r' L η' H' a' w',H1.le H'->G H' Of' r'->Sat C CR cx.n Of' bs L η' H' a' w'->WF C CR bs L->Qi C CR (cx.post i) L kn=Ac r'->Q .normal a' w':=λOf' r' L η' H' a' w' K g0 V W S=>
   FH V W S λst2 η2 H2 hl2 k1 k2 k3=>F Of' r' st2 η2 H2 a' w' (hl1.trans (K.trans hl2)) (B _ _ _ _ hl2 g0) k1 k2 k3;have hg1:=B _ _ _ _ hl1 v;cases d with
  |true=>
   cases Z with
   |true=>grind
   |false=>
    obtain⟨rfl,_⟩:=o rfl;simp only at hd1;split at hd1;case h_2=>grind[wpIn_wide,cC]
    grind[wpIn_wide,rC]
  |false=>
   obtain⟨l,rfl⟩:∃l:List K_,ops=l.toArray:=⟨ops.toList,by simp⟩;grind[wpIn_region_lit,SY]
 | .seq x y,kb,Z,ro,bs,G,Of,r,C,CR,st,kn,ke,kr,η,H,a,w,Q,o,n,B,J,v,h,A,k,F,E,I=>by
  simp only[den]at k;split at k;· exact wpIn_seq (Cq u M x o n B J v h A k (λO r1 T U H1 a1 w1 K g0 V W S=>Cq u M y o n B J g0 V W S (F.le K) (λi=>(E i).le K) (I.le K)) E I)
  ·rename_i p hp;split at k;· grind
   ·rename_i q hb;obtain⟨c1,c2,c3,c4,c5⟩:=UE h A hb;refine wpIn_seq (Cq u M x o n B J v c4 c5 k (λO r1 T U H1 a1 w1 K g0 V W S=>?_) (λi=>Kn.rs c1 c2 c3 (E i)) (Kn.rs c1 c2 c3 I));obtain⟨z,e1,e2⟩:=Bi S;obtain⟨η2,k1,k2⟩:=M9 V W n e1;exact Cq u M y o n B J g0 k1 k2 e2 (Kn.rs c1 c2 c3 (F.le K)) (λi=>Kn.rs c1 c2 c3 ((E i).le K)) (Kn.rs c1 c2 c3 (I.le K))
 | .cond c x y,kb,Z,ro,bs,G,Of,r,C,CR,st,kn,ke,kr,η,H,a,w,Q,o,n,B,J,v,h,A,k,F,E,I=>by
  simp only[den]at k;split at k
  ·rename_i t;split at k
   ·rename_i ks hub;split at k;case h_2=>grind
    rename_i x1 y1 hx1 hy1;obtain⟨rfl,rfl⟩:=yl.nR _ _ _ k;have hv:=h.lk t;rw[hub]at hv;obtain⟨b,hv⟩:=hv;cases b with
    |true=>exact wpIn_cond_true hv (Cq u M x o n B J v h A hx1 F E I)
    |false=>exact wpIn_cond_false hv (Cq u M y o n B J v h A hy1 F E I)
   obtain⟨b,L,h1,h2,h3,h4⟩:=UY h A k;cases b with
   |true=>exact wpIn_cond_true h1 (Cq u M x o n B J v h2 h3 h4 F E I)
   |false=>exact wpIn_cond_false h1 (Cq u M y o n B J v h2 h3 (by simpa using h4) F E I)
  ·exact wpIn_cond_true rf (Cq u M x o n B J v h A k F E I)
  ·exact wpIn_cond_false rf (Cq u M y o n B J v h A k F E I)
  grind
 | .block i x,kb,Z,ro,bs,G,Of,r,C,CR,st,kn,ke,kr,η,H,a,w,Q,o,n,B,J,v,h,A,k,F,E,I=>by
  simp only[den]at k;refine wpIn_block (Cq u M x o n B J v h A k F (λj O r1 T U H1 a1 w1 K g0 V W S=>?_) I);simp only[Exit.inBlock];split at S;· rename_i hb;rw[if_pos (AI hb).symm];exact F O r1 T U H1 a1 w1 K g0 V W S
  ·rename_i hb;rw[if_neg (λe=>Abf hb e.symm)];exact E j O r1 T U H1 a1 w1 K g0 V W S
 | .loop x,kb,Z,ro,bs,G,Of,r,C,CR,st,kn,ke,kr,η,H,a,w,Q,o,n,B,J,v,h,A,k,F,E,I=>by
  simp only[den]at k;split at k;· refine L7 (X:=Nat×St N.T×(Nat->BZ)×Hp×Fm×R) (λX a w=>H.le X.2.2.2.1/\G X.2.2.2.1 X.2.2.2.2.1 X.2.2.2.2.2/\Sat C CR cx.n X.2.2.2.2.1 bs X.2.1 X.2.2.1 X.2.2.2.1 a w/\WF C CR bs X.2.1/\unK X.1 (λst nx=>den cx yl fu x kb Z C CR st nx ke kr) X.2.1=Ac X.2.2.2.2.2) (λX=>X.1) (x:=(9,st,η,H,Of,r)) ⟨Hp.le.refl H,v,h,A,k⟩ ?_;rintro⟨m,st3,η3,H3,Of3,r3⟩ a w ⟨l1,l0,l2,l3,l4⟩;cases m with
   |zero=>cases l4
   |succ m=>exact Cq u M x o n B J l0 l2 l3 l4 (λO r1 T U H1 a1 w1 K g0 V W S=>⟨(m,T,U,H1,O,r1),⟨l1.trans K,g0,V,W,S⟩,Aff m⟩) (λi=>(E i).le l1) (I.le l1)
  ·rename_i p hp;split at k;· cases k
   ·rename_i q hb;obtain⟨c1,c2,c3,c4,c5⟩:=UE h A hb;obtain⟨z,e1,e2⟩:=Bi k;obtain⟨η2,k1,k2⟩:=M9 c4 c5 n e1;refine L7 (X:=Nat×BJ N (GS p q).hs×(Nat->BZ)×Hp×Fm×R) (λX a w=>H.le X.2.2.2.1/\G X.2.2.2.1 X.2.2.2.2.1 X.2.2.2.2.2/\Sat q.C q.CR cx.n X.2.2.2.2.1 bs (FI N (GS p q) X.2.1) X.2.2.1 X.2.2.2.1 a w/\WF q.C q.CR bs (FI N (GS p q) X.2.1)/\Ad X.1 (λx nx=>den cx yl fu _ kb Z q.C q.CR (FI N (GS p q) x)
     (λL=>Ab (SQ N q.C q.CR kb (GS p q) L) nx)
     (λi s=>ke i (D0 q.C q.CR C.length CR.length s)) (λs=>kr (D0 q.C q.CR C.length CR.length s))) X.2.1=Ac X.2.2.2.2.2) (λX=>X.1) (x:=(fu,z,η2,H,Of,r)) ⟨Hp.le.refl H,v,k1,k2,e2⟩ ?_;rintro⟨m,z,η3,H3,Of3,r3⟩ a w ⟨l1,l0,l2,l3,l4⟩;obtain⟨m',rfl,l5⟩:=Uy l4;refine Cq u M x o n B J l0 l2 l3 l5 (λO r1 T U H1 a1 w1 K g0 V W S=>?_) (λi=>Kn.rs c1 c2 c3 ((E i).le l1)) (Kn.rs c1 c2 c3 (I.le l1));obtain⟨z',e1,e2⟩:=Bi S;obtain⟨η2,k1,k2⟩:=M9 V W n e1;exact⟨(m',z',η2,H1,O,r1),⟨l1.trans K,g0,k1,k2,e2⟩,Aff m'⟩
 | .rangeFunc g ps asg body,kb,Z,ro,bs,G,Of,r,C,CR,st,kn,ke,kr,η,H,a,w,Q,o,n,B,J,v,h,A,k,F,E,I=>by
  simp only[den]at k;split at k;· cases k
  ·obtain⟨rfl,Y⟩:=o rfl;refine wpIn_wide.2 ?_;unfold wg at k;split at k
   ·rename_i f l cs hs;split at k
    ·rename_i qs hq;split at k
     ·rename_i hb;rw[AT]at hb;obtain⟨q,hqm,k⟩:=OQ k;have hgg:=h.ev g;rw[hs]at hgg;obtain⟨us,e,K⟩:=hgg;refine fX (u f _ hq q hqm) (λl {C CR kb bs G Of r st kn ke kr η H a w Q} k1 k2 k3 k4 k5 k6 k7 k8 k9 k10=>Cq u M asg (ro:=Ac l) (λe=>by cases e) k1 k2 k3 k4 k5 k6 k7 k8 k9 k10) (λl {C CR kb bs G Of r st kn ke kr η H a w Q} k1 k2 k3 k4 k5 k6 k7 k8 k9 k10=>Cq u M body (ro:=Ac l) (λe=>by cases e) k1 k2 k3 k4 k5 k6 k7 k8 k9 k10) B Y J v h A e K hb.1 (λc hc=>?_) k F E I;have:=IT.1 hb.2 c hc;split at this;· rename_i g' b hR;exact⟨g',b,hR⟩
      ·cases this
     ·cases k
    ·exact fY u h A k λD L η' H' a' w' K V W S=>F (K9 D Of) r L η' H' a' w' K (Y _ _ _ _ (B _ _ _ _ K v)) V W S
   ·cases k
 | .scope x,kb,Z,ro,bs,G,Of,r,C,CR,st,kn,ke,kr,η,H,a,w,Q,o,n,B,J,v,h,A,k,F,E,I=>by
  simp only[den]at k;split at k;· cases k
  ·obtain⟨rfl,Y⟩:=o rfl;exact wpIn_wide.2 (wp_scope_straight (wpIn_wide.1 (Cq u M x o n B J v h A k F E I)))
 | .goto _,kb,Z,ro,bs,G,Of,r,C,CR,st,kn,ke,kr,η,H,a,w,Q,o,n,B,J,v,h,A,k,F,E,I=>by cases k
 | .refuse _,kb,Z,ro,bs,G,Of,r,C,CR,st,kn,ke,kr,η,H,a,w,Q,o,n,B,J,v,h,A,k,F,E,I=>by cases k
end
section
variable {N : C9}
section
variable{R:Type}{O:List Ax}{y:R}
def XM(O:List Ax)(y:R):Hp->Fm->R->Prop:=λ_ a r=>r=y/\∃M,a=R2 O M
theorem XL:∀H a Of r,H.le a->XM O y H Of r->XM O y a Of r:=λ_ _ _ _ _ h=>h
theorem XK:Aj=Aj->C7=(C7:Option Nat)/\∀H Of r D,XM O y H Of r->XM O y H (K9 D Of) r:=λ_=>⟨rfl,λ_ _ _ D ⟨h,M,e⟩=>⟨h,D::M,by subst e;rfl⟩⟩
end
end
end Go.GV
