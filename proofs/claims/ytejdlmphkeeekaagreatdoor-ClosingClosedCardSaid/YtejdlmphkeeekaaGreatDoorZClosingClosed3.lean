/- Part 3 of the texts of this claim: what its theorem leans on. -/
import Derived.Test.YtejdlmphkeeekaaGreatDoorZClosingClosed2
import Derived.RangeFuncLeaves
import Derived.RangeFuncRecord
import Derived.RangeFuncIn
import Derived.TacticsIn
import Derived.Scope
set_option linter.all false
open Option renaming some→Ac,none→Dc
open Bool renaming false→Ak,true→Br
open Go renaming Value→Ce,Operand→Er,TypeId→Gn,Program→GO,World→IK,execOp→Kr,Oper→K5,IntKind→Lm
open Decidable renaming decide→Ds
open Nat renaming beq→Hg,eq_of_beq_eq_true→aP,blt→aT,ble→iJ
open List renaming replicate→T9,range→aO,getElem?_eq_getElem→kV,getElem?_append_left→qf,mem_of_getElem?→wk
open Go.Region renaming wanted→fc
open Go.Fence renaming wide→qF
open Go.Deferred renaming ofValue→rz
open Option renaming bind_eq_some_iff→xl
open Go.Code renaming rangeFunc→Alz
namespace Go.GV
open Go Go.GK
section
variable{T:Nat->Type}
def Db{T:Nat->Type}(CR:List (SR T)):SR T->SR T
 | .CD j=>CR.getD j .gone
 |s=>s
def An{T:Nat->Type}(CR:List (SR T))(O:List (Nat×SR T))(k:Nat):Option (SR T):=match Ax O k with
 |some s=>Ac (Db CR s)
 |none=>Dc
def RQ:SV T->Bool
 | .Ee _ _ _ _ _=>Ak
 |_=>Br
def iO(a:List Nat)(L:List (Nat×SV T)):List (Nat×SV T):=match a with
 | []=>L
 |a=>L.map λp=>(p.1,match p.2 with
  | .Ee k i off t x=>match Cf a k with
   |true=> .no
   |false=> .Ee k i off t x
  |s=>s)
def RC(d:Option Nat)(s:SV T)(L:List (Nat×SV T)):List (Nat×SV T):=match d with
 |some d=>(d,s)::L
 |none=>L
def app(st:St T)(d:Option Nat)(s:Bt T)(nk:Nat):St T:=⟨RC d s.sv (iO (keys s.wr) st.L),s.wr++st.O,nk⟩
def NQ(n:Nat)(d:Option Nat):Bool:=match d with
 |some d=>aT d n
 |none=>Br
def C7(CR:List (SR T))(st:St T)(a:Nat):Bool:=(st.L.all λp=>p.2.AL.all λk=>aT k a)&&(st.O.all λp=>(Db CR p.2).AL.all λk=>aT k a)
end
section
variable {N : Df}
structure Fm where
 O:List Aw
 ds:List Deferred
structure Sat(C:List (SV N.T))(CR:List (SR N.T))(n:Nat)(Of:Fm)(bs:List (Nat×Ce))(st:St N.T)(η:Nat->Ce)(H:Hp)(a:Act)(w:IK):Prop where
 inv:N.inv H
 defers:a.defers=Of.ds
 size:a.tmps.size=n
 Bq:∀t sv,Ax st.L t=Ac sv->sv.is C η H (a.tmps.getD t undef)
 base:∀p∈bs,η p.1=p.2
 own:∃Y:List (Nat×Aw),(keys Y).Nodup/\SH w H (Y.map (·.2)++Of.O)/\(∀k∈keys Y,k<st.nk)/\∀k sr,An CR st.O k=Ac sr->Dp C η H Y k sr
structure WF(C:List (SV N.T))(CR:List (SR N.T))(bs:List (Nat×Ce))(st:St N.T):Prop where
 lo:∀p∈bs,p.1<st.nk
 ok:∀j,st.nk<=j->Ax st.O j=Dc
 wf:∃τ,Nr (An CR st.O) (CC C st.L) τ
 mC:∀k∈C3 C,k<st.nk
 cP:∀s∈C,RQ s=Br
variable {C : List (SV N.T)} {CR : List (SR N.T)} {n : Nat} {Of : Fm} {bs : List (Nat × Ce)} {st : St N.T} {η : Nat -> Ce} {H : Hp} {a : Act} {w : IK}
section
variable{nk:Nat}{d:Option Nat}{T:Nat->Type}{s:Bt N.T}{P:GO}{o:K5}{v:Ce}{goal:Prop}
theorem Sat.lk(h:Sat C CR n Of bs st η H a w)(t:Nat):(CC C st.L t).is C η H (a.tmps.getD t undef):=by
 unfold CC;split;· rename_i s b;exact EU (h.Bq t s b)
 trivial
theorem Sat.ev(h:Sat C CR n Of bs st η H a w)(x:Er):(Av (CC C st.L) x).is C η H (a.eval x):=bR λt e=>h.lk t
theorem DF{α β:Type}(f:α->β)(l:List (Nat×α))(k:Nat):Ax (l.map λp=>(p.1,f p.2)) k=(Ax l k).map f:=by
 induction l with
 |nil=>rfl
 |cons p l b=>
  grind[Ax]
def cQ(b:List Nat):SV T->SV T
 | .Ee k i off t x=>match Cf b k with
  |true=> .no
  |false=> .Ee k i off t x
 |s=>s
theorem QE(b:List Nat)(L:List (Nat×SV N.T))(t:Nat):Ax (iO b L) t=(Ax L t).map (cQ b):=by
 unfold iO;split
 ·have:cQ (T:=N.T) []=id:=by
   funext s;cases s<;>rfl
  grind
 ·rw[<-DF];rfl
theorem QF{b:List Nat}{s:SV N.T}(h:s.is C η H v):(cQ b s).is C η H v:=by
 unfold cQ;split
 ·split;all_goals trivial
 omega
theorem HZ{d t:Nat}(e:d<a.tmps.size):(a.put (Ac d) v).tmps.getD t undef=match Hg d t with|true=>v|false=>a.tmps.getD t undef:=by
 simp only[Act.put];cases b:Hg d t with
 |true=>
  have:=AI b;simp_all
 |false=>
  simp_all[ne,Abe,Afo,Array.getElem?_setIfInBounds_ne]
theorem D5{k:Nat}{d:SR N.T}(h:An CR st.O k=Ac d){b:Nat}(c:C7 CR st b=Br):∀j∈d.AL,j<b:=by
 unfold An at h;split at h;· rename_i s g;unfold C7 at c;rw[AS]at c;have e:=IT.1 (IT.1 c.2 _ (A5 g));simp_all
 grind
theorem Ha(wr O:List (Nat×SR N.T))(b:∀p∈wr,Db CR p.2=p.2)(k:Nat):An CR (wr++O) k=PL wr (An CR O) k:=by
 unfold An PL;rw[BX];cases h:Ax wr k with
 |none=>rfl
 |some s=>simp only;rw[b _ (A5 h)]
def Oj{T:Nat->Type} :SR T->Bool
 | .CD _=>Ak
 |_=>Br
theorem Jk{s:SR N.T}(h:Oj s=Br):Db CR s=s:=by cases s<;>first|rfl|cases h
def nD{T:Nat->Type}(CR:List (SR T))(st:St T)(p:Nat×SR T):Bool:=match p.2 with
 | .gone=>(An CR st.O p.1).isSome||iJ st.nk p.1
 |_=>Br
def w9(CR:List (SR T))(st:St T)(s:Bt T):Bool:=s.wr.all λp=>match p.2 with
 | .gone=>(An CR st.O p.1).isSome
 |_=>Br
def RU:SV T->Bool
 | .CD _=>Ak
 |_=>Br
def G_(CR:List (SR N.T))(n:Nat)(st:St N.T)(d:Option Nat)(s:Bt N.T)(nk:Nat):Bool:=(NQ n d&&RU s.sv)&&((s.wr.all λp=>Oj p.2&&nD CR st p)&&(match Hg st.nk nk with
 |true=>Br
 |false=>C7 CR st st.nk))
structure KQ(C:List (SV N.T))(CR:List (SR N.T))(n:Nat)(st:St N.T)(d:Option Nat)(s:Bt N.T)(nk:Nat)(P:GO)(o:K5):Prop where
 b:G_ CR n st d s nk=Br
 loc:Ao P C (CC C st.L) (An CR st.O) o s
 le:st.nk<=nk
 new:∀j∈keys s.wr,An CR st.O j=Dc->st.nk<=j/\j<nk
 wf:∀τ,Nr (An CR st.O) (CC C st.L) τ->D' τ (PL s.wr (An CR st.O)) s.sv
structure Ph(C:List (SV N.T))(CR:List (SR N.T))(n:Nat)(st:St N.T)(d:Option Nat)(s:Bt N.T)(nk:Nat):Prop where
 b:G_ CR n st d s nk=Br
 le:st.nk<=nk
 new:∀j∈keys s.wr,An CR st.O j=Dc->st.nk<=j/\j<nk
 wf:∀τ,Nr (An CR st.O) (CC C st.L) τ->D' τ (PL s.wr (An CR st.O)) s.sv
theorem KQ.toW(b:KQ C CR n st d s nk P o):Ph C CR n st d s nk:=⟨b.b,b.le,b.new,b.wf⟩
theorem WF.Vs(m:WF C CR bs st)(f:Ph C CR n st d s nk):WF C CR bs (app st d s nk):=by
 have u:=f.b;unfold G_ at u;simp only[AS]at u;have z:∀p∈s.wr,Db CR p.2=p.2:=λp A=>Jk (AS _ _▸IT.1 u.2.1 p A).1;refine⟨λp A=>Abq (m.lo p A) f.le,λj v=>?_,?_,λk b=>Abq (m.mC k b) f.le,m.cP⟩;· show Ax (s.wr++st.O) j=Dc;have v:nk<=j:=v;have D:=m.ok j (Aam f.le v);rw[BX,D];cases h:Ax s.wr j with
  |none=>rfl
  |some x=>
   have:=(f.new j (Dd h) (by grind[An])).2;omega
 ·obtain⟨
      τ,q⟩:=m.wf;refine⟨τ,λt=>?_⟩;have K:An CR (app st d s nk).O=PL s.wr (An CR st.O):=funext λk=>Ha _ _ z k;rw[K];have r:D' τ (PL s.wr (An CR st.O)) (CC C (iO (keys s.wr) st.L) t):=by
   have o:=q t;unfold CC at o⊢;rw[QE];cases M:Ax st.L t with
   |none=>trivial
   |some x=>
    rw[M]at o;simp only[Adn]at o⊢;have key:∀y:SV N.T,D' τ (An CR st.O) y->(∀k i off t x,y= .Ee k i off t x->k∉keys s.wr)->D' τ (PL s.wr (An CR st.O)) y:=by
     intro y F b;cases y with
     |Ee k i off t x=>
      intro g J l c;have b:=b k i off t x rfl;unfold PL at c;rw[CG b]at c;exact F g J l c
     |_=>exact F
    unfold cQ;split
    ·split;· trivial
     ·exact key _ o λQ _ _ _ _ e=>by cases e;grind[AR]
    ·rename_i P;refine key _ o λQ R G J S e=>?_;unfold res at e;split at e;· rename_i j;rw[Aad]at e;cases hc:C[j]? with
      |none=>rw[hc]at e;cases e
      |some I=>
       rw[hc]at e;have:=m.cP I (Aai hc);subst e;cases this
     grind
  unfold app RC;cases d with
  |none=>exact r
  |some d=>
   unfold CC;simp only[Ax];cases L:Hg d t with
   |false=>exact r
   |true=>
    have hc:=u.1.2;have:res C s.sv=s.sv:=by cases B:s.sv<;>first|rfl|(rw[B]at hc;cases hc)
    simp only;rw[this];exact f.wf τ q
theorem WF.step(c:WF C CR bs st)(b:KQ C CR n st d s nk P o):WF C CR bs (app st d s nk):=c.Vs b.toW
theorem Sat.kZ(h:Sat C CR n Of bs st η H a w)(hw:WF C CR bs st)(E:Ph C CR n st d s nk){K:Ce->IK->Fm->Hp->Prop}
  (run:∀Y:List (Nat×Aw),(keys Y).Nodup->SH w H (Y.map (·.2)++Of.O)->(∀k,(k∈s.rd\/k∈keys s.wr)->∀c,An CR st.O k=Ac c->Dp C η H Y k c)->(∀k∈keys s.wr,An CR st.O k=Dc->k∉keys Y)->
   (∀(v:Ce) (w':IK) (l:Hp) (η':Nat->Ce) (z:List (Nat×Aw)) (f:Fm),f.ds=Of.ds->H.le l->(∀k,(An CR st.O k=Dc->k∉keys s.wr)->η' k=η k)->(∀k,k∉keys s.wr->Ax z k=Ax Y k)->
    (∀k c,Ax s.wr k=Ac c->Dp C η' l z k c)->(keys z).Nodup->(∀k∈keys z,k∈keys Y\/k∈keys s.wr)->SH w' l (z.map (·.2)++f.O)->s.sv.is C η' l v->K v w' f l)->goal)
  (hK:∀η' l v w' f,H.le l->Sat C CR n f bs (app st d s nk) η' l (a.put d v) w'->K v w' f l):goal:=by
 obtain⟨Y,hn,hsh,M,A⟩:=h.own;have G:=E.b;unfold G_ at G;simp only[AS]at G;have hnc:∀p∈s.wr,Db CR p.2=p.2:=λp S=>Jk (AS _ _▸IT.1 G.2.1 p S).1;have r:∀k,An CR st.O k=Dc->k∈keys s.wr->k∉keys Y:=λk b q V=>by have m:=(E.new k q b).1;grind
 refine run Y hn hsh (λk _ c u=>A k c u) (λk q b=>r k b q) λv w' l η' z f X o F V hwr hn' W P hsv=>?_;have y:∀k,k<st.nk->η' k=η k:=λk b=>F k λg q=>by have:=(E.new k q g).1;omega
 have fresh:(∀k,η' k=η k)\/C7 CR st st.nk=Br:=by
  have m:=G.2.2;split at m;· rename_i he;have e:st.nk=nk:=AI he;exact .inl λk=>F k λg q=>by have:=E.new k q g;omega
  grind
 have mC:∀k∈C3 C,η' k=η k:=λk b=>y k (hw.mC k b);have mS:∀t sv,Ax st.L t=Ac sv->∀k∈sv.AL,η' k=η k:=λt sv i k b=>by
  rcases fresh with m|m;· grind
  ·refine y k ?_;unfold C7 at m;rw[AS]at m;have:=IT.1 (IT.1 m.1 _ (A5 i)) k b;simpa using this
 have mR:∀k c,An CR st.O k=Ac c->∀j∈c.AL,η' j=η j:=λk c b j hj=>by
  rcases fresh with m|m;· grind
  ·exact y j (D5 b m j hj)
 have Q:∀k c,k∉keys s.wr->An CR st.O k=Ac c->Dp C η' l z k c:=λk c b u=>by
  rcases A k c u with e|⟨x,g1,g2⟩;· exact .inl e
  ·refine .inr ⟨x,by rw[V k b];exact g1,(SR.is.env ?_ mC (mR k c u) g2).mono o⟩;grind
 refine hK η' l v w' f o ⟨N.C5 o h.inv,?_,?_,λt sv i=>?_,λp S=>?_,z,hn',P,λk b=>?_,λk c b=>?_⟩;· rw[X];cases d<;>exact h.defers
 ·cases d<;>simp[Act.put,h.size]
 ·have B:∀ {t sv},Ax (iO (keys s.wr) st.L) t=Ac sv->sv.is C η' l (a.tmps.getD t undef):=λ{t sv} i=>by
   rw[QE]at i;obtain⟨x,U,rfl⟩:=Pd.1 i;exact QF (((h.Bq t x U).env mC (mS t x U)).mono o)
  have R:=G.1.1;cases J:d with
  |none=>
   rw[J]at i;exact B i
  |some d=>
   rw[J]at i R;have R:d<n:=by simpa [NQ]using R
   have i:Ax ((d,s.sv)::iO (keys s.wr) st.L) t=Ac sv:=i;rw[HZ (by rw[h.size];exact R)];simp only[Ax]at i;cases I:Hg d t with
   |true=>rw[I]at i;cases i;exact hsv
   |false=>rw[I]at i;exact B i
 ·rw[y p.1 (hw.lo p S)];exact h.base p S
 ·rcases W k b with b|b;· exact Abq (M k b) E.le
  ·cases T:An CR st.O k with
   |none=>exact(E.new k b T).2
   |some x=>
    have Z:Ax st.O k≠Dc:=λe=>by unfold An at T;rw[e]at T;cases T
    have:k<st.nk:=Abz λo=>Z (hw.ok k o);exact Abq this E.le
 ·have e:An CR (app st d s nk).O k=PL s.wr (An CR st.O) k:=Ha _ _ hnc k;rw[e]at b;unfold PL at b;cases L:Ax s.wr k with
  |some x=>rw[L]at b;cases b;exact hwr k _ L
  |none=>
   rw[L]at b;refine Q k c (λq=>?_) b;obtain⟨x,U⟩:=Du q;rw[U]at L;cases L
theorem Sat.stepG(h:Sat C CR n Of bs st η H a w)(F:WF C CR bs st)(j:Ph C CR n st d s nk){K:Ce->IK->Prop}
  (run:∀Y:List (Nat×Aw),(keys Y).Nodup->SH w H (Y.map (·.2)++Of.O)->(∀k,(k∈s.rd\/k∈keys s.wr)->∀i,An CR st.O k=Ac i->Dp C η H Y k i)->(∀k∈keys s.wr,An CR st.O k=Dc->k∉keys Y)->
   (∀(v:Ce) (w':IK) (b:Hp) (η':Nat->Ce) (f:List (Nat×Aw)),H.le b->(∀k,(An CR st.O k=Dc->k∉keys s.wr)->η' k=η k)->(∀k,k∉keys s.wr->Ax f k=Ax Y k)->
    (∀k i,Ax s.wr k=Ac i->Dp C η' b f k i)->(keys f).Nodup->(∀k∈keys f,k∈keys Y\/k∈keys s.wr)->SH w' b (f.map (·.2)++Of.O)->s.sv.is C η' b v->K v w')->goal)
  (D:∀η' b v w',H.le b->Sat C CR n Of bs (app st d s nk) η' b (a.put d v) w'->K v w'):goal:=
 h.kZ (K:=λv w' g b=>g=Of->K v w') F j (λY x y z A B=>run Y x y z A λv w' b η' f l m o p q r t u=>B v w' b η' f Of rfl l m o p q r t u rfl) λη' b v w' g E j e=>by grind
theorem Sat.step(h:Sat C CR n Of bs st η H a w)(m:WF C CR bs st)(f:KQ C CR n st o.dst s nk P o){K:Act->IK->Prop}{Q:Exit->Act->IK->Prop}
  (g:∀η' c a' w',H.le c->Sat C CR n Of bs (app st o.dst s nk) η' c a' w'->K a' w'):o.wp P a w K Q:=by
 refine h.stepG m f.toW (K:=λv w'=>K (a.put o.dst v) w') (λY k e l i j=>f.loc η H Of.O a w Y k e h.inv (λx _=>h.ev x) l i K Q j) λη' c v w' d b=>g η' c _ w' d b
end
end
section
variable{T:Nat->Type}
def dc(i:Nat):SV T->SV T
 | .ct j n=>match Hg i j with
  |true=> .cb j n
  |false=> .ct j n
 |s=>s
def below{T:Nat->Type}(i:Nat)(st:St T):St T:=⟨st.L.map λp=>(p.1,dc i p.2),st.O,st.nk⟩
def Kl(t:Nat)(s:SV T)(st:St T):St T:=⟨(t,s)::st.L,st.O,st.nk⟩
end
section
variable {N : Df} {R : Type}
def xJ(s:SV N.T)(st:St N.T)(c a:St N.T->Option R):Option R:=match s with
 | .lb b=>cond b (c st) (a st)
 | .lt i n m=>bif Ds ((n:Int)<(m:Int))then c (below i st)else a st
 | .d .bool b=>bif b then c st else a st
 |_=>Dc
variable {C : List (SV N.T)} {CR : List (SR N.T)} {n : Nat} {Of : Fm} {bs : List (Nat × Ce)} {st : St N.T} {η : Nat -> Ce} {H : Hp} {a : Act} {w : IK}
section
variable{t:Nat}{L:List (Nat×SV N.T)}
theorem c_(i:Nat)(st:St N.T)(t:Nat):Ax (below i st).L t=(Ax st.L t).map (dc i):=by grind[below,DF]
theorem Sat.Gt(h:Sat C CR n Of bs st η H a w)(b:∀t sv,Ax L t=Ac sv->sv.is C η H (a.tmps.getD t undef)):Sat C CR n Of bs ⟨L,st.O,st.nk⟩ η H a w:=
 ⟨h.inv,h.defers,h.size,b,h.base,h.own⟩
theorem WF.Gt(h:WF C CR bs st)(c:∀τ,Nr (An CR st.O) (CC C st.L) τ->Nr (An CR st.O) (CC C L) τ):WF C CR bs ⟨L,st.O,st.nk⟩:=by obtain⟨τ,b⟩:=h.wf;exact⟨h.lo,h.ok,⟨τ,c τ b⟩,h.mC,h.cP⟩
theorem c9{i k:Nat}{m:Nat}(h:Sat C CR n Of bs st η H a w)(d:WF C CR bs st)(ht:CC C st.L t= .lt i k m)(p:(k:Int)<(m:Int)):Sat C CR n Of bs (below i st) η H a w/\WF C CR bs (below i st):=by
 have r:m<=Rc:=by have:=h.lk t;rw[ht]at this;exact this.2
 obtain⟨τ,c⟩:=d.wf;have s:τ i=k:=by have:=c t;rw[ht]at this;trivial
 refine⟨h.Gt λq sv g=>?_,⟨d.lo,d.ok,⟨τ,λq=>?_⟩,d.mC,d.cP⟩⟩
 ·rw[DF (dc i)]at g;obtain⟨x,e,rfl⟩:=Pd.1 g;have f:=h.Bq q x e;unfold dc;split
  ·rename_i j l;split
   ·rename_i o;have:=AI o;subst this;have b:=c q;unfold CC at b;rw[e]at b;have b:τ i=l:=b;refine⟨f.1,?_⟩;have:l=k:=by omega
    subst this;exact Abq (by omega) r
   trivial
  omega
 ·have b:=c q;unfold CC at b⊢;rw[c_];cases e:Ax st.L q with
  |none=>trivial
  |some x=>
   rw[e]at b;simp only[Adn]at b⊢;unfold dc;split
   ·split;· exact b
    ·exact b
   ·exact b
theorem PD{s:SV N.T}(h:Sat C CR n Of bs st η H a w)(i:WF C CR bs st)(g:s.is C η H (a.tmps.getD t undef))(f:EY s=Br)(hc:RU s=Br):Sat C CR n Of bs (Kl t s st) η H a w/\WF C CR bs (Kl t s st):=by
 refine⟨h.Gt λq sv b=>?_,i.Gt λτ c q=>?_⟩
 ·simp only[Ax]at b;split at b;· simp_all
  ·exact h.Bq q sv b
 ·have d:=c q;unfold CC at d⊢;simp only[Ax];cases e:Hg t q with
  |true=>
   have:res C s=s:=by cases s<;>first|rfl|cases hc
   simp_all[DE]
  |false=>exact d
theorem UL{o l:St N.T->Option R}{r:R}(h:Sat C CR n Of bs st η H a w)(j:WF C CR bs st)(c:xJ (CC C st.L t) st o l=Ac r):
  ∃b d,a.tmps.getD t undef= .bool b/\Sat C CR n Of bs d η H a w/\WF C CR bs d/\(if b=Br then o d=Ac r else l d=Ac r):=by
 have f:=h.lk t;unfold xJ at c;split at c;· rename_i b e;rw[e]at f;cases b with
  |true=>exact⟨Br,st,f,h,j,c⟩
  |false=>exact⟨Ak,st,f,h,j,c⟩
 ·rename_i i k m e;rw[e]at f;cases g:Ds ((k:Int)<(m:Int))with
  |true=>
   obtain⟨p,q⟩:=c9 h j e (of_decide_eq_true g);rw[g]at c;exact⟨Br,below i st,by rw[f.1,g],p,q,c⟩
  |false=>
   rw[g]at c;exact⟨Ak,st,by rw[f.1,g],h,j,c⟩
 ·rename_i b e;rw[e]at f;refine⟨b,st,QI f,h,j,?_⟩;cases b with
  |true=>grind
  |false=>exact c
 grind
def Zq(P:GO)(Φ:Nat->Option (CQ N))(C:List (SV N.T))(CR:List (SR N.T))(n:Nat)(o:K5)(st:St N.T)(kn:St N.T->Option R):Option R:=
 fZ P Φ C 4 (CC C st.L) (An CR st.O) st.nk o.op o.type λs b=>match G_ CR n st o.dst s b with
  |true=>kn (app st o.dst s b)
  |false=>Dc
theorem Rk{P:GO} [C9 N P]{Φ:Nat->Option (CQ N)}(k:∀f q,Φ f=Ac q->Bw P f q){o:K5}{kn:St N.T->Option R}{r:R}(h:Sat C CR n Of bs st η H a w)(d:WF C CR bs st)(y:Zq P Φ C CR n o st kn=Ac r){K:Act->IK->Prop}{Q:Exit->Act->IK->Prop}
  (v:∀b η' e a' w',H.le e->Sat C CR n Of bs b η' e a' w'->WF C CR bs b->kn b=Ac r->K a' w'):o.wp P a w K Q:=by
 have z:∀j,st.nk<=j->An CR st.O j=Dc:=λj A=>by unfold An;rw[d.ok j A]
 obtain⟨s,B,g,m,p,t,u⟩:=Ue (o:=o) k d.mC 4 z d.wf y;split at g;· rename_i x;have l:KQ C CR n st o.dst s B P o:=⟨x,m,p,t,u⟩;exact h.step d l λη' e a' w' i c=>v _ η' e a' w' i c (d.step l) g
 grind
def Iq(n:Nat)(d:Option Nat)(st:St N.T)(kn:St N.T->Option R):Option R:=match d with
 |none=>kn st
 |some d=>match aT d n with
  |true=>kn (Kl d .ud st)
  |false=>Dc
theorem Rs{d:Option Nat}{kn:St N.T->Option R}{r:R}(h:Sat C CR n Of bs st η H a w)(l:WF C CR bs st)(e:Iq n d st kn=Ac r):∃c,Sat C CR n Of bs c η H (a.put d undef) w/\WF C CR bs c/\kn c=Ac r:=by
 unfold Iq at e;split at e;· exact⟨st,h,l,e⟩
 ·rename_i d;split at e
  ·have g:d<n:=by simp_all
   refine⟨_,?_,?_,e⟩;· refine⟨h.inv,h.defers,by simp[Act.put,h.size],λq sv b=>?_,h.base,h.own⟩;have b:Ax ((d,SV.ud)::st.L) q=Ac sv:=b;rw[HZ (by rw[h.size];omega)];simp only[Ax]at b;cases f:Hg d q with
    |true=>rw[f]at b;cases b;rfl
    |false=>rw[f]at b;exact h.Bq q sv b
   ·refine l.Gt λτ i q=>?_;have j:=i q;unfold CC at j⊢;simp only[Ax];cases k:Hg d q with
    |true=>trivial
    |false=>exact j
  grind
theorem IB{b:Array K5}{j:Nat}{t:Tmp}(d:BN b j=Ac t)(c:a.tmps.getD t undef=undef):yielded b a.tmps j=Dc:=by unfold BN at d;unfold yielded;rw[d];rw[Afo]at c;grind[undef]
end
end
section
variable{T:Nat->Type}
inductive TS(T:Nat->Type)where
 |run (s:Bt T)
 |skip
def TS.sv:TS T->SV T
 | .run s=>s.sv
 | .skip=> .ud
def TS.rd:TS T->List Nat
 | .run s=>s.rd
 | .skip=>[]
def TS.wr:TS T->List (Nat×SR T)
 | .run s=>s.wr
 | .skip=>[]
def TS.AL(t:TS T):List Nat:=t.sv.AL++t.wr.flatMap λp=>p.2.AL
def GP(A B:List Nat):Bool:=A.any λk=>Cf B k
theorem RW{A B:List Nat}(h:GP A B=Ak){k:Nat}(a:k∈A)(b:k∈B):False:=by grind[GP,List.any_eq_true,AR]
end
section
variable {T : Nat -> Type}
section
variable{nk:Nat}{l:List K5}{tr:List (TS T)}
def Ls(a:Array K5)(x y:K5)(s t:TS T):Bool:=meets a x y||(GP (keys s.wr) (t.rd++keys t.wr)||GP s.rd (keys t.wr))
def wF(nk:Nat)(seen:List Nat)(wr:List (Nat×SR T)):List Nat:=(keys wr).filter λk=>iJ nk k&& !Cf seen k
def RM(a:Array K5)(nk:Nat)(A:Nat)(o:K5)(t:TS T)(j:Nat):Nat->List Nat->List K5->List (TS T)->Bool
 |_,_,[],[]=>Br
 |i,seen,x::c,s::b=>(A.testBit i||(Hg i j||((!Nat.blt i j|| !Ls a x o s t)&& !GP (wF nk seen s.wr) t.AL)))&&RM a nk A o t j (i+1) (keys s.wr++seen) c b
 |_,_,_,_=>Ak
def fp(a:Array K5)(l:List K5)(tr:List (TS T))(nk:Nat):Nat->List Nat->List K5->List (TS T)->Bool
 |_,[],[],[]=>Br
 |j,A::b,o::c,t::d=>RM a nk A o t j 0 [] l tr&&fp a l tr nk (j+1) b c d
 |_,_,_,_=>Ak
def ZP(l:List K5)(tr:List (TS T))(nk:Nat):Bool:=GS 0 l&&fp l.toArray l tr nk 0 (Nj [] l) l tr
theorem Mz{g:Array K5}{nk A:Nat}{o:K5}{t:TS T}{j:Nat} :∀ {i:Nat} {seen:List Nat} {xs:List K5} {ss:List (TS T)},RM g nk A o t j i seen xs ss=Br->xs.length=ss.length/\∀q x s,xs[q]?=Ac x->ss[q]?=Ac s->
  A.testBit (i+q)=Br\/i+q=j\/((i+q<j->Ls g x o s t=Ak)/\∀k∈keys s.wr,nk<=k->k∉seen->(∀l m,l<q->ss[l]?=Ac m->k∉keys m.wr)->k∉t.AL)
 |_,_,[],[],_=>⟨rfl,λq x s h=>by simp⟩
 |_,_,[],_::_,h=>by trivial
 |_,_,_::_,[],h=>by trivial
 |i,seen,y::xs,u::ss,h=>by
  simp only[RM,AS]at h;obtain⟨a,D⟩:=h;obtain⟨F,E⟩:=Mz D;refine⟨by grind,λq x s z r=>?_⟩;cases q with
  |zero=>
   simp at z r;subst r;rw[Adw,Adw,AS]at a;rcases a with a|a|⟨a,n⟩;· grind
   ·grind[aP]
   ·refine .inr (.inr ⟨λd=>?_,λk p c f _ b=>?_⟩)
    ·rw[Adw]at a;rcases a with a|a
     ·have:aT i j=Br:=by simpa using d
      grind
     grind
    ·have n:GP (wF nk seen u.wr) t.AL=Ak:=by simpa using n
     refine RW n (Aax.2 ⟨p,?_⟩) b;grind[Cf,seen,absurd,Nat.ble_eq_true_of_le,AR]
  |succ q=>
   have:=E q x s (by simpa using z) (by simpa using r);rw[show i+1+q=i+(q+1) by omega]at this;refine this.imp id λe=>e.imp id λ⟨B,C⟩=>⟨B,λk p c f w=>C k p c (λb=>?_) λl m d v=>w (l+1) m (by omega) (by simpa using v)⟩;rcases AT.1 b with b|b;· exact w 0 u (by omega) rfl b
   ·exact f b
theorem N'{a:Array K5}{l:List K5}{tr:List (TS T)}{nk:Nat} :∀ {j:Nat} {b:List Nat} {os:List K5} {ts:List (TS T)},fp a l tr nk j b os ts=Br->os.length=ts.length/\b.length=os.length/\∀q o t,os[q]?=Ac o->ts[q]?=Ac t->RM a nk (b.getD q 0) o t (j+q) 0 [] l tr=Br
 |_,[],[],[],_=>⟨rfl,rfl,λq o t h=>by simp⟩
 |j,A::b,o::os,t::ts,h=>by simp only[fp,AS]at h;obtain⟨c,d,e⟩:=N' h.2;grind
 |_,[],[],_::_,h=>by trivial
 |_,[],_::_,_,h=>by trivial
 |_,_::_,[],_,h=>by trivial
 |_,_::_,_::_,[],h=>by trivial
theorem Kk(h:ZP l tr nk=Br):GS 0 l=Br/\tr.length=l.length/\∀i j x o s t,l[i]?=Ac x->l[j]?=Ac o->tr[i]?=Ac s->tr[j]?=Ac t->
  (US l j).testBit i=Br\/i=j\/((i<j->Ls l.toArray x o s t=Ak)/\∀k∈keys s.wr,nk<=k->(∀c d,c<i->tr[c]?=Ac d->k∉keys d.wr)->k∉t.AL):=by
 unfold ZP at h;rw[AS]at h;obtain⟨m,y,n⟩:=N' h.2;refine⟨h.1,m.symm,λi j x o s t w q u v=>?_⟩;have:=n j o t q v;rw[Abm]at this;have:=(Mz this).2 i x s w u;rw[Abm]at this;exact this.imp id λe=>e.imp id λ⟨f,g⟩=>⟨f,λk p b r=>g k p b (by simp) r⟩
end
end
section
variable {N : Df} {l : List K5} {tr : List (TS N.T)} {S0 : Nat -> SV N.T} {R0 : Nat -> Option (SR N.T)}
section
variable{T:Nat->Type}{p:Nat->Bool}{k:Nat}{C:List (SV N.T)}{R:Nat->Option (SR T)}{P:GO}{n nk:Nat}{Of:Fm}{H:Hp}{a:Act}{s:Bt T}{Q:Exit->Act->IK->Prop}{w:IK}
def Cj(l:List K5)(tr:List (TS N.T))(S0:Nat->SV N.T)(p:Nat->Bool)(t:Nat):Nat->SV N.T
 |0=>S0 t
 |j+1=>if p j=Br/\(l[j]?).bind (·.dst)=Ac t then((tr[j]?).map TS.sv).getD .no else Cj l tr S0 p t j
def Cy(tr:List (TS N.T))(R0:Nat->Option (SR N.T))(p:Nat->Bool)(k:Nat):Nat->Option (SR N.T)
 |0=>R0 k
 |j+1=>if p j=Br then match(tr[j]?).bind λs=>Ax s.wr k with
   |some x=>Ac x
   |none=>Cy tr R0 p k j
  else Cy tr R0 p k j
theorem GH{p q:Nat->Bool}{t:Nat} :∀i,(∀j,j<i->(l[j]?).bind (·.dst)=Ac t->p j=q j)->Cj l tr S0 p t i=Cj l tr S0 q t i
 |0,_=>rfl
 |i+1,h=>by unfold Cj;rw[GH i λj a=>h j (by omega)];grind
theorem HI{p:Nat->Bool}{t i:Nat} :∀k,i<=k->(∀j,i<=j->j<k->(l[j]?).bind (·.dst)=Ac t->p j=Ak)->Cj l tr S0 p t k=Cj l tr S0 p t i
 |0,h,_=>by grind
 |k+1,h,f=>by
  by_cases e:i=k+1;· grind
  ·have g:Cj l tr S0 p t (k+1)=if p k=Br/\(l[k]?).bind (·.dst)=Ac t then((tr[k]?).map TS.sv).getD .no else Cj l tr S0 p t k:=rfl;rw[g,if_neg (λ⟨b,c⟩=>by grind)];exact HI k (by omega) λj b c d=>f j b (by omega) d
theorem E6{p q:Nat->Bool}{k:Nat} :∀i,(∀j,j<i->∀s,tr[j]?=Ac s->k∈keys s.wr->p j=q j)->Cy tr R0 p k i=Cy tr R0 q k i
 |0,_=>rfl
 |i+1,h=>by unfold Cy;rw[E6 i λj a=>h j (by omega)];grind[bind,Ax,xl,Dd]
theorem HH{p:Nat->Bool}{k i:Nat} :∀m,i<=m->(∀j,i<=j->j<m->∀s,tr[j]?=Ac s->k∈keys s.wr->p j=Ak)->Cy tr R0 p k m=Cy tr R0 p k i
 |0,h,_=>by grind
 |m+1,h,c=>by
  by_cases e:i=m+1;· grind
  ·have g:=HH m (by omega:i<=m) λj a d b=>c j a (by omega) b;have f:Cy tr R0 p k (m+1)=if p m=Br then(match(tr[m]?).bind λs=>Ax s.wr k with
    |some x=>Ac x
    |none=>Cy tr R0 p k m)else Cy tr R0 p k m:=rfl;grind[bind,Ax,xl,Dd]
def Nv(C:List (SV N.T))(a:Array K5)(o:K5)(S:Nat->SV N.T):Prop:= ∀j w,o.guard=Ac (j,w)->∃t,BN a j=Ac t/\∀(η:Nat->Ce) (H:Hp) v,(S t).is C η H v->v= .bool w
def KS(C:List (SV N.T))(a:Array K5)(o:K5)(S:Nat->SV N.T):Prop:= ∃j w t,o.guard=Ac (j,w)/\BN a j=Ac t/\∀(η:Nat->Ce) (H:Hp) v,(S t).is C η H v->v=undef\/v= .bool (!w)
def Qp{T:Nat->Type} :SV T->SV T->Bool
 | .nl, .nl=>Br
 | .vn, .vn=>Br
 | .loc k a, .loc j b=>Hg k j&&Hg a b
 | .lf s a l, .lf t b m=>Hg s t&&(Qp a b&&Qp l m)
 | .AA f l cs, .AA g m ds=>Hg f g&&(Qp l m&&cs==ds)
 |_,_=>Ak
theorem ru:∀ {a b:SV T},Qp a b=Br->a=b:=λ{a} =>by
 induction a with
 |lf s a l ha hl=>
  intro b h;cases b<;>simp only[Qp,AS,Aco]at h
  rw[AI h.1,ha h.2.1,hl h.2.2]
 |AA f l cs hl=>
  intro b h;cases b<;>simp only[Qp,AS,Aco]at h
  rw[AI h.1,hl h.2.1,eq_of_beq h.2.2]
 |loc k a=>
  intro b h;cases b<;>simp only[Qp,AS,Aco]at h
  rw[AI h.1,AI h.2]
 |_=>intro b h;cases b<;>first|rfl|cases h
def vr:SR T->SR T->Bool
 | .Af g l, .Af h m=>Hg g h&&Qp l m
 |_,_=>Ak
theorem ry{a b:SR T}(h:vr a b=Br):a=b/\a≠ .gone:=by
 cases a<;>cases b<;>simp only[vr,AS,Aco]at h
 rw[AI h.1,ru h.2];exact⟨rfl,by simp⟩
def GN(R:Nat->Option (SR T))(wr:List (Nat×SR T))(k:Nat):Bool:=match R k,Ax wr k with
 |some y,Ac x=>vr y x
 |_,_=>Ak
def PB(R:Nat->Option (SR T))(s:Bt T):Bt T:=⟨s.sv,s.rd++(keys s.wr).filter (GN R s.wr),s.wr.filter λp=> !GN R s.wr p.1⟩
theorem Gu{wr:List (Nat×SR T)}(h:GN R wr k=Br):∃x,R k=Ac x/\Ax wr k=Ac x/\x≠ .gone:=by
 unfold GN at h;split at h
 ·rename_i y x a b;obtain⟨rfl,c⟩:=ry h;exact⟨_,a,b,c⟩
 ·cases h
theorem ML{α:Type}{p:Nat->Bool} :∀ {l:List (Nat×α)} {k:Nat},Ax (l.filter λq=> !p q.1) k=if p k=Br then Dc else Ax l k
 | [],k=>by simp[Ax]
 |(j,v)::l,k=>by
  rw[Aeo]
  cases h:p j with
  |true=>
   simp only[h,Ahd,Aco,if_false,ML (l:=l),Ax]
   cases b:Hg j k with
   |true=>rw[<-AI b,h];simp
   |false=>rfl
  |false=>
   simp only[h,Bool.not_false,if_true,Ax]
   cases b:Hg j k with
   |true=>rw[<-AI b,h];simp
   |false=>exact ML
theorem PA:Ax (PB R s).wr k=if GN R s.wr k=Br then Dc else Ax s.wr k:=ML
theorem EW:k∈keys (PB R s).wr↔k∈keys s.wr/\GN R s.wr k=Ak:=by
 unfold PB keys;simp only[By,Aax]
 constructor
 ·rintro⟨p,⟨a,b⟩,rfl⟩;exact⟨⟨p,a,rfl⟩,by simpa using b⟩
 ·rintro⟨⟨p,a,rfl⟩,b⟩;exact⟨p,⟨a,by simpa using b⟩,rfl⟩
def dB(P:GO)(C:List (SV N.T))(S:Nat->SV N.T)(R:Nat->Option (SR N.T))(o:K5)(s:Bt N.T):Prop:=
 ∀(η:Nat->Ce) (H:Hp) (Of:List Aw) (a:Act) (w:IK) (Y:List (Nat×Aw)),(keys Y).Nodup->SH w H (Y.map (·.2)++Of)->N.inv H->(∀x∈o.op.operands,(Av S x).is C η H (a.eval x))->
  (∀k,(k∈s.rd\/k∈keys s.wr)->∀sr,R k=Ac sr->Dp C η H Y k sr)->(∀k∈keys s.wr,R k=Dc->k∉keys Y)->
  ∀(K:Act->IK->Prop) (Q:Exit->Act->IK->Prop),(∀(v:Ce) (w':IK) (H':Hp) (η':Nat->Ce) (Y':List (Nat×Aw)),H.le H'->(∀k,(R k=Dc->k∉keys s.wr)->η' k=η k)->(∀k,k∉keys s.wr->Ax Y' k=Ax Y k\/∃sr,R k=Ac sr/\k∈s.rd/\Dp C η' H' Y' k sr)->
   (∀k sr,Ax s.wr k=Ac sr->Dp C η' H' Y' k sr)->(keys Y').Nodup->(∀k∈keys Y',k∈keys Y\/k∈keys s.wr)->SH w' H' (Y'.map (·.2)++Of)->s.sv.is C η' H' v->K (a.put o.dst v) w')->o.wp P a w K Q
theorem Ao.red{S:Nat->SV N.T}{R:Nat->Option (SR N.T)}{o:K5}{s:Bt N.T}(h:Ao P C S R o s):dB P C S R o (PB R s):=by
 intro η H Of a w Y nd sh hi hx hr hn K Q hK
 have rd:∀k,(k∈s.rd\/k∈keys s.wr)->k∈(PB R s).rd\/k∈keys (PB R s).wr:=λk hk=>by
  rcases hk with hk|hk
  ·exact .inl (AT.2 (.inl hk))
  ·cases e:GN R s.wr k with
   |true=>exact .inl (AT.2 (.inr (Aax.2 ⟨hk,e⟩)))
   |false=>exact .inr (EW.2 ⟨hk,e⟩)
 have ne:∀k,R k=Dc->GN R s.wr k=Ak:=λk e=>by
  cases c:GN R s.wr k with
  |false=>rfl
  |true=>obtain⟨x,a,_⟩:=Gu c;rw[e]at a;cases a
 refine h η H Of a w Y nd sh hi hx (λk hk=>hr k (rd k hk)) (λk hk e=>hn k (EW.2 ⟨hk,ne k e⟩) e) K Q λv w' H' η' Y' hle hη hY hwr hn' hY' hsh hsv=>?_
 refine hK v w' H' η' Y' hle (λk hk=>hη k λe m=>hk e (EW.2 ⟨m,ne k e⟩)) (λk hk=>?_) (λk sr e=>?_) hn' (λk hk=>?_) hsh hsv
 ·by_cases m:k∈keys s.wr
  ·cases e:GN R s.wr k with
   |false=>exact absurd (EW.2 ⟨m,e⟩) hk
   |true=>
    obtain⟨x,p,q,_⟩:=Gu e
    exact .inr ⟨x,p,AT.2 (.inr (Aax.2 ⟨m,e⟩)),hwr k x q⟩
  ·exact .inl (hY k m)
 ·rw[PA]at e;split at e
  ·cases e
  ·exact hwr k sr e
 ·rcases hY' k hk with e|m
  ·exact .inl e
  ·cases e:GN R s.wr k with
   |false=>exact .inr (EW.2 ⟨m,e⟩)
   |true=>
    obtain⟨x,p,q,g⟩:=Gu e
    rcases hr k (rd k (.inr m)) x p with e|⟨r,c,_⟩
    ·exact absurd e g
    ·exact .inl (Dd c)
structure dC(P:GO)(C:List (SV N.T))(ops:Array K5)(n nk:Nat)(o:K5)(s:TS N.T)(S:Nat->SV N.T)(R:Nat->Option (SR N.T)):Prop where
 dst:∀d,o.dst=Ac d->d<n
 new:∀k∈keys s.wr,R k=Dc->nk<=k/\Ax s.wr k≠Ac .gone
 run:∀st,s= .run st->Nv C ops o S/\∃Sr:Nat->SV N.T,(∀t, .tmp t∈o.op.operands->∀(η:Nat->Ce) (H:Hp) v,(S t).is C η H v->(Sr t).is C η H v)/\dB P C Sr R o st
 skip:s= .skip->KS C ops o S
structure JV(C:List (SV N.T))(n:Nat)(Of:Fm)(bs:List (Nat×Ce))(nk:Nat)(l:List K5)(tr:List (TS N.T))(S0:Nat->SV N.T)(R0:Nat->Option (SR N.T))(H:Hp)(p:Nat->Bool)(a:Act)(w:IK):Prop where
 ex:∃(η:Nat->Ce) (H':Hp) (Y:List (Nat×Aw)),H.le H'/\a.defers=Of.ds/\a.tmps.size=n/\(∀t,(Cj l tr S0 p t l.length).is C η H' (a.tmps.getD t undef))/\(∀q∈bs,η q.1=q.2)/\(keys Y).Nodup/\SH w H' (Y.map (·.2)++Of.O)/\
  (∀k∈keys Y,k<nk\/∃(j:Nat) (s:TS N.T),p j=Br/\tr[j]?=Ac s/\k∈keys s.wr)/\∀k sr,Cy tr R0 p k l.length=Ac sr->Dp C η H' Y k sr
theorem OX{k:Nat} :∀ {i:Nat},Cy tr R0 (λ_=>Br) k i=Dc->∀j s,j<i->tr[j]?=Ac s->k∉keys s.wr
 |0,_,j,s,a,_=>by omega
 |i+1,h,j,s,a,c=>by
  unfold Cy at h;simp only[if_true]at h;split at h;· grind
  ·by_cases e:j=i;· intro b;obtain⟨x,d⟩:=Du b;grind
   ·exact OX h j s (by omega) c
theorem SU{p:Nat->Bool}{t:Nat} :∀i,Cj l tr S0 p t i=S0 t\/(∃j s,j<i/\p j=Br/\tr[j]?=Ac s/\Cj l tr S0 p t i=s.sv)\/Cj l tr S0 p t i= .no
 |0=> .inl rfl
 |i+1=>by
  unfold Cj;split;· grind
  ·rcases SU i with h|⟨j,s,a,b⟩|h;· exact .inl h
   all_goals grind
theorem M5{p:Nat->Bool}{k:Nat}{x:SR N.T} :∀i,Cy tr R0 p k i=Ac x->R0 k=Ac x\/∃j s,j<i/\p j=Br/\tr[j]?=Ac s/\Ax s.wr k=Ac x
 |0,h=> .inl h
 |i+1,h=>by
  unfold Cy at h;split at h;· cases c:(tr[i]?).bind λs=>Ax s.wr k with
   |none=>
    rw[c]at h;rcases M5 i h with h|⟨j,s,a,b⟩;all_goals grind
   |some y=>
    grind
  ·rcases M5 i h with h|⟨j,s,a,b⟩;all_goals grind
theorem Tm{bs:List (Nat×Ce)}(hiv:N.inv H)
  (hOK:ZP l tr nk=Br) (hC:∀k∈C3 C,k<nk) (hS:∀t,∀k∈(S0 t).AL,k<nk) (hR:∀k x,R0 k=Ac x->k<nk/\∀j∈x.AL,j<nk) (hbs:∀q∈bs,q.1<nk)
  (hl:∀i o s,l[i]?=Ac o->tr[i]?=Ac s->dC P C l.toArray n nk o s (λt=>Cj l tr S0 (λ_=>Br) t i) (λk=>Cy tr R0 (λ_=>Br) k i)):∀p a w i o,l[i]?=Ac o->p i=Ak->HQ l p->(∀j,(US l i).testBit j=Br->p j=Br)->(∀j u,l[j]?=Ac u->p j=Br->∀m,(US l j).testBit m=Br->p m=Br)->JV C n Of bs nk l tr S0 R0 H p a w->
   if fc o (yielded l.toArray a.tmps)then o.wp P a w (JV C n Of bs nk l tr S0 R0 H (I9 p i)) Q else JV C n Of bs nk l tr S0 R0 H (I9 p i) (a.put o.dst undef) w:=by
 obtain⟨hb,hlen,R⟩:=Kk hOK;have hTr:∀i o,l[i]?=Ac o->∃s,tr[i]?=Ac s:=λi o ho=>by
  have:i<tr.length:=by rw[hlen];exact(No.1 ho).1
  exact⟨tr[i],IN this⟩
 have hLt:∀j s,tr[j]?=Ac s->∃o,l[j]?=Ac o:=λj s hs=>by
  have:j<l.length:=by rw[<-hlen];exact(No.1 hs).1
  exact⟨l[j],IN this⟩
 intro p a w i o O S hcl hanc hancs ⟨η,H',Y,h1,h2,h3,h4,h5,h6,h7,h8,h9⟩;obtain⟨s,D⟩:=hTr i o O;have J:=hl i o s O D;have hlt:i<l.length:=(No.1 O).1;have A:∀j u f,l[j]?=Ac u->tr[j]?=Ac f->i<j->Ls l.toArray o u s f=Br->p j=Ak:=λj u f z c hij hc=>by
  cases hp:p j with
  |false=>rfl
  |true=>
   rcases R i j o u s f O z D c with e|e|e;· rw[hancs j u z hp i e]at S;omega
   ·omega
   grind
 have G:∀j u f,l[j]?=Ac u->tr[j]?=Ac f->j<i->Ls l.toArray u o f s=Br->p j=Br:=λj u f z c hij hc=>by
  rcases R j i u o f s z O c D with e|e|e;· exact hanc j e
  ·omega
  grind
 have M:∀(j t:Nat),(l[j]?).bind (λx:K5=>x.dst)=Ac t->∃u f,l[j]?=Ac u/\tr[j]?=Ac f/\u.dst=Ac t:=λj t h=>by
  cases z:l[j]? with
  |none=>rw[z]at h;cases h
  |some u=>rw[z]at h;obtain⟨f,c⟩:=hTr j u z;exact⟨u,f,rfl,c,h⟩
 have U:∀t,t∈o.looksAt l.toArray->Cj l tr S0 p t l.length=Cj l tr S0 (λ_=>Br) t i:=λt V=>by
  rw[HI (i:=i) l.length (by omega) (λj hij hjk hd=>by
   by_cases B:j=i;· subst B;omega
   ·obtain⟨u,f,z,c,hdj⟩:=M j t hd;refine A j u f z c (by omega) ?_;unfold Ls;simp only[meets,hdj,EZ V,Bool.or_true,Bool.true_or])];exact GH i λj z hd=>by
   obtain⟨u,f,Z,c,hdj⟩:=M j t hd;refine G j u f Z c z ?_;unfold Ls;simp only[meets,hdj,EZ V,Bool.true_or]
 have resC:∀k,(k∈s.rd\/k∈keys s.wr)->Cy tr R0 p k l.length=Cy tr R0 (λ_=>Br) k i:=λk g=>by
  rw[HH (i:=i) l.length (by omega) (λj hij hjk f c I=>by
   by_cases B:j=i;· subst B;omega
   ·obtain⟨u,z⟩:=hLt j f c;refine A j u f z c (by omega) ?_;unfold Ls;rcases g with g|g;· have:GP s.rd (keys f.wr)=Br:=Acj.2 ⟨k,g,AR.2 I⟩;rw[this];simp
    ·have:GP (keys s.wr) (f.rd++keys f.wr)=Br:=Acj.2 ⟨k,g,AR.2 (AT.2 (.inr I))⟩;rw[this];simp)];exact E6 i λj z f c I=>by
   obtain⟨u,Z⟩:=hLt j f c;refine G j u f Z c z ?_;unfold Ls;have:GP (keys f.wr) (s.rd++keys s.wr)=Br:=Acj.2 ⟨k,I,AR.2 (AT.2 g)⟩;rw[this];simp
 have T:∀j,j≠i->I9 p i j=p j:=λj z=>by simp[I9,z]
 have hupi:I9 p i i=Br:=by simp[I9]
 have lookT:∀t, .tmp t∈o.op.operands->t∈o.looksAt l.toArray:=λt V=>by refine AT.2 (.inl (Aer.2 ⟨.tmp t,by simpa using V,rf⟩))
 have lookG:∀j b t,o.guard=Ac (j,b)->BN l.toArray j=Ac t->t∈o.looksAt l.toArray:=λj b t hg V=>by unfold BN at V;refine AT.2 (.inr ?_);rw[hg];simp only[V];simp
 have slotN:∀(v:Ce) (t:Nat),(Cj l tr S0 (I9 p i) t l.length=s.sv/\o.dst=Ac t)\/(Cj l tr S0 (I9 p i) t l.length=Cj l tr S0 p t l.length/\o.dst≠Ac t):=λv t=>by
  by_cases hdt:o.dst=Ac t;· refine .inl ⟨?_,hdt⟩;rw[HI (i:=i+1) l.length (by omega) (λj hij hjk hd=>by obtain⟨u,f,Z,c,hdj⟩:=M j t hd;rw[T j (by omega)];refine A j u f Z c (by omega) ?_;unfold Ls;simp only[meets,hdt,Kp hdj,Bool.true_or])];unfold Cj;rw[if_pos ⟨hupi,by simp[O,hdt]⟩,D];rfl
  ·refine .inr ⟨?_,hdt⟩;exact GH l.length λj z hd=>by exact T j λe=>by grind
 have K:∀ {v:Ce} {E:Nat->Ce} {X:Hp},(∀t,(Cj l tr S0 p t l.length).is C E X (a.tmps.getD t undef))->s.sv.is C E X v->∀t,(Cj l tr S0 (I9 p i) t l.length).is C E X ((a.put o.dst v).tmps.getD t undef):=λ{v E X} hold hnew t=>by
  rcases slotN v t with⟨F,L⟩|⟨F,L⟩;· rw[F,L,HZ (by rw[h3];exact J.dst t L)];simpa using hnew
  ·rw[F];cases hd:o.dst with
   |none=>exact hold t
   |some d=>
    rw[HZ (by rw[h3];exact J.dst d hd)];have:Hg d t=Ak:=by
     cases hb:Hg d t with
     |false=>rfl
     |true=>exact absurd (by rw[hd,AI hb]) L
    rw[this];exact hold t
 have hdz:∀v,(a.put o.dst v).defers=Of.ds/\(a.put o.dst v).tmps.size=n:=λv=>by cases o.dst<;>simp[Act.put,h2,h3]
 cases s with
 |skip=>
  obtain⟨j,b,t,hg,V,hv⟩:=J.skip rfl;have hval:=hv η H' _ (by have:=h4 t;rw[U t (lookG j b t hg V)]at this;exact this);have hw':fc o (yielded l.toArray a.tmps)=Ak:=by
   rcases hval with e|e;· simp[fc,hg,IB V e]
   ·simp[fc,hg,Gm V e]
  rw[if_neg (by rw[hw'];simp)];refine⟨η,H',Y,h1,(hdz _).1,(hdz _).2,K h4 rfl,h5,h6,h7,λk g=>?_,λk sr g=>?_⟩
  ·rcases h8 k g with e|⟨j',s',F,L⟩;· exact .inl e
   ·refine .inr ⟨j',s',?_,L⟩;rw[T j' λe=>by subst e;rw[S]at F;cases F];exact F
  ·refine h9 k sr ?_;rw[<-g];exact E6 l.length λj' Z s' hs' hk'=>by refine(T j' λe=>?_).symm;subst e;rw[D]at hs';cases hs';cases hk'
 |run st=>
  obtain⟨hgr,Sr,hSr,hLoc⟩:=J.run st rfl;have hw':fc o (yielded l.toArray a.tmps)=Br:=by
   cases hg:o.guard with
   |none=>simp[fc,hg]
   |some jb=>
    obtain⟨j,b⟩:=jb;obtain⟨t,V,hv⟩:=hgr j b hg;have hval:=hv η H' _ (by have:=h4 t;rw[U t (lookG j b t hg V)]at this;exact this);simp[fc,hg,Gm V hval]
  rw[if_pos hw'];have hnk:∀k∈keys st.wr,Cy tr R0 (λ_=>Br) k i=Dc->nk<=k:=λk h1 h2=>(J.new k h1 h2).1;have fresh:∀k∈keys st.wr,Cy tr R0 (λ_=>Br) k i=Dc->∀j f,tr[j]?=Ac f->p j=Br->k∉f.AL:=λk g r j f c hpj=>by
   obtain⟨u,z⟩:=hLt j f c;rcases R i j o u _ f O z D c with e|e|e;· rw[hancs j u z hpj i e]at S;cases S
   ·subst e;rw[S]at hpj;cases hpj
   ·exact e.2 k g (hnk k g r) λq' s' hlt hs'=>OX r q' s' hlt hs'
  refine hLoc η H' Of.O a w Y h6 h7 (N.C5 h1 hiv) (λx hx=>bR λt e=>?_) (λk g sr hsr=>?_) (λk g r hY=>?_) _ Q λv w' X E Y' hle hη hY hwr hn' hY' hsh' hsv=>?_;· subst e;exact hSr t hx η H' _ (by have:=h4 t;rw[U t (lookT t hx)]at this;exact this)
  ·exact h9 k sr (by rw[resC k g];exact hsr)
  ·have h11:=
         hnk k g r;rcases h8 k hY with e|⟨j,f,F,L,e3⟩;· omega
   ·obtain⟨
        u,z⟩:=hLt j f L;rcases Acw j i with B|B|B
    ·have:Cy tr R0 (λ_=>Br) k i≠Dc:=by
      have key:∀m,j<m->Cy tr R0 (λ_=>Br) k m≠Dc:=by
       intro m;induction m with
       |zero=>omega
       |succ m ih=>
        intro hjm;unfold Cy;by_cases e:j=m;· subst e;obtain⟨y0,hy0⟩:=Du e3;rw[L];cases hl:Ax f.wr k with
         |none=>rw[hy0]at hl;cases hl
         |some y=>simp[hl]
        ·have:=ih (by omega);cases hl:(tr[m]?).bind λs=>Ax s.wr k with
         |none=>simpa using this
         |some y=>simp
      exact key i B
     exact this r
    ·subst B;rw[S]at F;cases F
    ·have:=A j u f z L B (by unfold Ls;have:GP (keys (TS.run st).wr) (f.rd++keys f.wr)=Br:=Acj.2 ⟨k,g,AR.2 (AT.2 (.inr e3))⟩;rw[this];simp);rw[this]at F;cases F
  ·
   have W:∀k,k<nk->E k=η k:=λk g=>hη k λr hm=>by have:=hnk k hm r;omega
   have mC:∀k∈C3 C,E k=η k:=λk g=>W k (hC k g);have mJ:∀j f,tr[j]?=Ac f->p j=Br->∀k∈f.AL,E k=η k:=λj f c hpj k g=>hη k λr hm=>fresh k hm r j f c hpj g;refine⟨E,X,Y',h1.trans hle,(hdz _).1,(hdz _).2,K (λt=>?_) hsv,λq hq=>?_,hn',hsh',λk g=>?_,λk sr g=>?_⟩
   ·refine((h4 t).env mC λk g=>?_).mono hle;rcases SU (l:=l) (tr:=tr) (S0:=S0) (p:=p) (t:=t) l.length with e|⟨j,f,F,L,e3,e4⟩|e;· rw[e]at g;exact W k (hS t k g)
    ·rw[e4]at g;exact mJ j f e3 L k (AT.2 (.inl g))
    ·rw[e]at g;cases g
   ·rw[W q.1 (hbs q hq)];exact h5 q hq
   ·rcases hY' k g with e|e
    ·rcases h8 k e with e|⟨j',s',F,L⟩;· exact .inl e
     ·refine .inr ⟨j',s',?_,L⟩;rw[T j' λe=>by subst e;rw[S]at F;cases F];exact F
    ·exact .inr ⟨i,_,hupi,D,e⟩
   ·by_cases hkw:k∈keys st.wr;· rw[HH (i:=i+1) l.length (by omega) (λj hij hjk f c I=>by
      obtain⟨u,z⟩:=hLt j f c;rw[T j (by omega)];refine A j u f z c (by omega) ?_;unfold Ls;have:GP (keys (TS.run st).wr) (f.rd++keys f.wr)=Br:=Acj.2 ⟨k,hkw,AR.2 (AT.2 (.inr I))⟩;rw[this];simp)]at g;unfold Cy at g;rw[if_pos hupi,D]at g;simp only[Option.bind_some]at g;cases hl:Ax (TS.run st).wr k with
     |some y=>
      rw[hl]at g;cases g;exact hwr k _ hl
     |none=>
      exfalso;obtain⟨y0,hy0⟩:=Du hkw;exact absurd (hy0.symm.trans hl) (by simp)
    ·have e:Cy tr R0 (I9 p i) k l.length=Cy tr R0 p k l.length:=E6 l.length λj z f c I=>T j λe=>by subst e;rw[D]at c;cases c;exact hkw I
     rw[e]at g;rcases hY k hkw with hY|⟨sr',q1,q2,q3⟩;rotate_left;· dsimp only at q1;rw[resC k (.inl q2),q1]at g;cases g;exact q3
     rcases h9 k sr g with e|⟨x,g1,g2⟩;· exact .inl e
     ·refine .inr ⟨x,by rw[hY];exact g1,(SR.is.env (hη k λ_ hm=>absurd hm hkw) mC (λm hm=>?_) g2).mono hle⟩;rcases M5 l.length g with e|⟨j,f,F,L,e3,e4⟩;· exact W m ((hR k sr e).2 m hm)
      ·exact mJ j f e3 L m (AT.2 (.inr (Pe.2 ⟨(k,sr),A5 e4,hm⟩)))
theorem JV.all{bs:List (Nat×Ce)}(b:∀i,i<l.length->p i=Br)(h:JV C n Of bs nk l tr S0 R0 H p a w):JV C n Of bs nk l tr S0 R0 H (λ_=>Br) a w:=by
 obtain⟨η,c,Y,d,e,f,q,g,j,m,r,s⟩:=h;refine⟨η,c,Y,d,e,f,λt=>?_,g,j,m,λk o=>?_,λk u o=>?_⟩;· grind[GH]
 ·grind
 grind[E6]
theorem sN{bs:List (Nat×Ce)}{id:Nat}(g:N.inv H)
  (D:P.follows .mixedOrders=Br) (b:ZP l tr nk=Br) (u:∀k∈C3 C,k<nk) (z:∀t,∀k∈(S0 t).AL,k<nk) (y:∀k x,R0 k=Ac x->k<nk/\∀j∈x.AL,j<nk) (f:∀q∈bs,q.1<nk)
  (B:∀i o s,l[i]?=Ac o->tr[i]?=Ac s->dC P C l.toArray n nk o s (λt=>Cj l tr S0 (λ_=>Br) t i) (λk=>Cy tr R0 (λ_=>Br) k i))
  (e:∀a w,JV C n Of bs nk l tr S0 R0 H (λ_=>Br) a w->Q .normal a w)   (h0:JV C n Of bs nk l tr S0 R0 H (λ_=>Ak) a {w with drawn:=w.drawn+1}):(Code.region id l.toArray Br).wp P Q a w:=by
 obtain⟨A,m,h⟩:=Kk b;exact L1 D A (J:=λp a w=>JV C n Of bs nk l tr S0 R0 H p a w) (Tm g b u z y f B) (λp a w c v=>e a w (v.all c)) h0
end
end
section
variable {N : Df} {R : Type}
def brD(s:SV N.T)(c a:Option R):Option R:=match s with
 | .lb Br=>c
 | .lb Ak=>a
 | .lt _ n m=>bif Ds ((n:Int)<(m:Int))then c else a
 | .d .bool b=>bif b then c else a
 |_=>Dc
def Vt(P:GO)(Φ:Nat->Option (CQ N))(C:List (SV N.T))(CR:List (SR N.T))(n:Nat)(o:K5)(st:St N.T)(tr:List (TS N.T))(kn:St N.T->List (TS N.T)->Option R):Option R:=
 fZ P Φ C 4 (CC C st.L) (An CR st.O) st.nk o.op o.type λs a=>match G_ CR n st o.dst s a&&w9 CR st s with
  |true=>kn (app st o.dst s a) (tr++[.run (PB (An CR st.O) s)])
  |false=>Dc
def Rt(n:Nat)(d:Option Nat)(st:St N.T)(tr:List (TS N.T))(kn:St N.T->List (TS N.T)->Option R):Option R:=match NQ n d with
 |true=>kn ⟨RC d .ud st.L,st.O,st.nk⟩ (tr++[.skip])
 |false=>Dc
def dd(
    P:GO) (Φ:Nat->Option (CQ N)) (C:List (SV N.T)) (CR:List (SR N.T)) (n:Nat) (b:Array K5):List K5->St N.T->List (TS N.T)->(St N.T->List (TS N.T)->Option R)->Option R
 | [],st,a,c=>c st a
 |o::e,st,a,c=>match o.guard with
  |none=>Vt P Φ C CR n o st a λst a=>dd P Φ C CR n b e st a c
  |some (
      j,d)=>match BN b j with
   |none=>Dc
   |some t=>match CC C st.L t with
    | .ud=>Rt n o.dst st a λst a=>dd P Φ C CR n b e st a c
    |s=>brD s
     (let st:=Kl t (.lb Br) st
      match d with
      |true=>Vt P Φ C CR n o st a λst a=>dd P Φ C CR n b e st a c
      |false=>Rt n o.dst st a λst a=>dd P Φ C CR n b e st a c)
     (let st:=Kl t (.lb Ak) st
      match d with
      |false=>Vt P Φ C CR n o st a λst a=>dd P Φ C CR n b e st a c
      |true=>Rt n o.dst st a λst a=>dd P Φ C CR n b e st a c)
def xx(P:GO)(Φ:Nat->Option (CQ N))(C:List (SV N.T))(CR:List (SR N.T))(n:Nat)(a:Array K5)(st:St N.T)(kn:St N.T->Option R):Option R:=match C7 CR st st.nk with
 |true=>dd P Φ C CR n a a.toList st [] λb c=>match ZP a.toList c st.nk with
  |true=>kn b
  |false=>Dc
 |false=>Dc
def s0(st:St N.T)(t:Nat):SV N.T:=match Ax st.L t with
 |some s=>s
 |none=> .no
def Imp(C:List (SV N.T))(s t:SV N.T):Prop:= ∀(η:Nat->Ce) (H:Hp) v,s.is C η H v->t.is C η H v
theorem JP{l:List K5}{tr a:List (TS N.T)}{S0:Nat->SV N.T}{p:Nat->Bool}{t:Nat} :∀i,(∀j,j<i->tr[j]?=a[j]?)->Cj l tr S0 p t i=Cj l a S0 p t i
 |0,_=>rfl
 |i+1,h=>by unfold Cj;rw[h i (by omega),JP i λj b=>h j (by omega)]
theorem JO{tr a:List (TS N.T)}{R0:Nat->Option (SR N.T)}{p:Nat->Bool}{k:Nat} :∀i,(∀j,j<i->tr[j]?=a[j]?)->Cy tr R0 p k i=Cy a R0 p k i
 |0,_=>rfl
 |i+1,h=>by unfold Cy;rw[h i (by omega),JO i λj b=>h j (by omega)]
variable {P : GO} [C9 N P] {Φ : Nat -> Option (CQ N)} {C : List (SV N.T)} {CR : List (SR N.T)} {n : Nat} {bs : List (Nat × Ce)}
structure IV(P:GO)(C:List (SV N.T))(CR:List (SR N.T))(n:Nat)(bs:List (Nat×Ce))(l:List K5)(st0:St N.T)(st:St N.T)(tr:List (TS N.T))(i:Nat):Prop where
 len:tr.length=i
 sl:∀t sv,Ax st.L t=Ac sv->Imp C (Cj l tr (s0 st0) (λ_=>Br) t i) sv
 ow:∀k,An CR st.O k=Cy tr (An CR st0.O) (λ_=>Br) k i
 wf:WF C CR bs st
 le:st0.nk<=st.nk
 ks:∀(j:Nat) s,tr[j]?=Ac s->∀k∈keys s.wr,k<st.nk
 loc:∀j o s,j<i->l[j]?=Ac o->tr[j]?=Ac s->dC P C l.toArray n st0.nk o s (λt=>Cj l tr (s0 st0) (λ_=>Br) t j) (λk=>Cy tr (An CR st0.O) (λ_=>Br) k j)
variable {l : List K5} {st0 : St N.T}
section
variable{tr:List (TS N.T)}{i:Nat}{st:St N.T}{r:R}{o:K5}{kn:St N.T->List (TS N.T)->Option R}{x:TS N.T}
theorem IV.lk(h:IV P C CR n bs l st0 st tr i)(t:Nat):Imp C (Cj l tr (s0 st0) (λ_=>Br) t i) (CC C st.L t):=by
 intro η H v b;unfold CC;split;· rename_i s a;exact EU (h.sl t s a η H v b)
 trivial
theorem fU(h:tr.length=i):∀j,j<i->(tr++[x])[j]?=tr[j]?:=λj a=>Aaa (by omega)
theorem IV.put{a:St N.T}(h:IV P C CR n bs l st0 st tr i)(G:l[i]?=Ac o)(D:∀t sv,Ax a.L t=Ac sv->(o.dst=Ac t/\sv=x.sv)\/(o.dst≠Ac t/\∃c,Ax st.L t=Ac c/\Imp C c sv))
  (B:∀k,An CR a.O k=match Ax x.wr k with|some y=>Ac y|none=>An CR st.O k) (E:WF C CR bs a) (r:st.nk<=a.nk) (A:∀k∈keys x.wr,k<a.nk)
  (u:dC P C l.toArray n st0.nk o x (λt=>Cj l tr (s0 st0) (λ_=>Br) t i) (λk=>Cy tr (An CR st0.O) (λ_=>Br) k i)):IV P C CR n bs l st0 a (tr++[x]) (i+1):=by
 have d:=fU (x:=x) h.len;have z:(tr++[x])[i]?=Ac x:=by simp[h.len]
 refine⟨by simp[h.len],λt sv K η H v p=>?_,λk=>?_,E,Aam h.le r,λj s b k F=>?_,λj L s O m b=>?_⟩
 ·unfold Cj at p;rw[G,z,JP i d]at p;rcases D t sv K with⟨f,g⟩|⟨f,c,g,I⟩;· grind
  ·rw[if_neg (λJ=>f (by grind))]at p;exact I η H v (h.sl t c g η H v p)
 ·unfold Cy;rw[z,JO i d,B k];rw[h.ow k];rfl
 ·by_cases e:j<i;· rw[d j e]at b;exact Abq (h.ks j s b k F) r
  ·have:j=i:=by have:=(No.1 b).1;simp[h.len]at this;omega
   simp_all
 ·by_cases e:j<i;· rw[d j e]at b;have:=h.loc j L s e m b;have f:(λt=>Cj l (tr++[x]) (s0 st0) (λ_=>Br) t j)=λt=>Cj l tr (s0 st0) (λ_=>Br) t j:=funext λt=>JP j λq w=>d q (by omega);have g:(λk=>Cy (tr++[x]) (An CR st0.O) (λ_=>Br) k j)=λk=>Cy tr (An CR st0.O) (λ_=>Br) k j:=funext λk=>JO j λq w=>d q (by omega);rw[f,g];exact this
  ·obtain rfl:j=i:=by omega
   rw[z]at b;cases b;rw[G]at m;cases m;have f:(λt=>Cj l (tr++[x]) (s0 st0) (λ_=>Br) t j)=λt=>Cj l tr (s0 st0) (λ_=>Br) t j:=funext λt=>JP j λq w=>d q w;have g:(λk=>Cy (tr++[x]) (An CR st0.O) (λ_=>Br) k j)=λk=>Cy tr (An CR st0.O) (λ_=>Br) k j:=funext λk=>JO j λq w=>d q w;rw[f,g];exact u
theorem Mf(S:∀f q,Φ f=Ac q->Bw P f q)(h:IV P C CR n bs l st0 st tr i)(ho:l[i]?=Ac o)(J:Nv C l.toArray o (λt=>Cj l tr (s0 st0) (λ_=>Br) t i))
  (I:Vt P Φ C CR n o st tr kn=Ac r):∃y A,kn y A=Ac r/\IV P C CR n bs l st0 y A (i+1):=by
 have X:∀j,st.nk<=j->An CR st.O j=Dc:=λj Y=>by unfold An;rw[h.wf.ok j Y]
 obtain⟨s,nk,E,T,F,G,W⟩:=Ue (o:=o) S h.wf.mC 4 X h.wf.wf I;split at E
 ·rename_i m;rw[AS]at m;obtain⟨m,K⟩:=m;have hs:KQ C CR n st o.dst s nk P o:=⟨m,T,F,G,W⟩;have b:=m;unfold G_ at b;simp only[AS]at b;have Q:∀p∈s.wr,Db CR p.2=p.2:=λp hp=>Jk (AS _ _▸IT.1 b.2.1 p hp).1;refine⟨_,_,E,h.put ho (λt sv a=>?_) (λk=>(Ha _ _ Q k).trans ?_) (h.wf.step hs) F (λk L=>?_) ⟨λd I=>?_,λk L Z=>?_,λst1 e=>?_,λe=>(by grind)⟩⟩;rotate_left;· show PL s.wr (An CR st.O) k=match Ax (PB (An CR st.O) s).wr k with|some y=>Ac y|none=>An CR st.O k;rw[PA];cases e:GN (An CR st.O) s.wr k with
   |true=>obtain⟨x,a,b,_⟩:=Gu e;unfold PL;rw[b,if_pos rfl];exact a.symm
   |false=>rw[if_neg (by decide)];rfl
  rotate_right
  ·have g:Ax (iO (keys s.wr) st.L) t=Ac sv->∃z,Ax st.L t=Ac z/\Imp C z sv:=λa=>by
    rw[QE]at a;obtain⟨x,hx,rfl⟩:=Pd.1 a;exact⟨x,hx,λη H v hv=>QF hv⟩
   cases u:o.dst with
   |none=>
    rw[u]at a;exact .inr ⟨by simp,g a⟩
   |some d=>
    rw[u]at a;have a:Ax ((d,s.sv)::iO (keys s.wr) st.L) t=Ac sv:=a;simp only[Ax]at a;cases c:Hg d t with
    |true=>
     rw[c]at a;cases a;exact .inl ⟨by simp_all,rfl⟩
    |false=>
     rw[c]at a;refine .inr ⟨λe=>?_,g a⟩;simp_all
  ·replace L:k∈keys s.wr:=(EW.1 L).1;cases B:An CR st.O k with
   |none=>exact(G k L B).2
   |some x=>
    have O:Ax st.O k≠Dc:=λe=>by simp_all[An]
    have:k<st.nk:=Abz λM=>O (h.wf.ok k M);exact Abq this F
  ·have:=b.1.1;rw[I]at this;simpa [NQ]using this
  ·have w:An CR st.O k=Dc:=by rw[h.ow k];exact Z
   replace L:k∈keys s.wr:=(EW.1 L).1
   refine⟨Aam h.le (G k L w).1,λJ=>?_⟩;replace J:Ax s.wr k=Ac .gone:=by
    have J:Ax (PB (An CR st.O) s).wr k=Ac .gone:=J;rw[PA]at J;split at J
    ·cases J
    ·exact J
   have U:(An CR st.O k).isSome=Br:=IT.1 K _ (A5 J);rw[w]at U;cases U
  ·cases e;refine⟨J,CC C st.L,λt _=>h.lk t,?_⟩;have V:(λk=>Cy tr (An CR st0.O) (λ_=>Br) k i)=An CR st.O:=funext λk=>(h.ow k).symm;rw[V];exact T.red
 grind
theorem Mh(h:IV P C CR n bs l st0 st tr i)(w:l[i]?=Ac o)(v:KS C l.toArray o (λt=>Cj l tr (s0 st0) (λ_=>Br) t i))
  (f:Rt n o.dst st tr kn=Ac r):∃g j,kn g j=Ac r/\IV P C CR n bs l st0 g j (i+1):=by
 unfold Rt at f;split at f
 ·refine⟨_,_,f,h.put w (λt sv a=>?_) (λk=>rfl) (h.wf.Gt λτ u q=>?_) (Aaf _) (λk s=>(by cases s)) ⟨λd f=>?_,λk s=>(by cases s),λ_ e=>(by grind),λ_=>v⟩⟩;· cases c:o.dst with
   |none=>
    rw[c]at a;exact .inr ⟨by simp,sv,a,λ_ _ _ h=>h⟩
   |some d=>
    rw[c]at a;have a:Ax ((d,SV.ud)::st.L) t=Ac sv:=a;simp only[Ax]at a;cases b:Hg d t with
    |true=>
     rw[b]at a;cases a;exact .inl ⟨by simp_all,rfl⟩
    |false=>
     rw[b]at a;refine .inr ⟨λe=>?_,sv,a,λ_ _ _ h=>h⟩;simp_all
  ·have m:=u q;cases c:o.dst with
   |none=>exact m
   |some d=>
    unfold CC at m⊢;simp only[RC,Ax];cases p:Hg d q with
    |true=>trivial
    |false=>omega
  simp_all[NQ]
 grind
theorem IV.Kl{t:Nat}{b:Bool}(h:IV P C CR n bs l st0 st tr i)(f:∀(η:Nat->Ce) (H:Hp) v,(Cj l tr (s0 st0) (λ_=>Br) t i).is C η H v->v= .bool b):IV P C CR n bs l st0 (Kl t (.lb b) st) tr i:=by
 refine⟨h.len,λq sv c η H v g=>?_,h.ow,h.wf.Gt λτ d q=>?_,h.le,h.ks,h.loc⟩;· have c:Ax ((t,SV.lb b)::st.L) q=Ac sv:=c;simp only[Ax]at c;cases a:Hg t q with
  |true=>
   rw[a]at c;cases c;have:=AI a;subst this;exact f η H v g
  |false=>rw[a]at c;exact h.sl q sv c η H v g
 ·have e:=d q;unfold CC at e⊢;simp only[Ax];cases f:Hg t q with
  |true=>trivial
  |false=>omega
theorem cW{s:SV N.T}{e d:Option R}(h:brD s e d=Ac r):∃b,(∀(C:List (SV N.T)) (η:Nat->Ce) (H:Hp) v,s.is C η H v->v= .bool b)/\(if b=Br then e=Ac r else d=Ac r):=by
 unfold brD at h;split at h;· exact⟨Br,λ_ _ _ _ a=>a,h⟩
 ·exact⟨Ak,λ_ _ _ _ a=>a,h⟩
 ·rename_i i n m;cases c:Ds ((n:Int)<(m:Int))with
  |true=>rw[c]at h;exact⟨Br,λ_ _ _ _ a=>by rw[a.1,c],h⟩
  |false=>rw[c]at h;exact⟨Ak,λ_ _ _ _ a=>by rw[a.1,c],h⟩
 ·rename_i b;cases b with
  |true=>exact⟨Br,λ_ _ _ _ a=>QI a,h⟩
  |false=>exact⟨Ak,λ_ _ _ _ a=>QI a,h⟩
 grind
theorem Lb(g:∀f q,Φ f=Ac q->Bw P f q){kn:St N.T->List (TS N.T)->Option R}{r:R} :∀(os:List K5) (st:St N.T) (tr:List (TS N.T)) (i:Nat),l.drop i=os->i<=l.length->IV P C CR n bs l st0 st tr i->dd P Φ C CR n l.toArray os st tr kn=Ac r->∃a c,kn a c=Ac r/\IV P C CR n bs l st0 a c l.length
 | [],st,tr,i,E,J,h,k=>by
  have:i=l.length:=by have:=congrArg List.length E;grind
  subst this;exact⟨st,tr,k,h⟩
 |o::os,st,tr,i,E,J,h,k=>by
  have y:l[i]?=Ac o:=by have:=congrArg (·[0]?) E;grind
  have p:i<l.length:=(No.1 y).1;have m:l.drop (i+1)=os:=by rw[<-Ade,E];rfl
  unfold dd at k;split at k;· obtain⟨a,c,s,u⟩:=Mf g h y (λj w e=>by grind) k;exact Lb g os a c (i+1) m p u s
  ·rename_i j d A;split at k;· grind
   ·rename_i t F;split at k;· rename_i K;obtain⟨a,c,s,u⟩:=Mh h y ⟨j,d,t,A,F,λη H v z=> .inl (by have:=h.lk t η H v z;rw[K]at this;trivial)⟩ k;exact Lb g os a c (i+1) m p u s
    ·obtain⟨b,I,k⟩:=cW k;have x:∀(η:Nat->Ce) (H:Hp) v,(Cj l tr (s0 st0) (λ_=>Br) t i).is C η H v->v= .bool b:=λη H v z=>I C η H v (h.lk t η H v z);have D:=h.Kl x;have run:d=b->Nv C l.toArray o (λt=>Cj l tr (s0 st0) (λ_=>Br) t i):=λe L M G=>by
      grind
     have B:d=(!b)->KS C l.toArray o (λt=>Cj l tr (s0 st0) (λ_=>Br) t i):=λe=>⟨j,d,t,A,F,λη H v z=> .inr (by grind)⟩;cases b with
     |true=>
      cases d with
      |true=>
       obtain⟨a,c,s,u⟩:=Mf g D y (run rfl) k;exact Lb g os a c (i+1) m p u s
      |false=>
       obtain⟨a,c,s,u⟩:=Mh D y (B rfl) k;exact Lb g os a c (i+1) m p u s
     |false=>
      cases d with
      |false=>
       obtain⟨a,c,s,u⟩:=Mf g D y (run rfl) k;exact Lb g os a c (i+1) m p u s
      |true=>
       obtain⟨a,c,s,u⟩:=Mh D y (B rfl) k;exact Lb g os a c (i+1) m p u s
theorem rI(M:∀f q,Φ f=Ac q->Bw P f q)(hm:P.follows .mixedOrders=Br){Of:Fm}{Q:Exit->Act->IK->Prop}{id:Nat}{g:Array K5}{kn:St N.T->Option R}{r:R}{st:St N.T}{η:Nat->Ce}{H:Hp}{a:Act}{w:IK}(h:Sat C CR n Of bs st η H a w)(E:WF C CR bs st)
  (D:xx P Φ C CR n g st kn=Ac r) (hK:∀d η' u a' w',H.le u->Sat C CR n Of bs d η' u a' w'->WF C CR bs d->kn d=Ac r->Q .normal a' w'):(Code.region id g Br).wp P Q a w:=by
 obtain⟨l,rfl⟩:∃l:List K5,g=l.toArray:=⟨g.toList,by simp⟩;unfold xx at D;split at D
 ·rename_i y;have O:IV P C CR n bs l st st [] 0:=⟨rfl,λt sv L η H v A=>by
   have A:(s0 st t).is C η H v:=A;grind[s0],λk=>rfl,E,Aaf _,λj s m=>by grind,λj o s hj=>by omega⟩;obtain⟨d,tr,S,p⟩:=Lb (l:=l) M l st [] 0 rfl (Abg _) O (by omega);split at S
  ·have c:=y;unfold C7 at c;rw[AS]at c;refine sN h.inv (l:=l) (tr:=tr) (S0:=s0 st) (R0:=An CR st.O) (bs:=bs) (Of:=Of) (n:=n) (H:=H) hm (by omega) E.mC (λt k b=>?_) (λk x b=>⟨?_,D5 b y⟩) E.lo (λi o s U m=>p.loc i o s (No.1 U).1 U m) (λa' w' hJ=>?_) ?_
   ·unfold s0 at b;split at b;· rename_i s m;have:=IT.1 (IT.1 c.1 _ (A5 m)) k b;simp_all
    trivial
   ·have K:Ax st.O k≠Dc:=λe=>by grind[An]
    exact Abz λJ=>K (E.ok k J)
   ·obtain⟨η',u,Y,B,F,G,I,X,Z,g7,g8,g9⟩:=hJ;refine hK d η' u a' w' B ⟨N.C5 B h.inv,F,G,λt sv L=>p.sl t sv L η' u _ (I t),X,Y,Z,g7,λk b=>?_,λk T b=>g9 k T (by rw[<-p.ow k];omega)⟩ p.wf S;rcases g8 k b with e|⟨j,s,_,V,W⟩;· exact Abq e p.le
    ·exact p.ks j s V k W
   ·obtain⟨Y,B,F,G,I⟩:=h.own;refine⟨η,H,Y,Hp.le.refl H,h.defers,h.size,λt=>?_,h.base,B,F.drew,λk b=> .inl (G k b),λk T b=>I k T ?_⟩
    ·rw[HI (i:=0) l.length (Abg _) (λ_ _ _ _=>rfl)];show(s0 st t).is C η H _;unfold s0;split;· rename_i s m;exact h.Bq t s m
     ·trivial
    ·rw[HH (i:=0) l.length (Abg _) (λ_ _ _ _ _ _=>rfl)]at b;exact b
  grind
 grind
end
end
section
variable {N : Df}
def JI(k:Nat)(t:Ty)(l:List (t.den N.T))(st:St N.T):St N.T:=⟨st.L.map λp=>(p.1,GR k t l p.2),(k, .gone)::st.O.map λp=>(p.1,q8 k t l p.2),st.nk⟩
variable {C : List (SV N.T)} {CR : List (SR N.T)} {n : Nat} {Of : Fm} {bs : List (Nat × Ce)} {st : St N.T} {η : Nat -> Ce} {H : Hp} {a : Act} {w : IK}
section
variable{t:Ty}{g e:Gn}{k:Nat}{l:List (t.den N.T)}{α:Type}{c:Cd α}{m b:Nat}
theorem bC{W:SR N.T}(h:Sat C CR n Of bs st η H a w)(g:WF C CR bs st)(I:An CR st.O k=Ac W)
  (M:∀Y:List (Nat×Aw),(keys Y).Nodup->SH w H (Y.map (·.2)++Of.O)->(W= .gone\/∃X,Ax Y k=Ac X/\W.is C η H k X)->∃d,H.le d/\SH w d ((FF Y k).map (·.2)++Of.O)/\G5 (N.c t) d l (η k)):∃d,H.le d/\Sat C CR n Of bs (JI k t l st) η d a w/\WF C CR bs (JI k t l st):=by
 obtain⟨Y,hn,T,R,f⟩:=h.own;obtain⟨d,o,G,D⟩:=M Y hn T (f k _ I);have z:Ax st.O k≠Dc:=λe=>by grind[An]
 have hkn:k<st.nk:=Abz λQ=>z (g.ok k Q);have rr:∀j m,An CR (JI k t l st).O j=Ac m->m= .gone\/(j≠k/\∃s0,An CR st.O j=Ac s0/\(m=q8 k t l s0\/m=s0)):=λj m b=>by
  unfold An JI at b;simp only[Ax]at b;cases v:Hg k j with
  |true=>rw[v]at b;cases b;exact .inl rfl
  |false=>
   rw[v]at b;simp only[DF (q8 k t l)]at b;refine .inr ⟨λe=>by simp_all,?_⟩;unfold An;cases hl:Ax st.O j with
   |none=>grind
   |some s=>
    rw[hl]at b;cases b;refine⟨_,rfl,?_⟩;cases s with
    |Af u r=>exact .inl rfl
    |row u t' V=>exact .inl rfl
    |gone=>exact .inl rfl
    |map u kt vt V=>exact .inl rfl
    |Cr _ _ _ _ _=>exact .inl rfl
    |CD q=>exact .inr rfl
 refine⟨d,o,⟨N.C5 o h.inv,h.defers,h.size,λq sv J=>?_,h.base,FF Y k,Ia hn,G,λj b=>R j (CO b),λj m b=>?_⟩,⟨g.lo,λj b=>?_,?_,g.mC,g.cP⟩⟩;· have J:Ax (st.L.map λp=>(p.1,GR k t l p.2)) q=Ac sv:=J;rw[DF (GR k t l)]at J;obtain⟨s,hs,rfl⟩:=Pd.1 J;exact CW D ((h.Bq q s hs).mono o)
 ·rcases rr j m b with e|⟨A,s0,L,F⟩;· exact .inl e
  ·rcases f j s0 L with e|⟨y,y1,Z⟩;· subst e;rcases F with e|e<;>exact .inl e
   ·refine .inr ⟨y,by grind[DJ],?_⟩;rcases F with rfl|rfl;· cases s0 with
     |Af u r=>
      obtain⟨B,cs,b1,b2,b3⟩:=Z.mono o;exact⟨B,cs,b1,b2,CW D b3⟩
     |_=>exact Z.mono o
    ·exact Z.mono o
 ·show Ax ((k,SR.gone)::st.O.map λp=>(p.1,q8 k t l p.2)) j=Dc;have b:st.nk<=j:=b;rw[A3 (by omega),DF (q8 k t l),g.ok j b];rfl
 ·obtain⟨
      τ,U⟩:=g.wf;refine⟨τ,λq=>?_⟩;have c:=U q;show D' τ (An CR (JI k t l st).O) (CC C (st.L.map λp=>(p.1,GR k t l p.2)) q);unfold CC at c⊢;rw[DF (GR k t l)];cases hx:Ax st.L q with
  |none=>trivial
  |some x=>
   rw[hx]at c;simp only[Adn]at c⊢;have Ee:∀j i off E y,j≠k->D' τ (An CR st.O) (.Ee j i off E y)->D' τ (An CR (JI k t l st).O) (.Ee j i off E y):=λj i off E y A S u t' V P=>by
    rcases rr j _ P with e|⟨_,s0,L,F⟩;· grind
    ·refine S u t' V ?_;rw[L];rcases F with e|e;· cases s0 with
      |row G t2 l2=>exact congrArg Ac e.symm
      |Af G r=>cases e
      |CD q=>cases e
      |gone=>cases e
      |map G kt vt l2=>cases e
      |Cr _ _ _ _ _=>cases e
     ·exact congrArg Ac e.symm
   cases x with
   |AE j=>unfold GR;split<;>trivial
   |Ee j i off E y=>
    unfold GR;split;· trivial
    ·rename_i v;exact Ee j i off E y (λe=>by subst e;simp at v) c
   |CD j=>
    simp only[GR,res]at c⊢;rw[Aad]at c⊢;cases hc:C[j]? with
    |none=>trivial
    |some s0=>
     have S:=g.cP s0 (Aai hc);rw[hc]at c;cases s0<;>first|exact c|cases S
   |_=>exact c
theorem oY{q:Nat}(h:Sat C CR n Of bs st η H a w)(l:WF C CR bs st)(L:C7 CR st st.nk=Br)(S:CC C st.L q= .raw (.slice Dc 0 0)):
  ∃η',Sat C CR n Of bs ⟨(q, .AE st.nk)::st.L,(st.nk, .row g t [])::st.O,st.nk+1⟩ η' H a w/\WF C CR bs ⟨(q, .AE st.nk)::st.L,(st.nk, .row g t [])::st.O,st.nk+1⟩:=by
 obtain⟨Y,R,J,u,v⟩:=h.own;have f:=L;unfold C7 at f;rw[AS]at f;have d:∀k,k<st.nk->Ez η st.nk (.slice Dc 0 0) k=η k:=λk b=>EH (by omega);have O:∀k∈C3 C,Ez η st.nk (.slice Dc 0 0) k=η k:=λk b=>d k (l.mC k b);have o:a.tmps.getD q undef= .slice Dc 0 0:=by have:=h.lk q;rw[S]at this;trivial
 refine⟨Ez η st.nk (.slice Dc 0 0),⟨h.inv,h.defers,h.size,λp sv c=>?_,λp c=>by rw[d p.1 (l.lo p c)];exact h.base p c,(st.nk, .row (.slice Dc 0 0) g (t.sz N) 0 [])::Y,?_,J.II g (t.sz N),λk b=>?_,λk P b=>?_⟩,⟨λp c=>Ady (l.lo p c),λj A=>?_,?_,λk b=>Ady (l.mC k b),l.cP⟩⟩;· simp only[Ax]at c;cases m:Hg q p with
  |true=>
   rw[m]at c;cases c;have:=AI m;subst this;exact⟨by rw[o,AD],by rw[o];rfl⟩
  |false=>
   rw[m]at c;refine(h.Bq p sv c).env O λk b=>d k ?_;have:=IT.1 (IT.1 f.1 _ (A5 c)) k b;simp_all
 ·exact Aba.2 ⟨λI=>absurd (u _ I) (Nat.lt_irrefl _),R⟩
 ·grind[keys]
 ·unfold An at b;simp only[Ax]at b;cases m:Hg st.nk k with
  |true=>
   rw[m]at b;cases b;have:=AI m;subst this;exact .inr ⟨_,CM _ _ _,[],by grind[AD],rfl⟩
  |false=>
   rw[m]at b;rcases v k P b with e|⟨y,W,X⟩;· exact .inl e
   ·have G:Ax st.O k≠Dc:=λe=>by grind
    have E:k<st.nk:=Abz λF=>G (l.ok k F);exact .inr ⟨y,by rw[A3 (by omega)];exact W,SR.is.env (d k E) O (λj A=>d j (D5 b L j A)) X⟩
 ·have A:st.nk+1<=j:=A;rw[A3 (by omega)];exact l.ok j (by omega)
 ·obtain⟨
      τ,K⟩:=l.wf;refine⟨τ,λp=>?_⟩;have z:=K p;have key:∀s:SV N.T,(∀j i off D y,s= .Ee j i off D y->j<st.nk)->D' τ (An CR st.O) s->D' τ (An CR ((st.nk,SR.row g t [])::st.O)) s:=λs T M=>by
   cases s with
   |Ee j i off D y=>
    intro Q V U r;have:=T j i off D y rfl;unfold An at r;rw[A3 (by omega)]at r;exact M Q V U r
   |_=>exact M
  unfold CC at z⊢;simp only[Ax];cases m:Hg q p with
  |true=>trivial
  |false=>
   cases B:Ax st.L p with
   |none=>trivial
   |some x=>
    simp only[B]at z⊢;refine key _ (λj i off D y e=>?_) z;have I:∀k∈x.AL,k<st.nk:=λk b=>by have:=IT.1 (IT.1 f.1 _ (A5 B)) k b;simpa using this
    cases x with
    |CD q=>
     simp only[res]at e;rw[Aad]at e;cases hc:C[q]? with
     |none=>rw[hc]at e;cases e
     |some s0=>
      rw[hc]at e;have:=l.cP s0 (Aai hc);subst e;cases this
    |_=>cases e<;>exact I _ (by simp[SV.AL])
theorem Sz(h:Sat C CR n Of bs st η H a w)(v:WF C CR bs st)(r:An CR st.O k=Ac (.row g t l)):∃c,H.le c/\Sat C CR n Of bs (JI k t l st) η c a w/\WF C CR bs (JI k t l st):=by
 refine bC h v r λY s b u=>?_;rcases u with e|⟨x,o,y,rfl,q⟩;· grind
 obtain⟨i,j,p⟩:=bS Of.O s o;obtain⟨c,d,f,m⟩:=b.freeze j;rw[p]at f;exact⟨c,d,f,G5.of (by grind[Bp]) rfl (q.mono d) (b.Og j)⟩
theorem Aiv{α:Type}{c:Cd α}{e:Gn}{A:List Aw} :∀ {g:List (Bool×List α)} {xs:List Ce} {rs:List (Option (Nat×List Ce))} {H:Hp},NU c H g xs rs->(∀p∈g,p.1=Br)->SH w H (A++FQ e c.sz xs rs)->∃o,H.le o/\SH w o A/\A2 (cL c) o (g.map (·.2)) xs
 | [],xs,rs,H,f,_,h=>by have E:=Abc f.len;have F:=Abc f.Pz;subst E;exact⟨H,Hp.le.refl H,by grind[FQ],rfl⟩
 |(b,d)::g,[],rs,H,f,_,h=>by have:=f.len;grind
 |(b,d)::g,_::_,[],H,f,_,h=>by have:=f.Pz;grind
 |(b,d)::g,u::xs,r::rs,H,f,z,h=>by
  have J:b=Br:=z (b,d) (by simp);subst J;obtain⟨l,s,I⟩:=f.own 0 d rfl;have s:r=Ac (d.length,l):=by grind
  subst s;have k:(A++FQ e c.sz (u::xs) (Ac (d.length,l)::rs))[A.length]?=Ac (.row u e c.sz d.length l):=by simp[FQ]
  have v:=h.Og k;obtain⟨B,q,y,G⟩:=h.freeze k;have K:(A++FQ e c.sz (u::xs) (Ac (d.length,l)::rs)).eraseIdx A.length=A++FQ e c.sz xs rs:=by rw[List.eraseIdx_append_of_length_le (Aaf _),Aio];rfl
  rw[K]at y;have t:NU c B g xs rs:=⟨by simpa using f.len,by simpa using f.Pz,λi d k=>by obtain⟨l,m,x⟩:=f.own (i+1) d (by grind);exact⟨l,by trivial,x.mono q⟩,λi d k=>by simpa using f.not (i+1) d (by simpa using k)⟩;obtain⟨D,m,x,M⟩:=Aiv t (λp L=>z p (by simp[L])) y;exact⟨D,q.trans m,x,[u],xs,rfl,⟨u,rfl,(G5.of G rfl (I.mono q) v).mono m⟩,M⟩
theorem q7{J:Nat}{l:List (Bool×List (t.den N.T))}(h:Sat C CR n Of bs st η H a w)(Q:WF C CR bs st)(K:An CR st.O k=Ac (.Cr g e t J l))(ht:l.all (·.1)=Br):∃r,H.le r/\Sat C CR n Of bs (JI k (.sl t) (l.map (·.2)) st) η r a w/\WF C CR bs (JI k (.sl t) (l.map (·.2)) st):=by
 refine bC h Q K λY M q P=>?_;rcases P with e|⟨x,E,j,T,rfl,_,G⟩;· grind
 obtain⟨i,v,F⟩:=bS Of.O M E;have m:=q.flat v;obtain⟨S,B,u,D⟩:=Aiv (c:=N.c t) G (λp O=>IT.1 ht p O) (by rw[Bp];omega);have L:=(No.1 v).1;have d:((Y.map (·.2)++Of.O).set i (.row (η k) g 1 l.length j))[i]?=Ac (.row (η k) g 1 l.length j):=by simp_all
 have o:=u.Og d;obtain⟨s,z,A,R⟩:=u.freeze d;have I:((Y.map (·.2)++Of.O).set i (.row (η k) g 1 l.length j)).eraseIdx i=(Y.map (·.2)++Of.O).eraseIdx i:=by rw[List.eraseIdx_set_eq]
 rw[I,F]at A;have y:(l.map (·.2)).length=l.length:=Aap ..;refine⟨s,B.trans z,A,?_⟩;show G5 (cL (N.c t)) s (l.map (·.2)) (η k);exact⟨⟨j,by rw[y];exact R,D.mono z⟩,by rw[y];exact o⟩
theorem rj(xs:List Ce)(e:xs.length=m):NU c H (T9 m (Ak,([]:List α))) xs (T9 m Dc):=
 ⟨by grind,by simp,λi d b=>by grind,λi d b=>by grind⟩
theorem ri{v:Ce}{f:Gn}{sz:Nat}{xs:List Ce}(h:w.ownsRow 0 e 1 v n xs):IA w v e n xs f sz (T9 m Dc):=
 ⟨h,λi u m d _ c=>by grind,λi j u l m k d g b _ c=>by grind,λi u m d b _ c=>by grind⟩
theorem xj{l:List (List (t.den N.T))}(h:Sat C CR n Of bs st η H a w)(A:WF C CR bs st)(W:C7 CR st st.nk=Br)(K:An CR st.O b=Ac (.row g (.sl t) l)):
  ∃η',Sat C CR n Of bs ⟨st.L,(b, .Cr g e t st.nk (T9 l.length (Ak,[])))::(st.nk, .gone)::st.O,st.nk+1⟩ η' H a w/\WF C CR bs ⟨st.L,(b, .Cr g e t st.nk (T9 l.length (Ak,[])))::(st.nk, .gone)::st.O,st.nk+1⟩:=by
 obtain⟨Y,X,I,R,B⟩:=h.own;have D:=W;unfold C7 at D;rw[AS]at D;rcases B b _ K with q|⟨x,V,v,rfl,hL⟩;· grind
 have r:∀k,k<st.nk->Ez η st.nk (.tuple v.toArray) k=η k:=λk d=>EH (by omega);have mC:∀k∈C3 C,Ez η st.nk (.tuple v.toArray) k=η k:=λk d=>r k (A.mC k d);have G:Ax st.O b≠Dc:=λq=>by grind[An]
 have M:b<st.nk:=Abz λE=>G (A.ok b E);obtain⟨i,z,h3⟩:=Jj Of.O X V;have S:w.ownsRow 0 g 1 (η b) l.length v:=I.ok i _ z;have T:v.length=l.length:=by have:v.length=l.length*1:=hL.len;omega
 have J:SH w H ((Ih Y b (.Cr (η b) g l.length v e (t.sz N) (T9 l.length Dc))).map (·.2)++Of.O):=by
  rw[<-h3];refine I.v7 z (row:=Dc) (λ_ q=>by grind) (IK.grownBy.refl w Dc) (ri S) λc hc=> .inl ?_;rcases hc with hc|⟨i,u,m,ys,_,q,_⟩;· exact hc
  grind
 refine⟨Ez η st.nk (.tuple v.toArray),⟨h.inv,h.defers,h.size,λp sv F=>?_,λp F=>by rw[r p.1 (A.lo p F)];exact h.base p F,Ih Y b (.Cr (η b) g l.length v e (t.sz N) (T9 l.length Dc)),by grind[EN],J,λk d=>?_,λk sr d=>?_⟩,⟨λp F=>Ady (A.lo p F),λj L=>?_,?_,λk d=>Ady (A.mC k d),A.cP⟩⟩;· refine(h.Bq p sv F).env mC λk d=>r k ?_;have:=IT.1 (IT.1 D.1 _ (A5 F)) k d;simpa using this
 ·rw[EN]at d;exact Ady (R k d)
 ·unfold An at d;simp only[Ax]at d;cases o:Hg b k with
  |true=>
   rw[o]at d;have:=AI o;subst this;cases d;refine .inr ⟨_,Q' V,v,T9 l.length Dc,?_,AD _ _ _,rj v T⟩;rw[r b M,Aff]
  |false=>
   rw[o]at d;have O:k≠b:=λq=>by subst q;simp at o
   cases s:Hg st.nk k with
   |true=>rw[s]at d;cases d;exact .inl rfl
   |false=>
    rw[s]at d;have d:An CR st.O k=Ac sr:=d;rcases B k sr d with q|⟨y,y1,y2⟩;· exact .inl q
    ·have Q:Ax st.O k≠Dc:=λq=>by unfold An at d;rw[q]at d;cases d
     have P:k<st.nk:=Abz λE=>Q (A.ok k E);exact .inr ⟨y,by rw[Pn O];exact y1,SR.is.env (r k P) mC (λj L=>r j (D5 d W j L)) y2⟩
 ·have L:st.nk+1<=j:=L;rw[A3 (by omega),A3 (by omega)];exact A.ok j (by omega)
 ·obtain⟨τ,U⟩:=A.wf;refine⟨τ,λp=>?_⟩;have z:=U p;cases Z:CC C st.L p with
  |Ee j i off te y=>
   rw[Z]at z;intro g' t' l' f;unfold An at f;simp only[Ax]at f;cases o:Hg b j with
   |true=>rw[o]at f;cases f
   |false=>
    rw[o]at f;cases s:Hg st.nk j with
    |true=>rw[s]at f;cases f
    |false=>rw[s]at f;exact z g' t' l' f
  |_=>rw[Z]at z;exact z
theorem fY{off:Nat}{F:Gn}{l J:SV N.T}(h:Sat C CR n Of bs st η H a w)(r:WF C CR bs st)(V:C7 CR st st.nk=Br)(z:An CR st.O b=Ac (.Af F l))(hl:E0 N C l off Dc=Ac (.raw (.slice Dc 0 0)))(hs:eM N C 64 l off 1 (.AE st.nk)=Ac J)(O:Oj (.Af F J:SR N.T)=Br):
  ∃η',Sat C CR n Of bs ⟨st.L,(b, .Af F J)::(st.nk, .row g t [])::st.O,st.nk+1⟩ η' H a w/\WF C CR bs ⟨st.L,(b, .Af F J)::(st.nk, .row g t [])::st.O,st.nk+1⟩:=by
 obtain⟨Y,hn,hsh,D,E⟩:=h.own;have A:=V;unfold C7 at A;rw[AS]at A;have m:∀k,k<st.nk->Ez η st.nk (.slice Dc 0 0) k=η k:=λk d=>EH (by omega);have mC:∀k∈C3 C,Ez η st.nk (.slice Dc 0 0) k=η k:=λk d=>m k (r.mC k d);have M:Ax st.O b≠Dc:=λe=>by grind[An]
 have U:b<st.nk:=Abz λG=>M (r.ok b G);refine⟨Ez η st.nk (.slice Dc 0 0),⟨h.inv,h.defers,h.size,λp sv I=>?_,λp I=>by rw[m p.1 (r.lo p I)];exact h.base p I,(st.nk, .row (.slice Dc 0 0) g (t.sz N) 0 [])::Y,?_,hsh.II g (t.sz N),λk d=>?_,λk sr d=>?_⟩,⟨λp I=>Ady (r.lo p I),λj K=>?_,?_,λk d=>Ady (r.mC k d),r.cP⟩⟩;· refine(h.Bq p sv I).env mC λk d=>m k ?_;have:=IT.1 (IT.1 A.1 _ (A5 I)) k d;simp_all
 ·exact Aba.2 ⟨λhm=>absurd (D _ hm) (Nat.lt_irrefl _),hn⟩
 ·grind[keys]
 ·unfold An at d;simp only[Ax]at d;cases o:Hg b k with
  |true=>
   rw[o]at d;have:=AI o;cases d;rcases E b _ z with e|⟨x,h1,B,cs,e1,rfl,R⟩;· grind
   refine .inr ⟨_,by grind[A3],B,cs,by grind,rf,?_⟩;have h3:l.is C (Ez η st.nk (.slice Dc 0 0)) H (.agg cs.toList.toArray):=by have S:l.is C (Ez η st.nk (.slice Dc 0 0)) H (.agg cs):=SV.is.env mC (λj K=>m j (D5 z V j K)) R;simpa using S
   obtain⟨c,⟨u,k1,k2,_⟩,k4⟩:=Dv (cs:=cs.toList) hl h3;subst k1
   subst k2;have W:(SV.AE st.nk:SV N.T).is C (Ez η st.nk (.slice Dc 0 0)) H (.slice Dc 0 0):=⟨by rw[AD],rfl⟩;have P:∀x∈(Ce.slice Dc 0 0).cells.toList,x.oneCell'=Br:=by rw[A' rfl];intro x L;simp at L;subst L;rfl
   obtain⟨q1,q2⟩:=ID (v:= .slice Dc 0 0) W P (by exact hs) h3;have e2:CF cs.toList off (Ce.slice Dc 0 0).cells.toList=cs.toList:=by
    rw[A' rfl]at q2⊢;have D:off<cs.toList.length:=by simp only[Abo,Ado]at q2;omega
    rw[Vv _ _ _ D];have h0:cs.toList[off]?=Ac (.slice Dc 0 0):=drop_one k4;refine Afz λj=>?_;rw[Aem];split;· rename_i e;subst e;exact h0.symm
    ·rfl
   rw[e2]at q1;omega
  |false=>
   rw[o]at d;cases z:Hg st.nk k with
   |true=>
    rw[z]at d;cases d;have:=AI z;subst this;exact .inr ⟨_,CM _ _ _,[],by rw[AD];rfl,rfl⟩
   |false=>
    rw[z]at d;have d:An CR st.O k=Ac sr:=d;rcases E k sr d with e|⟨y,y1,y2⟩;· exact .inl e
    ·have Z:Ax st.O k≠Dc:=λe=>by unfold An at d;rw[e]at d;cases d
     have X:k<st.nk:=Abz λG=>Z (r.ok k G);exact .inr ⟨y,by rw[A3 (by omega)];exact y1,SR.is.env (m k X) mC (λj K=>m j (D5 d V j K)) y2⟩
 ·have K:st.nk+1<=j:=K;rw[A3 (by omega),A3 (by omega)];exact r.ok j (by omega)
 ·obtain⟨
      τ,hτ⟩:=r.wf;refine⟨τ,λp=>?_⟩;have R:=hτ p;have key:∀s:SV N.T,(∀j i off Q y,s= .Ee j i off Q y->j<st.nk)->D' τ (An CR st.O) s->D' τ (An CR ((b,SR.Af F J)::(st.nk,SR.row g t [])::st.O)) s:=λs hs hv=>by
   cases s with
   |Ee j i off Q y=>
    intro g2 t' l2 f;have:=hs j i off Q y rfl;unfold An at f;simp only[Ax]at f;cases o:Hg b j with
    |true=>rw[o]at f;cases f
    |false=>
     rw[o]at f;have e:Hg st.nk j=Ak:=by
      cases T:Hg st.nk j with
      |true=>have:=AI T;omega
      |false=>rfl
     rw[e]at f;exact hv g2 t' l2 f
   |_=>exact hv
  refine key _ (λj i off Q y e=>?_) R;unfold CC at e;cases L:Ax st.L p with
  |none=>rw[L]at e;cases e
  |some x=>
   rw[L]at e;have hm:∀k∈x.AL,k<st.nk:=λk d=>by have:=IT.1 (IT.1 A.1 _ (A5 L)) k d;simpa using this
   cases x with
   |CD q=>
    simp only[res]at e;rw[Aad]at e;cases hc:C[q]? with
    |none=>rw[hc]at e;cases e
    |some s0=>
     rw[hc]at e;have:=r.cP s0 (Aai hc);subst e;cases this
   |_=>cases e<;>exact hm _ (by simp[SV.AL])
end
end
theorem XA{l:List Nat}(h:l.Nodup):Cp l=Br:=by
 induction l with
 |nil=>rfl
 |cons k l b=>
  rw[Aba]at h;simp only[Cp,AS,Adz,b h.2,and_true];grind[Cf,absurd,AR]
def UI:List Nat->List Nat
 | []=>[]
 |k::l=>if k∈l then UI l else k::UI l
theorem HG{k:Nat} :∀ {l:List Nat},k∈UI l↔k∈l
 | []=>Iff.rfl
 |j::l=>by
  unfold UI;split;· rw[HG,Aao];grind
  ·rw[Aao,Aao,HG]
theorem Qw:∀l:List Nat,(UI l).Nodup
 | []=>Aex
 |j::l=>by
  unfold UI;split;· exact Qw l
  ·rename_i h;exact Aba.2 ⟨λb=>h (HG.1 b),Qw l⟩
section
variable {N : Df} {C : List (SV N.T)} {CR : List (SR N.T)} {n : Nat} {Of : Fm} {bs : List (Nat × Ce)} {st : St N.T} {η : Nat -> Ce} {H : Hp} {a : Act} {w : IK}
theorem Sat.conv{O:List (SV N.T)}{D:List (SR N.T)}{f:St N.T}(ρ:Nat->Nat)(h:Sat C CR n Of bs st η H a w)(hs:∀t sv,Ax f.L t=Ac sv->sv.is O (λc=>η (ρ c)) H (a.tmps.getD t undef))(hb:∀p∈bs,ρ p.1=p.1)
  (hr:∀c L,An D f.O c=Ac L->L= .gone\/∃q,An CR st.O (ρ c)=Ac q/\q≠ .gone/\∀x,q.is C η H (ρ c) x->L.is O (λc=>η (ρ c)) H c x)
  (I:∀c Q,c∈keys f.O->Q∈keys f.O->ρ c=ρ Q->c=Q) (hk:∀c∈keys f.O,c<f.nk):Sat O D n Of bs f (λc=>η (ρ c)) H a w:=by
 obtain⟨Y,hn,Z,hlt,J⟩:=h.own;let g:=(UI (keys f.O)).filter λc=>(Ax Y (ρ c)).isSome;have i:∀c∈g,c∈keys f.O:=λc hc=>HG.1 (Aax.1 hc).1;have m:g.Nodup:=Acp.nodup (Qw _);let E:List (Nat×Aw):=g.map λc=>(c,(Ax Y (ρ c)).getD .emp);have A:keys E=g:=by show(g.map _).map _=g;rw[Aaj];exact Afi _
 have o:∀c,c∈g->∃x,Ax Y (ρ c)=Ac x/\Ax E c=Ac x:=λc hc=>by grind[Option.isSome_iff_exists,CT]
 let js:=g.map λc=>(keys Y).idxOf (ρ c);have W:∀l:List Nat,(∀c∈l,c∈g)->(l.map λc=>(keys Y).idxOf (ρ c)).filterMap ((Y.map (·.2)++Of.O)[·]?)=l.map λc=>(Ax Y (ρ c)).getD .emp:=by
  intro l;induction l with
  |nil=>simp
  |cons c l ih=>
   intro s;obtain⟨x,u,_⟩:=o c (s c (by simp));rw[Aat,Adp,(LL Of.O u).1,ih λd r=>s d (by grind),Aat,u];rfl
 have inj:∀c∈g,∀d∈g,(keys Y).idxOf (ρ c)=(keys Y).idxOf (ρ d)->c=d:=λc hc d r e=>by
  obtain⟨x,u,_⟩:=o c hc;obtain⟨y,hy,_⟩:=o d r;have R:=(Dd u);have F:(keys Y)[(keys Y).idxOf (ρ c)]?=Ac (ρ c):=by rw[IN (List.idxOf_lt_length_iff.2 R),Aes]
  grind
 have V:js.Nodup:=by
  have key:∀l:List Nat,l.Nodup->(∀c∈l,c∈g)->(l.map λc=>(keys Y).idxOf (ρ c)).Nodup:=by
   intro l;induction l with
   |nil=>intro _ _;exact Aex
   |cons c l ih=>
    intro B s;rw[Aba]at B;rw[Aat,Aba];refine⟨λhm=>?_,ih B.2 λd r=>s d (by simp[r])⟩;obtain⟨d,r,e⟩:=By.1 hm;have:=inj d (s d (by simp[r])) c (s c (by simp)) e;subst this;exact B.1 r
  exact key g m λc hc=>hc
 have K:SH w H (E.map (·.2)++Of.O):=by
  have:=SH.RL js Y.length (IT.2 λj hj=>by
   obtain⟨c,hc,rfl⟩:=By.1 hj;obtain⟨x,u,_⟩:=o c hc;simpa using(LL Of.O u).2) (XA V) (by simp) Z;unfold GK.RL at this;rw[W g (λc hc=>hc),Afj (by simp),Aaz (by simp),Aci]at this;have e:E.map (·.2)=g.map λc=>(Ax Y (ρ c)).getD .emp:=by
   rw[Aaj];rfl
  rw[e];exact this
 refine⟨h.inv,h.defers,h.size,hs,λp hp=>by rw[hb p hp];exact h.base p hp,E,by rw[A];exact m,K,λk X=>hk k (i k (by rw[<-A];exact X)),λc L hc=>?_⟩;rcases hr c L hc with e|⟨q,R,S,e3⟩;· exact .inl e
 ·rcases J (ρ c) q R with e|⟨x,F,T⟩;· exact absurd e S
  ·have U:c∈keys f.O:=by
    unfold An at hc;cases s:Ax f.O c with
    |none=>rw[s]at hc;cases hc
    |some y=>exact Dd s
   have G:c∈g:=Aax.2 ⟨HG.2 U,by rw[F];rfl⟩;obtain⟨x',g3,g4⟩:=o c G;rw[F]at g3;cases g3;exact .inr ⟨x,g4,e3 x T⟩
end
section
variable (N : Df)
def kmS(C:List (SV N.T))(L:List (Nat×SV N.T))(l:List (Nat×SP)):List (Nat×Nat):=l.flatMap λq=>match q.2,CC C L q.1 with
 | .AE c, .AE k=>[(c,k)]
 | .loc c _, .loc k _=>[(c,k)]
 |_,_=>[]
def kmR(C:List (SV N.T))(CR:List (SR N.T))(O:List (Nat×SR N.T))(m:List (Nat×Nat))(l:List (Nat×RP)):List (Nat×Nat):=l.flatMap λq=>match q.2,An CR O (AZ m q.1)with
 | .Af _ c,Ac (.Af _ b)=>kmL N C b c
 | .Cr _ _ h _,Ac (.Cr _ _ _ a _)=>[(h,a)]
 |_,_=>[]
def hoS(C:List (SV N.T))(L:List (Nat×SV N.T))(l:List (Nat×SP)):List (Nat×SV N.T):=l.flatMap λq=>match q.2 with
 | .v j _=>[(j,CC C L q.1)]
 | .AB j _=>[(j,CC C L q.1)]
 | .nat j=>[(j,CC C L q.1)]
 |_=>[]
def qX(C:List (SV N.T))(CR:List (SR N.T))(O:List (Nat×SR N.T))(m:List (Nat×Nat))(l:List (Nat×RP)):List (Nat×SV N.T):=l.flatMap λq=>match q.2,An CR O (AZ m q.1)with
 | .row _ j,Ac (.row _ t x)=>[(j, .d (.sl t) x)]
 | .map _ j,Ac (.map _ a e x)=>[(j, .d (.sl (.st (.pr a e))) x)]
 | .Cr _ _ _ j,Ac (.Cr _ _ t _ x)=>[(j, .d (.sl (.pr .bool (.sl t))) x)]
 | .Af _ c,Ac (.Af _ b)=>qY N C b c
 |_,_=>[]
def ckS(C:List (SV N.T))(L:List (Nat×SV N.T))(m:List (Nat×Nat))(q:Nat×SP):Bool:=match q.2 with
 | .v _ _=>Br
 | .AB _ _=>Br
 | .nat _=>Br
 | .c j=>match Ax L q.1 with
  |some (.CD i)=>Hg i j
  |_=>Ak
 | .AE c=>match CC C L q.1 with
  | .AE k=>Hg (AZ m c) k
  |_=>Ak
 | .loc c off=>match CC C L q.1 with
  | .loc k o=>Hg (AZ m c) k&&Hg off o
  |_=>Ak
 |_=>Ak
def ckL(C:List (SV N.T))(b:SV N.T)(m:List (Nat×Nat))(q:Nat×Nat×SP):Bool:=match q.2.2 with
 | .v _ t=>match E0 N C b q.1 (Ac t)with
  |some sv=>Hg (Xb N sv) q.2.1
  |none=>Ak
 | .nat _=>match E0 N C b q.1 Dc with
  |some sv=>Hg (Xb N sv) q.2.1
  |none=>Ak
 | .c j=>match R_ N b q.1 q.2.1 with
  |some (.CD i)=>Hg i j
  |_=>Ak
 | .AE c=>match E0 N C b q.1 Dc with
  |some (.AE k)=>Hg (AZ m c) k&&Hg q.2.1 1
  |_=>Ak
 | .mp c=>match E0 N C b q.1 Dc with
  |some (.mp k)=>Hg (AZ m c) k&&Hg q.2.1 1
  |_=>Ak
 | .AA f [] cs=>match E0 N C b q.1 Dc with
  |some (.AA g .vn ks)=>Hg f g&&(Lv (cs.map (AZ m)) ks&&Hg q.2.1 1)
  |_=>Ak
 | .px [c] .sf=>sfB N (AZ m) c (E0 N C b q.1 Dc)&&Hg q.2.1 1
 |_=>Ak
def ckR(C:List (SV N.T))(CR:List (SR N.T))(O:List (Nat×SR N.T))(m:List (Nat×Nat))(q:Nat×RP):Bool:=match q.2 with
 | .row g _=>match An CR O (AZ m q.1)with
  |some (.row a _ _)=>Hg g a
  |_=>Ak
 | .Af g d=>match An CR O (AZ m q.1)with
  |some (.Af a b)=>Hg g a&&(whole b&&Hg (Pt d) (T0 N b)&&(NK 0 d).all (ckL N C b m))
  |_=>Ak
 | .c j=>match Ax O q.1 with
  |some (.CD i)=>Hg i j&&Hg (AZ m q.1) q.1
  |_=>Ak
 | .map g _=>match An CR O (AZ m q.1)with
  |some (.map a _ _ _)=>Hg g a
  |_=>Ak
 | .Cr g e h _=>match An CR O (AZ m q.1)with
  |some (.Cr a f _ k _)=>Hg g a&&(Hg e f&&Hg (AZ m h) k)
  |_=>Ak
def wZ(C:List (SV N.T)):List Nat:=C.flatMap λs=>match s with
 | .ct i _=>[i]
 | .cb i _=>[i]
 | .lt i _ _=>[i]
 |_=>[]
def P_(l:List (Nat×SP)):List (Nat×Nat):=l.flatMap λq=>match q.2 with
 | .AB j i=>[(i,j)]
 |_=>[]
def ckP(C:List (SV N.T))(CR:List (SR N.T))(kb:Nat)(p:A9)(m:List (Nat×Nat)):Bool:=(((p.ro.map (·.1)).all λk=>aT k p.nk)&&((C3 C).all λk=>aT k p.nk&&Hg (AZ m k) k))&&((iJ kb p.nk&&((aO kb).all λk=>Hg (AZ m k) k))&&(Cp (p.ro.map λq=>AZ m q.1)&&(Cp (keys (P_ p.sl))&&(!GP (keys (P_ p.sl)) (wZ N C)&&CR.all λr=>r.AL.all λk=>aT k p.nk&&Hg (AZ m k) k))))
def SM(C:List (SV N.T))(CR:List (SR N.T))(kb:Nat)(p:A9)(st:St N.T):Option (BK N p.hs):=
 let b:=kmS N C st.L p.sl
 let m:=b++kmR N C CR st.O b p.ro
 match(ckP N C CR kb p m&&(p.sl.all (ckS N C st.L m)&&(p.ro.all (ckR N C CR st.O m)&&Cp ((hoS N C st.L p.sl++qX N C CR st.O m p.ro).map (·.1)))))with
 |true=>xd N C (λj=>(Ax (hoS N C st.L p.sl++qX N C CR st.O m p.ro) j).getD .no) 0 p.hs
 |false=>Dc
end
section
variable {N : Df} {C : List (SV N.T)} {CR : List (SR N.T)} {n : Nat} {Of : Fm} {bs : List (Nat × Ce)} {st : St N.T} {η : Nat -> Ce} {H : Hp} {a : Act} {w : IK}
section
variable{m:List (Nat×Nat)}{j:Nat}{l:List (Nat×RP)}{O:List (Nat×SR N.T)}{c:Nat}{g:Gn}{b:SV N.T}{t:Ty}{p:A9}{x:BK N p.hs}
theorem g_{L:List (Nat×SV N.T)}{q:Nat×SP}{l:List (Nat×SP)}(h:q∈l)(e:q.2= .nat j\/(∃t,q.2= .v j t)\/∃i,q.2= .AB j i):(j,CC C L q.1)∈hoS N C L l:=by refine Pe.2 ⟨q,h,?_⟩;grind
theorem hH{b:Gn}{x:List (t.den N.T)}(h:(c,RP.row g j)∈l)(d:An CR O (AZ m c)=Ac (.row b t x)):(j,SV.d (.sl t) x)∈qX N C CR O m l:=
 Pe.2 ⟨_,h,by grind⟩
theorem hQ{e:Gn}{b d:Ty}{x:List (b.den N.T×d.den N.T)}(h:(c,RP.map g j)∈l)(f:An CR O (AZ m c)=Ac (.map e b d x)):(j,SV.d (.sl (.st (.pr b d))) x)∈qX N C CR O m l:=
 Pe.2 ⟨_,h,by grind⟩
theorem hU{g e d b h f:Nat}{x:List (Bool×List (t.den N.T))}(i:(c,RP.Cr g e h j)∈l)(k:An CR O (AZ m c)=Ac (.Cr d b t f x)):(j,SV.d (.sl (.pr .bool (.sl t))) x)∈qX N C CR O m l:=
 Pe.2 ⟨_,i,by grind⟩
theorem V9{d:Gn}{ls:List (Nat×SP)}(h:(c,RP.Af g ls)∈l)(e:An CR O (AZ m c)=Ac (.Af d b)){z:Nat×SV N.T}(f:z∈qY N C b ls):z∈qX N C CR O m l:=
 Pe.2 ⟨_,h,by grind⟩
theorem T8{k:Nat}(h:Hg (AZ m k) k=Br):AZ m k=k:=AI h
theorem instL_ok{R:List HT}{x:BK N R}{b:SV N.T}{m:List (Nat×Nat)}{Hs:List (Nat×SV N.T)}{cs:List Ce}(T:dD C Hs (CB N R x))(F:b.is C η H (.agg cs.toArray))(I:∀y∈cs,y.oneCell'=Br)(V:∀k∈C3 C,AZ m k=k):
  ∀(ls:List (Nat×SP)) (off:Nat),(∀q∈NK off ls,ckL N C b m q=Br/\(∀j t,q.2.2= .v j t->(j,(E0 N C b q.1 (Ac t)).getD .no)∈Hs)/\∀j,q.2.2= .nat j->(j,(E0 N C b q.1 Dc).getD .no)∈Hs)->off+Pt ls=cs.length->
   (instL N R x ls).is C (λc=>η (AZ m c)) H (.agg (cs.drop off).toArray)
 | [],off,_,S=>by have:cs.drop off=[]:=Aaz (by grind[Pt]);rw[this];rfl
 |(s,p)::ls,off,W,S=>by
  have S:off+(s+Pt ls)=cs.length:=S;have ih:=instL_ok T F I V ls (off+s) (λq U=>W q (Aag _ U)) (by omega);obtain⟨d,X,G⟩:=W (off,s,p) (Aas ..);have A:∀ {u:Ce},(inst N R x p).is C (λc=>η (AZ m c)) H u->u.cells.toList=(cs.drop off).take s->u.cells.toList.length=s->(instL N R x ((s,p)::ls)).is C (λc=>η (AZ m c)) H (.agg (cs.drop off).toArray):=λ{u} l h K=>by have Q:=K_ (s:=s) l K (λy Y=>I y (by grind)) ih;rw[h]at K Q;rw[<-Zt rfl K]at Q;exact Q
  unfold ckL at d;cases p with
  |v j t=>
   simp only at d;split at d
   ·rename_i sv D;have L:=AI d;obtain⟨c,r,hc⟩:=Dv D F;have e:=CE r;obtain⟨u,l,h,_⟩:=r;have o:=X j t rfl;rw[D]at o;exact A (T.is o l) (by grind) (by grind)
   grind
  |nat j=>
   simp only at d;split at d
   ·rename_i sv D;have L:=AI d;obtain⟨c,r,hc⟩:=Dv D F;have e:=CE r;obtain⟨u,l,h,_⟩:=r;have o:=G j rfl;rw[D]at o;have e:c.length=s:=by omega
    rw[e]at hc;exact A (T.is o l) (by rw[h,hc]) (by rw[h];exact e)
   grind
  |c j=>
   simp only at d;split at d;· rename_i i hi;have:=AI d;subst this;obtain⟨u,l,h,K⟩:=aJ hi F;exact A (l.env (λk B=>by rw[V k B]) (λk B=>by cases B)) h K
   ·cases d
  |AE c=>
   simp only at d;split at d;· rename_i k B;rw[AS]at d;have O:=AI d.1;have J:=AI d.2;subst J;obtain⟨M,r,hc⟩:=Dv B F;have e:=CE r;obtain⟨u,l,h,_⟩:=r;have e:M.length=1:=e;rw[e]at hc;exact A (u:=u) ⟨by show u=η (AZ m c);rw[O];exact l.1,l.2⟩ (by rw[h,hc]) (by rw[h];exact e)
   ·cases d
  |mp c=>
   simp only at d;split at d;· rename_i k B;rw[AS]at d;have O:=AI d.1;have J:=AI d.2;subst J;obtain⟨M,r,hc⟩:=Dv B F;have e:=CE r;obtain⟨u,l,h,_⟩:=r;have e:M.length=1:=e;rw[e]at hc;exact A (u:=u) ⟨by show u=η (AZ m c);rw[O];exact l.1,l.2⟩ (by rw[h,hc]) (by rw[h];exact e)
   ·cases d
  |AA f fs cs=>
   cases fs with
   |cons _ _=>cases d
   |nil=>
    simp only at d;split at d
    ·rename_i g ks B;rw[AS,AS]at d;have O:=AI d.1;have K:=EK d.2.1;have J:=AI d.2.2;subst O;subst J;subst K;obtain⟨M,r,hc⟩:=Dv B F;have e:=CE r;obtain⟨u,l,h,_⟩:=r;have e:M.length=1:=e;rw[e]at hc;obtain⟨us,a1,a2⟩:=l;exact A (u:=u) ⟨us,by rw[a1,Aaj];rfl,a2⟩ (by rw[h,hc]) (by rw[h];exact e)
    ·cases d
  |px cs z=>
   cases z with
   |sub _ _ _=>cases cs with
    |nil=>cases d
    |cons c cs=>cases cs<;>cases d
   |hc _=>cases cs with
    |nil=>cases d
    |cons c cs=>cases cs<;>cases d
   |sf=>
    match cs,d with
    | [],d=>cases d
    | [c],d=>
     rw[AS]at d;cases B:E0 N C b off Dc with
     |none=>rw[B]at d;cases d.1
     |some s0=>
      rw[B]at d;have J:=AI d.2;subst J;obtain⟨M,r,hc⟩:=Dv B F;have e:=CE r;obtain⟨u,l,h,_⟩:=r;obtain⟨K,Q⟩:=Zz d.1 l;rw[Q]at e;rw[e]at hc;exact A (u:=u) K (by rw[h,hc]) (by rw[h];exact e)
    |_::_::_,d=>cases d
  |_=>cases d
theorem DI{t:Nat}{sv:SV N.T}(h:Ax (FE N p x).L t=Ac sv):∃q∈p.sl,q.1=t/\sv=inst N p.hs x q.2:=by obtain⟨q,b,e⟩:=By.1 (A5 h);grind
theorem M1{kb:Nat}(h:Sat C CR n Of bs st η H a w)(hw:WF C CR bs st)(hkb:∀q∈bs,q.1<kb)(hx:SM N C CR kb p st=Ac x):∃η',Sat C CR n Of bs (FE N p x) η' H a w/\WF C CR bs (FE N p x):=by
 unfold SM at hx;simp only at hx;generalize hm:kmS N C st.L p.sl++kmR N C CR st.O (kmS N C st.L p.sl) p.ro=m at hx;split at hx
 ·rename_i hck;simp only[AS]at hck;obtain⟨hP,hS,hR,hN⟩:=hck;unfold ckP at hP;simp only[AS,Adz]at hP;obtain⟨⟨p1,p2⟩,⟨p3,p4⟩,p5,p6,p7,p8⟩:=hP;have hro:∀q∈p.ro,q.1<p.nk:=λq D=>by simpa using IT.1 p1 q.1 (By.2 ⟨q,D,rfl⟩)
  have V:∀k∈C3 C,k<p.nk/\AZ m k=k:=λk E=>by simp_all
  have hkbp:=Aay p3;have hbase:∀k,k<kb->AZ m k=k:=λk E=>T8 (IT.1 p4 k (Abf.2 E));have hnd:=BM hN;have P:dD C (hoS N C st.L p.sl++qX N C CR st.O m p.ro) (CB N p.hs x):=⟨λj s hj=>by
   rcases JH p.hs 0 x hx j with e|⟨Y,y,R,G⟩;· grind
   ·rw[Abm,CT hnd hj]at R;grind⟩;have Q:∀q∈p.sl,∀ {C':List (SV N.T)} {η':Nat->Ce} j,(q.2= .nat j\/(∃t,q.2= .v j t)\/∃i,q.2= .AB j i)->(CB N p.hs x j).is C' η' H (a.tmps.getD q.1 undef):=λq D {_ _} j e=>
   P.is (AT.2 (.inl (g_ D e))) (h.lk q.1);refine⟨λc=>η (AZ m c),h.conv (AZ m) (λt sv ht=>?_) (λq D=>hbase q.1 (hkb q D)) (λc sr hc=>?_) (λc c' hc hc' e=>?_) (λc hc=>?_),⟨λq D=>Abq (hkb q D) hkbp,λj hj=>?_,?_,λk E=>(V k E).1,hw.cP⟩⟩;· obtain⟨q,D,rfl,rfl⟩:=DI ht;have u:=IT.1 hS q D;unfold ckS at u;cases T:q.2 with
   |v j t=>exact Q q D j (.inr (.inl ⟨t,T⟩))
   |nat j=>exact Q q D j (.inl T)
   |AB j i=>
    have K:=Q q D (C':=C) (η':=λc=>η (AZ m c)) j (.inr (.inr ⟨i,T⟩));show(match CB N p.hs x j with| .na n=>SV.ct i n|s=>s).is C _ H _;split;· rename_i n' e;rw[e]at K;exact K
    omega
   |c j=>
    rw[T]at u;simp only at u;split at u;· rename_i i hi;have:=AI u;subst this;exact(h.Bq q.1 _ hi).env (λk E=>by grind) (λk E=>by cases E)
    grind
   |AE c=>
    rw[T]at u;simp only at u;split at u;· rename_i k E;have e:=AI u;have K:=h.lk q.1;rw[E]at K;exact⟨by show _=η (AZ m c);rw[e];exact K.1,K.2⟩
    grind
   |loc c off=>
    rw[T]at u;simp only at u;split at u;· rename_i k o E;rw[AS]at u;have e:=AI u.1;have G:=AI u.2;subst G;have K:=h.lk q.1;rw[E]at K;obtain⟨B,b1,b2⟩:=K;exact⟨B,by show η (AZ m c)=_;rw[e];exact b1,b2⟩
    ·cases u
   |_=>rw[T]at u;cases u
  ·unfold An at hc;cases hl:Ax (FE N p x).O c with
   |none=>rw[hl]at hc;cases hc
   |some s0=>
    rw[hl]at hc;cases hc;obtain⟨q,D,e⟩:=By.1 (A5 hl);obtain⟨q1,q2⟩:=q;cases e;have r:=IT.1 hR _ D;unfold ckR at r;cases q2 with
    |row g j=>
     simp only at r;split at r
     ·rename_i g' t l J;have e:=AI r;subst e;have F:=hH (C:=C) (CR:=CR) (O:=st.O) (m:=m) D J;rcases P.ok j _ (AT.2 (.inr F))with e|⟨Y,y,R,G⟩;· left;show Db CR (match CB N p.hs x j with| .d (.sl t) l=>SR.row g t l|_=> .gone)=_;rw[e];rfl
      ·right;refine⟨_,J,by simp,λX M=>?_⟩;show(Db CR (match CB N p.hs x j with| .d (.sl t) l=>SR.row g t l|_=> .gone)).is C _ H _ X;rw[G];cases Y with
       |nat=>cases R
       |Ae th=>
        obtain⟨f,hf,e3⟩:=Pd.1 (show(Qr N.T (.sl t) th).map (· l)=Ac y from R);obtain⟨he,rfl⟩:=BB hf;have:=Adj he;subst this;cases e3;exact M
     ·cases r
    |map g j=>
     simp only at r;split at r
     ·rename_i g' kt vt l J;have e:=AI r;subst e;have F:=hQ (C:=C) (CR:=CR) (O:=st.O) (m:=m) D J;rcases P.ok j _ (AT.2 (.inr F))with e|⟨Y,y,R,G⟩;· left;show Db CR (match CB N p.hs x j with| .d (.sl (.st (.pr kt vt))) l=>SR.map g kt vt l|_=> .gone)=_;rw[e];rfl
      ·right;refine⟨_,J,by simp,λX M=>?_⟩;show(Db CR (match CB N p.hs x j with| .d (.sl (.st (.pr kt vt))) l=>SR.map g kt vt l|_=> .gone)).is C _ H _ X;rw[G];cases Y with
       |nat=>cases R
       |Ae th=>
        obtain⟨f,hf,e3⟩:=Pd.1 (show(Qr N.T (.sl (.st (.pr kt vt))) th).map (· l)=Ac y from R);obtain⟨he,rfl⟩:=BB hf;have:=Adj he;subst this;cases e3;exact M
     ·cases r
    |Cr g e0 h0 j=>
     simp only at r;split at r
     ·rename_i g' e' t Y l J;simp only[AS]at r;have R:=AI r.1;have G:=AI r.2.1;have e3:=AI r.2.2;subst R;subst G;have F:=hU (C:=C) (CR:=CR) (O:=st.O) (m:=m) D J;rcases P.ok j _ (AT.2 (.inr F))with e|⟨hh,y,k1,k2⟩;· left;show Db CR (match CB N p.hs x j with| .d (.sl (.pr .bool (.sl t))) l=>SR.Cr g e0 t h0 l|_=> .gone)=_;rw[e];rfl
      ·right;refine⟨_,J,by simp,λX M=>?_⟩;show(Db CR (match CB N p.hs x j with| .d (.sl (.pr .bool (.sl t))) l=>SR.Cr g e0 t h0 l|_=> .gone)).is C _ H _ X;rw[k2];cases hh with
       |nat=>cases k1
       |Ae th=>
        obtain⟨f,hf,e3'⟩:=Pd.1 (show(Qr N.T (.sl (.pr .bool (.sl t))) th).map (· l)=Ac y from k1);obtain⟨he,rfl⟩:=BB hf;have:=Adj he;subst this;cases e3';obtain⟨xs,rs,z1,z2,z3⟩:=M;exact⟨xs,rs,z1,by show η (AZ m h0)=_;rw[e3];exact z2,z3⟩
     ·cases r
    |Af g ls=>
     simp only at r;split at r
     ·rename_i g' b J;simp only[AS]at r;have e:=AI r.1;subst e;right;refine⟨_,J,by simp,λX M=>?_⟩;obtain⟨B,cs,b1,b2,b3⟩:=M;refine⟨B,cs,b1,b2,?_⟩;have hlen:=HR (cs:=cs.toList) r.2.1.1 b3;have:=instL_ok (η:=η) (cs:=cs.toList) P b3 (J9 r.2.1.1 b3) (λk E=>(V k E).2) ls 0 (λz W=>⟨IT.1 r.2.2 z W,λj t e=>AT.2 (.inr (V9 D J ((GC W).1 j t e))),λj e=>AT.2 (.inr (V9 D J ((GC W).2 j e)))⟩)
       (by rw[Abm,AI r.2.1.2,hlen]);simpa using this
     ·cases r
    |c j=>
     simp only at r;split at r;· rename_i i hi;rw[AS]at r;have e:=AI r.1;have G:=T8 r.2;subst e;show CR.getD i .gone= .gone\/_;cases Z:CR[i]? with
      |none=>left;rw[Aad,Z];rfl
      |some s0=>
       by_cases hs0:s0= .gone;· left;rw[Aad,Z];exact hs0
       ·right;have J:An CR st.O q1=Ac s0:=by unfold An;rw[hi];simp[Db,Aad,Z]
        refine⟨s0,by rw[G];exact J,hs0,λX M=>?_⟩;show(CR.getD i .gone).is C _ H _ X;rw[Aad,Z];have M:s0.is C η H q1 X:=by rw[G]at M;exact M
        refine SR.is.env (by show η (AZ m q1)=η q1;rw[G]) (λk E=>by show η (AZ m k)=η k;rw[(V k E).2]) (λk E=>?_) M;have:=IT.1 (IT.1 p8 s0 (Aai Z)) k E;rw[AS]at this;show η (AZ m k)=η k;rw[T8 this.2]
     ·cases r
  ·have K:=BM p5;obtain⟨q,D,rfl⟩:=By.1 hc;obtain⟨q',hq',rfl⟩:=By.1 hc';obtain⟨z,W,rfl⟩:=By.1 D;obtain⟨z',hz',rfl⟩:=By.1 hq';have:=P8 (f:=λq:Nat×RP=>AZ m q.1) K W hz' e;subst this;rfl
  ·obtain⟨q,D,rfl⟩:=By.1 hc;obtain⟨z,W,rfl⟩:=By.1 D;exact hro z W
  ·have hj:p.nk<=j:=hj;refine CG λhm=>?_;obtain⟨q,D,rfl⟩:=By.1 hm;obtain⟨z,W,rfl⟩:=By.1 D;have:=hro z W;simp only at hj;omega
  ·obtain⟨
       τ,hτ⟩:=hw.wf;refine⟨λi=>match Ax (P_ p.sl) i with
    |some j=>(match CB N p.hs x j with| .na n=>n|_=>0)
    |none=>τ i,λt=>?_⟩;unfold CC;cases ht:Ax (FE N p x).L t with
   |none=>trivial
   |some sv=>
    simp only;obtain⟨q,D,rfl,rfl⟩:=DI ht;have A:∀j,EY (CB N p.hs x j)=Br/\RU (CB N p.hs x j)=Br:=λj=>by
     rcases JH p.hs 0 x hx j with e|⟨Y,y,_,G⟩;· rw[e];exact⟨rfl,rfl⟩
     ·rw[G];cases Y<;>exact⟨rfl,rfl⟩
    have Jl:∀ {s:SV N.T},RU s=Br->res C s=s:=λ{s} hs=>by cases s<;>first|rfl|cases hs
    cases T:q.2 with
    |v j t=>show D' _ _ (res C (CB N p.hs x j));rw[Jl (A j).2];exact DE (A j).1
    |nat j=>show D' _ _ (res C (CB N p.hs x j));rw[Jl (A j).2];exact DE (A j).1
    |AB j i=>
     show D' _ _ (res C (match CB N p.hs x j with| .na n=>SV.ct i n|s=>s));have hid:Ax (P_ p.sl) i=Ac j:=CT (BM p6) (Pe.2 ⟨q,D,by rw[T];simp⟩);split;· rename_i n' e;show(match Ax (P_ p.sl) i with|some j=>(match CB N p.hs x j with| .na n=>n|_=>0)|none=>τ i)=n';rw[hid];simp only[e]
     ·rename_i hne;rw[Jl (A j).2];exact DE (A j).1
    |c j=>
     have u:=IT.1 hS q D;unfold ckS at u;rw[T]at u;simp only at u;split at u;· rename_i i hi;have:=AI u;subst this;have S:=hτ q.1;unfold CC at S;rw[hi]at S;show D' _ _ (C.getD i .no);have S:D' τ (An CR st.O) (C.getD i .no):=S;rw[Aad]at S⊢;cases Z:C[i]? with
      |none=>trivial
      |some s0=>
       rw[Z]at S;have U:=Aai Z;have hp0:=hw.cP s0 U;have nid:∀I,I∈wZ N C->Ax (P_ p.sl) I=Dc:=λI hi'=>CG λhm=>RW p7 hm hi';simp only[Acu]at S⊢;cases s0 with
       |ct I n'=>show(match Ax (P_ p.sl) I with|some j=>_|none=>τ I)=n';rw[nid I (Pe.2 ⟨_,U,by simp⟩)];exact S
       |cb I n'=>show(match Ax (P_ p.sl) I with|some j=>_|none=>τ I)=n';rw[nid I (Pe.2 ⟨_,U,by simp⟩)];exact S
       |lt I n' m'=>show(match Ax (P_ p.sl) I with|some j=>_|none=>τ I)=n';rw[nid I (Pe.2 ⟨_,U,by simp⟩)];exact S
       |Ee k i off t y=>cases hp0
       |_=>trivial
     ·cases u
    |sv ls=>cases ls<;>trivial
    |pd j t off=>
     show D' _ _ (res C (match CB N p.hs x j with| .d t x=>SV.pd t x off|_=> .no));split<;>trivial
    |px ks z=>cases z with
     |sf=>trivial
     |hc _=>trivial
     |sub j n t=>
      show D' _ _ (res C (match CB N p.hs x j,CB N p.hs x n with| .na i, .na m=>SV.px ks (.sub i m t)|_,_=> .px ks .any));split<;>trivial
    |_=>trivial
 grind
end
end
def clean{T:Nat->Type} :SV T->Bool
 | .CD _=>Ak
 | .Ee _ _ _ _ _=>Ak
 | .lf _ a l=>clean a&&clean l
 | .t2 a b=>clean a&&clean b
 | .t3 a b c=>clean a&&(clean b&&clean c)
 | .AA _ l _=>clean l
 | .vc a l=>clean a&&clean l
 |_=>Br
section
variable {N : Df} {C : List (SV N.T)} {CR : List (SR N.T)} {n : Nat} {Of : Fm} {bs : List (Nat × Ce)} {st : St N.T} {η : Nat -> Ce} {H : Hp} {a : Act} {w : IK}
section
variable{T:Nat->Type}{X:List (SV N.T)}{s:SV N.T}
theorem CI{g q:Nat->Ce->Prop} :∀ {s:SV N.T} {v:Ce},clean s=Br->s.BV g η H v->s.BV q η H v
 | .lf s a l,v,hc,⟨o,p,u,e,i,j,k,t,A⟩=>by simp only[clean,AS]at hc;exact⟨o,p,u,e,i,CI hc.1 j,k,t,CI hc.2 A⟩
 | .t2 a b,v,hc,⟨x,y,e,i,j⟩=>by simp only[clean,AS]at hc;exact⟨x,y,e,CI hc.1 i,CI hc.2 j⟩
 | .t3 a b c,v,hc,⟨x,y,z,e,i,j,k⟩=>by simp only[clean,AS]at hc;exact⟨x,y,z,e,CI hc.1 i,CI hc.2.1 j,CI hc.2.2 k⟩
 | .AA f r B,v,hc,⟨m,e,i⟩=>⟨m,e,CI (by trivial) i⟩
 | .vn,_,_,h=>h
 | .vc a r,v,hc,⟨u,m,e,i,j⟩=>by simp only[clean,AS]at hc;exact⟨u,m,e,CI hc.1 i,CI hc.2 j⟩
 | .d _ _,_,_,h=>h
 | .na _,_,_,h=>h
 | .ct _ _,_,_,h=>h
 | .cb _ _,_,_,h=>h
 | .lt _ _ _,_,_,h=>h
 | .lb _,_,_,h=>h
 | .raw _,_,_,h=>h
 | .ud,_,_,h=>h
 | .no,_,_,h=>h
 | .loc _ _,_,_,h=>h
 | .AE _,_,_,h=>h
 | .Ee _ _ _ _ _,_,hc,_=>by cases hc
 | .pd _ _ _,_,_,h=>h
 | .mp _,_,_,h=>h
 | .nl,_,_,h=>h
 | .px _ _,_,_,h=>h
 | .CD _,_,hc,_=>by cases hc
theorem Le(h:clean s=Br):RQ s=Br:=by cases s<;>first|rfl|cases h
theorem Kt{v:Ce}(h:s.is C η H v):s.is (C++X) η H v:=
 SV.BV.imp (λj v ⟨s,e,h⟩=>⟨s,by grind,h⟩) h
theorem V6{s:SR N.T}{k:Nat}{r:Aw}(h:s.is C η H k r):s.is (C++X) η H k r:=by
 cases s with
 |Af g l=>obtain⟨B,b,c,d,e⟩:=h;exact⟨B,b,c,d,Kt e⟩
 |row g t l=>exact h
 |CD j=>exact h
 |gone=>exact h
 |map g f i l=>exact h
 |Cr _ _ _ _ _=>exact h
def Lt(L:List (Nat×SV N.T)):List (Nat×SP)->List (SV N.T)->List (Nat×SP)×List (SV N.T)
 | [],C=>([],C)
 |q::l,C=>match q.2 with
  | .Al=>match Ax L q.1 with
   |none=>Lt L l C
   |some (.CD j)=>((q.1, .c j)::(Lt L l C).1,(Lt L l C).2)
   |some s=>((q.1, .c C.length)::(Lt L l (C++[s])).1,(Lt L l (C++[s])).2)
  |_=>(q::(Lt L l C).1,(Lt L l C).2)
def Lu(O:List (Nat×SR N.T)):List (Nat×RP)->List (SR N.T)->List (Nat×RP)×List (SR N.T)
 | [],CR=>([],CR)
 |q::l,CR=>match q.2 with
  | .c _=>match Ax O q.1 with
   |none=>Lu O l CR
   |some (.CD j)=>((q.1, .c j)::(Lu O l CR).1,(Lu O l CR).2)
   |some s=>((q.1, .c CR.length)::(Lu O l (CR++[s])).1,(Lu O l (CR++[s])).2)
  |_=>(q::(Lu O l CR).1,(Lu O l CR).2)
def vu(l:List (Nat×SP)):List (Nat×SV N.T):=l.filterMap λq=>match q.2 with
 | .c j=>Ac (q.1, .CD j)
 |_=>Dc
def nH(l:List (Nat×RP)):List (Nat×SR N.T):=l.filterMap λq=>match q.2 with
 | .c j=>Ac (q.1, .CD j)
 |_=>Dc
theorem KE{L:List (Nat×SV N.T)} :∀(l:List (Nat×SP)) (C:List (SV N.T)),(∃X,(Lt L l C).2=C++X)/\∀q∈(Lt L l C).1,∀j,q.2= .c j->q∈l\/Ax L q.1=Ac (.CD j)\/∃s,Ax L q.1=Ac s/\(Lt L l C).2[j]?=Ac s/\C.length<=j
 | [],C=>⟨⟨[],by simp[Lt]⟩,λq b=>by cases b⟩
 |p::l,C=>by
  unfold Lt;split
  ·split;· obtain⟨f,d⟩:=KE (L:=L) l C;grind
   ·obtain⟨f,d⟩:=KE (L:=L) l C;grind
   ·rename_i s u r;obtain⟨⟨X,g⟩,d⟩:=KE (L:=L) l (C++[s]);refine⟨⟨[s]++X,by grind⟩,λq b j e=>?_⟩;rcases Aao.1 b with rfl|b;· grind
    grind
  ·obtain⟨f,d⟩:=KE (L:=L) l C;grind
theorem KF{O:List (Nat×SR N.T)} :∀(l:List (Nat×RP)) (CR:List (SR N.T)),(∀q∈l,∀j,q.2= .c j->j=0\/True)->(∃X,(Lu O l CR).2=CR++X)/\∀q∈(Lu O l CR).1,∀j,q.2= .c j->Ax O q.1=Ac (.CD j)\/∃s,Ax O q.1=Ac s/\Oj s=Br/\(Lu O l CR).2[j]?=Ac s
 | [],CR,_=>⟨⟨[],by simp[Lu]⟩,λq b=>by cases b⟩
 |p::l,CR,i=>by
  unfold Lu;split
  ·split;
      · exact KF l CR λ_ _ _ _=> .inr trivial
   ·obtain⟨f,d⟩:=KF (O:=O) l CR λ_ _ _ _=> .inr trivial;grind
   ·rename_i s m i;obtain⟨⟨X,h⟩,d⟩:=KF (O:=O) l (CR++[s]) λ_ _ _ _=> .inr trivial;refine⟨⟨[s]++X,by grind⟩,λq b j e=>?_⟩;rcases Aao.1 b with rfl|b
    ·refine .inr ⟨s,i,?_,?_⟩;· cases s with
      |CD j=>grind
      |_=>rfl
     grind
    grind
  ·rename_i g;obtain⟨f,d⟩:=KF (O:=O) l CR λ_ _ _ _=> .inr trivial;refine⟨f,λq b j e=>?_⟩;rcases Aao.1 b with rfl|b;· exact absurd e (g j)
   ·exact d q b j e
def Cg(CR:List (SR N.T)):SR N.T->Bool
 | .CD j=>aT j CR.length
 |_=>Br
def cnB(C C':List (SV N.T))(CR:List (SR N.T))(st:St N.T)(kp:List (Nat×SP)):Bool:=((C'.drop C.length).all clean&&(C'.drop C.length).all λs=>s.AL.all λk=>aT k st.nk)&&((st.O.all λp=>Cg CR p.2)&&kp.all λq=>match q.2 with
 | .c _=>Ak
 |_=>Br)
theorem xD{p:A9}(h:Sat C CR n Of bs st η H a w)(I:WF C CR bs st)(hb:cnB C (Lt st.L p.sl C).2 CR st p.sl=Br):
  Sat (Lt st.L p.sl C).2 (Lu st.O p.ro CR).2 n Of bs ⟨vu (Lt st.L p.sl C).1++st.L,nH (Lu st.O p.ro CR).1++st.O,st.nk⟩ η H a w/\WF (Lt st.L p.sl C).2 (Lu st.O p.ro CR).2 bs ⟨vu (Lt st.L p.sl C).1++st.L,nH (Lu st.O p.ro CR).1++st.O,st.nk⟩:=by
 obtain⟨⟨X,K⟩,hS⟩:=KE (L:=st.L) p.sl C;obtain⟨⟨Z,hZ⟩,W⟩:=KF (O:=st.O) p.ro CR λ_ _ _ _=> .inr trivial;unfold cnB at hb;simp only[AS]at hb;obtain⟨⟨b1,b2⟩,b3,b4⟩:=hb;generalize hC':(Lt st.L p.sl C).2=J at K hS b1 b2;generalize hCR':(Lu st.O p.ro CR).2=v at hZ W;have hsl:∀q∈(Lt st.L p.sl C).1,∀j,q.2= .c j->Ax st.L q.1=Ac (.CD j)\/∃s,Ax st.L q.1=Ac s/\J[j]?=Ac s/\C.length<=j:=λq G j e=>by grind
 have F:∀j s,J[j]?=Ac s->C.length<=j->clean s=Br/\∀k∈s.AL,k<st.nk:=λj s u hle=>by
  have hm:s∈J.drop C.length:=by grind[wk]
  exact⟨IT.1 b1 s hm,λk d=>by have:=IT.1 (IT.1 b2 s hm) k d;simpa using this⟩
 have D:∀s∈J,(s∈C)\/(clean s=Br/\∀k∈s.AL,k<st.nk):=λs m=>by
  obtain⟨j,u⟩:=List.mem_iff_getElem?.1 m;by_cases hlt:j<C.length;· grind[qf,wk]
  grind
 have P:∀t sv,Ax (vu (Lt st.L p.sl C).1++st.L) t=Ac sv->Ax st.L t=Ac sv\/∃j s,sv= .CD j/\Ax st.L t=Ac s/\J[j]?=Ac s/\C.length<=j:=λt sv A=>by
  rw[BX]at A;cases o:Ax (vu (Lt st.L p.sl C).1:List (Nat×SV N.T)) t with
  |none=>grind
  |some x=>
   rw[o]at A;obtain⟨q,G,e⟩:=Aer.1 (A5 o);obtain⟨R,S⟩:=q;cases S with
   |c j=>
    rcases hsl _ G j rfl with h|⟨s,b,z,E⟩;· grind
    grind
   |_=>grind
 have T:∀k B,An v (nH (Lu st.O p.ro CR).1++st.O) k=Ac B->An CR st.O k=Ac B:=λk B d=>by
  have Q:∀s,Ax st.O k=Ac s->Db v s=Db CR s:=λs m=>by
   cases s with
   |CD j=>
    have:=IT.1 b3 _ (A5 m);have u:j<CR.length:=by simpa [Cg]using this
    simp only[Db];rw[Aad,Aad,hZ,Aaa u]
   |_=>rfl
  unfold An at d⊢;rw[BX]at d;cases o:Ax (nH (Lu st.O p.ro CR).1:List (Nat×SR N.T)) k with
  |none=>
   rw[o]at d;cases m:Ax st.O k with
   |none=>rw[m]at d;cases d
   |some s=>
    rw[m]at d;show Ac (Db CR s)=Ac B;rw[<-Q s m];exact d
  |some x=>
   rw[o]at d;obtain⟨q,G,e⟩:=Aer.1 (A5 o);obtain⟨R,S⟩:=q;cases S with
   |c j=>
    cases e;rcases W _ G j rfl with h|⟨s,b,z,E⟩;· rw[h];show Ac (Db CR (.CD j))=Ac B;rw[<-Q _ h];exact d
    ·rw[b];show Ac (Db CR s)=Ac B;rw[Jk z];simp only[Db,Aad,E,Acu]at d;exact d
   |_=>cases e
 refine⟨⟨h.inv,h.defers,h.size,λt sv A=>?_,h.base,?_⟩,⟨I.lo,λj u=>?_,?_,λk d=>?_,λs m=>?_⟩⟩
 ·rcases P t sv A with b|⟨j,s,rfl,b,z,E⟩;· rw[K];exact Kt (h.Bq t sv b)
  ·exact⟨s,z,CI (F j s z E).1 (h.Bq t s b)⟩
 ·obtain⟨Y,g1,g2,g3,g4⟩:=h.own;refine⟨Y,g1,g2,g3,λk B d=>?_⟩;rcases g4 k B (T k B d)with e|⟨x,g5,g6⟩;· exact .inl e
  ·exact .inr ⟨x,g5,by rw[K];exact V6 g6⟩
 ·rw[BX,I.ok j u];cases o:Ax (nH (Lu st.O p.ro CR).1:List (Nat×SR N.T)) j with
  |none=>rfl
  |some x=>
   obtain⟨q,G,e⟩:=Aer.1 (A5 o);obtain⟨R,S⟩:=q;cases S with
   |c j'=>
    have hn:=I.ok j u;have e1:R=j:=by cases e;rfl
    subst e1;rcases W _ G j' rfl with h|⟨s,b,_⟩;· exact absurd (h.symm.trans hn) (by simp)
    ·exact absurd (b.symm.trans hn) (by simp)
   |_=>cases e
 ·obtain⟨τ,M⟩:=I.wf;refine⟨τ,λt=>?_⟩;have key:∀s:SV N.T,RQ s=Br->D' τ (An CR st.O) s->D' τ (An v (nH (Lu st.O p.ro CR).1++st.O)) s:=λs m U=>by
   cases s<;>first|exact U|cases m
  have r:∀s:SV N.T,D' τ (An CR st.O) s->D' τ (An v (nH (Lu st.O p.ro CR).1++st.O)) s:=λs U=>by
   cases s with
   |Ee k i off t y=>intro g t' l o;exact U g t' l (T k _ o)
   |_=>exact U
  unfold CC;cases A:Ax (vu (Lt st.L p.sl C).1++st.L) t with
  |none=>trivial
  |some sv=>
   simp only;rcases P t sv A with b|⟨j,s,rfl,b,z,E⟩;· have f:=M t;unfold CC at f;rw[b]at f;have f:D' τ (An CR st.O) (res C sv):=f;cases sv with
    |CD j=>
     simp only[res]at f⊢;rw[Aad]at f⊢;have m:=h.Bq t _ b;obtain⟨s0,V,_⟩:=m;rw[V]at f;rw[K,Aaa (No.1 V).1,V];exact r _ f
    |_=>exact r _ f
   ·simp only[res];rw[Aad,z];have f:=M t;unfold CC at f;rw[b]at f;have hc:=(F j s z E).1;have:res C s=s:=by cases s<;>first|rfl|cases hc
    have f:D' τ (An CR st.O) (res C s):=f;rw[this]at f;exact r _ f
 ·obtain⟨s,m,d⟩:=Pe.1 d;rcases D s m with b|⟨_,b⟩;· exact I.mC k (Pe.2 ⟨s,b,d⟩)
  ·exact b k d
 ·rcases D s m with b|⟨b,_⟩;· exact I.cP s b
  ·exact Le b
def Nz(C:List (SV N.T))(m:Nat):SV N.T->SV N.T
 | .CD j=>match aT j m with
  |true=> .CD j
  |false=>match C.getD j .no with
   | .CD _=> .no
   |s=>s
 | .lf s a l=> .lf s (Nz C m a) (Nz C m l)
 | .t2 a b=> .t2 (Nz C m a) (Nz C m b)
 | .t3 a b c=> .t3 (Nz C m a) (Nz C m b) (Nz C m c)
 | .AA f l d=> .AA f (Nz C m l) d
 | .vc a l=> .vc (Nz C m a) (Nz C m l)
 |s=>s
def wc(C:List (SV N.T))(CR:List (SR N.T))(m b:Nat):SR N.T->SR N.T
 | .CD j=>match aT j b with
  |true=> .CD j
  |false=>match CR.getD j .gone with
   | .Af g l=> .Af g (Nz C m l)
   | .CD _=> .gone
   |s=>s
 | .Af g l=> .Af g (Nz C m l)
 |s=>s
def D4(C:List (SV N.T))(CR:List (SR N.T))(m b:Nat)(st:St N.T):St N.T:=⟨st.L.map λp=>(p.1,Nz C m p.2),st.O.map λp=>(p.1,wc C CR m b p.2),st.nk⟩
theorem Ex{X:List (SV N.T)} :∀ {s:SV N.T} {v:Ce},s.BV (λj v=> ∃s,(C++X)[j]?=Ac s/\SV.BV (λ_ _=>False) η H s v) η H v->(Nz (C++X) C.length s).BV (λj v=> ∃s,C[j]?=Ac s/\SV.BV (λ_ _=>False) η H s v) η H v
 | .CD j,v,⟨s,e,h⟩=>by
  unfold Nz;split
  ·have D:j<C.length:=by simp_all
   rw[Aaa D]at e;exact⟨s,e,h⟩
  ·split;· trivial
   grind[SV.BV.imp]
 | .lf s a l,v,⟨p,q,u,g,i,k,m,t,A⟩=>⟨p,q,u,g,i,Ex k,m,t,Ex A⟩
 | .t2 a b,v,⟨x,y,g,i,k⟩=>⟨x,y,g,Ex i,Ex k⟩
 | .t3 a b c,v,⟨x,y,z,g,i,k,m⟩=>⟨x,y,z,g,Ex i,Ex k,Ex m⟩
 | .AA f r F,v,⟨o,g,i⟩=>⟨o,g,Ex i⟩
 | .vn,_,h=>h
 | .vc a r,v,⟨u,o,g,i,k⟩=>⟨u,o,g,Ex i,Ex k⟩
 | .d _ _,_,h=>h
 | .na _,_,h=>h
 | .ct _ _,_,h=>h
 | .cb _ _,_,h=>h
 | .lt _ _ _,_,h=>h
 | .lb _,_,h=>h
 | .raw _,_,h=>h
 | .ud,_,h=>h
 | .no,_,h=>h
 | .loc _ _,_,h=>h
 | .AE _,_,h=>h
 | .Ee _ _ _ _ _,_,h=>h
 | .pd _ _ _,_,h=>h
 | .mp _,_,h=>h
 | .nl,_,h=>h
 | .px _ _,_,h=>h
def HN{T:Nat->Type}(m:Nat):SV T->Bool
 | .CD j=>aT j m
 | .lf _ a l=>HN m a&&HN m l
 | .t2 a b=>HN m a&&HN m b
 | .t3 a b c=>HN m a&&(HN m b&&HN m c)
 | .AA _ l _=>HN m l
 | .vc a l=>HN m a&&HN m l
 |_=>Br
def S8(m:Nat):SR T->Bool
 | .Af _ l=>HN m l
 |_=>Br
theorem DM{X:List (SV N.T)} :∀ {s:SV N.T} {v:Ce},HN C.length s=Br->s.BV (λj v=> ∃s,(C++X)[j]?=Ac s/\SV.BV (λ_ _=>False) η H s v) η H v->s.BV (λj v=> ∃s,C[j]?=Ac s/\SV.BV (λ_ _=>False) η H s v) η H v
 | .CD j,v,hc,⟨s,e,h⟩=>by
  have B:j<C.length:=by simp_all[HN]
  rw[Aaa B]at e;exact⟨s,e,h⟩
 | .lf s a l,v,hc,⟨p,q,u,g,i,k,m,t,A⟩=>by simp only[HN,AS]at hc;exact⟨p,q,u,g,i,DM hc.1 k,m,t,DM hc.2 A⟩
 | .t2 a b,v,hc,⟨x,y,g,i,k⟩=>by simp only[HN,AS]at hc;exact⟨x,y,g,DM hc.1 i,DM hc.2 k⟩
 | .t3 a b c,v,hc,⟨x,y,z,g,i,k,m⟩=>by simp only[HN,AS]at hc;exact⟨x,y,z,g,DM hc.1 i,DM hc.2.1 k,DM hc.2.2 m⟩
 | .AA f r D,v,hc,⟨o,g,i⟩=>⟨o,g,DM (by trivial) i⟩
 | .vn,_,_,h=>h
 | .vc a r,v,hc,⟨u,o,g,i,k⟩=>by simp only[HN,AS]at hc;exact⟨u,o,g,DM hc.1 i,DM hc.2 k⟩
 | .d _ _,_,_,h=>h
 | .na _,_,_,h=>h
 | .ct _ _,_,_,h=>h
 | .cb _ _,_,_,h=>h
 | .lt _ _ _,_,_,h=>h
 | .lb _,_,_,h=>h
 | .raw _,_,_,h=>h
 | .ud,_,_,h=>h
 | .no,_,_,h=>h
 | .loc _ _,_,_,h=>h
 | .AE _,_,_,h=>h
 | .Ee _ _ _ _ _,_,_,h=>h
 | .pd _ _ _,_,_,h=>h
 | .mp _,_,_,h=>h
 | .nl,_,_,h=>h
 | .px _ _,_,_,h=>h
theorem wb{X:List (SV N.T)}{Z:List (SR N.T)}(h:Sat (C++X) (CR++Z) n Of bs st η H a w)(q:WF (C++X) (CR++Z) bs st)(K:CR.all (S8 C.length)=Br):Sat C CR n Of bs (D4 (C++X) (CR++Z) C.length CR.length st) η H a w/\WF C CR bs (D4 (C++X) (CR++Z) C.length CR.length st):=by
 have R:∀k m,An CR (D4 (C++X) (CR++Z) C.length CR.length st).O k=Ac m->m= .gone\/∃s0,An (CR++Z) st.O k=Ac s0/\((m=s0/\S8 C.length s0=Br)\/∃g l,s0= .Af g l/\m= .Af g (Nz (C++X) C.length l)):=λk m b=>by
  unfold An D4 at b;simp only[DF (wc (C++X) (CR++Z) C.length CR.length)]at b;unfold An;cases z:Ax st.O k with
  |none=>grind
  |some s=>
   rw[z]at b;simp only[Adn,Ael]at b;cases s with
   |Af g l=>subst b;exact .inr ⟨_,rfl, .inr ⟨g,l,rfl,rfl⟩⟩
   |row g t l=>subst b;exact .inr ⟨_,rfl, .inl ⟨rfl,rfl⟩⟩
   |map g kt vt l=>subst b;exact .inr ⟨_,rfl, .inl ⟨rfl,rfl⟩⟩
   |Cr _ _ _ _ _=>subst b;exact .inr ⟨_,rfl, .inl ⟨rfl,rfl⟩⟩
   |gone=>exact .inl b.symm
   |CD j=>
    simp only[wc]at b;split at b
    ·have f:j<CR.length:=by simp_all
     subst b;all_goals grind[Db,qf,kV,List.all_eq_true,List.getElem_mem]
    ·split at b;· rename_i g l e;subst b;refine .inr ⟨_,rfl, .inr ⟨g,l,?_,rfl⟩⟩;trivial
     ·exact .inl b.symm
     ·have:Db CR (CR++Z |>.getD j .gone)=(CR++Z).getD j .gone:=by
       cases M:(CR++Z).getD j .gone with
       |CD i=>grind
       |_=>rfl
      rw[this]at b;refine .inr ⟨_,rfl, .inl ⟨b.symm,?_⟩⟩;simp only[Db];cases M:(CR++Z).getD j .gone with
      |Af g l=>grind
      |_=>rfl
 refine⟨⟨h.inv,h.defers,h.size,λt sv A=>?_,h.base,?_⟩,⟨q.lo,λj f=>?_,?_,λk b=>q.mC k (by grind[C3]),λs v=>q.cP s (AT.2 (.inl v))⟩⟩;· have A:Ax (st.L.map λp=>(p.1,Nz (C++X) C.length p.2)) t=Ac sv:=A;rw[DF (Nz (C++X) C.length)]at A;obtain⟨s,v,rfl⟩:=Pd.1 A;exact Ex (h.Bq t s v)
 ·obtain⟨
      Y,T,U,V,W⟩:=h.own;refine⟨Y,T,U,V,λk m b=>?_⟩;rcases R k m b with e|⟨s0,u,r⟩;· exact .inl e
  ·rcases W k s0 u with e|⟨x,g5,I⟩
   ·subst e;rcases r with⟨e,_⟩|⟨g,l,e,_⟩;· exact .inl e
    ·cases e
   ·refine .inr ⟨x,g5,?_⟩;rcases r with⟨rfl,hc⟩|⟨g,l,rfl,rfl⟩;· cases m with
     |Af g l=>
      obtain⟨B,G,D,E,F⟩:=I;exact⟨B,G,D,E,DM hc F⟩
     |_=>exact I
    ·obtain⟨B,G,D,E,F⟩:=I;exact⟨B,G,D,E,Ex F⟩
 ·show Ax (st.O.map λp=>(p.1,wc (C++X) (CR++Z) C.length CR.length p.2)) j=Dc;rw[DF (wc (C++X) (CR++Z) C.length CR.length),q.ok j f];rfl
 ·obtain⟨
      τ,Q⟩:=q.wf;refine⟨τ,λt=>?_⟩;have c:=Q t;unfold CC at c⊢;have hm:Ax (D4 (C++X) (CR++Z) C.length CR.length st).L t=(Ax st.L t).map (Nz (C++X) C.length):=DF (Nz (C++X) C.length) st.L t;rw[hm];cases z:Ax st.L t with
  |none=>trivial
  |some s=>
   rw[z]at c;show D' τ _ (res C (Nz (C++X) C.length s));have np:∀s:SV N.T,RQ s=Br->D' τ (An (CR++Z) st.O) s->D' τ (An CR (D4 (C++X) (CR++Z) C.length CR.length st).O) s:=λs v hv=>by cases s<;>first|exact hv|cases v
   cases s with
   |CD j=>
    simp only[res]at c;rw[Aad]at c;unfold Nz;split
    ·rename_i J;have f:j<C.length:=by simpa using J
     simp only[res];rw[Aaa f]at c;rw[Aad];cases hc:C[j]? with
     |none=>trivial
     |some s0=>
      rw[hc]at c;exact np s0 (q.cP s0 (AT.2 (.inl (Aai hc)))) c
    ·split;
        · trivial
     ·rename_i o;rw[Aad]at o⊢;cases hc:(C++X)[j]? with
      |none=>trivial
      |some s0=>
       rw[hc]at c o;have hr:res C s0=s0:=by
        cases s0 with
        |CD i=>exact absurd rfl (o i)
        |_=>rfl
       show D' τ _ (res C s0);rw[hr];exact np s0 (q.cP s0 (Aai hc)) c
   |Ee k i off te y=>
    intro S t' l' P;rcases R k _ P with e|⟨s0,u,r⟩;· cases e
    ·rcases r with⟨e,_⟩|⟨_,_,_,e⟩;· exact c S t' l' (by rw[u,<-e])
     ·cases e
   |_=>exact c
end
end
section
variable {N : Df} {C : List (SV N.T)} {CR : List (SR N.T)} {n : Nat} {Of : Fm} {bs : List (Nat × Ce)} {st : St N.T} {η : Nat -> Ce} {H : Hp} {a : Act} {w : IK}
def gI:List (Nat×SP)->SV N.T->List (SV N.T)->Option (List (Nat×SP)×(SV N.T×List (SV N.T)))
 | [],b,C=>Ac ([],(b,C))
 |(s,q)::e,b,C=>match b with
  | .lf d x r=>match Hg s d with
   |true=>match q with
    | .Al=>match x with
     | .CD j=>(gI e r C).map λp=>((s, .c j)::p.1,(.lf d (.CD j) p.2.1,p.2.2))
     |x=>(gI e r (C++[x])).map λp=>((s, .c C.length)::p.1,(.lf d (.CD C.length) p.2.1,p.2.2))
    |q=>(gI e r C).map λp=>((s,q)::p.1,(.lf d x p.2.1,p.2.2))
   |false=>Dc
  |_=>Dc
theorem Fo:∀ {ls d:List (Nat×SP)} {b b':SV N.T} {C C':List (SV N.T)},gI ls b C=Ac (d,(b',C'))->∃X,C'=C++X
 | [],_,_,_,_,_,h=>by cases h;simp
 |(s,q)::ls,_,b,_,C,_,h=>by
  unfold gI at h;split at h
  ·split at h
   ·split at h
    ·split at h;· obtain⟨p,c,e⟩:=Pd.1 h;cases e;exact Fo c
     ·obtain⟨p,c,e⟩:=Pd.1 h;cases e;obtain⟨X,f⟩:=Fo c;exact⟨[_]++X,by rw[f,Aak]⟩
    ·obtain⟨p,c,e⟩:=Pd.1 h;cases e;exact Fo c
   grind
  grind
theorem P5{g:Nat} :∀ {ls E:List (Nat×SP)} {b b':SV N.T} {C C':List (SV N.T)} {v:Ce},gI ls b C=Ac (E,(b',C'))->((C'.drop g).all clean)=Br->g<=C.length->b.is C η H v->b'.is C' η H v
 | [],_,_,_,_,_,_,h,_,_,B=>by cases h;omega
 |(s,q)::ls,_,b,_,C,C',v,h,hc,F,B=>by
  unfold gI at h;split at h
  ·rename_i I x r;split at h
   ·split at h
    ·split at h;· rename_i j;obtain⟨p,d,e⟩:=Pd.1 h;cases e;obtain⟨X,A⟩:=Fo d;obtain⟨f,k,u,l,m,o,t,y,z⟩:=B;exact⟨f,k,u,l,m,by rw[A];exact Kt (s:= .CD j) o,t,y,P5 d hc F z⟩
     ·obtain⟨p,d,e⟩:=Pd.1 h;cases e;obtain⟨X,A⟩:=Fo d;obtain⟨f,k,u,l,m,o,t,y,z⟩:=B;have c:p.2.2[C.length]?=Ac x:=by simp_all
      have D:clean x=Br:=by refine IT.1 hc x (Aai (i:=C.length-g) ?_);rw[Aft,show g+(C.length-g)=C.length by omega];exact c
      exact⟨f,k,u,l,m,⟨x,c,CI D o⟩,t,y,P5 d hc (by simp;omega) (Kt z)⟩
    ·obtain⟨p,d,e⟩:=Pd.1 h;cases e;obtain⟨X,A⟩:=Fo d;obtain⟨f,k,u,l,m,o,t,y,z⟩:=B;exact⟨f,k,u,l,m,by rw[A];exact Kt o,t,y,P5 d hc F z⟩
   grind
  grind
def klB(C C':List (SV N.T))(nk:Nat):Bool:=(C'.drop C.length).all clean&&(C'.drop C.length).all λs=>s.AL.all λk=>aT k nk
theorem qJ{k:Nat}{g:Gn}{b b':SV N.T}{ls F:List (Nat×SP)}{C':List (SV N.T)}(h:Sat C CR n Of bs st η H a w)(p:WF C CR bs st)(r:Ax st.O k=Ac (.Af g b))(I:gI ls b C=Ac (F,(b',C')))(q:klB C C' st.nk=Br):
  Sat C' CR n Of bs ⟨st.L,(k, .Af g b')::st.O,st.nk⟩ η H a w/\WF C' CR bs ⟨st.L,(k, .Af g b')::st.O,st.nk⟩:=by
 obtain⟨X,o⟩:=Fo I;unfold klB at q;rw[AS]at q;have m:∀s∈X,clean s=Br/\∀k∈s.AL,k<st.nk:=λs c=>by
  have J:s∈C'.drop C.length:=by grind
  exact⟨IT.1 q.1 s J,λk r=>by have:=IT.1 (IT.1 q.2 s J) k r;simp_all⟩
 have z:An CR st.O k=Ac (.Af g b):=by unfold An;rw[r];rfl
 have hkn:k<st.nk:=Abz λA=>by rw[p.ok k A]at r;grind
 have K:∀j,An CR ((k, .Af g b')::st.O) j=match Hg k j with|true=>Ac (.Af g b')|false=>An CR st.O j:=λj=>by unfold An;simp only[Ax];cases Hg k j<;>rfl
 refine⟨⟨h.inv,h.defers,h.size,λt sv D=>by rw[o];exact Kt (h.Bq t sv D),h.base,?_⟩,⟨p.lo,λj d=>?_,?_,λj d=>?_,λs c=>?_⟩⟩
 ·obtain⟨Y,T,U,V,G⟩:=h.own;refine⟨Y,T,U,V,λj L d=>?_⟩;have f:An CR ((k, .Af g b')::st.O) j=Ac L:=d;rw[K j]at f;split at f
  ·rename_i Z;have:=AI Z;subst this;cases f;rcases G k _ z with e|⟨x,u,B,M,P,Q,R⟩;· cases e
   ·exact .inr ⟨x,u,B,M,P,Q,P5 I q.1 (Aaf _) R⟩
  ·exact(G j L f).imp id λ⟨x,u,W⟩=>⟨x,u,by rw[o];exact V6 W⟩
 ·have d:st.nk<=j:=d;rw[A3 (by omega)];exact p.ok j d
 ·obtain⟨τ,E⟩:=p.wf;refine⟨τ,λt=>?_⟩;have v:=E t;have e:CC C' st.L t=CC C st.L t:=by
   unfold CC;cases D:Ax st.L t with
   |none=>rfl
   |some s=>
    cases s with
    |CD j=>
     obtain⟨s0,O,_⟩:=h.Bq t _ D;simp only[res];rw[Aad,Aad,o,Aaa (No.1 O).1]
    |_=>rfl
  show D' τ (An CR ((k, .Af g b')::st.O)) (CC C' st.L t);rw[e];generalize CC C st.L t=sv at v;cases sv with
  |Ee j i off te y=>
   intro S t' l' l;rw[K j]at l;split at l;· cases l
   ·exact v S t' l' l
  |_=>exact v
 ·obtain⟨s,c,d⟩:=Pe.1 d;rw[o]at c;rcases AT.1 c with c|c;· exact p.mC j (Pe.2 ⟨s,c,d⟩)
  ·exact(m s c).2 j d
 ·rw[o]at c;rcases AT.1 c with c|c;· exact p.cP s c
  ·exact Le (m s c).1
def w7:List (Nat×SP)->Bool
 | []=>Ak
 |(_, .Al)::_=>Br
 |_::l=>w7 l
def qI:List (Nat×RP)->List (SV N.T)->St N.T->Option (List (Nat×RP)×(St N.T×List (SV N.T)))
 | [],C,st=>Ac ([],(st,C))
 |q::l,C,st=>match q.2 with
  | .Af g e=>match w7 e with
   |true=>match Ax st.O q.1 with
    |some (.Af h b)=>match gI e b C with
     |some (c,(f,d))=>match klB C d st.nk with
      |true=>(qI l d ⟨st.L,(q.1, .Af h f)::st.O,st.nk⟩).map λp=>((q.1, .Af g c)::p.1,p.2)
      |false=>Dc
     |none=>Dc
    |_=>Dc
   |false=>(qI l C st).map λp=>(q::p.1,p.2)
  |_=>(qI l C st).map λp=>(q::p.1,p.2)
theorem Us:∀ {l ro:List (Nat×RP)} {C C':List (SV N.T)} {st d:St N.T},qI l C st=Ac (ro,(d,C'))->Sat C CR n Of bs st η H a w->WF C CR bs st->(∃X,C'=C++X)/\Sat C' CR n Of bs d η H a w/\WF C' CR bs d
 | [],_,_,_,_,_,h,g,i=>by cases h;simp_all
 |q::l,ro,C,C',st,d,h,g,i=>by
  have f:(qI l C st).map (λp=>(q::p.1,p.2))=Ac (ro,(d,C'))->(∃X,C'=C++X)/\Sat C' CR n Of bs d η H a w/\WF C' CR bs d:=λh=>by obtain⟨⟨r,s,c⟩,j,e⟩:=Pd.1 h;cases e;exact Us j g i
  unfold qI at h;split at h
  ·split at h
   ·split at h
    ·rename_i D b y;split at h
     ·rename_i z B A k;split at h;· rename_i x;obtain⟨⟨r,s,c⟩,j,e⟩:=Pd.1 h;cases e;obtain⟨m,o⟩:=qJ g i y k x;obtain⟨⟨Y,v⟩,t⟩:=Us j m o;obtain⟨X,u⟩:=Fo k;exact⟨⟨X++Y,by rw[v,u,Aak]⟩,t⟩
      ·cases h
     ·cases h
    ·cases h
   grind
  grind
end
section
variable{w:IK}{P:GO}{g:Er}{ps:Array Tmp}{assign b:Code}{Q:Exit->Act->IK->Prop}{a:Act}{f:FuncId}{us caps:List Ce}{H:Hp}{A O:List Aw}
abbrev EB(D:Nat):Deferred:= {target:= .collected D,args:= #[]}
abbrev BF(D:Nat):Aw:= .Af D (.deferred (Ac []))
def RV(O:List Aw)(M:List Nat):Fm:=⟨M.map BF++O,M.map EB⟩
def K4(D:Nat)(Of:Fm):Fm:=⟨BF D::Of.O,EB D::Of.ds⟩
abbrev Bk(fn:FuncId)(tmps:Array Ce)(ps:Array Tmp)(assign body:Code)(D:Nat):Loop:= {state:= .ready,pending:=Dc,fn,tmps,params:=ps,assign,body,defers:=D}
theorem W6(m:a.eval g= .func (.func f) us.toArray caps.toArray)(d:TO P f)
  (h:∀fn,Calls P f (us++[Ce.func (.yield (w.heap.size+1)) #[] #[]]++caps).toArray ((w.alloc (.deferred (Ac []))).alloc (.loop (Bk fn a.tmps ps assign b w.heap.size))) (λe w'=> ∃v,e= .returned v/\w'.heap[w.heap.size+1]?=Ac (.loop (Bk fn a.tmps ps assign b w.heap.size))/\
   Q .normal {a with defers:=EB w.heap.size::a.defers} (w'.putObj (w.heap.size+1) (.loop {Bk fn a.tmps ps assign b w.heap.size with state:= .exhausted})))):(Alz g ps assign b).wp P Q a w:=by
 refine(wpIn_wide (n:=0)).1 (wpIn_rangeFunc λfn _=>?_);refine⟨w.heap.size+1,[EB w.heap.size],(w.alloc (.deferred (Ac []))).alloc (.loop (Bk fn a.tmps ps assign b w.heap.size)),⟨.fn (.func f) caps.toArray,us.toArray++ #[Ce.func (.yield (w.heap.size+1)) #[] #[]]⟩,(w.alloc (.deferred (Ac []))).alloc (.loop (Bk fn a.tmps ps assign b w.heap.size)),f,(us++[Ce.func (.yield (w.heap.size+1)) #[] #[]]++caps).toArray,(w.alloc (.deferred (Ac []))).alloc (.loop (Bk fn a.tmps ps assign b w.heap.size)),?_,?_,?_,?_,?_,?_⟩;· simp_all[run_enterLoop_outer]
 ·have:a.eval (.const (Ce.func (.yield (w.heap.size+1)) #[] #[]))=Ce.func (.yield (w.heap.size+1)) #[] #[]:=rfl;simp_all[resolve,rz]
 ·exact λ_ _=>trivial
 ·have:=d.run (us++[Ce.func (.yield (w.heap.size+1)) #[] #[]]++caps).toArray ((w.alloc (.deferred (Ac []))).alloc (.loop (Bk fn a.tmps ps assign b w.heap.size)));grind[invoke]
 ·trivial
 ·refine callsIn_wide.2 ((h fn).mono ?_);rintro e w' ⟨v,rfl,k,l⟩;exact⟨Dc,_,by simp_all[run_endLoop],l⟩
theorem W5(r:a.eval g= .func (.func f) us.toArray caps.toArray)(l:TO P f)
  (h:∀fn,Calls P f (us++[Ce.func (.yield (w.heap.size+1)) #[] #[]]++caps).toArray ((w.alloc (.deferred (Ac []))).alloc (.loop (Bk fn a.tmps ps assign b w.heap.size))) (λe w'=> ∃v d,e= .returned v/\w'.heap[w.heap.size+1]?=Ac (.loop d)/\d.state≠ .busy/\
   (
    match d.pending with
    |none=>Q .normal {a with defers:=EB w.heap.size::a.defers} (w'.putObj (w.heap.size+1) (.loop {d with state:= .exhausted}))
    |some c=>c.wp P Q {a with defers:=EB w.heap.size::a.defers} (w'.putObj (w.heap.size+1) (.loop {d with state:= .exhausted}))))):(Alz g ps assign b).wp P Q a w:=by
 refine(wpIn_wide (n:=0)).1 (wpIn_rangeFunc λfn _=>?_);refine⟨w.heap.size+1,[EB w.heap.size],(w.alloc (.deferred (Ac []))).alloc (.loop (Bk fn a.tmps ps assign b w.heap.size)),⟨.fn (.func f) caps.toArray,us.toArray++ #[Ce.func (.yield (w.heap.size+1)) #[] #[]]⟩,(w.alloc (.deferred (Ac []))).alloc (.loop (Bk fn a.tmps ps assign b w.heap.size)),f,(us++[Ce.func (.yield (w.heap.size+1)) #[] #[]]++caps).toArray,(w.alloc (.deferred (Ac []))).alloc (.loop (Bk fn a.tmps ps assign b w.heap.size)),?_,?_,?_,?_,?_,?_⟩;· simp_all[run_enterLoop_outer]
 ·have:a.eval (.const (Ce.func (.yield (w.heap.size+1)) #[] #[]))=Ce.func (.yield (w.heap.size+1)) #[] #[]:=rfl;simp_all[resolve,rz]
 ·exact λ_ _=>trivial
 ·have:=l.run (us++[Ce.func (.yield (w.heap.size+1)) #[] #[]]++caps).toArray ((w.alloc (.deferred (Ac []))).alloc (.loop (Bk fn a.tmps ps assign b w.heap.size)));grind[invoke]
 ·trivial
 ·refine callsIn_wide.2 ((h fn).mono ?_);rintro e w' ⟨v,d,rfl,p,q,m⟩;refine⟨d.pending,_,run_endLoop (P:=P) p q,?_⟩;obtain⟨st,s,o,y,x,aS,t,u⟩:=d;cases s with
  |none=>exact m
  |some c=>exact wpIn_wide.2 m
theorem Jn(w:IK)(b:Nat)(o:Obj):w.grownBy (w.putObj b o) (Ac b):=⟨rfl,rfl,rfl,by simp,λk _ a=>IK.putObj_heap_other (λe=>by grind)⟩
theorem Agh{b:Nat}{o:Obj}(h:SH w H (A++ .Af b o::O))(o':Obj):SH (w.putObj b o') H (A++O):=by
 have g:(A++ .Af b o::O)[A.length]?=Ac (.Af b o):=by simp
 have j:w.heap[b]?=Ac o:=h.ok _ _ g;have d:b<w.heap.size:=(Adu.1 j).1;have i:=h.set g (r':= .Af b o') (Jn w b o') (IK.putObj_heap_same d) (λc hc=> .inl hc);have f:=i.drop A.length;grind
theorem Ahe{x y:Aw}(h:SH w H (x::y::(A++O))):SH w H (A++x::y::O):=by
 refine h.pick (λi=>if i<A.length then i+2 else if i<A.length+2 then i-A.length else i) (λi r a=>?_) λi j _ _ e=>?_
 ·by_cases b:i<A.length;· simp_all[if_true,Aaa,Acs]
  ·rw[Aac (by omega)]at a;simp only[b,if_false];by_cases c:i<A.length+2;· grind
   ·simp only[c,if_false];obtain⟨j,rfl⟩:∃j,i=A.length+2+j:=⟨i-(A.length+2),by omega⟩;rw[show A.length+2+j-A.length=j+2 by omega]at a;rw[show A.length+2+j=(A.length+j)+2 by omega];simp_all[Acs,Aac]
 grind
end
section
variable {N : Df} {R : Type} {P : GO} [C9 N P] {C : List (SV N.T)} {CR : List (SR N.T)} {n : Nat} {O : List Aw} {bs : List (Nat × Ce)} {r : R}
section
variable{H:Hp}{st:St N.T}{η:Nat->Ce}{fn:Func}
def FA(l:SV N.T)(cs:List Nat):List (SV N.T):=Ta l++[.no]++cs.map (λc=> .loc c 0)
def oP(C:List (SV N.T))(CR:List (SR N.T))(n:Nat)(st:St N.T)(a:List (SV N.T))(cs:List Nat)(kn:St N.T->Option R):List (PQ N)->Option R
 | []=>Dc
 |q::c=>match WI C (An CR st.O) st.nk q a cs (λs b=>match G_ CR n st Dc s b with|true=>kn (app st Dc s b)|false=>Dc)with
  |some z=>z
  |none=>oP C CR n st a cs kn c
def oR(Φ:Nat->Option (CQ N))(C:List (SV N.T))(CR:List (SR N.T))(n:Nat)(g:Er)(st:St N.T)(kn:St N.T->Option R):Option R:=match Av (CC C st.L) g with
 | .AA f l a=>match vv l&&a.all λc=>match An CR st.O c with|some (.Af _ _)=>Br|_=>Ak with
  |true=>match Φ f with
   |some (.PI b)=>oP C CR n st (FA l a) a kn b
   |_=>Dc
  |false=>Dc
 |_=>Dc
theorem fM{Φ:Nat->Option (CQ N)}(hΦ:∀f q,Φ f=Ac q->Bw P f q){g:Er}{ps:Array Tmp}{assign d:Code}{kn:St N.T->Option R}{Of:Fm}{a:Act}{w:IK}{Q:Exit->Act->IK->Prop}
  (h:Sat C CR n Of bs st η H a w) (hw:WF C CR bs st) (o:oR Φ C CR n g st kn=Ac r)
  (hn:∀D I η' L a' w',H.le L->Sat C CR n (K4 D Of) bs I η' L a' w'->WF C CR bs I->kn I=Ac r->Q .normal a' w'):(Alz g ps assign d).wp P Q a w:=by
 unfold oR at o;split at o
 ·rename_i f l G hs;
           split at o
  ·rename_i hb;
         rw[AS]at hb;split at o;· rename_i qs hq;have hS:∀q∈qs,Ch P f q:=hΦ f _ hq;clear hq;have hg:=h.ev g;rw[hs]at hg;obtain⟨us,e,hl⟩:=hg;obtain⟨g1,g2⟩:=Na hb.1 hl;induction qs with
    |nil=>cases o
    |cons q qs ih=>
     unfold oP at o;split at o
     ·rename_i z E;subst o;unfold WI at E;simp only at E;split at E
      ·rename_i m;simp only[AS]at m;split at E
       ·rename_i x hx;obtain⟨y,hy,E⟩:=Bj (Abs E);have W:=hS q (by simp);obtain⟨c1,c2⟩:=Nh (P:=P) (f:=f) (ex:=G) W m.2.2.1 m.2.2.2 (AI m.1) (λp hp=>by simpa using IT.1 m.2.1 p hp) hx hy (λj hj=>by unfold An;rw[hw.ok j hj]);split at E
        ·rename_i hsb;have hW:Ph C CR n st Dc ⟨(Jl q y).DS (GW (Hh C (An CR st.O) (λi=>(FA l G).getD i .no) q.pi) q.pi.nk st.nk),q.pi.ro.map (λp=>AZ (Hh C (An CR st.O) (λi=>(FA l G).getD i .no) q.pi) p.1)++G,Pk q (GW (Hh C (An CR st.O) (λi=>(FA l G).getD i .no) q.pi) q.pi.nk st.nk) y⟩ (st.nk+(q.po.nk-q.pi.nk)):=⟨hsb,Nat.le_add_right _ _,c2,λτ _=>VA m.2.2.2⟩;refine W6 (us:=us) (caps:=G.map η) e W.YZ λfn=>?_;have hw1:SH ((w.alloc (.deferred (Ac []))).alloc (.loop (Bk fn a.tmps ps assign d w.heap.size))) H (.Af (w.heap.size+1) (.loop (Bk fn a.tmps ps assign d w.heap.size))::BF w.heap.size::(h.own.choose.map (·.2)++Of.O)):=by
          have:=(h.own.choose_spec.2.1.alloc (.deferred (Ac []))).alloc (.loop (Bk fn a.tmps ps assign d w.heap.size));simpa using this
         have T:Sat C CR n ⟨.Af (w.heap.size+1) (.loop (Bk fn a.tmps ps assign d w.heap.size))::BF w.heap.size::Of.O,Of.ds⟩ bs st η H a ((w.alloc (.deferred (Ac []))).alloc (.loop (Bk fn a.tmps ps assign d w.heap.size))):=
          ⟨h.inv,h.defers,h.size,h.Bq,h.base,h.own.choose,h.own.choose_spec.1,Ahe hw1,h.own.choose_spec.2.2.1,h.own.choose_spec.2.2.2⟩;refine T.stepG hw hW (goal:=Calls P f _ _ _) (K:=λv w'=>(w'.heap[w.heap.size+1]?=Ac (.loop (Bk fn a.tmps ps assign d w.heap.size))/\Q .normal {a with defers:=EB w.heap.size::a.defers} (w'.putObj (w.heap.size+1) (.loop {Bk fn a.tmps ps assign d w.heap.size with state:= .exhausted})))) (λY hn' hsh hr hf hk=>?_) λη' L v w' hle u=>?_
         ·refine c1 η H _ _ Y hn' hsh h.inv hr hf (us++[Ce.func (.yield (w.heap.size+1)) #[] #[]]++G.map η) (by simp[FA,g1]) (λi s t=>?_) _ _ (λO' R' ht U hk'=>?_) hk
          ·unfold FA at t;rw[Aak]at t⊢;by_cases c1':i<(Ta l).length;· rw[Aaa c1']at t;rw[Aaa (by omega)];exact g2 i s t
           ·rw[Aac (by omega)]at t;rw[Aac (by omega),g1];generalize hj:i-(Ta l).length=j at t⊢;cases j with
            |zero=>
             simp at t;subst t;exact⟨_,rfl,trivial⟩
            |succ j=>
             simp only[Afh,Aci,Acs,Acb]at t⊢;obtain⟨c,hc,rfl⟩:=Pd.1 t;have S:=Aai hc;have M:=IT.1 hb.2 c S;refine⟨η c,by rw[hc];rfl,?_⟩;split at M
             ·rename_i g' b hR;rcases hr c (.inl (Aca _ S)) _ hR with e|⟨X,_,B,_,b1,_⟩;· cases e
              ·exact⟨B,b1,b1⟩
             ·cases M
          ·refine(ht _ U).mono ?_;rintro e' w' ⟨v,L,O2,rfl,k2,k3,k4⟩;obtain⟨q1,q2⟩:=hk' v w' L O2 k2 k4 k3;exact⟨v,rfl,q1,q2⟩
         ·obtain⟨Z,y1,y2,y3,y4⟩:=u.own;have t:(Z.map (·.2)++Aw.Af (w.heap.size+1) (.loop (Bk fn a.tmps ps assign d w.heap.size))::BF w.heap.size::Of.O)[(Z.map (·.2)).length]?=Ac (.Af (w.heap.size+1) (.loop (Bk fn a.tmps ps assign d w.heap.size))):=by simp
          have hob:w'.heap[w.heap.size+1]?=Ac (.loop (Bk fn a.tmps ps assign d w.heap.size)):=y2.ok _ _ t;refine⟨hob,?_⟩;have V:=Agh (A:=Z.map (·.2)) y2 (.loop {Bk fn a.tmps ps assign d w.heap.size with state:= .exhausted});refine hn w.heap.size _ η' L _ _ hle ⟨u.inv,?_,u.size,u.Bq,u.base,Z,y1,V,y3,y4⟩ (hw.Vs hW) E;show EB w.heap.size::a.defers=EB w.heap.size::Of.ds;rw[h.defers]
        ·cases E
       trivial
      grind
     grind
   grind
  grind
 grind
theorem Jt{fn:Func}{st:St N.T}{η:Nat->Ce}{H:Hp}{X:Ending->IK->Prop} :∀ {M:List Nat} {a:Act} {w:IK},Sat C CR n (RV O M) bs st η H a w->
  (∀w',Sat C CR n (RV O []) bs st η H {a with defers:=[]} w'->∃v,(results fn a.tmps).run P w'= .ok v w'/\X (.returned v) w')->LeavesInM qF 0 P fn a.tmps X (M.map EB) .returning w
 | [],a,w,h,k=>(λ(_:C9 N P)=>k w ⟨h.inv,rfl,h.size,h.Bq,h.base,h.own⟩) inferInstance
 |D::M,a,w,h,k=>by
  obtain⟨Y,i,j,l,m⟩:=h.own;have c:SH w H (Y.map (·.2)++Aw.Af D (.deferred (Ac []))::(RV O M).O):=j;have f:(Y.map (·.2)++Aw.Af D (.deferred (Ac []))::(RV O M).O)[(Y.map (·.2)).length]?=Ac (.Af D (.deferred (Ac []))):=by simp
  have g:w.heap[D]?=Ac (.deferred (Ac [])):=c.ok _ _ f;refine⟨by simp, .inl ⟨D,_,rfl,run_takeDeferred g,?_⟩⟩;have e:=Agh c (.deferred Dc);exact Jt (a:= {a with defers:=M.map EB}) ⟨h.inv,rfl,h.size,h.Bq,h.base,Y,i,e,l,m⟩ k
theorem Tw.ofM{f:FuncId}{c:Code}{vs:List Ce}{R:Ce->Hp->List Aw->Prop}(e:P.funcs[f]?=Ac fn)(d:fn.body=Ac c)(g:fn.ntmps=n)(b:iJ vs.length n=Br)
  (h:∀a w,Fr a n (KM 0 vs)->SH w H O->c.wp P (bodyPostM qF 0 P fn (Ret H R)) a w):Tw P f vs H O R:=λw i=>by
 subst g;exact(callsIn_wide (n:=0)).1 (callsIn_of_wp_marks e d trivial ((wpIn_wide (n:=0)).2 (h _ w (Fr.enter vs _ b) i)) rfl)
end
end
inductive Gh where
 |fz (t:Nat)
 |own (t:Nat) (g:Gn) (te:Ty)
 |NC (t off:Nat)
 |Cn (t off:Nat) (g:Gn) (te:Ty)
 |fm (t:Nat) (e:Gn)
structure Cx(N:Df)where
 P:GO
 Φ:Nat->Option (CQ N)
 la:Nat->Option A9
 jn:Nat->Option A9
 pre:Nat->List Gh
 post:Nat->List Gh
 kb:Nat
 n:Nat
 ct:Nat->Nat:=λ_=>0
def Lp:Code->Option Nat
 | .region i _ _=>Ac i
 | .seq a b=>match Lp a with
  |some i=>Ac i
  |none=>Lp b
 | .cond _ a b=>match Lp a with
  |some i=>Ac i
  |none=>Lp b
 | .block _ a=>Lp a
 | .loop a=>Lp a
 | .scope a=>Lp a
 | .rangeFunc _ _ a b=>match Lp a with
  |some i=>Ac i
  |none=>Lp b
 |_=>Dc
section
variable {N : Df} {R : Type}
def Qc(C:List (SV N.T))(CR:List (SR N.T)):List Gh->St N.T->(St N.T->Option R)->Option R
 | [],st,k=>k st
 | .fz t::l,st,k=>match CC C st.L t with
  | .AE j=>match An CR st.O j with
   |some (.row _ a c)=>Qc C CR l (JI j a c st) k
   |some (.Cr _ _ a _ c)=>Ah (c.all (·.1)=Br) (Qc C CR l (JI j (.sl a) (c.map (·.2)) st) k)
   |_=>Dc
  | .d _ _=>Qc C CR l st k
  |_=>Dc
 | .own t g a::l,st,k=>match CC C st.L t with
  | .AE _=>Qc C CR l st k
  | .raw (.slice Dc 0 0)=>match C7 CR st st.nk with
   |true=>Qc C CR l ⟨(t, .AE st.nk)::st.L,(st.nk, .row g a [])::st.O,st.nk+1⟩ k
   |false=>Dc
  |_=>Dc
 | .NC t off::l,st,k=>match CC C st.L t with
  | .loc b _=>match An CR st.O b with
   |some (.Af _ x)=>match E0 N C x off Dc with
    |some (.AE j)=>match An CR st.O j with
     |some (.row _ a c)=>Qc C CR l (JI j a c st) k
     |_=>Dc
    |_=>Dc
   |_=>Dc
  |_=>Dc
 | .Cn t off g a::l,st,k=>match CC C st.L t with
  | .loc b _=>match An CR st.O b with
   |some (.Af i x)=>match E0 N C x off Dc,C7 CR st st.nk,eM N C 64 x off 1 (.AE st.nk)with
    |some (.raw (.slice Dc 0 0)),Br,Ac m=>Qc C CR l ⟨st.L,(b, .Af i m)::(st.nk, .row g a [])::st.O,st.nk+1⟩ k
    |_,_,_=>Dc
   |_=>Dc
  |_=>Dc
 | .fm t e::l,st,k=>match CC C st.L t with
  | .AE b=>match An CR st.O b,C7 CR st st.nk with
   |some (.row g (.sl a) c),Br=>Qc C CR l ⟨st.L,(b, .Cr g e a st.nk (T9 c.length (Ak,[])))::(st.nk, .gone)::st.O,st.nk+1⟩ k
   |_,_=>Dc
  |_=>Dc
variable {P : GO} [C9 N P] {C : List (SV N.T)} {CR : List (SR N.T)} {n : Nat} {Of : Fm} {O : List Aw} {bs : List (Nat × Ce)} {r : R}
theorem FD{a:Act}{w:IK}{k:St N.T->Option R}{X:Prop} :∀ {l:List Gh} {st:St N.T} {η:Nat->Ce} {H:Hp},Sat C CR n Of bs st η H a w->WF C CR bs st->Qc C CR l st k=Ac r->
  (∀c η' u,H.le u->Sat C CR n Of bs c η' u a w->WF C CR bs c->k c=Ac r->X)->X
 | [],st,η,H,h,f,b,d=>d st η H (Hp.le.refl H) h f b
 | .fz t::l,st,η,H,h,f,b,d=>by
  unfold Qc at b;split at b
  ·split at b;· rename_i g s D m;obtain⟨u,A,o,p⟩:=Sz h f m;exact FD o p b λc η' i q v y z=>d c η' i (A.trans q) v y z
   ·rename_i g J s Q D m;obtain⟨hc,b⟩:=AG b;obtain⟨u,A,o,p⟩:=q7 h f m hc;exact FD o p b λc η' i q v y z=>d c η' i (A.trans q) v y z
   grind
  ·exact FD h f b d
  grind
 | .own t g s::l,st,η,H,h,f,b,d=>by
  unfold Qc at b;split at b;· exact FD h f b d
  ·rename_i e;split at b;· rename_i m;obtain⟨η',o,p⟩:=oY (g:=g) (t:=s) h f m e;exact FD o p b d
   ·cases b
  grind
 | .NC t off::l,st,η,H,h,f,b,d=>by
  unfold Qc at b;split at b
  ·split at b
   ·split at b
    ·split at b;· rename_i g s D m;obtain⟨u,A,o,p⟩:=Sz h f m;exact FD o p b λc η' i q v y z=>d c η' i (A.trans q) v y z
     ·cases b
    ·cases b
   ·cases b
  ·cases b
 | .Cn t off g s::l,st,η,H,h,f,b,d=>by
  unfold Qc at b;split at b
  ·split at b
   ·rename_i M x I;split at b;· rename_i S B m F;obtain⟨η',o,p⟩:=fY (g:=g) (t:=s) h f m I B F rfl;exact FD o p b d
    ·cases b
   ·cases b
  ·cases b
 | .fm t e::l,st,η,H,h,f,b,d=>by
  unfold Qc at b;split at b
  ·split at b;· rename_i g s D B m;obtain⟨η',o,p⟩:=xj (e:=e) h f m B;exact FD o p b d
   ·cases b
  ·cases b
def xE(C:List (SV N.T))(st:St N.T)(p:A9):List (SV N.T):=(Lt st.L p.sl C).2
def iM(CR:List (SR N.T))(st:St N.T)(p:A9):List (SR N.T):=(Lu st.O p.ro CR).2
def rN(C:List (SV N.T))(CR:List (SR N.T))(st:St N.T)(p:A9):St N.T:=⟨vu (Lt st.L p.sl C).1++st.L,nH (Lu st.O p.ro CR).1++st.O,st.nk⟩
def cnK(C:List (SV N.T))(CR:List (SR N.T))(st:St N.T)(p:A9):Bool:=cnB C (xE C st p) CR st p.sl&&CR.all (S8 C.length)
structure Kc(T:Nat->Type)where
 sl:List (Nat×SP)
 ro:List (Nat×RP)
 C:List (SV T)
 CR:List (SR T)
 st:St T
section
variable{H:Hp}{st:St N.T}{η:Nat->Ce}{a:Act}{w:IK}{p:A9}{C':List (SV N.T)}{b:List (SR N.T)}{G:Hp->Fm->R->Prop}{k:St N.T->Option R}{Q:Act->IK->Prop}
def wR(C:List (SV N.T))(CR:List (SR N.T))(st:St N.T)(p:A9):Option (Kc N.T):=match qI p.ro C st with
 |some (b,(a,c))=>match cnK c CR a ⟨p.hs,p.sl,b,p.nk⟩&&CR.all (S8 C.length)with
  |true=>Ac ⟨(Lt a.L p.sl c).1,(Lu a.O b CR).1,xE c a ⟨p.hs,p.sl,b,p.nk⟩,iM CR a ⟨p.hs,p.sl,b,p.nk⟩,rN c CR a ⟨p.hs,p.sl,b,p.nk⟩⟩
  |false=>Dc
 |none=>Dc
def GQ(p:A9)(q:Kc N.T):A9:=⟨p.hs,q.sl,q.ro,p.nk⟩
theorem rM(h:Sat C CR n Of bs st η H a w)(c:WF C CR bs st)(b:cnK C CR st p=Br):
  (∃X,xE C st p=C++X)/\(∃Z,iM CR st p=CR++Z)/\CR.all (S8 C.length)=Br/\Sat (xE C st p) (iM CR st p) n Of bs (rN C CR st p) η H a w/\WF (xE C st p) (iM CR st p) bs (rN C CR st p):=by
 unfold cnK at b;rw[AS]at b;exact⟨(KE p.sl C).1,(KF p.ro CR λ_ _ _ _=> .inr trivial).1,b.2,xD h c b.1⟩
theorem ZI(d:∃X,C'=C++X)(e:∃Z,b=CR++Z)(c:CR.all (S8 C.length)=Br)(h:Sat C' b n Of bs st η H a w)(f:WF C' b bs st):
  Sat C CR n Of bs (D4 C' b C.length CR.length st) η H a w/\WF C CR bs (D4 C' b C.length CR.length st):=by
 grind[wb]
theorem Ut{q:Kc N.T}(h:Sat C CR n Of bs st η H a w)(m:WF C CR bs st)(b:wR C CR st p=Ac q):
  (∃X,q.C=C++X)/\(∃Z,q.CR=CR++Z)/\CR.all (S8 C.length)=Br/\Sat q.C q.CR n Of bs q.st η H a w/\WF q.C q.CR bs q.st:=by
 unfold wR at b;split at b
 ·rename_i t o s l;split at b;· rename_i hc;cases b;rw[AS]at hc;obtain⟨⟨X,k⟩,i,j⟩:=Us l h m;obtain⟨⟨c,d⟩,e,_,f,g⟩:=rM i j hc.1;simp_all
  grind
 grind
def Kn(C:List (SV N.T))(CR:List (SR N.T))(n:Nat)(G:Hp->Fm->R->Prop)(bs:List (Nat×Ce))(H:Hp)(k:St N.T->Option R)(Q:Act->IK->Prop):Prop:= ∀Of r st η b a w,H.le b->G b Of r->Sat C CR n Of bs st η b a w->WF C CR bs st->k st=Ac r->Q a w
theorem Kn.le{d:Hp}(h:Kn C CR n G bs H k Q)(c:H.le d):Kn C CR n G bs d k Q:=λOf r st η b a w e=>h Of r st η b a w (c.trans e)
theorem Kn.rs(l:∃X,C'=C++X)(m:∃Z,b=CR++Z)(c:CR.all (S8 C.length)=Br)(h:Kn C CR n G bs H k Q):
  Kn C' b n G bs H (λs=>k (D4 C' b C.length CR.length s)) Q:=λOf r st η d a w p o g i j=>by
 obtain⟨e,f⟩:=ZI l m c g i;exact h Of r _ η d a w p o e f j
end
end
section
variable {N : Df} {C : List (SV N.T)} {CR : List (SR N.T)} {n : Nat} {Of : Fm} {bs : List (Nat × Ce)} {st : St N.T} {η : Nat -> Ce} {H : Hp} {a : Act} {w : IK}
section
variable{T:Nat->Type}{Hs:List (Nat×SV N.T)}{m:List (Nat×Nat)}{b:List HT}{x:BK N b}{t:Ty}{v:t.den N.T}{ρ:Nat->Nat}{A:Nat->SV N.T}{q:A9}{O:List (Nat×SR N.T)}
def kp1:SV T->SV T->Bool
 | .AE k, .AE j=>Hg k j
 | .mp k, .mp j=>Hg k j
 | .AA f .vn c, .AA g .vn b=>Hg f g&&Lv c b
 | .px c .sf, .px b .sf=>Lv c b
 |_,_=>Ak
theorem qH{T:Nat->Type}{a b:SV T}(h:kp1 a b=Br):a=b:=by
 unfold kp1 at h;split at h;· simp_all
 ·simp_all
 ·grind[aP,EK]
 all_goals grind[EK]
def kpV(p:SP)(a b:SV T):Bool:=match p with
 | .v _ t=>match a,b with
  | .d _ _, .d c _=>c.JM t
  |_,_=>Ak
 |_=>kp1 a b
def kpL{T:Nat->Type} :List (Nat×SP)->SV T->SV T->Bool
 | [], .nl, .nl=>Br
 |(s,p)::c, .lf n a l, .lf m b r=>Hg s m&&(Hg n m&&(aT 0 m&&(kpV p a b&&kpL c l r)))
 |_,_,_=>Ak
def wQ(p:RP)(a b:SR T):Bool:=match p,a,b with
 | .row _ _, .row c _ _, .row d _ _=>Hg c d
 | .Af _ e, .Af c a, .Af d b=>Hg c d&&kpL e a b
 |_,_,_=>Ak
theorem RF(i:dD C Hs (CB N b x)){j:Nat}(o:(j,SV.d t v)∈Hs):CB N b x j= .no\/(∃k,CB N b x j= .na k)\/CB N b x j= .d t v:=by
 rcases i.ok j _ o with e|⟨h,y,c,g⟩;· grind
 ·cases h with
  |nat=>trivial
  |Ae t2=>
   have c:eQ N t2 (.d t v)=Ac y:=c;obtain⟨f,m,rfl⟩:=Pd.1 c;obtain⟨l,rfl⟩:=BB m;have e:=Adj l;subst e;exact .inr (.inr g)
theorem qD{t2:Ty}{m:Nat}{r:SV N.T}(g:aT 0 m=Br)(b:t.JM t2=Br):E0 N C (.lf m (.d t v) r) 0 (Ac t2)=Ac (.d t v):=by
 have e:=Adj b;subst e;have c:Fh N 16 t v 0 t=Ac v:=by unfold Fh Qr;rw[dif_pos b];rfl
 grind[E0,Hg,PM,res,Fh]
theorem qC{s:Nat}{a l:SV N.T}{o:Nat}{b:Option Ty} :E0 N C (.lf s a l) (s+o) b=E0 N C l o b:=by
 have h:aT (s+o) s=Ak:=by
  cases c:aT (s+o) s with
  |false=>rfl
  |true=>
   have:s+o<s:=by simp_all
   omega
 simp_all[E0]
theorem aY{g:List HT}{x:BK N g}{Hs:List (Nat×SV N.T)}{b:SV N.T}{ρ:Nat->Nat}(A:dD C Hs (CB N g x)):∀(ls:List (Nat×SP)) (off:Nat) (f:SV N.T),(∀o i,E0 N C b (off+o) i=E0 N C f o i)->(∀q∈NK off ls,∀j t,q.2.2= .v j t->(j,(E0 N C b q.1 (Ac t)).getD .no)∈Hs)->kpL ls ((instL N g x ls).DS ρ) f=Br->(instL N g x ls).DS ρ=f
 | [],_,f,_,_,h=>by
  cases f with
  |nl=>rfl
  |_=>cases h
 |(s,p)::ls,off,f,D,E,h=>by
  cases f with
  |lf m d r=>
   have h:(Hg s m&&(Hg s m&&(aT 0 m&&(kpV p ((inst N g x p).DS ρ) d&&kpL ls ((instL N g x ls).DS ρ) r))))=Br:=h;simp only[AS]at h;obtain⟨e,_,G,u,I⟩:=h;have e:=AI e;subst e;have K:=aY (Hs:=Hs) (b:=b) (ρ:=ρ) A ls (off+s) r (λo i=>by rw[Ads,D,qC]) (λq y=>E q (Aag _ y)) I;have J:(inst N g x p).DS ρ=d:=by
    unfold kpV at u;split at u
    ·rename_i j t;split at u
     ·rename_i L M t2 O l;have B:=E (off,s, .v j t) (Aas ..) j t rfl;have F:E0 N C b off (Ac t)=Ac (.d t2 O):=by
       rw[show off=off+0 from rfl,D];exact qD G u
      rw[F]at B;have l:(CB N g x j).DS ρ= .d L M:=l;rcases RF A B with e|⟨k,e⟩|e;· rw[e]at l;cases l
      ·rw[e]at l;cases l
      ·show(CB N g x j).DS ρ=_;rw[e];rfl
     grind
    grind[qH]
   show SV.lf s ((inst N g x p).DS ρ) ((instL N g x ls).DS ρ)=_;grind
  |_=>cases h
theorem qG{i:List HT}{x:BK N i}(v:dD C Hs (CB N i x)){p:RP}{f:SR N.T}(h1:∀g j r t l,p= .row g j->f= .row r t l->(j,SV.d (.sl t) l)∈Hs)(h2:∀g ls r b,p= .Af g ls->f= .Af r b->∀z∈qY N C b ls,z∈Hs)(h:wQ p ((instR N i x p).DS ρ) f=Br):(instR N i x p).DS ρ=f:=by
 unfold wQ at h;split at h
 ·rename_i g j s F D u t2 E e;have A:=h1 g j u t2 E rfl rfl;have e:(match CB N i x j with
   | .d (.sl t) l=>SR.row g t l
   |_=> .gone:SR N.T).DS ρ= .row s F D:=e;show(match CB N i x j with
   | .d (.sl t) l=>SR.row g t l
   |_=> .gone:SR N.T).DS ρ=_;rcases RF v A with m|⟨k,m⟩|m;· rw[m]at e;cases e
  ·rw[m]at e;cases e
  ·rw[m]at e⊢;cases e;rw[<-AI h];rfl
 ·rename_i g ls s a u b e;rw[AS]at h;have e:SR.Af g ((instL N i x ls).DS ρ)= .Af s a:=e;cases e;have:=aY (Hs:=Hs) (b:=b) (ρ:=ρ) v ls 0 b (λo y=>by simp) (λq B j t e=>h2 g ls u b rfl rfl _ ((GC B).1 j t e)) h.2;simp_all
 grind
theorem bU{Rr:Nat->Option (SR N.T)}{x:BK N q.hs}(d:JN C Rr A m q=Ac x):dD C (eN C A q.sl++eP C Rr m q.ro) (CB N q.hs x):=by
 unfold JN at d;split at d;· rename_i b;simp only[AS]at b;obtain⟨l,p,o,i⟩:=b;have c:=BM i;exact⟨λj s k=>by
  rcases JH q.hs 0 x d j with e|⟨h,y,f,g⟩;· grind
  ·refine .inr ⟨h,y,?_,g⟩;rw[Abm,CT c k]at f;exact f⟩
 grind
def Y2(CR:List (SR N.T))(b:List HT)(x:BK N b)(m:List (Nat×Nat))(O:List (Nat×SR N.T)):List (Nat×RP)->List (Nat×SR N.T)
 | []=>[]
 |p::l=>match Ax O (AZ m p.1)with
  |some (.CD j)=>match wQ p.2 ((instR N b x p.2).DS (AZ m)) (Db CR (.CD j))with
   |true=>(AZ m p.1, .CD j)::Y2 CR b x m O l
   |false=>Y2 CR b x m O l
  |_=>Y2 CR b x m O l
def UO(l:List (Nat×SR N.T))(st:St N.T):St N.T:=⟨st.L,l++st.O,st.nk⟩
theorem QJ{b:List HT}{x:BK N b}{m:List (Nat×Nat)}{O:List (Nat×SR N.T)} :∀ {l:List (Nat×RP)} {z:Nat×SR N.T},z∈Y2 CR b x m O l->∃p∈l,z.1=AZ m p.1/\Ax O z.1=Ac z.2/\wQ p.2 ((instR N b x p.2).DS (AZ m)) (Db CR z.2)=Br
 | [],z,h=>by cases h
 |p::l,z,h=>by
  unfold Y2 at h;have d:z∈Y2 CR b x m O l->∃c∈p::l,z.1=AZ m c.1/\Ax O z.1=Ac z.2/\wQ c.2 ((instR N b x c.2).DS (AZ m)) (Db CR z.2)=Br:=λh=>by obtain⟨c,f,g⟩:=QJ h;grind
  grind
theorem xK{x:BK N q.hs}(G:JN C (An CR O) A m q=Ac x)(r:(q.ro.map λp=>AZ m p.1).Nodup)(k:Nat):An CR (Y2 CR q.hs x m O q.ro++((q.ro.map λp=>(AZ m p.1,(instR N q.hs x p.2).DS (AZ m)))++O)) k=An CR ((q.ro.map λp=>(AZ m p.1,(instR N q.hs x p.2).DS (AZ m)))++O) k:=by
 have s:=bU G;cases o:Ax (Y2 CR q.hs x m O q.ro) k with
 |none=>grind[An,BX]
 |some v=>
  obtain⟨p,u,e,y,B⟩:=QJ (A5 o);have e:k=AZ m p.1:=e;have d:An CR O (AZ m p.1)=Ac (Db CR v):=by grind[An]
  have key:=qG (ρ:=AZ m) s (λg j D t l i h=>Aca _ (Pe.2 ⟨p,u,by simp_all⟩)) (λg J D b i h z I=>Aca _ (Pe.2 ⟨p,u,by rw[i,d,h];exact I⟩)) B;have F:Ax ((q.ro.map λp=>(AZ m p.1,(instR N q.hs x p.2).DS (AZ m)))++O) k=Ac ((instR N q.hs x p.2).DS (AZ m)):=by
   have E:Ax (q.ro.map λp=>(AZ m p.1,(instR N q.hs x p.2).DS (AZ m))) k=Ac ((instR N q.hs x p.2).DS (AZ m)):=by rw[e];exact CT (by unfold keys;rw[Aaj];exact r) (By.2 ⟨p,u,rfl⟩)
   rw[BX,E]
  unfold An;rw[BX,o,F,key];show Ac (Db CR v)=Ac (Db CR (Db CR v));rw[<-key];cases instR N q.hs x p.2<;>rfl
theorem xM{l:List (Nat×SR N.T)}(h:Sat C CR n Of bs st η H a w)(b:WF C CR bs st)(q:∀k,An CR (l++st.O) k=An CR st.O k)(p:∀z∈l,z.1<st.nk):Sat C CR n Of bs (UO l st) η H a w/\WF C CR bs (UO l st):=by
 have e:An CR (UO l st).O=An CR st.O:=funext q;refine⟨⟨h.inv,h.defers,h.size,h.Bq,h.base,?_⟩,⟨b.lo,λj d=>?_,?_,b.mC,b.cP⟩⟩;· obtain⟨Y,g,i,m,o⟩:=h.own;exact⟨Y,g,i,m,λk r f=>o k r (by simp_all)⟩
 ·show Ax (l++st.O) j=Dc;rw[BX];cases c:Ax l j with
  |none=>exact b.ok j d
  |some v=>exact absurd (p _ (A5 c)) (Nat.not_lt.2 d)
 ·rw[e];exact b.wf
end
end
section
variable{ro:Option Nat}{n:Nat}{P:GO}{w:IK}{f:FuncId}{vs:Array Ce}{R:Ending->IK->Prop}{o:K5}
abbrev FR:Option Nat->Fence
 |none=>qF
 |some l=>qF.inRound l
theorem WY(ro:Option Nat)(f:FuncId):(FR ro).fn f:=by cases ro<;>trivial
theorem dJ(h:Calls P f vs w R):CallsIn (FR ro) n P f vs w R:=by
 cases ro with
 |none=>grind[callsIn_wide]
 |some l=>exact(callsIn_wide (n:=n)).2 h
theorem jy{s:String}{R:Ce->IK->Prop}(h:Rows P s vs w R):RowsIn (FR ro) n P s vs w R:=λc a _=>by
 obtain⟨v,e,b,d⟩:=h c a;refine⟨v,e,b,?_⟩;cases ro with
 |none=>grind[stepsIn_wide]
 |some l=>exact stepsIn_wide.2 d
theorem dH{l:Nat}{b:Array Ce}{d a:Code}(h:RoundIn qF 0 P l f b d a w R):RoundIn (FR ro) n P l f b d a w R:=by refine⟨WY ro f,λc e _=>?_⟩;have:=h.2 c e (room_wide _);cases ro<;>exact this
theorem dI(ro:Option Nat):(FR ro).depth=Dc:=by cases ro<;>rfl
theorem s7:(FR ro).depth.isSome=Br->1<=n:=λh=>by grind[dI]
def VO(o:K5):Bool:=match o.op with
 | .defer _=>Ak
 |_=>Br
theorem af(h:VO o=Br):∀c,o.op≠ .defer c:=λc e=>by grind[VO]
theorem Agz{a:Act}{K:Act->IK->Prop}{Q:Exit->Act->IK->Prop}(b:VO o=Br)(h:o.wp P a w K Q):o.wpIn (FR ro) 0 P a w K Q:=by
 refine⟨λf _=>WY ro f,?_⟩;rw[K5.semAt_eq _ _ _ (af b)];unfold K5.wp at h;revert h;generalize(Kr a.eval o).run P w=z;intro h;unfold K5.upon at h;split at h;· exact h
 ·exact h
 ·exact h
 ·exact⟨s7,dJ h⟩
 ·exact⟨s7,jy h⟩
 all_goals trivial
end
section
variable {N : Df} {R : Type}
structure YL(N:Df)(R:Type)where
 ky:Nat
 f:List (SV N.T)->List (SV N.T)->(Bool->Option R)->Option R
 ag:R->R->Option R:=λ_ _=>Dc
 nR:∀a b r,ag a b=Ac r->a=r/\b=r:=by intros;contradiction
section
variable{α:Type}{P:GO}{Y:List (Nat×Aw)}{x:α}{T:Nat->Type}{C:List (SV N.T)}{a:Act}{yv:Ce}{H:Hp}{η:Nat->Ce}{o:K5}{cs:List Nat}{g:Nat->Nat}
def agE[DecidableEq α](x y:α):Bool:=Ds (x=y)
theorem UW[DecidableEq α]{y:α}(h:agE x y=Br):x=y:=of_decide_eq_true h
def agN:List α->List α->Bool
 | [],[]=>Br
 |_,_=>Ak
theorem sT:∀ {x y:List α},agN x y=Br->x=y
 | [],[],_=>rfl
 | [],_::_,h=>by cases h
 |_::_,_,h=>by cases h
def agT:(t:Ty)->t.den T->t.den T->Bool
 | .int _,x,y=>agE (α:=Int) x y
 | .bool,x,y=>agE (α:=Bool) x y
 | .str,x,y=>agE (α:=Ay) x y
 | .sl t,x,y=>agN (α:=t.den T) x y
 |_,_,_=>Ak
theorem sS:∀ {t:Ty} {x y:t.den T},agT t x y=Br->x=y
 | .int _,_,_,h=>UW (α:=Int) h
 | .bool,_,_,h=>UW (α:=Bool) h
 | .str,_,_,h=>UW (α:=Ay) h
 | .sl _,_,_,h=>sT h
 | .st _,_,_,h=>by cases h
 | .pr _ _,_,_,h=>by cases h
 | .un,_,_,h=>by rfl
 | .bs,_,_,h=>by cases h
 | .nm _,_,_,h=>by cases h
 | .ar _ _,_,_,h=>by cases h
def agH:(h:HT)->h.den N->h.den N->Bool
 | .Ae t,x,y=>agT t x y
 | .nat,x,y=>Hg x y
theorem dt:∀ {h:HT} {x y:h.den N},agH h x y=Br->x=y
 | .Ae t,_,_,h=>sS (t:=t) h
 | .nat,_,_,h=>AI h
def agP:(a:List HT)->BK N a->BK N a->Bool
 | [],_,_=>Br
 | [t],x,y=>agH t x y
 |t::u::ts,x,y=>agH t x.1 y.1&&agP (u::ts) x.2 y.2
theorem dr:∀ {a:List HT} {x y:BK N a},agP a x y=Br->x=y
 | [],_,_,_=>rfl
 | [_],_,_,h=>dt h
 |t::u::b,(x,c),(y,d),h=>by have h:(agH t x y&&agP (u::b) c d)=Br:=h;rw[AS]at h;rw[dt h.1,dr h.2]
def agO(b:Bool)(x:α):Option α:=match b with
 |true=>Ac x
 |false=>Dc
theorem Nl{b:Bool}{r:α}(h:agO b x=Ac r):b=Br/\x=r:=by cases b<;>cases h;simp
def noP(b:List HT):YL N (BK N b):= {ky:=0,f:=λ_ _ _=>Dc,ag:=λx y=>agO (agP b x y) x,nR:=λ_ _ _ h=>⟨(Nl h).2,(dr (Nl h).1).symm.trans (Nl h).2⟩}
structure QQ(P:GO)(bs:List (Nat×Ce))(yl:YL N R)(yv:Ce)(G:Hp->Fm->R->Prop):Prop where
 mem:∀C As k r,yl.f C As k=Ac r->(yl.ky,yv)∈bs
 ok:∀C As k r Of H,N.inv H->G H Of r->yl.f C As k=Ac r->∀η A vs w,vs.length=As.length->(∀(i:Nat) (s:SV N.T),As[i]?=Ac s->∃v,vs[i]?=Ac v/\s.is C η H v)->SH w H (A++Of.O)->
  I4 P yv vs w λb w'=> ∃H' Of' r',H.le H'/\Of'.ds=Of.ds/\SH w' H' (A++Of'.O)/\G H' Of' r'/\k b=Ac r'
theorem pZ{a:List HT}{bs:List (Nat×Ce)}{G:Hp->Fm->BK N a->Prop} :QQ P bs (noP a:YL N (BK N a)) yv G:=⟨(λ_ _ _ _ h=>by cases h),(λ_ _ _ _ _ _ _ _ h=>by cases h)⟩
def Q1:(ts:List Ty)->DT N ts->List (SV N.T)
 | [],_=>[]
 | [t],x=>[.d t x]
 |t::u::ts,x=> .d t x.1::Q1 (u::ts) x.2
theorem UH{C:List (SV N.T)}{H:Hp}{η:Nat->Ce} :∀(ts:List Ty) (y:DT N ts) (vs:List Ce),YU H ts y vs->vs.length=(Q1 ts y).length/\(Q1 ts y).length=ts.length/\∀(i:Nat) (s:SV N.T),(Q1 ts y)[i]?=Ac s->∃v,vs[i]?=Ac v/\s.is C η H v
 | [],_,vs,h=>by subst h;exact⟨rfl,rfl,λi s b=>by trivial⟩
 | [t],y,vs,⟨v,e,c⟩=>by
  subst e;refine⟨rfl,rfl,λi s b=>?_⟩;cases i with
  |zero=>simp[Q1]at b;subst b;exact⟨v,rfl,Wn c⟩
  |succ i=>trivial
 |t::u::ts,y,vs,⟨v,g,e,c,f⟩=>by
  subst e;obtain⟨j,k,d⟩:=UH (u::ts) y.2 g f;refine⟨by grind[Q1],by grind[Q1],λi s b=>?_⟩;cases i with
  |zero=>simp[Q1]at b;subst b;exact⟨v,rfl,Wn c⟩
  |succ i=>exact d i s (by trivial)
theorem iZ{S:Nat->SV N.T}{Rr:Nat->Option (SR N.T)}{x:Er}{xs:List Er}{tys:Array Gn}{c:Ca N.T}(M:o.op= .call {callee:= .value x,args:=xs.toArray,argTypes:=tys})(h:Tj S Rr x xs=Ac c)(r:TO P c.f)(V:∀x,(Av S x).is C η H (a.eval x))(O:∀k∈c.cs,∀F,Rr k=Ac F->Dp C η H Y k F):
  ∃vs:List Ce,vs.length=c.As.length/\(∀(i:Nat) (s:SV N.T),c.As[i]?=Ac s->∃v,vs[i]?=Ac v/\s.is C η H v)/\∀w (K:Act->IK->Prop) Q,Calls P c.f vs.toArray w (λe w'=> ∃v,e= .returned v/\K (a.put o.dst v) w')->o.wp P a w K Q:=by
 unfold Tj at h;split at h
 ·rename_i f l y T;split at h
  ·rename_i z;cases h;rw[AS]at z;have u:(Av S x).is C η H (a.eval x):=V x;rw[T]at u;obtain⟨A,e,L⟩:=u;obtain⟨G,Z⟩:=Na z.1 L;refine⟨A++xs.map a.eval++y.map η,by grind,λi s n=>?_,λw K Q U=>?_⟩
   ·rw[Aak]at n⊢;by_cases W:i<(Ta l).length;· grind
    ·rw[Aac (by omega)]at n;rw[Aac (by omega),G];by_cases E:i-(Ta l).length<xs.length;· rw[Aaa (by simp_all),Acb]at n;grind
     ·rw[Aac (by simpa using E),Acb]at n;rw[Aac (by simpa using E),Acb];simp only[Aap]at n⊢;obtain⟨c,hc,rfl⟩:=Pd.1 n;have q:=Aai hc;have p:=IT.1 z.2 c q;refine⟨η c,by rw[hc];rfl,?_⟩;split at p
      ·rename_i g b J;rcases O c q _ J with e|⟨X,_,B,_,D,_⟩;· cases e
       ·exact⟨B,D,D⟩
      ·cases p
   ·have t:(Kr a.eval o).run P w= .ok (.enter f (A++xs.map a.eval++y.map η).toArray) w:=by
     have:=r.run (A++xs.map a.eval++y.map η).toArray w;simp[Kr,M,resolve,rz,e,invoke]at this⊢;rw[this]
    unfold K5.wp;rw[t];refine Calls.mono U ?_;rintro e w' ⟨v,rfl,I⟩;exact I
  grind
 grind
theorem oM(l:(keys Y).Nodup)(hc:cs.Nodup)(n:(cs.map g).Nodup)(r:∀c∈cs,∃X,Ax Y (g c)=Ac X):
  keys (cs.map λc=>(c,(Ax Y (g c)).getD .emp))=cs/\(∀c∈cs,Ax (cs.map λc=>(c,(Ax Y (g c)).getD .emp)) c=Ax Y (g c))/\
  ∀w H O,SH w H (Y.map (·.2)++O)->SH w H ((cs.map λc=>(c,(Ax Y (g c)).getD .emp)).map (·.2)++((Y.filter λp=> !Cf (cs.map g) p.1).map (·.2)++O)):=by
 have i:keys (cs.map λc=>(c,(Ax Y (g c)).getD .emp))=cs:=by unfold keys;rw[Aaj];exact Afi _
 refine⟨i,λc d=>?_,λw H O f=>?_⟩;· have o:=CT (Y:=cs.map λc=>(c,(Ax Y (g c)).getD .emp)) (by grind) (By.2 ⟨c,d,rf⟩);grind
 ·have j:=SH.Rg f (Z:=(cs.map λc=>(g c,(Ax Y (g c)).getD .emp))++Y.filter λp=> !Cf (cs.map g) p.1) (by
   have e:keys (cs.map λc=>(g c,(Ax Y (g c)).getD .emp))=cs.map g:=by simp[keys]
   unfold keys at e⊢;rw[Aan,e];refine Acq.2 ⟨n,(Acp.map _).nodup l,λk i s m e=>?_⟩;grind[AR]) (λp q=>by
   grind[CT]);rw[Aan,Aaj,Aak]at j;rw[Aaj];exact j
theorem wS{Yc:List (Nat×Aw)}(j:(keys Y).Nodup)(l:(cs.map g).Nodup)(b:keys Yc=cs):
  keys (Yc.map λp=>(g p.1,p.2))=cs.map g/\(keys ((Yc.map λp=>(g p.1,p.2))++Y.filter λp=> !Cf (cs.map g) p.1)).Nodup/\
  (∀c X,Ax Yc c=Ac X->Ax ((Yc.map λp=>(g p.1,p.2))++Y.filter λp=> !Cf (cs.map g) p.1) (g c)=Ac X)/\(∀k,k∉cs.map g->Ax ((Yc.map λp=>(g p.1,p.2))++Y.filter λp=> !Cf (cs.map g) p.1) k=Ax Y k)/\
  ∀w H O,SH w H (Yc.map (·.2)++((Y.filter λp=> !Cf (cs.map g) p.1).map (·.2)++O))->SH w H (((Yc.map λp=>(g p.1,p.2))++Y.filter λp=> !Cf (cs.map g) p.1).map (·.2)++O):=by
 have e:keys (Yc.map λp=>(g p.1,p.2))=cs.map g:=by unfold keys at b⊢;rw[Aaj,<-b,Aaj];rfl
 have h:(keys ((Yc.map λp=>(g p.1,p.2))++Y.filter λp=> !Cf (cs.map g) p.1)).Nodup:=by unfold keys at e⊢;rw[Aan,e];refine Acq.2 ⟨l,(Acp.map _).nodup j,λk b n d e=>?_⟩;grind[AR]
 refine⟨e,h,λc X i=>CT h (Abt _ (By.2 ⟨_,A5 i,rf⟩)),λk d=>?_,λw H O m=>?_⟩;· grind[BX,CG,LM]
 ·rw[Aan,Aaj,Aak];trivial
def okJ(q:JQ N):Bool:=Cp (q.pi.ro.map (·.1))
def NI(q:JQ N)(x:BK N q.pi.hs)(m:List (Nat×Nat))(cs:List Nat):Bt N.T:=⟨.no,cs,q.pi.ro.map λp=>(AZ m p.1,(instR N q.pi.hs x p.2).DS (AZ m))⟩
def rF(q:JQ N)(d:Option Nat)(b:Bool)(st:St N.T):St N.T:=match q.rb,d with
 |true,Ac t=>Kl t (.lb b) st
 |_,_=>st
def bX(a:YL N R)(C:List (SV N.T))(ts:List Ty)(kb:Bool->Option R):List (DT N ts)->Option Bool->Option R
 | [],Ac b=>kb b
 | [],Dc=>Dc
 |y::l,b=>a.f C (Q1 ts y) λc=>match c with
  |true=>bX a C ts kb l b
  |false=>kb Ak
def jq1(c:YL N R)(C:List (SV N.T))(CR:List (SR N.T))(n:Nat)(d:Option Nat)(st:St N.T)(a:List (SV N.T))(cs:List Nat)(kn:St N.T->Option R)(q:JQ N):Option (Option R):=
 match Hg a.length q.pi.sl.length&&(q.pi.sl.all (λp=>aT p.1 a.length)&&okJ q)with
 |false=>Dc
 |true=>match JN C (An CR st.O) (λi=>a.getD i .no) (Hh C (An CR st.O) (λi=>a.getD i .no) q.pi) q.pi with
  |none=>Dc
  |some x=>match Hg (AZ (Hh C (An CR st.O) (λi=>a.getD i .no) q.pi) q.ky) c.ky&&G_ CR n st d (NI q x (Hh C (An CR st.O) (λi=>a.getD i .no) q.pi) cs) st.nk with
   |false=>Dc
   |true=>Ac (Ab (q.F x) λr=>bX c C q.ts (λb=>kn (rF q d b (UO (Y2 CR q.pi.hs x (Hh C (An CR st.O) (λi=>a.getD i .no) q.pi) st.O q.pi.ro) (app st d (NI q x (Hh C (An CR st.O) (λi=>a.getD i .no) q.pi) cs) st.nk)))) r.1 r.2)
def jqs(f:JQ N->Option (Option R)):List (JQ N)->Option R
 | []=>Dc
 |q::l=>match f q with
  |some z=>z
  |none=>jqs f l
theorem Sj{f:JQ N->Option (Option R)}{r:R} :∀ {l:List (JQ N)},jqs f l=Ac r->∃q∈l,f q=Ac (Ac r)
 | [],h=>by cases h
 |q::l,h=>by
  unfold jqs at h;split at h;· grind
  ·obtain⟨c,a,b⟩:=Sj h;grind
def qO(
     d:YL N R) (Φ:Nat->Option (CQ N)) (C:List (SV N.T)) (CR:List (SR N.T)) (n:Nat) (o:K5) (st:St N.T) (kn:St N.T->Option R):Option (Option R):=match o.op with
 | .call {callee:= .value x,args:=⟨xs⟩,argTypes:=_} =>match Av (CC C st.L) x with
  | .AA f _ _=>match Φ f with
   |some (.qM b)=>match Tj (CC C st.L) (An CR st.O) x xs with
    |some c=>match Hg f c.f with
     |true=>Ac (jqs (jq1 d C CR n o.dst st c.As c.cs kn) b)
     |false=>Dc
    |none=>Dc
   |_=>Dc
  |_=>Dc
 |_=>Dc
theorem gN{C:List (SV N.T)}{CR:List (SR N.T)}{n:Nat}{Of:Fm}{bs:List (Nat×Ce)}{st:St N.T}{η:Nat->Ce}{H:Hp}{a:Act}{w:IK}{P:GO} [C9 N P]{Φ:Nat->Option (CQ N)}{G:Hp->Fm->R->Prop}{yl:YL N R}{yv:Ce}
  (hΦ:∀f q,Φ f=Ac q->Bw P f q) (hG:∀H l Of r,H.le l->G H Of r->G l Of r) (hY:QQ P bs yl yv G) {o:K5} {kn:St N.T->Option R} {r:R} (hg:G H Of r) (h:Sat C CR n Of bs st η H a w) (hw:WF C CR bs st) (E:qO yl Φ C CR n o st kn=Ac (Ac r)) {K:Act->IK->Prop} {Q:Exit->Act->IK->Prop}
  (hK:∀d r' st' η' l a' w',H.le l->G l d r'->Sat C CR n d bs st' η' l a' w'->WF C CR bs st'->kn st'=Ac r'->K a' w'):o.wp P a w K Q:=by
 unfold qO at E;split at E;case h_2=>grind
 rename_i x xs tys ho;split at E;case h_2=>grind
 split at E;case h_2=>grind
 rename_i qs hq;split at E;case h_2=>grind
 rename_i c hcal;split at E;case h_2=>grind
 rename_i hf;have hf:=AI hf;subst hf;obtain⟨q,hqm,E⟩:=Sj (Abs E);have hsp:I5 P c.f q:=hΦ _ _ hq q hqm;unfold jq1 at E;split at E;· grind
 rename_i M;simp only[AS]at M;obtain⟨ck1,ck2,ck3⟩:=M;split at E;· grind
 rename_i z hz;generalize hm:Hh C (An CR st.O) (λi=>c.As.getD i .no) q.pi=m at hz E;split at E;· grind
 rename_i M;rw[AS]at M;obtain⟨ck4,ck5⟩:=M;have ck4:=AI ck4;obtain⟨⟨ys,b0⟩,hys,E⟩:=Bj (Abs E);have hnr:=BM ck3;have hkw:keys (NI q z m c.cs).wr=(q.pi.ro.map (·.1)).map (AZ m):=by unfold keys NI;rw[Aaj,Aaj];rfl
 have hlt:∀p∈q.pi.sl,p.1<c.As.length:=λp D=>by simpa using IT.1 ck2 p D
 have YZ:∀Y,(∀k,(k∈c.cs\/k∈keys (NI q z m c.cs).wr)->∀L,An CR st.O k=Ac L->Dp C η H Y k L)->∃vs:List Ce,vs.length=q.pi.sl.length/\(q.pi.ro.map λp=>AZ m p.1).Nodup/\(∀p∈q.pi.sl,∃v,vs[p.1]?=Ac v/\(inst N q.pi.hs z p.2).is [] (λc=>η (AZ m c)) H v)/\
   (∀p∈q.pi.ro,(∃L,An CR st.O (AZ m p.1)=Ac L)/\∃X,Ax Y (AZ m p.1)=Ac X/\(instR N q.pi.hs z p.2).is [] (λc=>η (AZ m c)) H p.1 X)/\∀w (K:Act->IK->Prop) Q,Calls P c.f vs.toArray w (λe w'=> ∃v,e= .returned v/\K (a.put o.dst v) w')->o.wp P a w K Q:=λY hr=>by
  obtain⟨vs,v1,v2,v3⟩:=iZ ho hcal hsp.YZ (λx=>h.ev x) (Y:=Y) (λk hk L B=>hr k (.inl hk) L B);have J:vs.length=q.pi.sl.length:=by rw[v1];exact AI ck1
  obtain⟨V,e2,e3⟩:=LR (C:=C) (η:=η) (H:=H) (Y:=Y) (vs:=vs) (A:=λi=>c.As.getD i .no) hz J (λp D=>by obtain⟨v,g1,g2⟩:=v2 p.1 (c.As[p.1]'(hlt p D)) (IN (hlt p D));refine⟨v,g1,?_⟩;rw[Aad,IN (hlt p D)];exact g2) (λp D L B=>hr _ (.inr (by exact By.2 ⟨_,By.2 ⟨p,D,rfl⟩,rfl⟩)) L B);exact⟨vs,J,V,e2,e3,v3⟩
 have hW:Ph C CR n st o.dst (NI q z m c.cs) st.nk:=⟨ck5,Aaf _,λj hj S=>(by
  obtain⟨_,_,_,_,e3,_⟩:=YZ h.own.choose λk _ L B=>h.own.choose_spec.2.2.2 k L B;obtain⟨p,D,rfl⟩:=By.1 hj;obtain⟨p',hp',rfl⟩:=By.1 D;obtain⟨⟨L,B⟩,_⟩:=e3 p' hp';rw[B]at S;cases S),λτ _=>trivial⟩;have u:=ck5;unfold G_ at u;simp only[AS]at u;have u:=u.1.1;have hbk:∀ {η':Nat->Ce} {l:Hp} {d:Fm} {a':Act} {w':IK},Sat C CR n d bs (app st o.dst (NI q z m c.cs) st.nk) η' l a' w'->Sat C CR n d bs (UO (Y2 CR q.pi.hs z m st.O q.pi.ro) (app st o.dst (NI q z m c.cs) st.nk)) η' l a' w'/\WF C CR bs (UO (Y2 CR q.pi.hs z m st.O q.pi.ro) (app st o.dst (NI q z m c.cs) st.nk)):=λhs'=>
  xM hs' (hw.Vs hW) (λk=>xK hz (by obtain⟨_,_,V,_⟩:=YZ h.own.choose λk _ L B=>h.own.choose_spec.2.2.2 k L B;exact V) k) λy hy=>by obtain⟨p,_,_,e,_⟩:=QJ hy;exact Abz λhle=>by rw[hw.ok _ hle]at e;cases e
 generalize hkb:(λb=>kn (rF q o.dst b (UO (Y2 CR q.pi.hs z m st.O q.pi.ro) (app st o.dst (NI q z m c.cs) st.nk))))=kb at E;refine h.kZ (goal:=o.wp P a w K Q) (K:=λv w' d l=> ∀b r',G l d r'->(q.rb=Br->v= .bool b)->kb b=Ac r'->K (a.put o.dst v) w') hw hW (λY hn hsh hr hf hk=>?_) λη' l v w' d hl hs b r' hg' hv F=>?_
 ·obtain⟨vs,J,V,e2,e3,v3⟩:=YZ Y hr;have V:((q.pi.ro.map (·.1)).map (AZ m)).Nodup:=by rw[Aaj];exact V
  obtain⟨s1,s2,s3⟩:=oM (Y:=Y) (cs:=q.pi.ro.map (·.1)) (g:=AZ m) hn hnr V (λc hc=>by obtain⟨p,D,rfl⟩:=By.1 hc;obtain⟨_,X,hX,_⟩:=e3 p D;exact⟨X,hX⟩);generalize hYc:((q.pi.ro.map (·.1)).map λc=>(c,(Ax Y (AZ m c)).getD .emp))=Yc at s1 s2 s3;refine v3 w K Q ?_;generalize hYr:(Y.filter λp=> !Cf ((q.pi.ro.map (·.1)).map (AZ m)) p.1)=Yr at s3;refine Calls.mono (hsp.ok z (ys,b0) hys (λc=>η (AZ m c)) (λl O r2=>H.le l/\∃(d:Fm) (r':R),d.ds=Of.ds/\O=Yr.map (·.2)++d.O/\G l d r'/\bX yl C q.ts kb r2.1 r2.2=Ac r') (λH1 H2 O r2 hl ⟨k0,d,r',k1,k2,k3,k4⟩=>⟨k0.trans hl,d,r',k1,k2,hG _ _ _ _ hl k3,k4⟩) (λH1 O ⟨_,_,_,_,_,_,k4⟩=>(by cases k4)) (λH1 O y rest b hinv1 ⟨k0,d,r',k1,k2,k3,k4⟩ A ws w1 hArg hSH=>?_) H (Yr.map (·.2)++Of.O) Yc vs w (by rw[s1];exact hnr) J e2 s1 (λp D=>?_) ⟨Hp.le.refl H,Of,r,rfl,rfl,hg,E⟩ h.inv (s3 w H Of.O hsh)) ?_
  ·subst k2;have hyv:yv=η (AZ m q.ky):=by rw[ck4];exact(h.base _ (hY.mem _ _ _ _ k4)).symm
   obtain⟨p1,p2,p3⟩:=UH (C:=C) (η:=η) q.ts y ws hArg;have:=hY.ok C (Q1 q.ts y) _ r' d H1 hinv1 k3 k4 η (A++Yr.map (·.2)) ws w1 p1 p3 (by rw[Aak];exact hSH);rw[hyv]at this;refine this.mono λc' w' ⟨l,U,r'',l1,l2,l3,l4,l5⟩=>⟨l,Yr.map (·.2)++U.O,l1,by rw[Aak]at l3;exact l3,k0.trans l1,U,r'',l2.trans k1,rfl,l4,?_⟩;cases c' with
   |true=>exact l5
   |false=>exact l5
  ·obtain⟨_,X,hX,hX2⟩:=e3 p D;exact⟨X,by rw[s2 p.1 (By.2 ⟨p,D,rfl⟩)];exact hX,hX2⟩
  ·rintro e w' ⟨v,l,O',Y',b,rfl,hl,W,hk',hro',⟨k0,d,r',k1,rfl,k2,k3⟩,hvb⟩;obtain⟨j1,j2,j3,j4,j5⟩:=wS (Y:=Y) (Yc:=Y') (cs:=q.pi.ro.map (·.1)) (g:=AZ m) hn V hk';rw[<-hYr]at W;refine⟨v,rfl,hk v w' l η _ d k1 hl (λ_ _=>rfl) (λk hkn=>j4 k (by rw[<-hkw];exact hkn)) (λk L hks=>?_) j2 (λk I=>?_) (j5 _ _ _ W) trivial b r' k2 hvb k3⟩;· obtain⟨p,D,e⟩:=By.1 (A5 hks);cases e;obtain⟨X,x1,x2⟩:=hro' p D;exact .inr ⟨X,j3 p.1 X x1,SR.Mr rfl (λ_ _=>rfl) x2⟩
   ·unfold keys at I j1;rw[Aan,j1]at I;rcases AT.1 I with I|I;· exact .inr (by rw[hkw];exact I)
    ·obtain⟨p,D,rfl⟩:=By.1 I;exact .inl (By.2 ⟨p,(Aax.1 D).1,rfl⟩)
 ·subst hkb;obtain⟨hs,hwf⟩:=hbk hs;unfold rF at F;split at F
  ·rename_i t hrb hdt;rw[hdt]at hs hwf F⊢;rw[hdt]at u;have htn:t<n:=by simpa [NQ]using u
   obtain⟨g1,g2⟩:=PD (t:=t) (s:= .lb b) hs hwf (by rw[HZ (by rw[h.size];exact htn),Agl];exact hv hrb) rfl rfl;exact hK d r' _ η' l _ w' hl hg' g1 g2 F
  ·exact hK d r' _ η' l _ w' hl hg' hs hwf F
def jkey(Φ:Nat->Option (CQ N))(S:Nat->SV N.T)(Rr:Nat->Option (SR N.T)):Op->Option Nat
 | .call {callee:= .value x,args:=⟨xs⟩,argTypes:=_} =>match Av S x with
  | .AA f _ _=>match Φ f with
   |some (.qM (q::_))=>match Tj S Rr x xs with
    |some c=>VW c.As q.pi.sl
    |none=>Dc
   |_=>Dc
  |_=>Dc
 |_=>Dc
def gM(b:YL N R)(Φ:Nat->Option (CQ N))(C:List (SV N.T))(CR:List (SR N.T))(n:Nat)(o:K5):Nat->St N.T->(St N.T->Option R)->Option (Option R)
 |0,_,_=>Dc
 |m+1,st,kn=>match jkey Φ (CC C st.L) (An CR st.O) o.op with
  |some a=>match An CR st.O a with
   |some (.row _ c l)=>gM b Φ C CR n o m (JI a c l st) kn
   |_=>Dc
  |none=>qO b Φ C CR n o st kn
def qN(a:YL N R)(Φ:Nat->Option (CQ N))(C:List (SV N.T))(CR:List (SR N.T))(n:Nat)(o:K5)(st:St N.T)(kn:St N.T->Option R):Option (Option R):=gM a Φ C CR n o 4 st kn
theorem V3{C:List (SV N.T)}{CR:List (SR N.T)}{n:Nat}{Of:Fm}{bs:List (Nat×Ce)}{a:Act}{w:IK}{P:GO} [C9 N P]{Φ:Nat->Option (CQ N)}{G:Hp->Fm->R->Prop}{p:YL N R}{yv:Ce}
  (i:∀f q,Φ f=Ac q->Bw P f q) (k:∀H d Of r,H.le d->G H Of r->G d Of r) (v:QQ P bs p yv G) {o:K5} {kn:St N.T->Option R} {r:R} {K:Act->IK->Prop} {Q:Exit->Act->IK->Prop} :∀ {m:Nat} {st:St N.T} {η:Nat->Ce} {H:Hp},G H Of r->Sat C CR n Of bs st η H a w->WF C CR bs st->gM p Φ C CR n o m st kn=Ac (Ac r)->
  (∀c r' b η' d a' w',H.le d->G d c r'->Sat C CR n c bs b η' d a' w'->WF C CR bs b->kn b=Ac r'->K a' w')->o.wp P a w K Q
 |0,_,_,_,_,_,_,e,_=>by cases e
 |m+1,st,η,H,x,h,A,e,u=>by
  unfold gM at e;split at e
  ·split at e;· rename_i B l y;obtain⟨d,j,s,t⟩:=Sz h A y;exact V3 i k v (k _ _ _ _ j x) s t e λc r' b η' g a' w' z=>u c r' b η' g a' w' (j.trans z)
   grind
  grind[gN]
theorem V2{C:List (SV N.T)}{CR:List (SR N.T)}{n:Nat}{Of:Fm}{bs:List (Nat×Ce)}{st:St N.T}{η:Nat->Ce}{H:Hp}{a:Act}{w:IK}{P:GO} [C9 N P]{Φ:Nat->Option (CQ N)}{G:Hp->Fm->R->Prop}{g:YL N R}{yv:Ce}
 (e:∀f q,Φ f=Ac q->Bw P f q) (i:∀H c Of r,H.le c->G H Of r->G c Of r) (k:QQ P bs g yv G) {o:K5} {kn:St N.T->Option R} {r:R} (m:G H Of r) (h:Sat C CR n Of bs st η H a w) (p:WF C CR bs st) (l:qN g Φ C CR n o st kn=Ac (Ac r)) {K:Act->IK->Prop} {Q:Exit->Act->IK->Prop}
 (j:∀d r' b η' c a' w',H.le c->G c d r'->Sat C CR n d bs b η' c a' w'->WF C CR bs b->kn b=Ac r'->K a' w'):o.wp P a w K Q:=V3 e i k m h p l j
def vK(c:YL N R)(C:List (SV N.T))(n:Nat)(o:K5)(st:St N.T)(kn:St N.T->Option R):Option (Option R):=match o.op with
 | .call {callee:= .value x,args:=⟨xs⟩,argTypes:=_} =>match Av (CC C st.L) x with
  | .mp k=>match Hg k c.ky&&NQ n o.dst with
   |true=>Ac (c.f C (xs.map (Av (CC C st.L))) λb=>kn ⟨RC o.dst (.lb b) st.L,st.O,st.nk⟩)
   |false=>Dc
  |_=>Dc
 |_=>Dc
def Ri(a:YL N R)(P:GO)(Φ:Nat->Option (CQ N))(C:List (SV N.T))(CR:List (SR N.T))(n:Nat)(o:K5)(st:St N.T)(kn:St N.T->Option R):Option R:=match vK a C n o st kn with
 |some z=>z
 |none=>match VO o with
  |true=>match qN a Φ C CR n o st kn with
   |some z=>z
   |none=>Zq P Φ C CR n o st kn
  |false=>Dc
def guY(c:YL N R)(P:GO)(Φ:Nat->Option (CQ N))(C:List (SV N.T))(CR:List (SR N.T))(n:Nat)(b:Array K5)(o:K5)(st:St N.T)(kn:St N.T->Option R):Option R:=match o.guard with
 |none=>Ri c P Φ C CR n o st kn
 |some (
     j,a)=>match BN b j with
  |none=>Dc
  |some t=>match CC C st.L t with
   | .ud=>Iq n o.dst st kn
   |s=>xJ s st
    (λst=>let st:=Kl t (.lb Br) st
     match a with
     |true=>Ri c P Φ C CR n o st kn
     |false=>Iq n o.dst st kn)
    (λst=>let st:=Kl t (.lb Ak) st
     match a with
     |false=>Ri c P Φ C CR n o st kn
     |true=>Iq n o.dst st kn)
def bY(b:YL N R)(P:GO)(Φ:Nat->Option (CQ N))(C:List (SV N.T))(CR:List (SR N.T))(n:Nat)(a:Array K5):List K5->St N.T->(St N.T->Option R)->Option R
 | [],st,kn=>kn st
 |o::os,st,kn=>guY b P Φ C CR n a o st λst=>bY b P Φ C CR n a os st kn
end
variable {C : List (SV N.T)} {CR : List (SR N.T)} {n : Nat} {Of : Fm} {bs : List (Nat × Ce)} {st : St N.T} {η : Nat -> Ce} {H : Hp} {a : Act} {w : IK} {P : GO} [C9 N P] {Φ : Nat -> Option (CQ N)} {G : Hp -> Fm -> R -> Prop} {yl : YL N R} {yv : Ce} {ro : Option Nat}
section
variable{d:Option Nat}{s:SV N.T}
theorem fS(c:WF C CR bs st)(g:EY s=Br)(hc:RU s=Br):WF C CR bs ⟨RC d s st.L,st.O,st.nk⟩:=by
 cases d with
 |none=>exact c
 |some d=>
  refine c.Gt λτ b q=>?_;have e:=b q;unfold CC at e⊢;simp only[RC,Ax];cases f:Hg d q with
  |true=>
   have:res C s=s:=by cases s<;>first|rfl|cases hc
   grind[DE]
  |false=>omega
theorem Sat.yld{c:Fm}{g:Hp}{w':IK}{v:Ce}{Y:List (Nat×Aw)}(h:Sat C CR n Of bs st η H a w)(b:H.le g)(m:c.ds=Of.ds)(q:NQ n d=Br)(B:s.is C η g v)
  (u:(keys Y).Nodup) (y:SH w' g (Y.map (·.2)++c.O)) (z:∀k∈keys Y,k<st.nk) (A:∀k i,An CR st.O k=Ac i->Dp C η H Y k i):Sat C CR n c bs ⟨RC d s st.L,st.O,st.nk⟩ η g (a.put d v) w':=by
 refine⟨N.C5 b h.inv,?_,?_,λt sv f=>?_,h.base,Y,u,y,z,λk i r=>?_⟩;· rw[m];cases d<;>exact h.defers
 ·cases d<;>simp[Act.put,h.size]
 ·cases d with
  |none=>exact(h.Bq t sv f).mono b
  |some d=>
   have q:d<n:=by simp_all[NQ]
   have f:Ax ((d,s)::st.L) t=Ac sv:=f;rw[HZ (by rw[h.size];omega)];simp only[Ax]at f;cases l:Hg d t with
   |true=>grind
   |false=>rw[l]at f;exact(h.Bq t sv f).mono b
 ·rcases A k i r with e|⟨x,o,p⟩;· exact .inl e
  ·exact .inr ⟨x,o,p.mono b⟩
theorem Mc(B:∀f q,Φ f=Ac q->Bw P f q)(U:∀H j Of r,H.le j->G H Of r->G j Of r)(I:QQ P bs yl yv G){o:K5}{kn:St N.T->Option R}{r:R}(L:G H Of r)(h:Sat C CR n Of bs st η H a w)(M:WF C CR bs st)(p:Ri yl P Φ C CR n o st kn=Ac r){K:Act->IK->Prop}{Q:Exit->Act->IK->Prop}
  (F:∀m r' g η' j a' w',H.le j->G j m r'->Sat C CR n m bs g η' j a' w'->WF C CR bs g->kn g=Ac r'->K a' w'):o.wpIn (FR ro) 0 P a w K Q:=by
 unfold Ri at p;split at p
 ·rename_i z d;subst p;unfold vK at d;split at d
  ·rename_i x T tys ho;split at d
   ·rename_i k hs;split at d
    ·rename_i J;have d:=Abs d;rw[AS]at J;have hk:=AI J.1;subst hk;have X:=h.ev x;rw[hs]at X;have S:a.eval x=yv:=X.1.trans (h.base _ (I.mem _ _ _ _ d));obtain⟨Y,y1,y2,y3,y4⟩:=h.own;have t:∀(i:Nat) (s:SV N.T),(T.map (Av (CC C st.L)))[i]?=Ac s->∃v,(T.map a.eval)[i]?=Ac v/\s.is C η H v:=λi s V=>by
      rw[Acb]at V;obtain⟨z,d,rfl⟩:=Pd.1 V;exact⟨a.eval z,by grind,h.ev z⟩
     obtain⟨l,f,D,E,u,e1,e2,e3⟩:=I.ok _ _ _ _ Of H h.inv L d η (Y.map (·.2)) (T.map a.eval) w (by simp) t y2;refine⟨λf _=>WY ro f,?_⟩;have A:(Kr a.eval o).run P w= .ok (.round l f D E u) w:=by have O:a.eval x= .func (.yield l) #[] #[]:=S.trans e1;simp[Kr,ho,resolve,rz,O,invoke]at e2⊢;omega
     rw[K5.semAt_eq _ _ _ (λc e=>by grind),A];refine⟨s7,dH (e3.mono ?_)⟩;rintro e w' ⟨b,rfl,j,m,r',Z,k2,k3,k4,k5⟩;exact F m r' _ η j _ w' Z k4 (h.yld (s:= .lb b) Z k2 J.2 (rfl:Ce.bool b= .bool b) y1 k3 y3 y4) (fS M rfl rfl) k5
    grind
   grind
  grind
 ·split at p
  ·rename_i W;split at p;· rename_i z d;subst p;exact Agz W (V2 B U I L h M d F)
   exact Agz W (Rk B h M p λg η' j a' w' y h1 h2 h3=>F Of r g η' j a' w' y (U _ _ _ _ y L) h1 h2 h3)
  ·cases p
theorem qZ(m:∀f q,Φ f=Ac q->Bw P f q)(D:∀H g Of r,H.le g->G H Of r->G g Of r)(F:QQ P bs yl yv G){p:Array K5}{o:K5}{kn:St N.T->Option R}{r:R}(l:G H Of r)(h:Sat C CR n Of bs st η H a w)(S:WF C CR bs st)(k:guY yl P Φ C CR n p o st kn=Ac r){K:Act->IK->Prop}{Q:Exit->Act->IK->Prop}
  (E:∀i r' c η' g a' w',H.le g->G g i r'->Sat C CR n i bs c η' g a' w'->WF C CR bs c->kn c=Ac r'->K a' w'):if fc o (yielded p a.tmps)then o.wpIn (FR ro) 0 P a w K Q else(∀f,o.about P w a.eval=Ac f->(FR ro).fn f)/\K (a.put o.dst undef) w:=by
 have u:∀ {d:St N.T},Sat C CR n Of bs d η H a w->WF C CR bs d->Iq n o.dst d kn=Ac r->(∀f,o.about P w a.eval=Ac f->(FR ro).fn f)/\K (a.put o.dst undef) w:=λ{d} T U V=>by grind[Rs,WY,Hp.le.refl]
 unfold guY at k;split at k;· rw[if_pos (by grind[fc])];grind[Mc]
 ·rename_i j e z;split at k;· grind
  ·rename_i t I;split at k;· rename_i O;have J:=h.lk t;rw[O]at J;rw[if_neg (by simp[fc,z,IB I J])];grind
   ·obtain⟨b,c,B,L,M,v⟩:=UL h S k;have A:=Gm I B;obtain⟨x,y⟩:=PD (t:=t) (s:= .lb b) L M B rfl rfl;cases b with
    |true=>
     cases e with
     |true=>
      rw[if_pos (by grind[fc])];exact Mc m D F l x y v E
     |false=>
      rw[if_neg (by simp[fc,z,A])];exact u x y v
    |false=>
     cases e with
     |false=>
      rw[if_pos (by simp[fc,z,A])];exact Mc m D F l x y v E
     |true=>
      rw[if_neg (by simp[fc,z,A])];exact u x y v
theorem SQ(i:∀f q,Φ f=Ac q->Bw P f q)(B:∀H c Of r,H.le c->G H Of r->G c Of r)(D:QQ P bs yl yv G){j:Array K5}{Q:Exit->Act->IK->Prop}{kn:St N.T->Option R} :∀ {os:List K5} {Of:Fm} {r:R} {st:St N.T} {η:Nat->Ce} {H:Hp} {a:Act} {w:IK},G H Of r->Sat C CR n Of bs st η H a w->WF C CR bs st->bY yl P Φ C CR n j os st kn=Ac r->
  (∀d r' b η' c a' w',H.le c->G c d r'->Sat C CR n d bs b η' c a' w'->WF C CR bs b->kn b=Ac r'->Q .normal a' w')->wpListIn (FR ro) 0 P j Q os a w
 | [],Of,r,st,η,H,a,w,v,h,y,u,s=>s Of r st η H a w (Hp.le.refl H) v h y u
 |o::os,Of,r,st,η,H,a,w,v,h,y,u,s=>by refine wpListIn_step λK t=>qZ i B D v h y u λd r' b η' c a' w' x L M O S=>t a' w' ?_;exact SQ i B D L M O S λe z k l m p A g E F I J=>s e z k l m p A (x.trans g) E F I J
end
end
section
variable{A B:List K5}{i:Nat}
def Pw(P:GO)(b:Array K5)(Q:Exit->Act->IK->Prop):List K5->Act->IK->Prop
 | [],a,w=>Q .normal a w
 |o::c,a,w=>if fc o (yielded b a.tmps)then o.wp P a w (Pw P b Q c) Q else Pw P b Q c (a.put o.dst undef) w
theorem To:∀(os:List K5) (acc:List Nat),(Nj acc os).length=acc.length+os.length
 | [],acc=>rfl
 |o::os,acc=>by show(Nj (acc++[_]) os).length=_;rw[To];grind
theorem Tn:∀(os:List K5) (acc:List Nat) (i:Nat),i<acc.length->(Nj acc os).getD i 0=acc.getD i 0
 | [],_,_,_=>rfl
 |o::os,acc,i,h=>by show(Nj (acc++[_]) os).getD i 0=_;rw[Tn os _ i (by grind),Aad,Aaa h,<-Aad]
theorem Tp:∀(A B:List K5) (acc:List Nat),Nj acc (A++B)=Nj (Nj acc A) B
 | [],_,_=>rfl
 |o::A,B,acc=>by exact Tp A B _
theorem WR(h:i<A.length):US (A++B) i=US A i:=by grind[US,Tp,Tn,To]
def X9(m:Nat)(l:List K5):Bool:=(aO l.length).all λj=>aT j m||(aO j).all λi=>(US l j).testBit i
theorem X8{m:Nat}{l:List K5}(h:X9 m l=Br){j:Nat}(c:j<l.length)(d:m<=j)(hi:i<j):(US l j).testBit i=Br:=by
 have a:=IT.1 h j (Abf.2 c);rw[Adw]at a;rcases a with a|a
 ·have:j<m:=by simp_all
  omega
 grind
theorem iE{P:GO}{Q:Exit->Act->IK->Prop}{id:Nat}(z:P.follows .mixedOrders=Br)(V:GS 0 (A++B)=Br)(E:X9 A.length (A++B)=Br){J:(Nat->Bool)->Act->IK->Prop}
  (step:∀p a w i o,A[i]?=Ac o->p i=Ak->HQ A p->(∀j,(US A i).testBit j=Br->p j=Br)->(∀j M,A[j]?=Ac M->p j=Br->∀m,(US A j).testBit m=Br->p m=Br)->J p a w->
   if fc o (yielded (A++B).toArray a.tmps)then o.wp P a w (J (I9 p i)) Q else J (I9 p i) (a.put o.dst undef) w)
  (L:∀p a w,(∀i,i<A.length->p i=Br)->J p a w->Pw P (A++B).toArray Q B a w) {a:Act} {w:IK} (h:J (λ_=>Ak) a {w with drawn:=w.drawn+1}):(Code.region id (A++B).toArray Br).wp P Q a w:=by
 refine L1 z V (J:=λp a w=>((∀j,A.length<=j->j<(A++B).length->p j=Ak)/\J p a w)\/∃m,A.length<=m/\(∀j,j<(A++B).length->p j=Ds (j<m))/\Pw P (A++B).toArray Q ((A++B).drop m) a w) ?_ ?_ (.inl ⟨λ_ _ _=>rfl,h⟩)
 ·intro p a w i o y H R v x u;have g:i<(A++B).length:=(No.1 y).1;have I:∀j,j≠i->I9 p i j=p j:=λj f=>by grind[I9]
  have K:I9 p i i=Br:=by simp[I9]
  have full:A.length<=i->∀j,j<i->p j=Br:=λr j f=>v j (X8 E g r f);have seq:∀m,m=i->A.length<=m->(∀j,j<(A++B).length->p j=Ds (j<m))->Pw P (A++B).toArray Q ((A++B).drop m) a w->if fc o (yielded (A++B).toArray a.tmps)then o.wp P a w (λa w=>((∀j,A.length<=j->j<(A++B).length->I9 p i j=Ak)/\J (I9 p i) a w)\/∃m,A.length<=m/\(∀j,j<(A++B).length->I9 p i j=Ds (j<m))/\Pw P (A++B).toArray Q ((A++B).drop m) a w) Q
    else((∀j,A.length<=j->j<(A++B).length->I9 p i j=Ak)/\J (I9 p i) (a.put o.dst undef) w)\/∃m,A.length<=m/\(∀j,j<(A++B).length->I9 p i j=Ds (j<m))/\Pw P (A++B).toArray Q ((A++B).drop m) (a.put o.dst undef) w:=λm e z t s=>by
   subst e;have W:(A++B).drop m=o::(A++B).drop (m+1):=by grind[List.drop_eq_getElem_cons,Option.some.inj,kV]
   rw[W]at s;have G:∀j,j<(A++B).length->I9 p m j=Ds (j<m+1):=λj f=>by
    by_cases e:j=m;· grind
    ·rw[I j e,t j f];have:j<m↔j<m+1:=by omega
     simp[this]
   unfold Pw at s;split at s;· rename_i C;rw[if_pos C];exact K5.wp_mono (λa w h=> .inr ⟨m+1,by omega,G,h⟩) s
   grind
  rcases u with⟨D,u⟩|⟨m,z,t,s⟩
  ·by_cases r:i<A.length
   ·have X:A[i]?=Ac o:=by grind
    have st:=step p a w i o X H (λj M f=>R j M (by rw[Aaa (No.1 f).1];exact f)) (λj f=>v j (by rw[WR r];exact f)) (λj M f t m z=>x j M (by rw[Aaa (No.1 f).1];exact f) t m (by rw[WR (No.1 f).1];exact z)) u;have T:∀j,A.length<=j->j<(A++B).length->I9 p i j=Ak:=λj k N=>by rw[I j (by omega)];exact D j k N
    split at st;· rename_i C;rw[if_pos C];exact K5.wp_mono (λa w h=> .inl ⟨T,h⟩) st
    grind
   ·have r:A.length<=i:=by omega
    have e:A.length=i:=by refine Aky r (Ajh λn=>?_);have k:=full r A.length n;rw[D A.length (Aaf _) (by omega)]at k;cases k
    refine seq A.length e (Aaf _) (λj f=>?_) ?_
    ·by_cases F:j<A.length;· rw[full r j (by omega)];simp[F]
     ·rw[D j (by omega) f];simp[F]
    ·rw[Alg];exact L p a w (λj f=>full r j (by omega)) u
  ·refine seq m ?_ z t s;have k:=t i g;rw[H]at k;have k:¬i<m:=by simpa using k.symm
   refine Aky (by omega) (Ajh λn=>?_);have N:=full (by omega) m n;rw[t m (by omega)]at N;simp at N
 ·intro p a w l u;rcases u with⟨D,u⟩|⟨m,z,t,s⟩
  ·have U:B=[]:=by
    cases B with
    |nil=>rfl
    |cons b B=>
     have k:=l A.length (by simp);rw[D A.length (Aaf _) (by simp)]at k;cases k
   have:=L p a w (λi r=>l i (by rw[Aab];omega)) u;rw[U]at this;exact this
  ·have S:(A++B).length<=m:=by
    refine Ajh λg=>?_;have k:=t m g;rw[l m g]at k;simp at k
   rw[Aaz S]at s;exact s
end
section
variable {N : Df} {R : Type}
def Rl(a:YL N R)(P:GO)(Φ:Nat->Option (CQ N))(C:List (SV N.T))(CR:List (SR N.T))(n:Nat)(o:K5)(st:St N.T)(kn:St N.T->Option R):Option R:=match qN a Φ C CR n o st kn with
 |some z=>z
 |none=>Zq P Φ C CR n o st kn
def guJ(c:YL N R)(P:GO)(Φ:Nat->Option (CQ N))(C:List (SV N.T))(CR:List (SR N.T))(n:Nat)(b:Array K5)(o:K5)(st:St N.T)(kn:St N.T->Option R):Option R:=match o.guard with
 |none=>Rl c P Φ C CR n o st kn
 |some (
     j,a)=>match BN b j with
  |none=>Dc
  |some t=>match CC C st.L t with
   | .ud=>Iq n o.dst st kn
   |s=>xJ s st
    (λst=>let st:=Kl t (.lb Br) st
     match a with
     |true=>Rl c P Φ C CR n o st kn
     |false=>Iq n o.dst st kn)
    (λst=>let st:=Kl t (.lb Ak) st
     match a with
     |false=>Rl c P Φ C CR n o st kn
     |true=>Iq n o.dst st kn)
def bZ(c:YL N R)(P:GO)(Φ:Nat->Option (CQ N))(C:List (SV N.T))(CR:List (SR N.T))(n:Nat)(a:Array K5):List K5->St N.T->(St N.T->Option R)->Option R
 | [],st,b=>b st
 |o::d,st,b=>guJ c P Φ C CR n a o st λst=>bZ c P Φ C CR n a d st b
def b8(c:YL N R)(P:GO)(Φ:Nat->Option (CQ N))(C:List (SV N.T))(CR:List (SR N.T))(n:Nat)(a:Array K5)(m:Nat)(st:St N.T)(kn:St N.T->Option R):Option R:=match iJ m a.size&&(GS 0 a.toList&&X9 m a.toList)with
 |true=>xx P Φ C CR n (a.toList.take m).toArray st λst=>bZ c P Φ C CR n a (a.toList.drop m) st kn
 |false=>Dc
variable {C : List (SV N.T)} {CR : List (SR N.T)} {n : Nat} {bs : List (Nat × Ce)} {P : GO} [C9 N P] {Φ : Nat -> Option (CQ N)} {G : Hp -> Fm -> R -> Prop} {yl : YL N R} {yv : Ce}
section
variable{o:K5}{kn:St N.T->Option R}{Q:Exit->Act->IK->Prop}
theorem Md(g:∀f q,Φ f=Ac q->Bw P f q)(j:∀H c Of r,H.le c->G H Of r->G c Of r)(u:QQ P bs yl yv G){o:K5}{Of:Fm}{st:St N.T}{η:Nat->Ce}{H:Hp}{a:Act}{w:IK}{kn:St N.T->Option R}{r:R}(l:G H Of r)(h:Sat C CR n Of bs st η H a w)(m:WF C CR bs st)(i:Rl yl P Φ C CR n o st kn=Ac r){K:Act->IK->Prop}{Q:Exit->Act->IK->Prop}
  (k:∀d r' b η' c a' w',H.le c->G c d r'->Sat C CR n d bs b η' c a' w'->WF C CR bs b->kn b=Ac r'->K a' w'):o.wp P a w K Q:=by
 grind[Rl,V2,Rk]
theorem q6(l:∀f q,Φ f=Ac q->Bw P f q)(D:∀H p Of r,H.le p->G H Of r->G p Of r)(E:QQ P bs yl yv G){x:Array K5}{Of:Fm}{st:St N.T}{η:Nat->Ce}{H:Hp}{a:Act}{w:IK}{r:R}(d:G H Of r)(h:Sat C CR n Of bs st η H a w)(F:WF C CR bs st)(g:guJ yl P Φ C CR n x o st kn=Ac r){K:Act->IK->Prop}
  (A:∀v r' c η' p a' w',H.le p->G p v r'->Sat C CR n v bs c η' p a' w'->WF C CR bs c->kn c=Ac r'->K a' w'):if fc o (yielded x a.tmps)then o.wp P a w K Q else K (a.put o.dst undef) w:=by
 have m:∀ {e:St N.T},Sat C CR n Of bs e η H a w->WF C CR bs e->Iq n o.dst e kn=Ac r->K (a.put o.dst undef) w:=λ{e} M O S=>by grind[Rs,Hp.le.refl]
 unfold guJ at g;split at g;· rw[if_pos (by grind[fc])];grind[Md]
 ·rename_i j i k;split at g;· grind
  ·rename_i t J;split at g;· rename_i V;have L:=h.lk t;rw[V]at L;rw[if_neg (by simp[fc,k,IB J L])];grind
   ·obtain⟨b,c,I,T,U,u⟩:=UL h F g;have B:=Gm J I;obtain⟨y,z⟩:=PD (t:=t) (s:= .lb b) T U I rfl rfl;cases b with
    |true=>
     cases i with
     |true=>
      rw[if_pos (by grind[fc])];grind[Md]
     |false=>
      rw[if_neg (by simp[fc,k,B])];exact m y z u
    |false=>
     cases i with
     |false=>
      rw[if_pos (by simp[fc,k,B])];exact Md l D E d y z u A
     |true=>
      rw[if_neg (by simp[fc,k,B])];exact m y z u
theorem SS(i:∀f q,Φ f=Ac q->Bw P f q)(A:∀H c Of r,H.le c->G H Of r->G c Of r)(B:QQ P bs yl yv G){j:Array K5}{Q:Exit->Act->IK->Prop}{kn:St N.T->Option R} :∀ {os:List K5} {Of:Fm} {r:R} {st:St N.T} {η:Nat->Ce} {H:Hp} {a:Act} {w:IK},G H Of r->Sat C CR n Of bs st η H a w->WF C CR bs st->bZ yl P Φ C CR n j os st kn=Ac r->
  (∀d r' b η' c a' w',H.le c->G c d r'->Sat C CR n d bs b η' c a' w'->WF C CR bs b->kn b=Ac r'->Q .normal a' w')->Pw P j Q os a w
 | [],Of,r,st,η,H,a,w,u,h,x,t,s=>s Of r st η H a w (Hp.le.refl H) u h x t
 |o::os,Of,r,st,η,H,a,w,u,h,x,t,s=>by exact q6 i A B u h x t λd r' b η' c a' w' v J K L M=>SS i A B J K L M λe y k l m p z g D E F I=>s e y k l m p z (v.trans g) D E F I
theorem TR{A B:List K5}{g:Array Ce}(h:∀j b,o.guard=Ac (j,b)->∃t,BN A.toArray j=Ac t):fc o (yielded (A++B).toArray g)=fc o (yielded A.toArray g):=by
 cases i:o.guard with
 |none=>grind[fc]
 |some l=>
  obtain⟨j,b⟩:=l;grind[BN,yielded,fc]
theorem b7(hΦ:∀f q,Φ f=Ac q->Bw P f q)(hm:P.follows .mixedOrders=Br)(hG:∀H F Of r,H.le F->G H Of r->G F Of r)(hY:QQ P bs yl yv G){Of:Fm}{Q:Exit->Act->IK->Prop}{id m:Nat}{u:Array K5}{kn:St N.T->Option R}{r:R}{st:St N.T}{η:Nat->Ce}{H:Hp}{a:Act}{w:IK}(hg:G H Of r)(h:Sat C CR n Of bs st η H a w)(hw:WF C CR bs st)
  (L:b8 yl P Φ C CR n u m st kn=Ac r) (hK:∀I r' D η' F a' w',H.le F->G F I r'->Sat C CR n I bs D η' F a' w'->WF C CR bs D->kn D=Ac r'->Q .normal a' w'):(Code.region id u Br).wp P Q a w:=by
 unfold b8 at L;split at L;case h_2=>grind
 rename_i hck;simp only[AS]at hck;obtain⟨hsz,hbk,hct⟩:=hck;have hsz:m<=u.size:=by simp_all
 obtain⟨A,B,rfl,hA⟩:∃A B:List K5,u=(A++B).toArray/\A.length=m:=⟨u.toList.take m,u.toList.drop m,by simp,by grind⟩;have e1:(A++B).toArray.toList.take m=A:=by grind
 have e2:(A++B).toArray.toList.drop m=B:=by grind
 rw[e1,e2]at L;rw[<-hA]at hct;unfold xx at L;split at L;case h_2=>grind
 rename_i hfr;have iv0:IV P C CR n bs A st st [] 0:=⟨rfl,λt sv ht η H v hv=>by have hv:(s0 st t).is C η H v:=hv;simp_all[s0],λk=>rfl,hw,Aaf _,λj s K=>by simp at K,λj o s hj=>by omega⟩;obtain⟨D,O,k1,V⟩:=Lb (l:=A) hΦ A st [] 0 rfl (Abg _) iv0 (by simpa using L);split at k1;case h_2=>cases k1
 rename_i g
 have y:=hfr;unfold C7 at y;rw[AS]at y;have hTr:∀i o,A[i]?=Ac o->∃s,O[i]?=Ac s:=λi o ho=>by
  have:i<O.length:=by rw[(Kk g).2.1];exact(No.1 ho).1
  exact⟨O[i],IN this⟩
 have hl:∀i o s,A[i]?=Ac o->O[i]?=Ac s->dC P C A.toArray n st.nk o s (λt=>Cj A O (s0 st) (λ_=>Br) t i) (λk=>Cy O (An CR st.O) (λ_=>Br) k i):=λi o s ho K=>V.loc i o s (No.1 ho).1 ho K;refine iE (J:=JV C n Of bs st.nk A O (s0 st) (An CR st.O) H) hm (by simpa using hbk) (by simpa using hct) (λp a' w' i o U hpi hcl hanc S hJ=>?_) (λp a' w' Z hJ=>?_) ?_
 ·rw[TR λj b hgd=>by
   obtain⟨s,K⟩:=hTr i o U;have M:=hl i o s U K;cases s with
   |skip=>
    obtain⟨j',b',t,E,W,_⟩:=M.skip rfl;rw[hgd]at E;cases E;exact⟨t,W⟩
   |run z=>
    obtain⟨t,E,_⟩:=(M.run z rfl).1 j b hgd;exact⟨t,E⟩];refine Tm h.inv g hw.mC (λt k c=>?_) (λk x c=>⟨?_,D5 c hfr⟩) hw.lo hl p a' w' i o U hpi hcl hanc S hJ
  ·unfold s0 at c;split at c;· rename_i s K;have:=IT.1 (IT.1 y.1 _ (A5 K)) k c;simpa using this
   ·cases c
  ·have hlk:Ax st.O k≠Dc:=λe=>by unfold An at c;rw[e]at c;cases c
   exact Abz λT=>hlk (hw.ok k T)
 ·obtain⟨η',F,Y,E,W,g3,g4,g5,g6,g7,g8,g9⟩:=hJ.all Z;refine SS hΦ hG hY (hG _ _ _ _ E hg) (st:=D) (η:=η') (H:=F) ⟨N.C5 E h.inv,W,g3,λt sv ht=>V.sl t sv ht η' F _ (g4 t),g5,Y,g6,g7,λk c=>?_,λk sr c=>g9 k sr (by rw[<-V.ow k];exact c)⟩ V.wf k1 λI r' st2 η2 H2 a2 w2 T q0 q1 q2 q3=>hK I r' st2 η2 H2 a2 w2 (E.trans T) q0 q1 q2 q3;rcases g8 k c with e|⟨j,s,_,e2,e3⟩;· exact Abq e V.le
  ·exact V.ks j s e2 k e3
 ·obtain⟨Y,E,W,g3,g4⟩:=h.own;refine⟨η,H,Y,Hp.le.refl H,h.defers,h.size,λt=>?_,h.base,E,W.drew,λk c=> .inl (g3 k c),λk sr c=>g4 k sr ?_⟩
  ·rw[HI (i:=0) A.length (Abg _) (λ_ _ _ _=>rfl)];show(s0 st t).is C η H _;unfold s0;split;· rename_i s K;exact h.Bq t s K
   ·trivial
  ·rw[HH (i:=0) A.length (Abg _) (λ_ _ _ _ _ _=>rfl)]at c;exact c
end
end
section
variable {N : Df} {R : Type}
def Ub:List Tmp->List (SV N.T)->List (Nat×SV N.T)->List (Nat×SV N.T)
 |t::ts,s::ss,L=>Ub ts ss ((t,s)::L)
 |_,_,L=>L
def Iy{X Y:Type}(f:Y->X->(X->Option R)->Option R)(a:X->Option R):List Y->X->Option R
 | [],x=>a x
 |y::ys,x=>f y x (Iy f a ys)
def Re(e:Bool)(k:Option R):Option R:=match e with
 |true=>k
 |false=>Dc
def isC(p:Nat×SP):Bool:=match p.2 with
 | .c _=>Br
 |_=>Ak
def vp(q:IQ N):Bool:=((q.pi.ro.map (·.1)).all λk=>aT k q.pi.nk)&&(Cp (q.pi.ro.map (·.1))&&(q.pi.ro.all λp=>p.2.ks.all λk=>Cf (q.pi.ro.map (·.1)) k))
def R9(a:List Nat)(st:St N.T):St N.T:=app st Dc ⟨.no,[],a.map λk=>(k, .gone)⟩ st.nk
def WM(q:IQ N)(x:BK N q.pi.hs)(m:List (Nat×Nat))(s:St N.T):St N.T:=⟨s.L,(q.pi.ro.map λp=>(AZ m p.1,(instR N q.pi.hs x p.2).DS (AZ m)))++s.O,s.nk⟩
abbrev eI(N:Df)(R:Type):=Nat->List (SV N.T)->List (SR N.T)->St N.T->(St N.T->Option R)->(Nat->St N.T->Option R)->(St N.T->Option R)->Option R
def fN(C:List (SV N.T))(CR:List (SR N.T))(nk:Nat)(ps:Array Tmp)(q:IQ N)(x:BK N q.pi.hs)(m:List (Nat×Nat))(p:A9)(z:Kc N.T)(b c:eI N R)(ke:Nat->St N.T->Option R)(kr:St N.T->Option R)(y:DT N q.ts)(a:BK N (GQ p z).hs)(nx:BK N (GQ p z).hs->Option R):Option R:=b nk z.C z.CR ⟨Ub ps.toList (Q1 q.ts y) (FE N (GQ p z) a).L,(FE N (GQ p z) a).O,(FE N (GQ p z) a).nk⟩ (λs=>c nk z.C z.CR s (λs=>Ab (SM N z.C z.CR nk (GQ p z) ⟨(FE N (GQ p z) a).L,s.O,s.nk⟩) nx) (λi s=>ke i (D4 z.C z.CR C.length CR.length (WM q x m ⟨(FE N (GQ p z) a).L,s.O,s.nk⟩))) (λs=>kr (D4 z.C z.CR C.length CR.length (WM q x m ⟨(FE N (GQ p z) a).L,s.O,s.nk⟩)))) (λ_ _=>Dc) (λ_=>Dc)
def oQ(
     C:List (SV N.T)) (CR:List (SR N.T)) (n:Nat) (ps:Array Tmp) (e:Option A9) (st:St N.T) (q:IQ N) (l:SV N.T) (cs:List Nat) (c d:eI N R) (kn:St N.T->Option R) (ke:Nat->St N.T->Option R) (kr:St N.T->Option R):Option (Option R):=
 match(Hg (FA l cs).length q.pi.sl.length&&q.pi.sl.all (λp=>aT p.1 (FA l cs).length))&&(vp q&&Hg q.yi (Ta l).length)with
 |false=>Dc
 |true=>
      match JN C (An CR st.O) (λi=>(FA l cs).getD i .no) (Hh C (An CR st.O) (λi=>(FA l cs).getD i .no) q.pi) q.pi with
  |none=>Dc
  |some x=>Ac (match e with
   |none=>Dc
   |some p=>match wR C CR (R9 (q.pi.ro.map λp=>AZ (Hh C (An CR st.O) (λi=>(FA l cs).getD i .no) q.pi) p.1) st) p with
    |none=>Dc
    |some z=>match(z.sl.all isC&&Hg z.st.nk st.nk)&&(Hg ps.size q.ts.length&&ps.toList.all (λt=>aT t n))with
     |false=>Dc
     |true=>Ab (q.F x) λys=>Ab (SM N z.C z.CR st.nk (GQ p z) z.st) λx0=>
      Iy (fN C CR st.nk ps q x (Hh C (An CR st.O) (λi=>(FA l cs).getD i .no) q.pi) p z c d ke kr)
       (λf=>Re ys.2 (kn (D4 z.C z.CR C.length CR.length (WM q x (Hh C (An CR st.O) (λi=>(FA l cs).getD i .no) q.pi) (FE N (GQ p z) f))))) ys.1 x0)
structure Sa(C:List (SV N.T))(CR:List (SR N.T))(n:Nat)(bs:List (Nat×Ce))(st:St N.T)(η:Nat->Ce)(H:Hp)(tm:Array Ce)(Y:List (Nat×Aw)):Prop where
 inv:N.inv H
 size:tm.size=n
 Bq:∀t sv,Ax st.L t=Ac sv->sv.is C η H (tm.getD t undef)
 base:∀p∈bs,η p.1=p.2
 nd:(keys Y).Nodup
 lt:∀k∈keys Y,k<st.nk
 res:∀k sr,An CR st.O k=Ac sr->Dp C η H Y k sr
variable {C : List (SV N.T)} {CR : List (SR N.T)} {n : Nat} {Of : Fm} {bs : List (Nat × Ce)} {st : St N.T} {η : Nat -> Ce} {H : Hp} {a : Act} {w : IK} {Y : List (Nat × Aw)}
section
variable{nk:Nat}{η':Nat->Ce}{c:Hp}{k:Nat}{L:List (Nat×SV N.T)}{τ:Nat->Nat}{q:IQ N}{x:BK N q.pi.hs}{m:List (Nat×Nat)}{tm:Array Ce}
theorem Sat.sa(h:Sat C CR n Of bs st η H a w):∃Y,Sa C CR n bs st η H a.tmps Y/\SH w H (Y.map (·.2)++Of.O):=by obtain⟨Y,b,c,d,e⟩:=h.own;exact⟨Y,⟨h.inv,h.size,h.Bq,h.base,b,d,e⟩,c⟩
theorem Sa.sat{b:Array Ce}(h:Sa C CR n bs st η H b Y){O:List Aw}{ds:List Deferred}(c:SH w H (Y.map (·.2)++O)):Sat C CR n ⟨O,ds⟩ bs st η H ⟨b,ds⟩ w:=
 ⟨h.inv,rfl,h.size,h.Bq,h.base,Y,h.nd,c,h.lt,h.res⟩
theorem Sa.mono{d:Array Ce}(h:Sa C CR n bs st η H d Y)(b:H.le c):Sa C CR n bs st η c d Y:=
 ⟨N.C5 b h.inv,h.size,λt sv i=>(h.Bq t sv i).mono b,h.base,h.nd,h.lt,λk j g=>(h.res k j g).imp id λ⟨x,e,f⟩=>⟨x,e,f.mono b⟩⟩
def FL(η:Nat->Ce)(nk:Nat):List (Nat×Ce):=(aO nk).map λk=>(k,η k)
theorem Nk(h:k<nk):(k,η k)∈FL η nk:=By.2 ⟨k,Abf.2 h,rfl⟩
theorem Ie{p:Nat×Ce}(h:p∈FL η nk):p.1<nk/\p.2=η p.1:=by obtain⟨k,b,rfl⟩:=By.1 h;grind
theorem LV(h:∀p∈FL η nk,η' p.1=p.2)(b:k<nk):η' k=η k:=h _ (Nk b)
theorem X_{e:Array Ce}(hc:∀t sv,Ax L t=Ac sv->∃j,sv= .CD j)(g:∀k∈C3 C,η' k=η k)(b:H.le c)(h:∀t sv,Ax L t=Ac sv->sv.is C η H (e.getD t undef)):∀t sv,Ax L t=Ac sv->sv.is C η' c (e.getD t undef):=λt sv d=>by obtain⟨j,rfl⟩:=hc t sv d;exact((h t _ d).env g (λk f=>by cases f)).mono b
theorem cf{O e:List (Nat×SR N.T)}(hc:∀t sv,Ax L t=Ac sv->∃j,sv= .CD j)(f:∀s∈C,RQ s=Br)(h:Nr (An CR O) (CC C L) τ):Nr (An CR e) (CC C L) τ:=λt=>by
 have b:=h t;unfold CC at b⊢;cases d:Ax L t with
 |none=>trivial
 |some sv=>
  obtain⟨j,rfl⟩:=hc t sv d;rw[d]at b;simp only[res]at b⊢;rw[Aad]at b⊢;cases c:C[j]? with
  |none=>trivial
  |some s=>
   rw[c]at b;have:=f s (Aai c);cases s<;>first|exact b|trivial
theorem iz{p:A9}{x:BK N p.hs}(h:p.sl.all isC=Br):∀t sv,Ax (FE N p x).L t=Ac sv->∃j,sv= .CD j:=λt sv c=>by
 obtain⟨q,b,_,rfl⟩:=DI c;have:=IT.1 h q b;unfold isC at this;split at this;· rename_i j e;rw[e];exact⟨j,rfl⟩
 grind
theorem ZX{η:Nat->Ce} :∀(ts:List Tmp) (ss:List (SV N.T)) (vs:List Ce) (L:List (Nat×SV N.T)) (b:Array Ce),vs.length=ss.length->ss.length=ts.length->(∀t∈ts,t<b.size)->(∀(i:Nat) (s:SV N.T),ss[i]?=Ac s->∃v,vs[i]?=Ac v/\s.is C η H v)->
  (∀t sv,Ax L t=Ac sv->sv.is C η H (b.getD t undef))->((ts.zip vs).foldl (λb (p:Tmp×Ce)=>b.setIfInBounds p.1 p.2) b).size=b.size/\∀t sv,Ax (Ub ts ss L) t=Ac sv->sv.is C η H (((ts.zip vs).foldl (λb (p:Tmp×Ce)=>b.setIfInBounds p.1 p.2) b).getD t undef)
 | [],[],[],L,b,_,_,_,_,h=>⟨rfl,h⟩
 | [],_::_,_,_,_,_,h,_,_,_=>by grind
 |_::_,[],_,_,_,_,h,_,_,_=>by grind
 |_,_::_,[],_,_,h,_,_,_,_=>by grind
 | [],[],_::_,_,_,h,_,_,_,_=>by grind
 |t::ts,s::ss,v::vs,L,b,m,o,j,k,q=>by
  have:=ZX ts ss vs ((t,s)::L) (b.setIfInBounds t v) (by grind) (by grind) (λu d=>by grind) (λi s r=>k (i+1) s (by grind)) λu sv d=>by
   simp only[Ax]at d;cases f:Hg t u with
   |true=>
    rw[f]at d;have:=AI f;obtain⟨z,e,y⟩:=k 0 s rfl;simp_all
   |false=>
    simp_all[ne,Abe]
  exact⟨by simp_all,this.2⟩
theorem OU:∀(ts:List Ty) (y:DT N ts),∀s∈Q1 ts y,EY s=Br/\RU s=Br
 | [],_,s,h=>by trivial
 | [t],y,s,h=>by simp[Q1]at h;subst h;trivial
 |t::u::ts,y,s,h=>by
  simp only[Q1,Aao]at h;rcases h with rfl|h;· trivial
  ·exact OU (u::ts) y.2 s h
theorem VJ{τ:Nat->Nat}{Rr:Nat->Option (SR N.T)} :∀(ts:List Tmp) (ss:List (SV N.T)) (L:List (Nat×SV N.T)),(∀s∈ss,EY s=Br/\RU s=Br)->Nr Rr (CC C L) τ->Nr Rr (CC C (Ub ts ss L)) τ
 | [],_,_,_,h=>h
 |_::_,[],_,_,h=>h
 |t::ts,s::ss,L,c,h=>by
  refine VJ ts ss ((t,s)::L) (λz f=>c z (by grind)) λq=>?_;have b:=h q;unfold CC at b⊢;simp only[Ax];cases g:Hg t q with
  |true=>
   obtain⟨d,e⟩:=c s (by simp);have:res C s=s:=by cases s<;>first|rfl|cases e
   grind[DE]
  |false=>omega
theorem gE{A:Nat->SV N.T}{vs:List Ce}(hx:JN C (An CR st.O) A m q.pi=Ac x)(M:vp q=Br)(len:vs.length=q.pi.sl.length)(hv:∀p∈q.pi.sl,∃v,vs[p.1]?=Ac v/\(A p.1).is C η H v)
  (h:Sa C CR n bs st η H tm Y) (hw:WF C CR bs st):
  (q.pi.ro.map λp=>AZ m p.1).Nodup/\(∀p∈q.pi.ro,AZ m p.1<st.nk)/\(∀p∈q.pi.sl,∃v,vs[p.1]?=Ac v/\(inst N q.pi.hs x p.2).is [] (λc=>η (AZ m c)) H v)/\WF C CR bs (R9 (q.pi.ro.map λp=>AZ m p.1) st)/\
  ∃Yc U:List (Nat×Aw),keys Yc=q.pi.ro.map (·.1)/\(∀p∈q.pi.ro,∃X,Ax Yc p.1=Ac X/\(instR N q.pi.hs x p.2).is [] (λc=>η (AZ m c)) H p.1 X)/\Sa C CR n bs (R9 (q.pi.ro.map λp=>AZ m p.1) st) η H tm U/\∀w O,SH w H (Y.map (·.2)++O)->SH w H (Yc.map (·.2)++(U.map (·.2)++O)):=by
 obtain⟨B,Q,D⟩:=LR (C:=C) (η:=η) (H:=H) (Y:=Y) (vs:=vs) (A:=A) hx len hv (λp d r f=>h.res _ r f);generalize o:(q.pi.ro.map λp=>AZ m p.1)=l at B;have T:∀k∈l,∃r,An CR st.O k=Ac r:=λk b=>by grind
 have S:∀k∈l,k<st.nk:=λk b=>by refine Abz λL=>?_;have:=hw.ok k L;grind[An]
 have F:keys (l.map λk=>(k,(SR.gone:SR N.T)))=l:=by unfold keys;rw[Aaj];exact Afi _
 refine⟨B,λp d=>S _ (by grind),Q,hw.Vs (n:=n) ⟨?_,Aaf _,λj W i=>?_,λ_ _=>trivial⟩,q.pi.ro.map (λp=>(p.1,(Ax Y (AZ m p.1)).getD .emp)),Y.filter (λp=> !Cf l p.1),?_,λp d=>?_,⟨h.inv,h.size,λt sv I=>?_,h.base,(Acp.map _).nodup h.nd,λk b=>?_,λk r b=>?_⟩,λw O P=>?_⟩;· unfold G_;simp only[NQ,RU,Bool.and_self,Ali,AS,Agl,and_true];refine IT.2 λp d=>?_;grind[Oj,nD]
 ·grind
 ·simp[keys]
 ·obtain⟨_,X,J,h2⟩:=D p d;refine⟨X,?_,h2⟩;unfold vp at M;have nd:(keys (q.pi.ro.map (λp=>(p.1,(Ax Y (AZ m p.1)).getD .emp)))).Nodup:=by
   unfold keys;grind
  rw[CT nd (By.2 ⟨p,d,rfl⟩),J];rfl
 ·have I:Ax (iO (keys (l.map λk=>(k,(SR.gone:SR N.T)))) st.L) t=Ac sv:=I;rw[QE]at I;obtain⟨z,y,rfl⟩:=Pd.1 I;exact QF (h.Bq t z y)
 ·obtain⟨p,d,rfl⟩:=By.1 b;exact h.lt _ (By.2 ⟨p,(Aax.1 d).1,rfl⟩)
 ·have b:An CR ((l.map λk=>(k,(SR.gone:SR N.T)))++st.O) k=Ac r:=b;rw[Ha _ _ (λp d=>by obtain⟨k,_,rfl⟩:=By.1 d;rfl)]at b;unfold PL at b;split at b;· rename_i s G;cases b;obtain⟨k',_,e⟩:=By.1 (A5 G);cases e;exact .inl rfl
  ·have hn:k∉l:=λhm=>by
    obtain⟨z,y⟩:=Du (show k∈keys (l.map λk=>(k,(SR.gone:SR N.T))) by rw[F];exact hm);grind
   exact(h.res k r b).imp id λ⟨z,g1,g2⟩=>⟨z,by rw[LM hn];exact g1,g2⟩
 ·have y:=SH.Rg P (Z:=(q.pi.ro.map λp=>(AZ m p.1,(Ax Y (AZ m p.1)).getD .emp))++Y.filter λp=> !Cf l p.1) (by
   unfold keys;rw[Aan,Aaj];refine Acq.2 ⟨by show(q.pi.ro.map λp=>AZ m p.1).Nodup;rw[o];exact B,(Acp.map _).nodup h.nd,λk b k' K e=>?_⟩;subst e;obtain⟨p,d,rfl⟩:=By.1 K;have V:=(Aax.1 d).2;have b:p.1∈q.pi.ro.map λp=>AZ m p.1:=b;rw[o]at b;rw[AR.2 b]at V;cases V) (λp d=>by
   rcases AT.1 d with d|d;· obtain⟨z,y,rfl⟩:=By.1 d;obtain⟨_,X,J,_⟩:=D z y;simp only[J,Acu]
   ·exact CT h.nd (Aax.1 d).1);rw[Aan,Aaj,Aak]at y;rw[Aaj];exact y
theorem Xp{ρ:Nat->Nat}(s:SR N.T):Oj (s.DS ρ)=Br:=by cases s<;>rfl
theorem ib{G:Hp}{Yc:List (Nat×Aw)}(W:vp q=Br)(o:(q.pi.ro.map λp=>AZ m p.1).Nodup)(B:∀p∈q.pi.ro,AZ m p.1<nk)(V:nk<=st.nk)(M:∀k,k<nk->η' k=η k)
  (hc:∀t sv,Ax st.L t=Ac sv->∃j,sv= .CD j) (r:keys Yc=q.pi.ro.map (·.1)) (hr:∀p∈q.pi.ro,∃X,Ax Yc p.1=Ac X/\(instR N q.pi.hs x p.2).is [] (λc=>η (AZ m c)) G p.1 X) (h:Sa C CR n bs st η' G tm Y) (J:WF C CR bs st):
  WF C CR bs (WM q x m st)/\∃Y',Sa C CR n bs (WM q x m st) η' G tm Y'/\∀w O,SH w G (Yc.map (·.2)++(Y.map (·.2)++O))->SH w G (Y'.map (·.2)++O):=by
 unfold vp at W;simp only[AS]at W;obtain⟨o1,o2,o3⟩:=W;generalize u:(q.pi.ro.map λp=>AZ m p.1)=K at o;have y:keys (q.pi.ro.map λp=>(AZ m p.1,(instR N q.pi.hs x p.2).DS (AZ m)))=K:=by unfold keys;rw[Aaj,<-u];rfl
 have inj:∀c∈q.pi.ro.map (·.1),∀d∈q.pi.ro.map (·.1),AZ m c=AZ m d->c=d:=λc hc d U e=>by obtain⟨p,i,rfl⟩:=By.1 hc;obtain⟨p',D,rfl⟩:=By.1 U;grind[AZ,P8]
 have b:keys (Yc.map λp=>(AZ m p.1,p.2))=K:=by
  unfold keys at r⊢;rw[Aaj];have e:(Yc.map ((·.1)∘λp=>(AZ m p.1,p.2)))=(Yc.map (·.1)).map (AZ m):=by simp
  rw[e,r,Aaj,<-u];rfl
 refine⟨⟨J.lo,λj A=>?_,?_,J.mC,J.cP⟩,(Yc.map λp=>(AZ m p.1,p.2))++Y.filter (λp=> !Cf K p.1),⟨h.inv,h.size,h.Bq,h.base,?_,λk l=>?_,λk sr g=>?_⟩,λw O hsh=>?_⟩;· have A:st.nk<=j:=A;show Ax ((q.pi.ro.map λp=>(AZ m p.1,(instR N q.pi.hs x p.2).DS (AZ m)))++st.O) j=Dc;rw[BX,J.ok j A,CG λI=>?_];grind
 ·obtain⟨τ,hτ⟩:=J.wf;exact⟨τ,cf hc J.cP hτ⟩
 ·unfold keys at b⊢;rw[Aan,b];refine Acq.2 ⟨o,(Acp.map _).nodup h.nd,λk r k' g e=>?_⟩;grind[AR]
 ·show k<st.nk;unfold keys at l b;rw[Aan,b]at l;rcases AT.1 l with l|l;· grind
  ·obtain⟨p,i,rfl⟩:=By.1 l;exact h.lt _ (By.2 ⟨p,(Aax.1 i).1,rfl⟩)
 ·have g:An CR ((q.pi.ro.map λp=>(AZ m p.1,(instR N q.pi.hs x p.2).DS (AZ m)))++st.O) k=Ac sr:=g;rw[Ha _ _ (λp i=>by obtain⟨z,_,rfl⟩:=By.1 i;exact Jk (Xp _))]at g;unfold PL at g;split at g
  ·rename_i s S;cases g;obtain⟨p,i,e⟩:=By.1 (A5 S);cases e;obtain⟨X,x1,x2⟩:=hr p i;have Z:p.1∈q.pi.ro.map (·.1):=By.2 ⟨p,i,rfl⟩;refine .inr ⟨X,?_,SR.Mr (M _ (B p i)) (λj A=>?_) x2⟩;· rw[BX,VU (λd U e=>inj d (by rw[<-r];exact U) p.1 Z e),x1]
   ·have A:=instR_ment _ _ _ _ A;have:=AR.1 (IT.1 (IT.1 o3 p i) j A);obtain⟨p',D,rfl⟩:=By.1 this;exact M _ (B p' D)
  ·rename_i S;have Q:k∉K:=λI=>by
    obtain⟨z,hz⟩:=Du (show k∈keys (q.pi.ro.map λp=>(AZ m p.1,(instR N q.pi.hs x p.2).DS (AZ m))) by rw[y];exact I);rw[hz]at S;cases S
   refine(h.res k sr g).imp id λ⟨z,g1,g2⟩=>⟨z,?_,g2⟩;rw[BX,CG (by rw[b];exact Q),LM Q];exact g1
 ·have L:SH w G (((Yc.map λp=>(AZ m p.1,p.2))++Y).map (·.2)++O):=by
   rw[Aan,Aaj,Aak];exact hsh
  refine SH.Rg L ?_ λp i=>?_;· unfold keys at b⊢;rw[Aan,b];refine Acq.2 ⟨o,(Acp.map _).nodup h.nd,λk r k' g e=>?_⟩;subst e;obtain⟨p,i,rfl⟩:=By.1 g;have v:=(Aax.1 i).2;rw[AR.2 r]at v;cases v
  ·rw[BX];rcases AT.1 i with i|i;· rw[CT (by rw[b];exact o) i]
   ·have v:=(Aax.1 i).2;have Q:p.1∉K:=λI=>by rw[AR.2 I]at v;cases v
    rw[CG (by rw[b];exact Q)];exact CT h.nd (Aax.1 i).1
end
end
section
variable{w:IK}{H:Hp}{A O B D:List Aw}{b:Nat}{o:Obj}
theorem Age(h:SH w H (A++(B++(D++O)))):SH w H (D++(B++(A++O))):=by grind[Agi,List.append_assoc]
theorem Aiu(h:SH w H (A++(B++(D++O)))):SH w H (A++(D++(B++O))):=Agi (Age (Agi h))
theorem Agy(h:SH w H (A++ .Af b o::O))(o':Obj):SH (w.putObj b o') H (A++ .Af b o'::O):=by
 have f:(A++ .Af b o::O)[A.length]?=Ac (.Af b o):=by simp
 have g:w.heap[b]?=Ac o:=h.ok _ _ f;have a:b<w.heap.size:=(Adu.1 g).1;have d:=h.set f (r':= .Af b o') (Jn w b o') (IK.putObj_heap_same a) (λc hc=> .inl hc);grind
theorem SH.at_(h:SH w H (A++ .Af b o::O)):w.heap[b]?=Ac o:=h.ok A.length (.Af b o) (by simp)
end
section
variable {N : Df} {R : Type}
def GX(X:List Aw)(ds:List Deferred)(G:Hp->Fm->R->Prop):Hp->Fm->R->Prop:=λH Of r=> ∃a,Of=⟨X++a.O,[]⟩/\G H a r/\a.ds=ds
variable {C : List (SV N.T)} {CR : List (SR N.T)} {n : Nat} {Of : Fm} {bs : List (Nat × Ce)} {st : St N.T} {η : Nat -> Ce} {H : Hp} {a : Act} {w : IK} {Y : List (Nat × Aw)} {P : GO} [C9 N P] {G : Hp -> Fm -> R -> Prop} {yl : YL N R} {yv : Ce}
section
variable{nk:Nat}
theorem QQ.frame{f:List (Nat×Ce)}{X:List Aw}{ds:List Deferred}(l:QQ P bs yl yv G)(x:∀p∈bs,p∈f):QQ P f yl yv (GX X ds G):=by
 refine⟨λC i k r h=>x _ (l.mem C i k r h),λC i k r Of H s ⟨d,e,g,q⟩ v η A F w t u j=>?_⟩;subst e;have j:SH w H ((A++X)++d.O):=by grind
 refine(l.ok C i k r d H s g v η (A++X) F w t u j).mono λb J ⟨o,c,E,y,z,m,B,D⟩=>⟨o,⟨X++c.O,[]⟩,E,y,rf,by grind,⟨c,rf,B,z.trans q⟩,D⟩
def yM(P:GO)(n:Nat)(yl:YL N R)(yv:Ce)(c:Code)(d:eI N R):Prop:= ∀(l:Nat) {C:List (SV N.T)} {CR:List (SR N.T)} {kb:Nat} {bs:List (Nat×Ce)} {G:Hp->Fm->R->Prop} {Of:Fm} {r:R} {st:St N.T} {kn:St N.T->Option R} {ke:Nat->St N.T->Option R} {kr:St N.T->Option R} {η:Nat->Ce} {H:Hp} {a:Act} {w:IK} {Q:Exit->Act->IK->Prop},(∀q∈bs,q.1<kb)->(∀H b Of r,H.le b->G H Of r->G b Of r)->QQ P bs yl yv G->G H Of r->Sat C CR n Of bs st η H a w->WF C CR bs st->d kb C CR st kn ke kr=Ac r->Kn C CR n G bs H kn (Q .normal)->(∀i,Kn C CR n G bs H (ke i) (Q (.exit i)))->Kn C CR n G bs H kr (Q .ret)->c.wpIn (FR (Ac l)) 0 P Q a w
theorem ns(b:WF C CR (FL η nk) st):nk<=st.nk:=by
 cases nk with
 |zero=>omega
 |succ k=>exact b.lo _ (Nk (Afg k))
theorem QM{η' f:Nat->Ce}{m g:Hp}{u:Array Ce}{L:List (Nat×SV N.T)}{o:List (Nat×SR N.T)}{e:Nat}{b:St N.T}{O:List Aw}{v:Act}(hc:∀t sv,Ax L t=Ac sv->∃j,sv= .CD j)(q:∀k∈C3 C,k<nk)(i:m.le g)
  (s:Sa C CR n (FL η nk) ⟨L,o,e⟩ η' m u Y) (r:WF C CR (FL η nk) ⟨L,o,e⟩) (h1:Sat C CR n ⟨O,[]⟩ (FL η nk) b f g v w) (c:WF C CR (FL η nk) b):
  WF C CR (FL η nk) ⟨L,b.O,b.nk⟩/\∃h,Sa C CR n (FL η nk) ⟨L,b.O,b.nk⟩ f g u h/\SH w g (h.map (·.2)++O):=by
 obtain⟨h,d,x⟩:=h1.sa;obtain⟨τ,l⟩:=r.wf;refine⟨⟨c.lo,c.ok,⟨τ,cf hc r.cP l⟩,c.mC,c.cP⟩,h,⟨d.inv,s.size,?_,d.base,d.nd,d.lt,d.res⟩,x⟩;exact X_ hc (λk p=>(LV d.base (q k p)).trans (LV s.base (q k p)).symm) i s.Bq
theorem fL{q:IQ N}{f:Nat}{l:SV N.T}{cs:List Nat}{asg body:Code}{da db:eI N R}{ps:Array Tmp}{g:Er}{pp:Option A9}{kn:St N.T->Option R}{ke:Nat->St N.T->Option R}{kr:St N.T->Option R}{r:R}{Q:Exit->Act->IK->Prop}(hsp:I6 P f q)(hda:yM P n yl yv asg da)(hdb:yM P n yl yv body db)
  (hG:∀H H' Of r,H.le H'->G H Of r->G H' Of r) (hpush:∀H Of r D,G H Of r->G H (K4 D Of) r) (hY:QQ P bs yl yv G) (hg:G H Of r) (h:Sat C CR n Of bs st η H a w) (hw:WF C CR bs st) {us:List Ce} (he:a.eval g= .func (.func f) us.toArray (cs.map η).toArray) (hl:l.is C η H (.tuple us.toArray)) (hb:vv l=Br)
  (hcs:∀c∈cs,∃g b,An CR st.O c=Ac (.Af g b)) (hd:oQ C CR n ps pp st q l cs da db kn ke kr=Ac (Ac r)) (hn:Kn C CR n G bs H kn (Q .normal)) (hke:∀i,Kn C CR n G bs H (ke i) (Q (.exit i))) (hkr:Kn C CR n G bs H kr (Q .ret)):(Alz g ps asg body).wp P Q a w:=by
 unfold oQ at hd;split at hd;· grind
 rename_i hck;simp only[AS]at hck;obtain⟨⟨ck1,ck2⟩,ck3,ck4⟩:=hck;split at hd;· grind
 rename_i x hx;replace hd:=Abs hd;generalize hm:Hh C (An CR st.O) (λi=>(FA l cs).getD i .no) q.pi=m at hx hd;split at hd;· grind
 rename_i p;split at hd;· grind
 rename_i z hz;split at hd;· grind
 rename_i hck2;simp only[AS]at hck2;obtain⟨⟨cz1,cz2⟩,cz3,cz4⟩:=hck2;obtain⟨ys,hys,hd⟩:=Bj hd;obtain⟨x0,hx0,hd⟩:=Bj hd;obtain⟨g1,g2⟩:=Na hb hl;obtain⟨Y,sa,hsh⟩:=h.sa;refine W5 (us:=us) (caps:=cs.map η) he hsp.YZ λfn=>?_;generalize hD:w.heap.size=D;generalize K:Bk fn a.tmps ps asg body D=d;have hlen:(us++[Ce.func (.yield (D+1)) #[] #[]]++cs.map η).length=q.pi.sl.length:=by simp_all[FA]
 have hargs:∀(i:Nat) (s:SV N.T),(FA l cs)[i]?=Ac s->∃v,(us++[Ce.func (.yield (D+1)) #[] #[]]++cs.map η)[i]?=Ac v/\s.is C η H v:=λi s hi=>by
  unfold FA at hi;rw[Aak]at hi⊢;by_cases c1':i<(Ta l).length;· grind
  · rw[Aac (by omega)]at hi;rw[Aac (by omega),g1];generalize hj:i-(Ta l).length=j at hi⊢;cases j with
    |zero=>
     simp at hi;subst hi;exact⟨_,rfl,trivial⟩
    |succ j=>
     simp only[Afh,Aci,Acs,Acb]at hi⊢;obtain⟨c,hc,rfl⟩:=Pd.1 hi;have hcm:=Aai hc;obtain⟨g',b,hR⟩:=hcs c hcm;refine⟨η c,by grind,?_⟩;rcases sa.res c _ hR with e|⟨X,_,B,_,b1,_⟩;· cases e
     ·exact⟨B,b1,b1⟩
 have hsl:∀p∈q.pi.sl,∃v,(us++[Ce.func (.yield (D+1)) #[] #[]]++cs.map η)[p.1]?=Ac v/\((FA l cs).getD p.1 .no).is C η H v:=λp U=>by
  have hlt:p.1<(FA l cs).length:=by simpa using IT.1 ck2 p U
  obtain⟨v,e1,e2⟩:=hargs p.1 (FA l cs)[p.1] (IN hlt);refine⟨v,e1,?_⟩;rw[Aad,IN hlt];exact e2
 obtain⟨l1,l2,l3,l4,Yc,Yr,l5,l6,l7,l8⟩:=gE (A:=λi=>(FA l cs).getD i .no) hx ck3 hlen hsl sa hw;generalize hks:(q.pi.ro.map λp=>AZ m p.1)=ks at l1 l4 l7 hz;have hw1:SH ((w.alloc (.deferred (Ac []))).alloc (.loop d)) H (.Af (D+1) (.loop d)::BF D::(Y.map (·.2)++Of.O)):=by have:=(hsh.alloc (.deferred (Ac []))).alloc (.loop d);rw[<-hD];simpa using this
 generalize hW1:(w.alloc (.deferred (Ac []))).alloc (.loop d)=w1 at hw1;have hw2:SH w1 H (Yr.map (·.2)++(([.Af (D+1) (.loop d),BF D]:List Aw)++(Yc.map (·.2)++Of.O))):=Aiu (B:=Yc.map (·.2)) (Agi (l8 w1 _ (Ahe hw1)));have l7':Sa C CR n (FL η st.nk) (R9 ks st) η H a.tmps Yr:=⟨l7.inv,l7.size,l7.Bq,λp U=>(Ie U).2.symm,l7.nd,l7.lt,l7.res⟩;have l4':WF C CR (FL η st.nk) (R9 ks st):=⟨λp U=>(Ie U).1,l4.ok,l4.wf,l4.mC,l4.cP⟩;obtain⟨c1,c2,c3,c4,c5⟩:=Ut (l7'.sat (ds:=[]) hw2) l4' hz;obtain⟨η0,e1,e2⟩:=M1 c4 c5 (λp U=>(Ie U).1) hx0;obtain⟨Y0,s0,hsh0⟩:=e1.sa;have hnkz:=AI cz2;have hmz:∀k∈C3 z.C,k<st.nk:=λk hk=>by rw[<-hnkz];exact c5.mC k hk
 have W:∀J:BK N (GQ p z).hs,∀t sv,Ax (FE N (GQ p z) J).L t=Ac sv->∃j,sv= .CD j:=λJ=>iz (show(GQ p z).sl.all isC=Br from cz1);let G2:Hp->List Aw->List (DT N q.ts)×Bool->Prop:=λH' O ys'=>H.le H'/\∃I r',G H' I r'/\I.ds=Of.ds/\
  (
   (∃J E Z,O= .Af (D+1) (.loop d)::BF D::(Z.map (·.2)++I.O)/\Sa z.C z.CR n (FL η st.nk) (FE N (GQ p z) J) E H' a.tmps Z/\WF z.C z.CR (FL η st.nk) (FE N (GQ p z) J)/\Iy (fN C CR st.nk ps q x m p z da db ke kr) (λJ=>Re ys'.2 (kn (D4 z.C z.CR C.length CR.length (WM q x m (FE N (GQ p z) J))))) ys'.1 J=Ac r')\/
   (
    ys'=([],Br)/\∃c s E Z,O= .Af (D+1) (.loop {d with state:= .done,pending:=Ac c})::BF D::(Z.map (·.2)++I.O)/\(∀t sv,Ax s.L t=Ac sv->∃j,sv= .CD j)/\Sa z.C z.CR n (FL η st.nk) s E H' a.tmps Z/\WF z.C z.CR (FL η st.nk) s/\
    ((c= .ret/\kr (D4 z.C z.CR C.length CR.length (WM q x m s))=Ac r')\/∃i,c= .exit i/\ke i (D4 z.C z.CR C.length CR.length (WM q x m s))=Ac r')));have mono2:∀S H2 O r,S.le H2->G2 S O r->G2 H2 O r:=λS H2 O r' hle ⟨k0,I,r1,k1,k2,k3⟩=>by
  refine⟨k0.trans hle,I,r1,hG _ _ _ _ hle k1,k2,?_⟩;rcases k3 with⟨J,E,Z,q1,q2,q3,q4⟩|⟨q0,c,s,E,Z,q1,q2,q3,q4,q5⟩;· exact .inl ⟨J,E,Z,q1,q2.mono hle,q3,q4⟩
  · exact .inr ⟨q0,c,s,E,Z,q1,q2,q3.mono hle,q4,q5⟩
 have no2:∀S O,¬G2 S O ([],Ak):=λS O ⟨_,_,_,_,_,k3⟩=>by
  rcases k3 with⟨_,_,_,_,_,_,e⟩|⟨e,_⟩;· cases e
  · cases e
 have yld2:∀S O y r ce,N.inv S->G2 S O (y::r,ce)->∀A vs w,YU S q.ts y vs->SH w S (A++O)->I4 P (.func (.yield (D+1)) #[] #[]) vs w λb w'=> ∃H' O',S.le H'/\SH w' H' (A++O')/\G2 H' O' (Lj (r,ce) b):=λS O y rest ce _ ⟨k0,I,r',k1,k2,k3⟩ A vs w' hArg hSH=>by
  rcases k3 with⟨J,E,Z,rfl,s1,f1,M⟩|⟨e,_⟩;case inr=>cases e
  have M:fN C CR st.nk ps q x m p z da db ke kr y J (Iy (fN C CR st.nk ps q x m p z da db ke kr) (λJ=>Re ce (kn (D4 z.C z.CR C.length CR.length (WM q x m (FE N (GQ p z) J))))) rest)=Ac r':=M;obtain⟨p1,p2,p3⟩:=UH (C:=z.C) (η:=E) q.ts y vs hArg;have hps:ps.size=q.ts.length:=AI cz3;obtain⟨q1,q2⟩:=ZX (C:=z.C) ps.toList (Q1 q.ts y) vs (FE N (GQ p z) J).L a.tmps p1 (by rw[p2,<-hps];simp) (λt ht=>by rw[h.size];simpa using IT.1 cz4 t ht) p3 s1.Bq;have hhp:w'.heap[D+1]?=Ac (.loop d):=SH.at_ hSH;have hrp:d.params=ps:=by rw[<-K]
  have hrt:d.tmps=a.tmps:=by rw[<-K]
  have hra:d.assign=asg:=by rw[<-K]
  have hrb:d.body=body:=by rw[<-K]
  have hrs:d.state= .ready:=by rw[<-K]
  have hry:=run_yield (P:=P) (args:=vs.toArray) hhp (by rw[hrp];simp[p1,p2,hps]);rw[hrp,hrt,hra,hrb,<-Array.foldl_toList,Array.toList_zip]at hry;refine⟨D+1,d.fn,_,asg,body,rfl,hry,?_⟩;generalize htm:(ps.toList.zip vs.toArray.toList).foldl (λtm (p:Tmp×Ce)=>tm.setIfInBounds p.1 p.2) a.tmps=tm' at*;have q1':tm'.size=n:=q1.trans h.size;have q2':∀t sv,Ax (Ub ps.toList (Q1 q.ts y) (FE N (GQ p z) J).L) t=Ac sv->sv.is z.C E S (tm'.getD t undef):=q2;have hX:SH w' S (Z.map (·.2)++((.Af (D+1) (.loop d)::BF D::A)++I.O)):=Age (A:=A) (B:=[.Af (D+1) (.loop d),BF D]) (D:=Z.map (·.2)) (O:=I.O) hSH;have hYm:∀p∈bs,p∈FL η st.nk:=λp U=>by have e:=h.base p U;obtain⟨k,v⟩:=p;have e:η k=v:=e;rw[<-e];exact Nk (hw.lo _ U)
  have gm:∀X:List Aw,∀H H' Of3 r,H.le H'->GX X Of.ds G H Of3 r->GX X Of.ds G H' Of3 r:=λX H H' Of3 r hle ⟨O2,e,g,gd⟩=>⟨O2,e,hG _ _ _ _ hle g,gd⟩;refine roundIn_of_wpIn (F:=qF) trivial ?_;refine hda (D+1) (G:=GX (.Af (D+1) (.loop d)::BF D::A) Of.ds G) (r:=r') (a:=⟨tm',[]⟩) (st:=⟨Ub ps.toList (Q1 q.ts y) (FE N (GQ p z) J).L,(FE N (GQ p z) J).O,(FE N (GQ p z) J).nk⟩) (ke:=λ_ _=>Dc) (kr:=λ_=>Dc) (λp U=>(Ie U).1) (gm _) (hY.frame hYm) ⟨I,rfl,k1,k2⟩ (Sa.sat (st:=⟨Ub ps.toList (Q1 q.ts y) (FE N (GQ p z) J).L,(FE N (GQ p z) J).O,(FE N (GQ p z) J).nk⟩) (ds:=[]) ⟨s1.inv,q1',q2',s1.base,s1.nd,s1.lt,s1.res⟩ hX) (f1.Gt λτ hτ=>VJ _ _ _ (OU _ _) hτ) M ?_ (λi Of1 r1 st1 η1 H2 a1 w1 _ _ _ _ hd1=>by cases hd1) (λOf1 r1 st1 η1 H2 a1 w1 _ _ _ _ hd1=>by cases hd1);intro Of1 r1 st1 η1 H2 a1 w1 hl1 ⟨Of2,e,g,gd⟩ h1 hw1 hd1;subst e;obtain⟨Y5,y1,y2,y3,y4⟩:=h1.own;refine⟨_,run_beginRound (SH.at_ (A:=Y5.map (·.2)) y2) hrs,?_⟩;refine hdb (D+1) (G:=GX (.Af (D+1) (.loop {d with state:= .busy})::BF D::A) Of.ds G) (r:=r1) (Of:=⟨(.Af (D+1) (.loop {d with state:= .busy})::BF D::A)++Of2.O,[]⟩) (λp U=>(Ie U).1) (gm _) (hY.frame hYm) ⟨Of2,rfl,g,gd⟩ ⟨h1.inv,h1.defers,h1.size,h1.Bq,h1.base,Y5,y1,Agy y2 _,y3,y4⟩ hw1 hd1 ?_ (λi=>?_) ?_
  · intro Of3 r3 st3 η3 H3 a3 w3 T ⟨Of4,e,g4,gd4⟩ V hw3 hd3;subst e;obtain⟨Y6,z1,z2,z3,z4⟩:=V.own;have hend:(Instr.endRound (D+1) Dc).run P w3= .ok (.bool Br) (w3.putObj (D+1) (.loop d)):=by
     have:=run_endRound (P:=P) Dc (SH.at_ (A:=Y6.map (·.2)) z2);rw[<-K]at this⊢;exact this
    obtain⟨b1,Y7,b2,b3⟩:=QM (w:=w3.putObj (D+1) (.loop d)) (O:=(.Af (D+1) (.loop d)::BF D::A)++Of4.O) (W J) hmz (hl1.trans T) s1 f1 ⟨V.inv,V.defers,V.size,V.Bq,V.base,Y6,z1,Agy z2 _,z3,z4⟩ hw3;obtain⟨z',e3,e4⟩:=Bj hd3;obtain⟨η4,e5,e6⟩:=M1 (b2.sat (ds:=[]) b3) b1 (λp U=>(Ie U).1) e3;obtain⟨Y8,s8,g8⟩:=e5.sa;exact⟨_,_,hend,Br,rfl,H3,_,hl1.trans T,Age (B:=[.Af (D+1) (.loop d),BF D]) g8,(k0.trans hl1).trans T,Of4,r3,g4,gd4, .inl ⟨z',η4,Y8,rfl,s8,e6,e4⟩⟩
  · intro Of3 r3 st3 η3 H3 a3 w3 T ⟨Of4,e,g4,gd4⟩ V hw3 hd3;subst e;obtain⟨Y6,z1,z2,z3,z4⟩:=V.own;have hend:(Instr.endRound (D+1) (Ac (.exit i))).run P w3= .ok (.bool Ak) (w3.putObj (D+1) (.loop {d with state:= .done,pending:=Ac (.exit i)})):=by
     have:=run_endRound (P:=P) (Ac (.exit i)) (SH.at_ (A:=Y6.map (·.2)) z2);exact this
    obtain⟨b1,Y7,b2,b3⟩:=QM (w:=w3.putObj (D+1) (.loop {d with state:= .done,pending:=Ac (.exit i)})) (O:=(.Af (D+1) (.loop {d with state:= .done,pending:=Ac (.exit i)})::BF D::A)++Of4.O) (W J) hmz (hl1.trans T) s1 f1 ⟨V.inv,V.defers,V.size,V.Bq,V.base,Y6,z1,Agy z2 _,z3,z4⟩ hw3;exact⟨_,_,hend,Ak,rfl,H3,_,hl1.trans T,Age (B:=[.Af (D+1) (.loop {d with state:= .done,pending:=Ac (.exit i)}),BF D]) b3,(k0.trans hl1).trans T,Of4,r3,g4,gd4, .inr ⟨rfl, .exit i,⟨(FE N (GQ p z) J).L,st3.O,st3.nk⟩,η3,Y7,rfl,W J,b2,b1, .inr ⟨i,rfl,hd3⟩⟩⟩
  · intro Of3 r3 st3 η3 H3 a3 w3 T ⟨Of4,e,g4,gd4⟩ V hw3 hd3;subst e;obtain⟨Y6,z1,z2,z3,z4⟩:=V.own;have hend:(Instr.endRound (D+1) (Ac .ret)).run P w3= .ok (.bool Ak) (w3.putObj (D+1) (.loop {d with state:= .done,pending:=Ac .ret})):=by
     have:=run_endRound (P:=P) (Ac .ret) (SH.at_ (A:=Y6.map (·.2)) z2);exact this
    obtain⟨b1,Y7,b2,b3⟩:=QM (w:=w3.putObj (D+1) (.loop {d with state:= .done,pending:=Ac .ret})) (O:=(.Af (D+1) (.loop {d with state:= .done,pending:=Ac .ret})::BF D::A)++Of4.O) (W J) hmz (hl1.trans T) s1 f1 ⟨V.inv,V.defers,V.size,V.Bq,V.base,Y6,z1,Agy z2 _,z3,z4⟩ hw3;exact⟨_,_,hend,Ak,rfl,H3,_,hl1.trans T,Age (B:=[.Af (D+1) (.loop {d with state:= .done,pending:=Ac .ret}),BF D]) b3,(k0.trans hl1).trans T,Of4,r3,g4,gd4, .inr ⟨rfl, .ret,⟨(FE N (GQ p z) J).L,st3.O,st3.nk⟩,η3,Y7,rfl,W J,b2,b1, .inl ⟨rfl,hd3⟩⟩⟩
 have nd:(keys Yc).Nodup:=by rw[l5];have:=ck3;unfold vp at this;simp only[AS]at this;exact BM this.2.1
 have hyi:(us++[Ce.func (.yield (D+1)) #[] #[]]++cs.map η)[q.yi]?=Ac (Ce.func (.yield (D+1)) #[] #[]):=by rw[AI ck4,<-g1];simp
 refine(hsp.ok x ys hys G2 (.func (.yield (D+1)) #[] #[]) rfl mono2 no2 yld2 (λc=>η (AZ m c)) H (.Af (D+1) (.loop d)::BF D::(Y0.map (·.2)++Of.O)) Yc _ w1 nd hlen l3 hyi l5 l6 ⟨Hp.le.refl H,Of,r,hg,rfl, .inl ⟨x0,η0,Y0,rfl,s0,e2,hd⟩⟩ h.inv (Age (B:=[.Af (D+1) (.loop d),BF D]) hsh0)).mono ?_;rintro e w' ⟨v,S,O1,Y1,rfl,hle1,hsh1,hk1,hr1,k0,I,r',k1,k2,k3⟩;have endS:∀ {s:St N.T} {E:Nat->Ce} {Z:List (Nat×Aw)} {o:Obj} (o':Obj),(∀t sv,Ax s.L t=Ac sv->∃j,sv= .CD j)->Sa z.C z.CR n (FL η st.nk) s E S a.tmps Z->WF z.C z.CR (FL η st.nk) s->SH w' S (Y1.map (·.2)++ .Af (D+1) o::BF D::(Z.map (·.2)++I.O))->
    Sat C CR n (K4 D I) bs (D4 z.C z.CR C.length CR.length (WM q x m s)) E S {a with defers:=EB D::a.defers} (w'.putObj (D+1) o')/\WF C CR bs (D4 z.C z.CR C.length CR.length (WM q x m s)):=λ{s} {E} {Z} {o} o' hc s2 f2 hs=>by
  have hs:=Agh hs o';have hs:SH (w'.putObj (D+1) o') S (Y1.map (·.2)++(([BF D]:List Aw)++(Z.map (·.2)++I.O))):=hs;have hs:=Aiu hs;obtain⟨u1,Y3,u2,u3⟩:=ib (η:=η) (nk:=st.nk) ck3 (by rw[hks];exact l1) l2 (ns f2) (λk hk=>LV s2.base hk) hc hk1 hr1 s2 f2;have hs:=u3 _ _ hs;have u2':Sa z.C z.CR n bs (WM q x m s) E S a.tmps Y3:=⟨u2.inv,u2.size,u2.Bq,λp U=>(LV s2.base (hw.lo p U)).trans (h.base p U),u2.nd,u2.lt,u2.res⟩;have u1':WF z.C z.CR bs (WM q x m s):=⟨λp U=>Abq (hw.lo p U) (show st.nk<=s.nk from ns f2),u1.ok,u1.wf,u1.mC,u1.cP⟩;have hst:=u2'.sat (ds:=EB D::a.defers) hs;have hst:Sat z.C z.CR n (K4 D I) bs (WM q x m s) E S {a with defers:=EB D::a.defers} (w'.putObj (D+1) o'):=by
    have e:K4 D I=⟨([BF D]:List Aw)++I.O,EB D::a.defers⟩:=by rw[h.defers,<-k2];rfl
    rw[e];exact hst
  exact ZI c1 c2 c3 hst u1'
 rcases k3 with⟨J,E,Z,rfl,s1,f1,M⟩|⟨_,c,s,E,Z,rfl,hc,s1,f1,hj⟩
 ·have hrs:d.state= .ready:=by rw[<-K]
  have hrn:d.pending=Dc:=by rw[<-K]
  refine⟨v,d,rfl,SH.at_ hsh1,by rw[hrs];simp,?_⟩;rw[hrn];obtain⟨t1,t2⟩:=endS (.loop {d with state:= .exhausted,pending:=Dc}) (W J) s1 f1 hsh1;exact hn _ r' _ E S _ _ k0 (hpush _ _ _ _ k1) t1 t2 M
 ·refine⟨v,{d with state:= .done,pending:=Ac c},rfl,SH.at_ hsh1,by simp,?_⟩;obtain⟨t1,t2⟩:=endS (.loop {d with state:= .exhausted,pending:=Ac c}) hc s1 f1 hsh1;rcases hj with⟨rfl,hj⟩|⟨i,rfl,hj⟩;· exact wp_ret (hkr _ r' _ E S _ _ k0 (hpush _ _ _ _ k1) t1 t2 hj)
  · exact wp_exit (hke i _ r' _ E S _ _ k0 (hpush _ _ _ _ k1) t1 t2 hj)
end
end
section
variable {N : Df} {R : Type}
def gR(f:IQ N->Option (Option R)):List (IQ N)->Option R
 | []=>Dc
 |q::l=>match f q with
  |some z=>z
  |none=>gR f l
def wg(Φ:Nat->Option (CQ N))(C:List (SV N.T))(CR:List (SR N.T))(n:Nat)(g:Er)(ps:Array Tmp)(e:Option A9)(st:St N.T)(b d:eI N R)(kn:St N.T->Option R)(ke:Nat->St N.T->Option R)(kr:St N.T->Option R):Option R:=match Av (CC C st.L) g with
 | .AA f l a=>match Φ f with
  |some (.its h)=>match vv l&&a.all λc=>match An CR st.O c with|some (.Af _ _)=>Br|_=>Ak with
   |true=>gR (λq=>oQ C CR n ps e st q l a b d kn ke kr) h
   |false=>Dc
  |_=>oR Φ C CR n g st kn
 |_=>Dc
def unK{T:Nat->Type} :Nat->(St T->(St T->Option R)->Option R)->St T->Option R
 |0,_,_=>Dc
 |n+1,f,st=>f st (λa=>unK n f a)
def den(cx:Cx N)(n:YL N R)(fu:Nat):Code->Nat->Bool->List (SV N.T)->List (SR N.T)->St N.T->(St N.T->Option R)->(Nat->St N.T->Option R)->(St N.T->Option R)->Option R
 | .skip,_,_,_,_,st,f,_,_=>f st
 | .label _,_,_,_,_,st,f,_,_=>f st
 | .region i o d,_,l,C,e,st,f,_,_=>Qc C e (cx.pre i) st λst=>match d with
  |true=>match l with
   |true=>Dc
   |false=>match cx.ct i with
    |0=>xx cx.P cx.Φ C e cx.n o st λst=>Qc C e (cx.post i) st f
    |m+1=>b8 n cx.P cx.Φ C e cx.n o (m+1) st λst=>Qc C e (cx.post i) st f
  |false=>bY n cx.P cx.Φ C e cx.n o o.toList st λst=>Qc C e (cx.post i) st f
 | .seq a b,kb,l,C,e,st,f,h,k=>match(Lp b).bind cx.jn with
  |none=>den cx n fu a kb l C e st (λst=>den cx n fu b kb l C e st f h k) h k
  |some p=>match wR C e st p with
   |none=>Dc
   |some q=>den cx n fu a kb l q.C q.CR q.st
     (λu=>Ab (SM N q.C q.CR kb (GQ p q) u) λx=>den cx n fu b kb l q.C q.CR (FE N (GQ p q) x)
      (λs=>f (D4 q.C q.CR C.length e.length s)) (λi s=>h i (D4 q.C q.CR C.length e.length s)) (λs=>k (D4 q.C q.CR C.length e.length s)))
     (λi s=>h i (D4 q.C q.CR C.length e.length s)) (λs=>k (D4 q.C q.CR C.length e.length s))
 | .cond c a b,kb,l,C,e,st,f,h,k=>match c with
  | .tmp t=>match CC C st.L t with
   | .px _ .ub=>match den cx n fu a kb l C e st f h k,den cx n fu b kb l C e st f h k with
    |some x,Ac y=>n.ag x y
    |_,_=>Dc
   |s=>xJ s st (λst=>den cx n fu a kb l C e st f h k) (λst=>den cx n fu b kb l C e st f h k)
  | .const (.bool Br)=>den cx n fu a kb l C e st f h k
  | .const (.bool Ak)=>den cx n fu b kb l C e st f h k
  |_=>Dc
 | .block i a,kb,l,C,e,st,f,h,k=>den cx n fu a kb l C e st f (λj st=>match Hg i j with
  |true=>f st
  |false=>h j st) k
 | .loop a,kb,l,C,e,st,f,h,k=>match(Lp a).bind cx.la with
  |none=>unK 9 (λst nx=>den cx n fu a kb l C e st nx h k) st
  |some p=>match wR C e st p with
   |none=>Dc
   |some q=>Ab (SM N q.C q.CR kb (GQ p q) q.st) λz=>
    Ad fu (λx nx=>den cx n fu a kb l q.C q.CR (FE N (GQ p q) x)
     (λu=>Ab (SM N q.C q.CR kb (GQ p q) u) nx)
     (λi s=>h i (D4 q.C q.CR C.length e.length s)) (λs=>k (D4 q.C q.CR C.length e.length s))) z
 | .scope a,kb,l,C,e,st,f,h,k=>match l with
  |true=>Dc
  |false=>den cx n fu a kb l C e st f h k
 | .exit i,_,_,_,_,st,_,h,_=>h i st
 | .ret,_,_,_,_,st,_,_,k=>k st
 | .rangeFunc g w v r,_,l,C,e,st,f,h,k=>match l with
  |true=>Dc
  |false=>wg cx.Φ C e cx.n g w ((Lp (.seq v r)).bind cx.la) st (λkb C e st f h k=>den cx n fu v kb Br C e st f h k) (λkb C e st f h k=>den cx n fu r kb Br C e st f h k) f h k
 |_,_,_,_,_,_,_,_,_=>Dc
theorem L2{F:Fence}{n:Nat}{P:GO}{Q:Exit->Act->IK->Prop}{X:Type}{c:Code}(I:X->Act->IK->Prop)(μ:X->Nat){x:X}{a:Act}{w:IK}(t:I x a w)
  (round:∀x a w,I x a w->c.wpIn F n P (Exit.then (λa' w'=> ∃D,I D a' w'/\μ D<μ x) Q) a w):(Code.loop c).wpIn F n P Q a w:=by
 intro b k v B y A;have key:∀j x a w,μ x=j->I x a w->
   ∃e a' w',Q e a' w'/\ArrivesIn (Machine.fenced P F) P (lone (b.atR a (.code c:: .inLoop c::k)) v w) b k v e a' w':=by
  intro j;induction j using Nat.strongRecOn with
  |_ j H=>
   intro x a w G E;obtain⟨e,f,g,m,d⟩:=round x a w E b (.inLoop c::k) v B y A;cases e with
   |normal=>
    obtain⟨o,p,z⟩:=m;obtain⟨s,r,u,q,i⟩:=H (μ o) (G▸z) o f g rfl p;exact⟨s,r,u,q, .of_steps (StepsIn.trans d (.one (fenced_calm y A rfl) stepR_inLoop)) i⟩
   |exit id=>exact⟨_,f,g,m, .pass (x:= .inLoop c) rfl (λ_ _=> .inl (by simp)) d⟩
   |goto l=>exact⟨_,f,g,m, .pass (x:= .inLoop c) rfl (λ_ _=> .inl (by simp)) d⟩
   |ret=>exact⟨_,f,g,m, .pass (x:= .inLoop c) rfl (λ_ _=> .inl (by simp)) d⟩
   |panic J=>exact⟨_,f,g,m, .pass (x:= .inLoop c) rfl (λ_ _=> .inl (by simp)) d⟩
   |outgrown=>exact⟨_,f,g,m, .pass (x:= .inLoop c) rfl (λ_ _=> .inl (by simp)) d⟩
 obtain⟨e,a',w',m,d⟩:=key _ x a w rfl t;exact⟨e,a',w',m, .of_steps (.one (fenced_calm y A rfl) stepR_loop) d⟩
theorem OJ{f:IQ N->Option (Option R)}{r:R} :∀ {l:List (IQ N)},gR f l=Ac r->∃q∈l,f q=Ac (Ac r)
 | [],h=>by cases h
 |q::l,h=>by
  unfold gR at h;split at h;· grind
  ·obtain⟨d,a,b⟩:=OJ h;grind
variable {P : GO} [C9 N P] {yv : Ce}
theorem CA{cx:Cx N} [C9 N cx.P](u:∀f q,cx.Φ f=Ac q->Bw cx.P f q)(M:cx.P.follows .mixedOrders=Br){yl:YL N R}{fu:Nat} :∀(c:Code) {kb:Nat} {Z:Bool} {ro:Option Nat} {bs:List (Nat×Ce)} {G:Hp->Fm->R->Prop} {Of:Fm} {r:R} {C:List (SV N.T)} {CR:List (SR N.T)} {st:St N.T} {kn:St N.T->Option R} {ke:Nat->St N.T->Option R} {kr:St N.T->Option R} {η:Nat->Ce} {H:Hp} {a:Act} {w:IK} {Q:Exit->Act->IK->Prop},
  (Z=Ak->ro=Dc/\∀H Of r D,G H Of r->G H (K4 D Of) r)->(∀q∈bs,q.1<kb)->(∀H H' Of r,H.le H'->G H Of r->G H' Of r)->QQ cx.P bs yl yv G->G H Of r->
  Sat C CR cx.n Of bs st η H a w->WF C CR bs st->den cx yl fu c kb Z C CR st kn ke kr=Ac r->
  Kn C CR cx.n G bs H kn (Q .normal)->(∀i,Kn C CR cx.n G bs H (ke i) (Q (.exit i)))->Kn C CR cx.n G bs H kr (Q .ret)->c.wpIn (FR ro) 0 cx.P Q a w
 | .skip,_,_,_,_,_,Of,r,C,CR,st,kn,ke,kr,η,H,a,w,Q,_,_,_,_,v,h,A,k,F,E,I=>wpIn_skip (F Of r st η H a w (Hp.le.refl H) v h A k)
 | .label _,_,_,_,_,_,Of,r,C,CR,st,kn,ke,kr,η,H,a,w,Q,_,_,_,_,v,h,A,k,F,E,I=>wpIn_label (F Of r st η H a w (Hp.le.refl H) v h A k)
 | .ret,_,_,_,_,_,Of,r,C,CR,st,kn,ke,kr,η,H,a,w,Q,_,_,_,_,v,h,A,k,F,E,I=>wpIn_ret (I Of r st η H a w (Hp.le.refl H) v h A k)
 | .exit i,_,_,_,_,_,Of,r,C,CR,st,kn,ke,kr,η,H,a,w,Q,_,_,_,_,v,h,A,k,F,E,I=>wpIn_exit (E i Of r st η H a w (Hp.le.refl H) v h A k)
 | .region i ops d,kb,Z,ro,bs,G,Of,r,C,CR,st,kn,ke,kr,η,H,a,w,Q,o,n,B,J,v,h,A,k,F,E,I=>by
  simp only[den]at k;refine FD h A k λT U H1 hl1 h1 hw1 hd1=>?_;have fin:∀Of' r' L η' H' a' w',H1.le H'->G H' Of' r'->Sat C CR cx.n Of' bs L η' H' a' w'->WF C CR bs L->Qc C CR (cx.post i) L kn=Ac r'->Q .normal a' w':=λOf' r' L η' H' a' w' K g0 V W S=>
   FD V W S λst2 η2 H2 hl2 k1 k2 k3=>F Of' r' st2 η2 H2 a' w' (hl1.trans (K.trans hl2)) (B _ _ _ _ hl2 g0) k1 k2 k3;have hg1:=B _ _ _ _ hl1 v;cases d with
  |true=>
   cases Z with
   |true=>grind
   |false=>
    obtain⟨rfl,_⟩:=o rfl;simp only at hd1;split at hd1;case h_2=>grind[wpIn_wide,b7]
    grind[wpIn_wide,rI]
  |false=>
   obtain⟨l,rfl⟩:∃l:List K5,ops=l.toArray:=⟨ops.toList,by simp⟩;grind[wpIn_region_lit,SQ]
 | .seq x y,kb,Z,ro,bs,G,Of,r,C,CR,st,kn,ke,kr,η,H,a,w,Q,o,n,B,J,v,h,A,k,F,E,I=>by
  simp only[den]at k;split at k;· exact wpIn_seq (CA u M x o n B J v h A k (λO r1 T U H1 a1 w1 K g0 V W S=>CA u M y o n B J g0 V W S (F.le K) (λi=>(E i).le K) (I.le K)) E I)
  ·rename_i p hp;split at k;· grind
   ·rename_i q hb;obtain⟨c1,c2,c3,c4,c5⟩:=Ut h A hb;refine wpIn_seq (CA u M x o n B J v c4 c5 k (λO r1 T U H1 a1 w1 K g0 V W S=>?_) (λi=>Kn.rs c1 c2 c3 (E i)) (Kn.rs c1 c2 c3 I));obtain⟨z,e1,e2⟩:=Bj S;obtain⟨η2,k1,k2⟩:=M1 V W n e1;exact CA u M y o n B J g0 k1 k2 e2 (Kn.rs c1 c2 c3 (F.le K)) (λi=>Kn.rs c1 c2 c3 ((E i).le K)) (Kn.rs c1 c2 c3 (I.le K))
 | .cond c x y,kb,Z,ro,bs,G,Of,r,C,CR,st,kn,ke,kr,η,H,a,w,Q,o,n,B,J,v,h,A,k,F,E,I=>by
  simp only[den]at k;split at k
  ·rename_i t;split at k
   ·rename_i ks hub;split at k;case h_2=>grind
    rename_i x1 y1 hx1 hy1;obtain⟨rfl,rfl⟩:=yl.nR _ _ _ k;have hv:=h.lk t;rw[hub]at hv;obtain⟨b,hv⟩:=hv;cases b with
    |true=>exact wpIn_cond_true hv (CA u M x o n B J v h A hx1 F E I)
    |false=>exact wpIn_cond_false hv (CA u M y o n B J v h A hy1 F E I)
   obtain⟨b,L,h1,h2,h3,h4⟩:=UL h A k;cases b with
   |true=>exact wpIn_cond_true h1 (CA u M x o n B J v h2 h3 h4 F E I)
   |false=>exact wpIn_cond_false h1 (CA u M y o n B J v h2 h3 (by simpa using h4) F E I)
  ·exact wpIn_cond_true rf (CA u M x o n B J v h A k F E I)
  ·exact wpIn_cond_false rf (CA u M y o n B J v h A k F E I)
  grind
 | .block i x,kb,Z,ro,bs,G,Of,r,C,CR,st,kn,ke,kr,η,H,a,w,Q,o,n,B,J,v,h,A,k,F,E,I=>by
  simp only[den]at k;refine wpIn_block (CA u M x o n B J v h A k F (λj O r1 T U H1 a1 w1 K g0 V W S=>?_) I);simp only[Exit.inBlock];split at S;· rename_i hb;rw[if_pos (AI hb).symm];exact F O r1 T U H1 a1 w1 K g0 V W S
  ·rename_i hb;rw[if_neg (λe=>Abe hb e.symm)];exact E j O r1 T U H1 a1 w1 K g0 V W S
 | .loop x,kb,Z,ro,bs,G,Of,r,C,CR,st,kn,ke,kr,η,H,a,w,Q,o,n,B,J,v,h,A,k,F,E,I=>by
  simp only[den]at k;split at k;· refine L2 (X:=Nat×St N.T×(Nat->Ce)×Hp×Fm×R) (λX a w=>H.le X.2.2.2.1/\G X.2.2.2.1 X.2.2.2.2.1 X.2.2.2.2.2/\Sat C CR cx.n X.2.2.2.2.1 bs X.2.1 X.2.2.1 X.2.2.2.1 a w/\WF C CR bs X.2.1/\unK X.1 (λst nx=>den cx yl fu x kb Z C CR st nx ke kr) X.2.1=Ac X.2.2.2.2.2) (λX=>X.1) (x:=(9,st,η,H,Of,r)) ⟨Hp.le.refl H,v,h,A,k⟩ ?_;rintro⟨m,st3,η3,H3,Of3,r3⟩ a w ⟨l1,l0,l2,l3,l4⟩;cases m with
   |zero=>cases l4
   |succ m=>exact CA u M x o n B J l0 l2 l3 l4 (λO r1 T U H1 a1 w1 K g0 V W S=>⟨(m,T,U,H1,O,r1),⟨l1.trans K,g0,V,W,S⟩,Afg m⟩) (λi=>(E i).le l1) (I.le l1)
  ·rename_i p hp;split at k;· cases k
   ·rename_i q hb;obtain⟨c1,c2,c3,c4,c5⟩:=Ut h A hb;obtain⟨z,e1,e2⟩:=Bj k;obtain⟨η2,k1,k2⟩:=M1 c4 c5 n e1;refine L2 (X:=Nat×BK N (GQ p q).hs×(Nat->Ce)×Hp×Fm×R) (λX a w=>H.le X.2.2.2.1/\G X.2.2.2.1 X.2.2.2.2.1 X.2.2.2.2.2/\Sat q.C q.CR cx.n X.2.2.2.2.1 bs (FE N (GQ p q) X.2.1) X.2.2.1 X.2.2.2.1 a w/\WF q.C q.CR bs (FE N (GQ p q) X.2.1)/\Ad X.1 (λx nx=>den cx yl fu _ kb Z q.C q.CR (FE N (GQ p q) x)
     (λL=>Ab (SM N q.C q.CR kb (GQ p q) L) nx)
     (λi s=>ke i (D4 q.C q.CR C.length CR.length s)) (λs=>kr (D4 q.C q.CR C.length CR.length s))) X.2.1=Ac X.2.2.2.2.2) (λX=>X.1) (x:=(fu,z,η2,H,Of,r)) ⟨Hp.le.refl H,v,k1,k2,e2⟩ ?_;rintro⟨m,z,η3,H3,Of3,r3⟩ a w ⟨l1,l0,l2,l3,l4⟩;obtain⟨m',rfl,l5⟩:=Uo l4;refine CA u M x o n B J l0 l2 l3 l5 (λO r1 T U H1 a1 w1 K g0 V W S=>?_) (λi=>Kn.rs c1 c2 c3 ((E i).le l1)) (Kn.rs c1 c2 c3 (I.le l1));obtain⟨z',e1,e2⟩:=Bj S;obtain⟨η2,k1,k2⟩:=M1 V W n e1;exact⟨(m',z',η2,H1,O,r1),⟨l1.trans K,g0,k1,k2,e2⟩,Afg m'⟩
 | .rangeFunc g ps asg body,kb,Z,ro,bs,G,Of,r,C,CR,st,kn,ke,kr,η,H,a,w,Q,o,n,B,J,v,h,A,k,F,E,I=>by
  simp only[den]at k;split at k;· cases k
  ·obtain⟨rfl,Y⟩:=o rfl;refine wpIn_wide.2 ?_;unfold wg at k;split at k
   ·rename_i f l cs hs;split at k
    ·rename_i qs hq;split at k
     ·rename_i hb;rw[AS]at hb;obtain⟨q,hqm,k⟩:=OJ k;have hgg:=h.ev g;rw[hs]at hgg;obtain⟨us,e,K⟩:=hgg;refine fL (u f _ hq q hqm) (λl {C CR kb bs G Of r st kn ke kr η H a w Q} k1 k2 k3 k4 k5 k6 k7 k8 k9 k10=>CA u M asg (ro:=Ac l) (λe=>by cases e) k1 k2 k3 k4 k5 k6 k7 k8 k9 k10) (λl {C CR kb bs G Of r st kn ke kr η H a w Q} k1 k2 k3 k4 k5 k6 k7 k8 k9 k10=>CA u M body (ro:=Ac l) (λe=>by cases e) k1 k2 k3 k4 k5 k6 k7 k8 k9 k10) B Y J v h A e K hb.1 (λc hc=>?_) k F E I;have:=IT.1 hb.2 c hc;split at this;· rename_i g' b hR;exact⟨g',b,hR⟩
      ·cases this
     ·cases k
    ·exact fM u h A k λD L η' H' a' w' K V W S=>F (K4 D Of) r L η' H' a' w' K (Y _ _ _ _ (B _ _ _ _ K v)) V W S
   ·cases k
 | .scope x,kb,Z,ro,bs,G,Of,r,C,CR,st,kn,ke,kr,η,H,a,w,Q,o,n,B,J,v,h,A,k,F,E,I=>by
  simp only[den]at k;split at k;· cases k
  ·obtain⟨rfl,Y⟩:=o rfl;exact wpIn_wide.2 (wp_scope_straight (wpIn_wide.1 (CA u M x o n B J v h A k F E I)))
 | .goto _,kb,Z,ro,bs,G,Of,r,C,CR,st,kn,ke,kr,η,H,a,w,Q,o,n,B,J,v,h,A,k,F,E,I=>by cases k
 | .refuse _,kb,Z,ro,bs,G,Of,r,C,CR,st,kn,ke,kr,η,H,a,w,Q,o,n,B,J,v,h,A,k,F,E,I=>by cases k
end
section
variable {N : Df}
section
variable{R:Type}{O:List Aw}{y:R}
def Xw(O:List Aw)(y:R):Hp->Fm->R->Prop:=λ_ a r=>r=y/\∃M,a=RV O M
theorem Xv:∀H a Of r,H.le a->Xw O y H Of r->Xw O y a Of r:=λ_ _ _ _ _ h=>h
theorem Xu:Ak=Ak->Dc=(Dc:Option Nat)/\∀H Of r D,Xw O y H Of r->Xw O y H (K4 D Of) r:=λ_=>⟨rfl,λ_ _ _ D ⟨h,M,e⟩=>⟨h,D::M,by subst e;rfl⟩⟩
end
end
end Go.GV
