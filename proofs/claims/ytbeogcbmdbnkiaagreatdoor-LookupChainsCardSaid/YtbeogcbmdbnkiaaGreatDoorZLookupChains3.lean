/- Part 3 of the texts of this claim: what its theorem leans on. -/
import Derived.Test.YtbeogcbmdbnkiaaGreatDoorZLookupChains2
import Derived.RangeFuncLeaves
import Derived.RangeFuncRecord
import Derived.RangeFuncIn
set_option linter.all false
open Option renaming some→Ac,none→C7
open Bool renaming false→Ap,true→Br
open Go renaming Value→BU,Operand→Dc,TypeId→Ee,Program→Ge,World→GD,execOp→ID,Oper→J5,IntKind→Kj
namespace Go.GV
open Go Go.GK
section
variable {N : C6} {R : Type} {P : Ge} [CC N P] {C : List (SV N.T)} {S : Nat -> SV N.T} {Rr : Nat -> Option (SR N.T)} {nk : Nat} {o : J5} {k : Bq N.T -> Nat -> Option R} {r : R}
section
variable{x:Dc}
def pj(S:Nat->SV N.T)(nk:Nat)(x:Dc)(k:Bq N.T->Nat->Option R):Option R:=match Ay S x with
 | .loc b off=>k ⟨.loc b off,[],[]⟩ nk
 | .pd t y off=>k ⟨.pd t y off,[],[]⟩ nk
 |_=>C7
theorem PA{T:Ee}{E:Dc->Option BU}{H:Hp}{O:List GK.Av}{b:Addr}(f:E x=Ac (.pointer (Ac b))):Aq P (.nilCheck x) T E H O (.pointer (Ac b)):= .Am λa w o e _ d _=>by simp_all[ID]
theorem oz(c:o.op= .nilCheck x)(h:pj S nk x k=Ac r):AW P C S Rr nk o k r:=by
 unfold pj at h;split at h
 ·rename_i b off f;refine .y h (Abw λη H O a g _=>?_) λ_ _=>trivial;obtain⟨B,d,e⟩:(SV.loc b off:SV N.T).is C η H (a.eval x):=by grind[Op.operands]
  exact⟨ptr B off,by rw[c];exact Aq.nilCheck (congrArg Ac e),B,d,rf⟩
 ·rename_i t y off f;refine .y h (Abw λη H O a g _=>?_) λ_ _=>trivial;obtain⟨B,q,i,d,e,j⟩:(SV.pd t y off:SV N.T).is C η H (a.eval x):=by grind[Op.operands]
  exact⟨_,by rw[c];exact PA (congrArg Ac d),B,q,i,rf,e,j⟩
 grind
def uY(P:Ge)(Φ:Nat->Option (CQ N))(C:List (SV N.T))(S:Nat->SV N.T)(Rr:Nat->Option (SR N.T))(nk:Nat)(op:Op)(ty:Ee)(k:Bq N.T->Nat->Option R):Option R:=match op with
 | .move x=>k ⟨Ay S x,[],[]⟩ nk
 | .assign x=>k ⟨Ay S x,[],[]⟩ nk
 | .pick c x y=>match Ay S c with
  | .lb Br=>k ⟨Ay S x,[],[]⟩ nk
  | .lb Ap=>k ⟨Ay S y,[],[]⟩ nk
  |_=>C7
 | .alloc t=>Uq P nk t k
 | .box t x=>rj P S nk t x k
 | .load t x=>match Ay S x with
  | .px _ (.fo _)=>pL P S Rr nk t x k
  | .px _ (.fe _ _ _)=>pM P S Rr nk t x k
  | .loc b _=>(match nh (Rr b)&&S8 P t 1 with
   |true=>pN P S Rr nk t x k
   |false=>fQ P C S Rr nk t x k)
  |_=>fQ P C S Rr nk t x k
 | .store t x y=>match Ay S x with
  | .px _ (.fo _)=>rM P S Rr nk t x y k
  | .px _ (.fe _ _ _)=>nS P C S Rr nk t x y k
  | .loc b _=>(match nh (Rr b)&&S8 P t 1 with
   |true=>nT P C S Rr nk t x y k
   |false=>yC P C S Rr nk t x y k)
  |_=>yC P C S Rr nk t x y k
 | .fieldAddr t x i=>qo P C S nk t x i k
 | .field t x i=>fdK P S nk t x i k
 | .indexAddr t x y=>match Ay S x with
  | .px _ (.hc _)=>qc P S nk t x y k
  | .px _ (.fi _)=>qa P S Rr nk t x y k
  | .AG b=>(match Rr b with
   |some (.Ep _ _ _ _ _)=>qb P S Rr nk t x y k
   |_=>yQ P S Rr nk t x y k)
  | .px _ _=>p_ P S Rr nk t x y k
  |_=>yQ P S Rr nk t x y k
 | .index t x y=>match P.underlying t with
  |some (.array _ _)=>rA P S nk t x y k
  |_=>qZ P S nk t x y k
 | .binOp .eql t x (.const (.slice C7 0 0)) _=>ph P S nk t x k
 | .binOp b t x y _=>match ir P t with
  |true=>(match b with
   | .eql=>gG P C S nk Ap t x y k
   | .neq=>gG P C S nk Br t x y k
   |_=>C7)
  |false=>bR P C S nk b t x y k
 | .unOp .not _ x=>pa S nk x k
 | .unOp .neg _ x=>pk S nk x k
 | .nilCheck x=>pj S nk x k
 | .convert s d x=>match P.underlying d with
  |some .string=>rh P S nk s d x k
  |some (.int .u64)=>(match P.underlying s with
   |some (.int .i64)=>cwK P S nk s d x k
   |_=>y_ P S nk s d x k)
  |_=>y_ P S nk s d x k
 | .extract x i=>qx S nk x i λs n=>match Ex s.sv with
  |true=>k s n
  |false=>C7
 | .build t ⟨e⟩=>rn P C S nk t e k
 | .buildSlice t len ⟨e⟩=>match len,e with
  |0,[]=>ri P nk t k
  |len,e=>match bC S 0 e with
   |some _=>bcK P S nk t len e k
   |none=>bsK P C S nk t len e k
 | .makeSlice t p q=>yK P S nk t p q k
 | .slice t x C7 (Ac y) C7=>match Ay S x with
  | .raw _=>qL P S nk t x y k
  |_=>qM P S Rr nk t x y k
 | .slice t x (Ac y) (Ac z) C7=>od P S nk t x y z k
 | .slice t x j (Ac y) (Ac z)=>ba P S Rr nk t x j y z k
 | .call {callee:= .builtin .append,args:=⟨[s,x]⟩,argTypes:=⟨[t,u]⟩} =>match Nat.beq u t with
  |true=>match Ay S s with
   | .px _ _=>rE P S Rr nk s x t k
   |_=>rG P S Rr nk s x t k
  |false=>match P.underlying u with
   |some .string=>rF P S Rr nk s x t u k
   |_=>rD P S nk s x t u k
 | .call {callee:= .builtin .cap,args:=⟨[x]⟩,argTypes:=⟨[t]⟩} =>qN P S nk x t k
 | .call {callee:= .builtin .len,args:=⟨[x]⟩,argTypes:=⟨[t]⟩} =>match Ay S x with
  | .mp _=>pE P S Rr nk x t k
  | .px _ _=>pF P S nk x t k
  |_=>pJ P S Rr nk x t k
 | .call {callee:= .builtin .unsafeSliceData,args:=⟨[x]⟩,argTypes:=⟨[_]⟩} =>nJ P S Rr nk x ty k
 | .call {callee:= .builtin .unsafeString,args:=⟨[x,y]⟩,argTypes:=⟨[l,_]⟩} =>nI P S Rr nk x y l k
 | .call {callee:= .builtin .max,args:=⟨[x,y]⟩,argTypes:=_} =>pD S nk x y k
 | .call {callee:= .builtin .min,args:=⟨[x,y]⟩,argTypes:=_} =>pB S nk x y k
 | .call {callee:= .builtin .copy,args:=⟨[x,y]⟩,argTypes:=⟨[t,_]⟩} =>bh P S Rr nk x y t k
 | .call {callee:= .value x,args:=⟨m⟩,argTypes:=_} =>bF C Φ S Rr nk x m k
 | .makeFunc (.func f) ⟨h⟩ ⟨g⟩=>pA S nk f h g k
 | .makeMap t C7=>pz P nk t k
 | .lookup t x y ok=>pG P C S Rr nk t x y ok k
 | .mapUpdate t x y u=>eU P C S Rr nk t x y u k
 | .insert t x y u=>eU P C S Rr nk t x y u k
 |_=>C7
theorem TJ{Φ:Nat->Option (CQ N)}(d:∀f q,Φ f=Ac q->Bm P f q)(g:∀k∈CP C,k<nk)(b:∀j,nk<=j->Rr j=C7)(c:∃τ,Nl Rr S τ)(h:uY P Φ C S Rr nk o.op o.type k=Ac r):AW P C S Rr nk o k r:=by
 unfold uY at h;split at h;· grind[Vi]
 ·simp_all[Vi]
 ·grind[Zq,Zr]
 ·simp_all[Zv]
 ·rename_i a;exact oY a g b h
 ·rename_i a;split at h;· exact oK a h
  ·exact oL a h
  ·split at h;· exact oM a h
   ·exact Zs a c h
  ·exact Zs a c h
 ·rename_i a;split at h;· exact o9 a b h
  ·exact ot a h
  ·split at h;· exact ou a h
   ·exact mx a c h
  ·exact mx a c h
 ·rename_i a;exact oR a h
 ·rename_i a;exact u6 a h
 ·rename_i a;split at h;· exact oQ a h
  ·exact oO a h
  ·split at h;· exact oP a h
   ·exact mz a h
  ·exact oN a h
  ·exact mz a h
 ·rename_i a;split at h;· exact o4 a h
  ·exact oV a h
 ·rename_i a;exact oy a h
 ·rename_i a;split at h
  ·split at h;· exact Zt (ne:=Ap) a h
   ·exact Zt (ne:=Br) a h
   ·cases h
  ·exact fk a h
 ·rename_i a;exact ox a h
 ·rename_i a;exact oA a h
 ·rename_i a;exact oz a h
 ·rename_i a;split at h;· exact oW a h
  ·split at h;· exact u7 a h
   ·exact mA a h
  ·exact mA a h
 ·rename_i a;exact oS a h
 ·rename_i a;exact oZ a h
 ·rename_i a;split at h;· exact oX a b h
  ·split at h;· exact u_ a g b h
   ·exact u9 a b h
 ·rename_i a;exact u5 a b h
 ·rename_i a;split at h;· exact ff a h
  ·exact oT a b h
 ·rename_i a;exact ov a h
 ·rename_i a;exact fg a h
 ·rename_i a;split at h
  ·rename_i i;have e:=AI i;subst e;split at h;· exact o6 a b h
   ·exact o8 a b h
  ·split at h;· exact o7 a b h
   ·exact o5 a b h
 ·rename_i a;exact oU a h
 ·rename_i a;split at h;· exact oG a h
  ·exact oH a h
  ·exact oJ a h
 ·rename_i a;exact oq a h
 ·rename_i a;exact oo a h
 ·rename_i a;exact oF a h
 ·rename_i a;exact oE a h
 ·rename_i a;exact fh a h
 ·rename_i a;exact Zu d b a h
 ·rename_i a;exact oD a h
 ·rename_i a;exact oC a b h
 ·rename_i a;exact oI a h
 ·rename_i a;exact Zp (.inl a) h
 ·rename_i a;exact Zp (.inr a) h
 grind
theorem Ao.fz{f:Nat}{g:Ee}{u:Ty}{l:List (u.den N.T)}{s:Bq N.T}(hk:Rr f=Ac (.row g u l))(h:Ao P C (λt=>Gv f u l (S t)) (Cg Rr f) o s)(hw:f∉keys s.wr):Ao P C S Rr o ⟨s.sv,f::s.rd,(f, .gone)::s.wr⟩:=by
 intro η H T a w Y W Z hi hx X m K Q hK;have d:∀j,j∈keys ((f,SR.gone)::s.wr)↔j=f\/j∈keys s.wr:=λj=>by simp[keys]
 rcases X f (.inl (by simp)) _ hk with e|⟨x,h1,xs,rfl,hL⟩;· grind
 obtain⟨i,V,h3⟩:=Xv T W h1;obtain⟨O,p,U,g3⟩:=Z.freeze V;rw[h3]at U;have E:GI (N.c u) O l (η f):=GI.of (by grind[Bk]) rfl (hL.mono p) (Z.Mk V);refine h η O T a w (GQ Y f) (JD W) U (N.Cz p hi) (λx I=>aE E ((hx x I).mono p)) (λj c L n=>?_) (λj c b B=>?_) K Q λv w' H2 M Y' A J hY G D y q F=>?_
 ·unfold Cg at n;split at n;· cases n;exact .inl rfl
  ·rename_i hb;have ne:=Abe hb;refine(X j (c.imp (Aag _) λc=>(d j).2 (.inr c)) L n).imp id λ⟨z,e1,e2⟩=>⟨z,by grind[ne,E9],e2.mono p⟩
 ·unfold Cg at b;split at b;· cases b
  ·exact m j ((d j).2 (.inr c)) b (DO B)
 ·refine hK v w' H2 M Y' (p.trans A) (λj c=>J j λb B=>?_) (λj c=>?_) (λj L c=>?_) D (λj c=>?_) q F
  ·unfold Cg at b;split at b;· cases b
   ·exact c b ((d j).2 (.inr B))
  ·rw[d,not_or]at c;rw[hY j c.2,E9 c.1]
  ·simp only[Ax]at c;split at c;· cases c;exact .inl rfl
   ·exact G j L c
  ·rcases y j c with e|e;· exact .inl (DO e)
   ·exact .inr ((d j).2 (.inr e))
def VO(S:Nat->SV N.T):List Dc->Option Nat
 | []=>C7
 |x::a=>match Xn (Ay S x)with
  |some k=>Ac k
  |none=>VO S a
def vO(Φ:Nat->Option (CQ N))(S:Nat->SV N.T):Op->Option Nat
 | .buildSlice _ _ ⟨b⟩=>VO S (b.map (·.2))
 | .convert _ _ x=>VO S [x]
 | .store _ x y=>match Ay S x with
  | .DU _ _ _ _ _=>Xn (Ay S y)
  |_=>C7
 | .call {callee:= .value (.func f),args:=⟨c⟩,argTypes:=_} =>match Φ f with
  |some (.Ae q)=>match q.rs.all EE with
   |true=>C7
   |false=>VO S c
  |_=>C7
 |_=>C7
def eZ(P:Ge)(Φ:Nat->Option (CQ N))(C:List (SV N.T)):Nat->(Nat->SV N.T)->(Nat->Option (SR N.T))->Nat->Op->Ee->(Bq N.T->Nat->Option R)->Option R
 |0,S,Rr,nk,op,b,k=>uY P Φ C S Rr nk op b k
 |n+1,S,Rr,nk,op,b,k=>match vO Φ S op with
  |some a=>match Rr a with
   |some (.row _ c l)=>eZ P Φ C n (λt=>Gv a c l (S t)) (Cg Rr a) nk op b λs nk=>match BZ (keys s.wr) a with
    |false=>k ⟨s.sv,a::s.rd,(a, .gone)::s.wr⟩ nk
    |true=>C7
   |_=>uY P Φ C S Rr nk op b k
  |none=>uY P Φ C S Rr nk op b k
theorem TK{Φ:Nat->Option (CQ N)}(m:∀f q,Φ f=Ac q->Bm P f q)(B:∀k∈CP C,k<nk):∀(n:Nat) {S:Nat->SV N.T} {Rr:Nat->Option (SR N.T)} {k:Bq N.T->Nat->Option R},(∀j,nk<=j->Rr j=C7)->(∃τ,Nl Rr S τ)->eZ P Φ C n S Rr nk o.op o.type k=Ac r->AW P C S Rr nk o k r
 |0,S,Rr,k,v,y,h=>TJ m B v y h
 |n+1,S,Rr,k,v,y,h=>by
  unfold eZ at h;split at h
  ·rename_i a Y;split at h
   ·rename_i g J l D;have A:∀τ,Nl Rr S τ->Nl (Cg Rr a) (λt=>Gv a J l (S t)) τ:=λτ d t=>by
     have p:=d t;generalize G:S t=sv at p⊢;show DF τ (Cg Rr a) (Gv a J l (S t));rw[G];cases sv with
     |AG j=>unfold Gv;split<;>trivial
     |DU j i off X x=>
      unfold Gv;split;· trivial
      ·rename_i b;intro L W V u;unfold Cg at u;rw[b]at u;exact p L W V u
     |_=>exact p
    obtain⟨s,I,p,M,O,Q,T⟩:=TK m B n (S:=λt=>Gv a J l (S t)) (Rr:=Cg Rr a) (λj w=>by grind[Cg,Nat.beq,Nat.eq_of_beq_eq_true]) (by obtain⟨τ,d⟩:=y;exact⟨τ,A τ d⟩) h;split at p
    ·rename_i K;have H:a∉keys s.wr:=λe=>by rw[AP.2 e]at K;cases K
     refine⟨_,I,p,M.fz D H,O,λj w c=>?_,λτ d=>?_⟩
     ·simp only[keys,Aap,Aay]at w;rcases w with e|z;· subst e;rw[D]at c;cases c
      ·refine Q j z ?_;unfold Cg;cases b:Nat.beq j a with
       |true=>have:=AI b;subst this;exact absurd z H
       |false=>exact c
     ·have e:Rq ((a,SR.gone)::s.wr) Rr=Rq s.wr (Cg Rr a):=funext λj=>by
       unfold Rq Cg;simp only[Ax];cases b:Nat.beq a j with
       |true=>
        have:=AI b;subst this;rw[Cy H];simp
       |false=>
        have ne:=Abe b;have:Nat.beq j a=Ap:=by
         cases E:Nat.beq j a with
         |true=>exact absurd (AI E).symm ne
         |false=>rfl
        rw[this]
      show DF τ (Rq ((a,SR.gone)::s.wr) Rr) s.sv;rw[e];exact T τ (A τ d)
    grind
   grind[TJ]
  grind[TJ]
end
end
section
variable{T:Nat->Type}
def C2{T:Nat->Type}(CR:List (SR T)):SR T->SR T
 | .Cr j=>CR.getD j .gone
 |s=>s
def Al{T:Nat->Type}(CR:List (SR T))(O:List (Nat×SR T))(k:Nat):Option (SR T):=match Ax O k with
 |some s=>Ac (C2 CR s)
 |none=>C7
def Rv:SV T->Bool
 | .DU _ _ _ _ _=>Ap
 |_=>Br
def hQ(a:List Nat)(L:List (Nat×SV T)):List (Nat×SV T):=match a with
 | []=>L
 |a=>L.map λp=>(p.1,match p.2 with
  | .DU k i off t x=>match BZ a k with
   |true=> .no
   |false=> .DU k i off t x
  |s=>s)
def Re(d:Option Nat)(s:SV T)(L:List (Nat×SV T)):List (Nat×SV T):=match d with
 |some d=>(d,s)::L
 |none=>L
def app(st:St T)(d:Option Nat)(s:Bq T)(nk:Nat):St T:=⟨Re d s.sv (hQ (keys s.wr) st.L),s.wr++st.O,nk⟩
def NM(n:Nat)(d:Option Nat):Bool:=match d with
 |some d=>Nat.blt d n
 |none=>Br
def CV(CR:List (SR T))(st:St T)(a:Nat):Bool:=(st.L.all λp=>p.2.AJ.all λk=>Nat.blt k a)&&(st.O.all λp=>(C2 CR p.2).AJ.all λk=>Nat.blt k a)
end
section
variable {N : C6}
structure Fm where
 O:List Av
 ds:List Deferred
structure Sat(C:List (SV N.T))(CR:List (SR N.T))(n:Nat)(Of:Fm)(bs:List (Nat×BU))(st:St N.T)(η:Nat->BU)(H:Hp)(a:Act)(w:GD):Prop where
 inv:N.inv H
 defers:a.defers=Of.ds
 size:a.tmps.size=n
 Bi:∀t sv,Ax st.L t=Ac sv->sv.is C η H (a.tmps.getD t undef)
 base:∀p∈bs,η p.1=p.2
 own:∃Y:List (Nat×Av),(keys Y).Nodup/\SH w H (Y.map (·.2)++Of.O)/\(∀k∈keys Y,k<st.nk)/\∀k sr,Al CR st.O k=Ac sr->Dy C η H Y k sr
structure WF(C:List (SV N.T))(CR:List (SR N.T))(bs:List (Nat×BU))(st:St N.T):Prop where
 lo:∀p∈bs,p.1<st.nk
 ok:∀j,st.nk<=j->Ax st.O j=C7
 wf:∃τ,Nl (Al CR st.O) (Ck C st.L) τ
 mC:∀k∈CP C,k<st.nk
 cP:∀s∈C,Rv s=Br
variable {C : List (SV N.T)} {CR : List (SR N.T)} {n : Nat} {Of : Fm} {bs : List (Nat × BU)} {st : St N.T} {η : Nat -> BU} {H : Hp} {a : Act} {w : GD}
section
variable{nk:Nat}{d:Option Nat}{T:Nat->Type}{s:Bq N.T}{P:Ge}{o:J5}{v:BU}{goal:Prop}
theorem Sat.lk(h:Sat C CR n Of bs st η H a w)(t:Nat):(Ck C st.L t).is C η H (a.tmps.getD t undef):=by
 unfold Ck;split;· rename_i s b;exact Eu (h.Bi t s b)
 trivial
theorem Sat.ev(h:Sat C CR n Of bs st η H a w)(x:Dc):(Ay (Ck C st.L) x).is C η H (a.eval x):=aQ λt e=>h.lk t
theorem Ds{α β:Type}(f:α->β)(l:List (Nat×α))(k:Nat):Ax (l.map λp=>(p.1,f p.2)) k=(Ax l k).map f:=by
 induction l with
 |nil=>rfl
 |cons p l b=>
  grind[Ax]
def bD(b:List Nat):SV T->SV T
 | .DU k i off t x=>match BZ b k with
  |true=> .no
  |false=> .DU k i off t x
 |s=>s
theorem Qf(b:List Nat)(L:List (Nat×SV N.T))(t:Nat):Ax (hQ b L) t=(Ax L t).map (bD b):=by
 unfold hQ;split
 ·have:bD (T:=N.T) []=id:=by
   funext s;cases s<;>rfl
  grind
 ·rw[<-Ds];rfl
theorem Qg{b:List Nat}{s:SV N.T}(h:s.is C η H v):(bD b s).is C η H v:=by
 unfold bD;split
 ·split;all_goals trivial
 omega
theorem HO{d t:Nat}(e:d<a.tmps.size):(a.put (Ac d) v).tmps.getD t undef=match Nat.beq d t with|true=>v|false=>a.tmps.getD t undef:=by
 simp only[Act.put];cases b:Nat.beq d t with
 |true=>
  have:=AI b;simp_all
 |false=>
  simp_all[ne,Abe,Afg,Aju]
theorem DK{k:Nat}{d:SR N.T}(h:Al CR st.O k=Ac d){b:Nat}(c:CV CR st b=Br):∀j∈d.AJ,j<b:=by
 unfold Al at h;split at h;· rename_i s g;unfold CV at c;rw[AS]at c;have e:=OF.1 (OF.1 c.2 _ (A2 g));simp_all
 grind
theorem G5(wr O:List (Nat×SR N.T))(b:∀p∈wr,C2 CR p.2=p.2)(k:Nat):Al CR (wr++O) k=Rq wr (Al CR O) k:=by
 unfold Al Rq;rw[BQ];cases h:Ax wr k with
 |none=>rfl
 |some s=>simp only;rw[b _ (A2 h)]
def N'{T:Nat->Type} :SR T->Bool
 | .Cr _=>Ap
 |_=>Br
theorem I'{s:SR N.T}(h:N' s=Br):C2 CR s=s:=by cases s<;>first|rfl|cases h
def mP{T:Nat->Type}(CR:List (SR T))(st:St T)(p:Nat×SR T):Bool:=match p.2 with
 | .gone=>(Al CR st.O p.1).isSome||Nat.ble st.nk p.1
 |_=>Br
def vJ(CR:List (SR T))(st:St T)(s:Bq T):Bool:=s.wr.all λp=>match p.2 with
 | .gone=>(Al CR st.O p.1).isSome
 |_=>Br
def Ry:SV T->Bool
 | .Cr _=>Ap
 |_=>Br
def G3(CR:List (SR N.T))(n:Nat)(st:St N.T)(d:Option Nat)(s:Bq N.T)(nk:Nat):Bool:=(NM n d&&Ry s.sv)&&((s.wr.all λp=>N' p.2&&mP CR st p)&&(match Nat.beq st.nk nk with
 |true=>Br
 |false=>CV CR st st.nk))
structure KK(C:List (SV N.T))(CR:List (SR N.T))(n:Nat)(st:St N.T)(d:Option Nat)(s:Bq N.T)(nk:Nat)(P:Ge)(o:J5):Prop where
 b:G3 CR n st d s nk=Br
 loc:Ao P C (Ck C st.L) (Al CR st.O) o s
 le:st.nk<=nk
 new:∀j∈keys s.wr,Al CR st.O j=C7->st.nk<=j/\j<nk
 wf:∀τ,Nl (Al CR st.O) (Ck C st.L) τ->DF τ (Rq s.wr (Al CR st.O)) s.sv
structure O6(C:List (SV N.T))(CR:List (SR N.T))(n:Nat)(st:St N.T)(d:Option Nat)(s:Bq N.T)(nk:Nat):Prop where
 b:G3 CR n st d s nk=Br
 le:st.nk<=nk
 new:∀j∈keys s.wr,Al CR st.O j=C7->st.nk<=j/\j<nk
 wf:∀τ,Nl (Al CR st.O) (Ck C st.L) τ->DF τ (Rq s.wr (Al CR st.O)) s.sv
theorem KK.toW(b:KK C CR n st d s nk P o):O6 C CR n st d s nk:=⟨b.b,b.le,b.new,b.wf⟩
theorem WF.UX(m:WF C CR bs st)(f:O6 C CR n st d s nk):WF C CR bs (app st d s nk):=by
 have u:=f.b;unfold G3 at u;simp only[AS]at u;have z:∀p∈s.wr,C2 CR p.2=p.2:=λp A=>I' (AS _ _▸OF.1 u.2.1 p A).1;refine⟨λp A=>Abs (m.lo p A) f.le,λj v=>?_,?_,λk b=>Abs (m.mC k b) f.le,m.cP⟩;· show Ax (s.wr++st.O) j=C7;have v:nk<=j:=v;have D:=m.ok j (Aar f.le v);rw[BQ,D];cases h:Ax s.wr j with
  |none=>rfl
  |some x=>
   have:=(f.new j (Dd h) (by grind[Al])).2;omega
 ·obtain⟨
      τ,q⟩:=m.wf;refine⟨τ,λt=>?_⟩;have K:Al CR (app st d s nk).O=Rq s.wr (Al CR st.O):=funext λk=>G5 _ _ z k;rw[K];have r:DF τ (Rq s.wr (Al CR st.O)) (Ck C (hQ (keys s.wr) st.L) t):=by
   have o:=q t;unfold Ck at o⊢;rw[Qf];cases M:Ax st.L t with
   |none=>trivial
   |some x=>
    rw[M]at o;simp only[Adk]at o⊢;have key:∀y:SV N.T,DF τ (Al CR st.O) y->(∀k i off t x,y= .DU k i off t x->k∉keys s.wr)->DF τ (Rq s.wr (Al CR st.O)) y:=by
     intro y F b;cases y with
     |DU k i off t x=>
      intro g J l c;have b:=b k i off t x rfl;unfold Rq at c;rw[Cy b]at c;exact F g J l c
     |_=>exact F
    unfold bD;split
    ·split;· trivial
     ·exact key _ o λQ _ _ _ _ e=>by cases e;grind[AP]
    ·rename_i P;refine key _ o λQ R G J S e=>?_;unfold res at e;split at e;· rename_i j;rw[IS]at e;cases hc:C[j]? with
      |none=>rw[hc]at e;cases e
      |some I=>
       rw[hc]at e;have:=m.cP I (Aai hc);subst e;cases this
     grind
  unfold app Re;cases d with
  |none=>exact r
  |some d=>
   unfold Ck;simp only[Ax];cases L:Nat.beq d t with
   |false=>exact r
   |true=>
    have hc:=u.1.2;have:res C s.sv=s.sv:=by cases B:s.sv<;>first|rfl|(rw[B]at hc;cases hc)
    simp only;rw[this];exact f.wf τ q
theorem WF.step(c:WF C CR bs st)(b:KK C CR n st d s nk P o):WF C CR bs (app st d s nk):=c.UX b.toW
theorem Sat.kL(h:Sat C CR n Of bs st η H a w)(hw:WF C CR bs st)(E:O6 C CR n st d s nk){K:BU->GD->Fm->Hp->Prop}
  (run:∀Y:List (Nat×Av),(keys Y).Nodup->SH w H (Y.map (·.2)++Of.O)->(∀k,(k∈s.rd\/k∈keys s.wr)->∀c,Al CR st.O k=Ac c->Dy C η H Y k c)->(∀k∈keys s.wr,Al CR st.O k=C7->k∉keys Y)->
   (∀(v:BU) (w':GD) (l:Hp) (η':Nat->BU) (z:List (Nat×Av)) (f:Fm),f.ds=Of.ds->H.le l->(∀k,(Al CR st.O k=C7->k∉keys s.wr)->η' k=η k)->(∀k,k∉keys s.wr->Ax z k=Ax Y k)->
    (∀k c,Ax s.wr k=Ac c->Dy C η' l z k c)->(keys z).Nodup->(∀k∈keys z,k∈keys Y\/k∈keys s.wr)->SH w' l (z.map (·.2)++f.O)->s.sv.is C η' l v->K v w' f l)->goal)
  (hK:∀η' l v w' f,H.le l->Sat C CR n f bs (app st d s nk) η' l (a.put d v) w'->K v w' f l):goal:=by
 obtain⟨Y,hn,hsh,M,A⟩:=h.own;have G:=E.b;unfold G3 at G;simp only[AS]at G;have hnc:∀p∈s.wr,C2 CR p.2=p.2:=λp S=>I' (AS _ _▸OF.1 G.2.1 p S).1;have r:∀k,Al CR st.O k=C7->k∈keys s.wr->k∉keys Y:=λk b q V=>by have m:=(E.new k q b).1;grind
 refine run Y hn hsh (λk _ c u=>A k c u) (λk q b=>r k b q) λv w' l η' z f X o F V hwr hn' W P hsv=>?_;have y:∀k,k<st.nk->η' k=η k:=λk b=>F k λg q=>by have:=(E.new k q g).1;omega
 have fresh:(∀k,η' k=η k)\/CV CR st st.nk=Br:=by
  have m:=G.2.2;split at m;· rename_i he;have e:st.nk=nk:=AI he;exact .inl λk=>F k λg q=>by have:=E.new k q g;omega
  grind
 have mC:∀k∈CP C,η' k=η k:=λk b=>y k (hw.mC k b);have mS:∀t sv,Ax st.L t=Ac sv->∀k∈sv.AJ,η' k=η k:=λt sv i k b=>by
  rcases fresh with m|m;· grind
  ·refine y k ?_;unfold CV at m;rw[AS]at m;have:=OF.1 (OF.1 m.1 _ (A2 i)) k b;simpa using this
 have mR:∀k c,Al CR st.O k=Ac c->∀j∈c.AJ,η' j=η j:=λk c b j hj=>by
  rcases fresh with m|m;· grind
  ·exact y j (DK b m j hj)
 have Q:∀k c,k∉keys s.wr->Al CR st.O k=Ac c->Dy C η' l z k c:=λk c b u=>by
  rcases A k c u with e|⟨x,g1,g2⟩;· exact .inl e
  ·refine .inr ⟨x,by rw[V k b];exact g1,(SR.is.env ?_ mC (mR k c u) g2).mono o⟩;grind
 refine hK η' l v w' f o ⟨N.Cz o h.inv,?_,?_,λt sv i=>?_,λp S=>?_,z,hn',P,λk b=>?_,λk c b=>?_⟩;· rw[X];cases d<;>exact h.defers
 ·cases d<;>simp[Act.put,h.size]
 ·have B:∀ {t sv},Ax (hQ (keys s.wr) st.L) t=Ac sv->sv.is C η' l (a.tmps.getD t undef):=λ{t sv} i=>by
   rw[Qf]at i;obtain⟨x,U,rfl⟩:=Pe.1 i;exact Qg (((h.Bi t x U).env mC (mS t x U)).mono o)
  have R:=G.1.1;cases J:d with
  |none=>
   rw[J]at i;exact B i
  |some d=>
   rw[J]at i R;have R:d<n:=by simpa [NM]using R
   have i:Ax ((d,s.sv)::hQ (keys s.wr) st.L) t=Ac sv:=i;rw[HO (by rw[h.size];exact R)];simp only[Ax]at i;cases I:Nat.beq d t with
   |true=>rw[I]at i;cases i;exact hsv
   |false=>rw[I]at i;exact B i
 ·rw[y p.1 (hw.lo p S)];exact h.base p S
 ·rcases W k b with b|b;· exact Abs (M k b) E.le
  ·cases T:Al CR st.O k with
   |none=>exact(E.new k b T).2
   |some x=>
    have Z:Ax st.O k≠C7:=λe=>by unfold Al at T;rw[e]at T;cases T
    have:k<st.nk:=Abz λo=>Z (hw.ok k o);exact Abs this E.le
 ·have e:Al CR (app st d s nk).O k=Rq s.wr (Al CR st.O) k:=G5 _ _ hnc k;rw[e]at b;unfold Rq at b;cases L:Ax s.wr k with
  |some x=>rw[L]at b;cases b;exact hwr k _ L
  |none=>
   rw[L]at b;refine Q k c (λq=>?_) b;obtain⟨x,U⟩:=Dg q;rw[U]at L;cases L
theorem Sat.stepG(h:Sat C CR n Of bs st η H a w)(F:WF C CR bs st)(j:O6 C CR n st d s nk){K:BU->GD->Prop}
  (run:∀Y:List (Nat×Av),(keys Y).Nodup->SH w H (Y.map (·.2)++Of.O)->(∀k,(k∈s.rd\/k∈keys s.wr)->∀i,Al CR st.O k=Ac i->Dy C η H Y k i)->(∀k∈keys s.wr,Al CR st.O k=C7->k∉keys Y)->
   (∀(v:BU) (w':GD) (b:Hp) (η':Nat->BU) (f:List (Nat×Av)),H.le b->(∀k,(Al CR st.O k=C7->k∉keys s.wr)->η' k=η k)->(∀k,k∉keys s.wr->Ax f k=Ax Y k)->
    (∀k i,Ax s.wr k=Ac i->Dy C η' b f k i)->(keys f).Nodup->(∀k∈keys f,k∈keys Y\/k∈keys s.wr)->SH w' b (f.map (·.2)++Of.O)->s.sv.is C η' b v->K v w')->goal)
  (D:∀η' b v w',H.le b->Sat C CR n Of bs (app st d s nk) η' b (a.put d v) w'->K v w'):goal:=
 h.kL (K:=λv w' g b=>g=Of->K v w') F j (λY x y z A B=>run Y x y z A λv w' b η' f l m o p q r t u=>B v w' b η' f Of rfl l m o p q r t u rfl) λη' b v w' g E j e=>by grind
theorem Sat.step(h:Sat C CR n Of bs st η H a w)(m:WF C CR bs st)(f:KK C CR n st o.dst s nk P o){K:Act->GD->Prop}{Q:Exit->Act->GD->Prop}
  (g:∀η' c a' w',H.le c->Sat C CR n Of bs (app st o.dst s nk) η' c a' w'->K a' w'):o.wp P a w K Q:=by
 refine h.stepG m f.toW (K:=λv w'=>K (a.put o.dst v) w') (λY k e l i j=>f.loc η H Of.O a w Y k e h.inv (λx _=>h.ev x) l i K Q j) λη' c v w' d b=>g η' c _ w' d b
end
end
section
variable{T:Nat->Type}
def bU(i:Nat):SV T->SV T
 | .ct j n=>match Nat.beq i j with
  |true=> .cb j n
  |false=> .ct j n
 |s=>s
def below{T:Nat->Type}(i:Nat)(st:St T):St T:=⟨st.L.map λp=>(p.1,bU i p.2),st.O,st.nk⟩
def Ke(t:Nat)(s:SV T)(st:St T):St T:=⟨(t,s)::st.L,st.O,st.nk⟩
end
section
variable {N : C6} {R : Type}
def wg(s:SV N.T)(st:St N.T)(c a:St N.T->Option R):Option R:=match s with
 | .lb b=>cond b (c st) (a st)
 | .lt i n m=>bif decide ((n:Int)<(m:Int))then c (below i st)else a st
 | .d .bool b=>bif b then c st else a st
 |_=>C7
variable {C : List (SV N.T)} {CR : List (SR N.T)} {n : Nat} {Of : Fm} {bs : List (Nat × BU)} {st : St N.T} {η : Nat -> BU} {H : Hp} {a : Act} {w : GD}
section
variable{t:Nat}{L:List (Nat×SV N.T)}
theorem bT(i:Nat)(st:St N.T)(t:Nat):Ax (below i st).L t=(Ax st.L t).map (bU i):=by grind[below,Ds]
theorem Sat.Gm(h:Sat C CR n Of bs st η H a w)(b:∀t sv,Ax L t=Ac sv->sv.is C η H (a.tmps.getD t undef)):Sat C CR n Of bs ⟨L,st.O,st.nk⟩ η H a w:=
 ⟨h.inv,h.defers,h.size,b,h.base,h.own⟩
theorem WF.Gm(h:WF C CR bs st)(c:∀τ,Nl (Al CR st.O) (Ck C st.L) τ->Nl (Al CR st.O) (Ck C L) τ):WF C CR bs ⟨L,st.O,st.nk⟩:=by obtain⟨τ,b⟩:=h.wf;exact⟨h.lo,h.ok,⟨τ,c τ b⟩,h.mC,h.cP⟩
theorem bS{i k:Nat}{m:Nat}(h:Sat C CR n Of bs st η H a w)(d:WF C CR bs st)(ht:Ck C st.L t= .lt i k m)(p:(k:Int)<(m:Int)):Sat C CR n Of bs (below i st) η H a w/\WF C CR bs (below i st):=by
 have r:m<=QP:=by have:=h.lk t;rw[ht]at this;exact this.2
 obtain⟨τ,c⟩:=d.wf;have s:τ i=k:=by have:=c t;rw[ht]at this;trivial
 refine⟨h.Gm λq sv g=>?_,⟨d.lo,d.ok,⟨τ,λq=>?_⟩,d.mC,d.cP⟩⟩
 ·rw[Ds (bU i)]at g;obtain⟨x,e,rfl⟩:=Pe.1 g;have f:=h.Bi q x e;unfold bU;split
  ·rename_i j l;split
   ·rename_i o;have:=AI o;subst this;have b:=c q;unfold Ck at b;rw[e]at b;have b:τ i=l:=b;refine⟨f.1,?_⟩;have:l=k:=by omega
    subst this;exact Abs (by omega) r
   trivial
  omega
 ·have b:=c q;unfold Ck at b⊢;rw[bT];cases e:Ax st.L q with
  |none=>trivial
  |some x=>
   rw[e]at b;simp only[Adk]at b⊢;unfold bU;split
   ·split;· exact b
    ·exact b
   ·exact b
theorem Pr{s:SV N.T}(h:Sat C CR n Of bs st η H a w)(i:WF C CR bs st)(g:s.is C η H (a.tmps.getD t undef))(f:Ex s=Br)(hc:Ry s=Br):Sat C CR n Of bs (Ke t s st) η H a w/\WF C CR bs (Ke t s st):=by
 refine⟨h.Gm λq sv b=>?_,i.Gm λτ c q=>?_⟩
 ·simp only[Ax]at b;split at b;· simp_all
  ·exact h.Bi q sv b
 ·have d:=c q;unfold Ck at d⊢;simp only[Ax];cases e:Nat.beq t q with
  |true=>
   have:res C s=s:=by cases s<;>first|rfl|cases hc
   simp_all[Dr]
  |false=>exact d
theorem Ui{o l:St N.T->Option R}{r:R}(h:Sat C CR n Of bs st η H a w)(j:WF C CR bs st)(c:wg (Ck C st.L t) st o l=Ac r):
  ∃b d,a.tmps.getD t undef= .bool b/\Sat C CR n Of bs d η H a w/\WF C CR bs d/\(if b=Br then o d=Ac r else l d=Ac r):=by
 have f:=h.lk t;unfold wg at c;split at c;· rename_i b e;rw[e]at f;cases b with
  |true=>exact⟨Br,st,f,h,j,c⟩
  |false=>exact⟨Ap,st,f,h,j,c⟩
 ·rename_i i k m e;rw[e]at f;cases g:decide ((k:Int)<(m:Int))with
  |true=>
   obtain⟨p,q⟩:=bS h j e (of_decide_eq_true g);rw[g]at c;exact⟨Br,below i st,by rw[f.1,g],p,q,c⟩
  |false=>
   rw[g]at c;exact⟨Ap,st,by rw[f.1,g],h,j,c⟩
 ·rename_i b e;rw[e]at f;refine⟨b,st,Qj f,h,j,?_⟩;cases b with
  |true=>grind
  |false=>exact c
 grind
def YN(P:Ge)(Φ:Nat->Option (CQ N))(C:List (SV N.T))(CR:List (SR N.T))(n:Nat)(o:J5)(st:St N.T)(kn:St N.T->Option R):Option R:=
 eZ P Φ C 4 (Ck C st.L) (Al CR st.O) st.nk o.op o.type λs b=>match G3 CR n st o.dst s b with
  |true=>kn (app st o.dst s b)
  |false=>C7
theorem QX{P:Ge} [CC N P]{Φ:Nat->Option (CQ N)}(k:∀f q,Φ f=Ac q->Bm P f q){o:J5}{kn:St N.T->Option R}{r:R}(h:Sat C CR n Of bs st η H a w)(d:WF C CR bs st)(y:YN P Φ C CR n o st kn=Ac r){K:Act->GD->Prop}{Q:Exit->Act->GD->Prop}
  (v:∀b η' e a' w',H.le e->Sat C CR n Of bs b η' e a' w'->WF C CR bs b->kn b=Ac r->K a' w'):o.wp P a w K Q:=by
 have z:∀j,st.nk<=j->Al CR st.O j=C7:=λj A=>by unfold Al;rw[d.ok j A]
 obtain⟨s,B,g,m,p,t,u⟩:=TK (o:=o) k d.mC 4 z d.wf y;split at g;· rename_i x;have l:KK C CR n st o.dst s B P o:=⟨x,m,p,t,u⟩;exact h.step d l λη' e a' w' i c=>v _ η' e a' w' i c (d.step l) g
 grind
def Ii(n:Nat)(d:Option Nat)(st:St N.T)(kn:St N.T->Option R):Option R:=match d with
 |none=>kn st
 |some d=>match Nat.blt d n with
  |true=>kn (Ke d .ud st)
  |false=>C7
theorem Q6{d:Option Nat}{kn:St N.T->Option R}{r:R}(h:Sat C CR n Of bs st η H a w)(l:WF C CR bs st)(e:Ii n d st kn=Ac r):∃c,Sat C CR n Of bs c η H (a.put d undef) w/\WF C CR bs c/\kn c=Ac r:=by
 unfold Ii at e;split at e;· exact⟨st,h,l,e⟩
 ·rename_i d;split at e
  ·have g:d<n:=by simp_all
   refine⟨_,?_,?_,e⟩;· refine⟨h.inv,h.defers,by simp[Act.put,h.size],λq sv b=>?_,h.base,h.own⟩;have b:Ax ((d,SV.ud)::st.L) q=Ac sv:=b;rw[HO (by rw[h.size];omega)];simp only[Ax]at b;cases f:Nat.beq d q with
    |true=>rw[f]at b;cases b;rfl
    |false=>rw[f]at b;exact h.Bi q sv b
   ·refine l.Gm λτ i q=>?_;have j:=i q;unfold Ck at j⊢;simp only[Ax];cases k:Nat.beq d q with
    |true=>trivial
    |false=>exact j
  grind
theorem It{b:Array J5}{j:Nat}{t:Tmp}(d:BG b j=Ac t)(c:a.tmps.getD t undef=undef):yielded b a.tmps j=C7:=by unfold BG at d;unfold yielded;rw[d];rw[Afg]at c;grind[undef]
end
end
section
variable{T:Nat->Type}
inductive TS(T:Nat->Type)where
 |run (s:Bq T)
 |skip
def TS.sv:TS T->SV T
 | .run s=>s.sv
 | .skip=> .ud
def TS.rd:TS T->List Nat
 | .run s=>s.rd
 | .skip=>[]
def TS.wr:TS T->List (Nat×SR T)
 | .run s=>s.wr
 | .skip=>[]
def TS.AJ(t:TS T):List Nat:=t.sv.AJ++t.wr.flatMap λp=>p.2.AJ
def GF(A B:List Nat):Bool:=A.any λk=>BZ B k
theorem Rz{A B:List Nat}(h:GF A B=Ap){k:Nat}(a:k∈A)(b:k∈B):False:=by grind[GF,List.any_eq_true,AP]
end
section
variable {T : Nat -> Type}
section
variable{nk:Nat}{l:List J5}{tr:List (TS T)}
def Ln(a:Array J5)(x y:J5)(s t:TS T):Bool:=meets a x y||(GF (keys s.wr) (t.rd++keys t.wr)||GF s.rd (keys t.wr))
def vi(nk:Nat)(seen:List Nat)(wr:List (Nat×SR T)):List Nat:=(keys wr).filter λk=>Nat.ble nk k&& !BZ seen k
def Rp(a:Array J5)(nk:Nat)(A:Nat)(o:J5)(t:TS T)(j:Nat):Nat->List Nat->List J5->List (TS T)->Bool
 |_,_,[],[]=>Br
 |i,seen,x::c,s::b=>(A.testBit i||(Nat.beq i j||((!Nat.blt i j|| !Ln a x o s t)&& !GF (vi nk seen s.wr) t.AJ)))&&Rp a nk A o t j (i+1) (keys s.wr++seen) c b
 |_,_,_,_=>Ap
def ec(a:Array J5)(l:List J5)(tr:List (TS T))(nk:Nat):Nat->List Nat->List J5->List (TS T)->Bool
 |_,[],[],[]=>Br
 |j,A::b,o::c,t::d=>Rp a nk A o t j 0 [] l tr&&ec a l tr nk (j+1) b c d
 |_,_,_,_=>Ap
def Ze(l:List J5)(tr:List (TS T))(nk:Nat):Bool:=GH 0 l&&ec l.toArray l tr nk 0 (Nd [] l) l tr
theorem Mv{g:Array J5}{nk A:Nat}{o:J5}{t:TS T}{j:Nat} :∀ {i:Nat} {seen:List Nat} {xs:List J5} {ss:List (TS T)},Rp g nk A o t j i seen xs ss=Br->xs.length=ss.length/\∀q x s,xs[q]?=Ac x->ss[q]?=Ac s->
  A.testBit (i+q)=Br\/i+q=j\/((i+q<j->Ln g x o s t=Ap)/\∀k∈keys s.wr,nk<=k->k∉seen->(∀l m,l<q->ss[l]?=Ac m->k∉keys m.wr)->k∉t.AJ)
 |_,_,[],[],_=>⟨rfl,λq x s h=>by simp⟩
 |_,_,[],_::_,h=>by trivial
 |_,_,_::_,[],h=>by trivial
 |i,seen,y::xs,u::ss,h=>by
  simp only[Rp,AS]at h;obtain⟨a,D⟩:=h;obtain⟨F,E⟩:=Mv D;refine⟨by grind,λq x s z r=>?_⟩;cases q with
  |zero=>
   simp at z r;subst r;rw[Ado,Ado,AS]at a;rcases a with a|a|⟨a,n⟩;· grind
   ·grind[Nat.eq_of_beq_eq_true]
   ·refine .inr (.inr ⟨λd=>?_,λk p c f _ b=>?_⟩)
    ·rw[Ado]at a;rcases a with a|a
     ·have:Nat.blt i j=Br:=by simpa using d
      grind
     grind
    ·have n:GF (vi nk seen u.wr) t.AJ=Ap:=by simpa using n
     refine Rz n (Aax.2 ⟨p,?_⟩) b;grind[BZ,seen,absurd,Nat.ble_eq_true_of_le,AP]
  |succ q=>
   have:=E q x s (by simpa using z) (by simpa using r);rw[show i+1+q=i+(q+1) by omega]at this;refine this.imp id λe=>e.imp id λ⟨B,C⟩=>⟨B,λk p c f w=>C k p c (λb=>?_) λl m d v=>w (l+1) m (by omega) (by simpa using v)⟩;rcases AT.1 b with b|b;· exact w 0 u (by omega) rfl b
   ·exact f b
theorem N1{a:Array J5}{l:List J5}{tr:List (TS T)}{nk:Nat} :∀ {j:Nat} {b:List Nat} {os:List J5} {ts:List (TS T)},ec a l tr nk j b os ts=Br->os.length=ts.length/\b.length=os.length/\∀q o t,os[q]?=Ac o->ts[q]?=Ac t->Rp a nk (b.getD q 0) o t (j+q) 0 [] l tr=Br
 |_,[],[],[],_=>⟨rfl,rfl,λq o t h=>by simp⟩
 |j,A::b,o::os,t::ts,h=>by simp only[ec,AS]at h;obtain⟨c,d,e⟩:=N1 h.2;grind
 |_,[],[],_::_,h=>by trivial
 |_,[],_::_,_,h=>by trivial
 |_,_::_,[],_,h=>by trivial
 |_,_::_,_::_,[],h=>by trivial
theorem Kd(h:Ze l tr nk=Br):GH 0 l=Br/\tr.length=l.length/\∀i j x o s t,l[i]?=Ac x->l[j]?=Ac o->tr[i]?=Ac s->tr[j]?=Ac t->
  (Up l j).testBit i=Br\/i=j\/((i<j->Ln l.toArray x o s t=Ap)/\∀k∈keys s.wr,nk<=k->(∀c d,c<i->tr[c]?=Ac d->k∉keys d.wr)->k∉t.AJ):=by
 unfold Ze at h;rw[AS]at h;obtain⟨m,y,n⟩:=N1 h.2;refine⟨h.1,m.symm,λi j x o s t w q u v=>?_⟩;have:=n j o t q v;rw[Abi]at this;have:=(Mv this).2 i x s w u;rw[Abi]at this;exact this.imp id λe=>e.imp id λ⟨f,g⟩=>⟨f,λk p b r=>g k p b (by simp) r⟩
end
end
section
variable {N : C6} {l : List J5} {tr : List (TS N.T)} {S0 : Nat -> SV N.T} {R0 : Nat -> Option (SR N.T)}
section
variable{p:Nat->Bool}{C:List (SV N.T)}{n nk:Nat}{Of:Fm}{H:Hp}{P:Ge}{Q:Exit->Act->GD->Prop}{a:Act}{w:GD}
def B_(l:List J5)(tr:List (TS N.T))(S0:Nat->SV N.T)(p:Nat->Bool)(t:Nat):Nat->SV N.T
 |0=>S0 t
 |j+1=>if p j=Br/\(l[j]?).bind (·.dst)=Ac t then((tr[j]?).map TS.sv).getD .no else B_ l tr S0 p t j
def Cl(tr:List (TS N.T))(R0:Nat->Option (SR N.T))(p:Nat->Bool)(k:Nat):Nat->Option (SR N.T)
 |0=>R0 k
 |j+1=>if p j=Br then match(tr[j]?).bind λs=>Ax s.wr k with
   |some x=>Ac x
   |none=>Cl tr R0 p k j
  else Cl tr R0 p k j
theorem Gy{p q:Nat->Bool}{t:Nat} :∀i,(∀j,j<i->(l[j]?).bind (·.dst)=Ac t->p j=q j)->B_ l tr S0 p t i=B_ l tr S0 q t i
 |0,_=>rfl
 |i+1,h=>by unfold B_;rw[Gy i λj a=>h j (by omega)];grind
theorem Hx{p:Nat->Bool}{t i:Nat} :∀k,i<=k->(∀j,i<=j->j<k->(l[j]?).bind (·.dst)=Ac t->p j=Ap)->B_ l tr S0 p t k=B_ l tr S0 p t i
 |0,h,_=>by grind
 |k+1,h,f=>by
  by_cases e:i=k+1;· grind
  ·have g:B_ l tr S0 p t (k+1)=if p k=Br/\(l[k]?).bind (·.dst)=Ac t then((tr[k]?).map TS.sv).getD .no else B_ l tr S0 p t k:=rfl;rw[g,if_neg (λ⟨b,c⟩=>by grind)];exact Hx k (by omega) λj b c d=>f j b (by omega) d
theorem EG{p q:Nat->Bool}{k:Nat} :∀i,(∀j,j<i->∀s,tr[j]?=Ac s->k∈keys s.wr->p j=q j)->Cl tr R0 p k i=Cl tr R0 q k i
 |0,_=>rfl
 |i+1,h=>by unfold Cl;rw[EG i λj a=>h j (by omega)];grind[bind,Ax,Option.bind_eq_some_iff,Dd]
theorem Hw{p:Nat->Bool}{k i:Nat} :∀m,i<=m->(∀j,i<=j->j<m->∀s,tr[j]?=Ac s->k∈keys s.wr->p j=Ap)->Cl tr R0 p k m=Cl tr R0 p k i
 |0,h,_=>by grind
 |m+1,h,c=>by
  by_cases e:i=m+1;· grind
  ·have g:=Hw m (by omega:i<=m) λj a d b=>c j a (by omega) b;have f:Cl tr R0 p k (m+1)=if p m=Br then(match(tr[m]?).bind λs=>Ax s.wr k with
    |some x=>Ac x
    |none=>Cl tr R0 p k m)else Cl tr R0 p k m:=rfl;grind[bind,Ax,Option.bind_eq_some_iff,Dd]
def Nr(C:List (SV N.T))(a:Array J5)(o:J5)(S:Nat->SV N.T):Prop:= ∀j w,o.guard=Ac (j,w)->∃t,BG a j=Ac t/\∀(η:Nat->BU) (H:Hp) v,(S t).is C η H v->v= .bool w
def KL(C:List (SV N.T))(a:Array J5)(o:J5)(S:Nat->SV N.T):Prop:= ∃j w t,o.guard=Ac (j,w)/\BG a j=Ac t/\∀(η:Nat->BU) (H:Hp) v,(S t).is C η H v->v=undef\/v= .bool (!w)
structure cz(P:Ge)(C:List (SV N.T))(ops:Array J5)(n nk:Nat)(o:J5)(s:TS N.T)(S:Nat->SV N.T)(R:Nat->Option (SR N.T)):Prop where
 dst:∀d,o.dst=Ac d->d<n
 new:∀k∈keys s.wr,R k=C7->nk<=k/\Ax s.wr k≠Ac .gone
 run:∀st,s= .run st->Nr C ops o S/\∃Sr:Nat->SV N.T,(∀t, .tmp t∈o.op.operands->∀(η:Nat->BU) (H:Hp) v,(S t).is C η H v->(Sr t).is C η H v)/\Ao P C Sr R o st
 skip:s= .skip->KL C ops o S
structure JV(C:List (SV N.T))(n:Nat)(Of:Fm)(bs:List (Nat×BU))(nk:Nat)(l:List J5)(tr:List (TS N.T))(S0:Nat->SV N.T)(R0:Nat->Option (SR N.T))(H:Hp)(p:Nat->Bool)(a:Act)(w:GD):Prop where
 ex:∃(η:Nat->BU) (H':Hp) (Y:List (Nat×Av)),H.le H'/\a.defers=Of.ds/\a.tmps.size=n/\(∀t,(B_ l tr S0 p t l.length).is C η H' (a.tmps.getD t undef))/\(∀q∈bs,η q.1=q.2)/\(keys Y).Nodup/\SH w H' (Y.map (·.2)++Of.O)/\
  (∀k∈keys Y,k<nk\/∃(j:Nat) (s:TS N.T),p j=Br/\tr[j]?=Ac s/\k∈keys s.wr)/\∀k sr,Cl tr R0 p k l.length=Ac sr->Dy C η H' Y k sr
theorem OP{k:Nat} :∀ {i:Nat},Cl tr R0 (λ_=>Br) k i=C7->∀j s,j<i->tr[j]?=Ac s->k∉keys s.wr
 |0,_,j,s,a,_=>by omega
 |i+1,h,j,s,a,c=>by
  unfold Cl at h;simp only[if_true]at h;split at h;· grind
  ·by_cases e:j=i;· intro b;obtain⟨x,d⟩:=Dg b;grind
   ·exact OP h j s (by omega) c
theorem Sk{p:Nat->Bool}{t:Nat} :∀i,B_ l tr S0 p t i=S0 t\/(∃j s,j<i/\p j=Br/\tr[j]?=Ac s/\B_ l tr S0 p t i=s.sv)\/B_ l tr S0 p t i= .no
 |0=> .inl rfl
 |i+1=>by
  unfold B_;split;· grind
  ·rcases Sk i with h|⟨j,s,a,b⟩|h;· exact .inl h
   all_goals grind
theorem MZ{p:Nat->Bool}{k:Nat}{x:SR N.T} :∀i,Cl tr R0 p k i=Ac x->R0 k=Ac x\/∃j s,j<i/\p j=Br/\tr[j]?=Ac s/\Ax s.wr k=Ac x
 |0,h=> .inl h
 |i+1,h=>by
  unfold Cl at h;split at h;· cases c:(tr[i]?).bind λs=>Ax s.wr k with
   |none=>
    rw[c]at h;rcases MZ i h with h|⟨j,s,a,b⟩;all_goals grind
   |some y=>
    grind
  ·rcases MZ i h with h|⟨j,s,a,b⟩;all_goals grind
theorem SI{bs:List (Nat×BU)}(hiv:N.inv H)
  (hOK:Ze l tr nk=Br) (hC:∀k∈CP C,k<nk) (hS:∀t,∀k∈(S0 t).AJ,k<nk) (hR:∀k x,R0 k=Ac x->k<nk/\∀j∈x.AJ,j<nk) (hbs:∀q∈bs,q.1<nk)
  (hl:∀i o s,l[i]?=Ac o->tr[i]?=Ac s->cz P C l.toArray n nk o s (λt=>B_ l tr S0 (λ_=>Br) t i) (λk=>Cl tr R0 (λ_=>Br) k i)):∀p a w i o,l[i]?=Ac o->p i=Ap->HG l p->(∀j,(Up l i).testBit j=Br->p j=Br)->(∀j u,l[j]?=Ac u->p j=Br->∀m,(Up l j).testBit m=Br->p m=Br)->JV C n Of bs nk l tr S0 R0 H p a w->
   if Region.wanted o (yielded l.toArray a.tmps)then o.wp P a w (JV C n Of bs nk l tr S0 R0 H (I0 p i)) Q else JV C n Of bs nk l tr S0 R0 H (I0 p i) (a.put o.dst undef) w:=by
 obtain⟨hb,hlen,R⟩:=Kd hOK;have hTr:∀i o,l[i]?=Ac o->∃s,tr[i]?=Ac s:=λi o ho=>by
  have:i<tr.length:=by rw[hlen];exact(No.1 ho).1
  exact⟨tr[i],BY this⟩
 have hLt:∀j s,tr[j]?=Ac s->∃o,l[j]?=Ac o:=λj s hs=>by
  have:j<l.length:=by rw[<-hlen];exact(No.1 hs).1
  exact⟨l[j],BY this⟩
 intro p a w i o O S hcl hanc hancs ⟨η,H',Y,h1,h2,h3,h4,h5,h6,h7,h8,h9⟩;obtain⟨s,D⟩:=hTr i o O;have J:=hl i o s O D;have hlt:i<l.length:=(No.1 O).1;have A:∀j u f,l[j]?=Ac u->tr[j]?=Ac f->i<j->Ln l.toArray o u s f=Br->p j=Ap:=λj u f z c hij hc=>by
  cases hp:p j with
  |false=>rfl
  |true=>
   rcases R i j o u s f O z D c with e|e|e;· rw[hancs j u z hp i e]at S;omega
   ·omega
   grind
 have G:∀j u f,l[j]?=Ac u->tr[j]?=Ac f->j<i->Ln l.toArray u o f s=Br->p j=Br:=λj u f z c hij hc=>by
  rcases R j i u o f s z O c D with e|e|e;· exact hanc j e
  ·omega
  grind
 have M:∀(j t:Nat),(l[j]?).bind (λx:J5=>x.dst)=Ac t->∃u f,l[j]?=Ac u/\tr[j]?=Ac f/\u.dst=Ac t:=λj t h=>by
  cases z:l[j]? with
  |none=>rw[z]at h;cases h
  |some u=>rw[z]at h;obtain⟨f,c⟩:=hTr j u z;exact⟨u,f,rfl,c,h⟩
 have U:∀t,t∈o.looksAt l.toArray->B_ l tr S0 p t l.length=B_ l tr S0 (λ_=>Br) t i:=λt V=>by
  rw[Hx (i:=i) l.length (by omega) (λj hij hjk hd=>by
   by_cases B:j=i;· subst B;omega
   ·obtain⟨u,f,z,c,hdj⟩:=M j t hd;refine A j u f z c (by omega) ?_;unfold Ln;simp only[meets,hdj,Ey V,Bool.or_true,Bool.true_or])];exact Gy i λj z hd=>by
   obtain⟨u,f,Z,c,hdj⟩:=M j t hd;refine G j u f Z c z ?_;unfold Ln;simp only[meets,hdj,Ey V,Bool.true_or]
 have resC:∀k,(k∈s.rd\/k∈keys s.wr)->Cl tr R0 p k l.length=Cl tr R0 (λ_=>Br) k i:=λk g=>by
  rw[Hw (i:=i) l.length (by omega) (λj hij hjk f c I=>by
   by_cases B:j=i;· subst B;omega
   ·obtain⟨u,z⟩:=hLt j f c;refine A j u f z c (by omega) ?_;unfold Ln;rcases g with g|g;· have:GF s.rd (keys f.wr)=Br:=Acd.2 ⟨k,g,AP.2 I⟩;rw[this];simp
    ·have:GF (keys s.wr) (f.rd++keys f.wr)=Br:=Acd.2 ⟨k,g,AP.2 (AT.2 (.inr I))⟩;rw[this];simp)];exact EG i λj z f c I=>by
   obtain⟨u,Z⟩:=hLt j f c;refine G j u f Z c z ?_;unfold Ln;have:GF (keys f.wr) (s.rd++keys s.wr)=Br:=Acd.2 ⟨k,I,AP.2 (AT.2 g)⟩;rw[this];simp
 have T:∀j,j≠i->I0 p i j=p j:=λj z=>by simp[I0,z]
 have hupi:I0 p i i=Br:=by simp[I0]
 have lookT:∀t, .tmp t∈o.op.operands->t∈o.looksAt l.toArray:=λt V=>by refine AT.2 (.inl (Aeu.2 ⟨.tmp t,by simpa using V,rf⟩))
 have lookG:∀j b t,o.guard=Ac (j,b)->BG l.toArray j=Ac t->t∈o.looksAt l.toArray:=λj b t hg V=>by unfold BG at V;refine AT.2 (.inr ?_);rw[hg];simp only[V];simp
 have slotN:∀(v:BU) (t:Nat),(B_ l tr S0 (I0 p i) t l.length=s.sv/\o.dst=Ac t)\/(B_ l tr S0 (I0 p i) t l.length=B_ l tr S0 p t l.length/\o.dst≠Ac t):=λv t=>by
  by_cases hdt:o.dst=Ac t;· refine .inl ⟨?_,hdt⟩;rw[Hx (i:=i+1) l.length (by omega) (λj hij hjk hd=>by obtain⟨u,f,Z,c,hdj⟩:=M j t hd;rw[T j (by omega)];refine A j u f Z c (by omega) ?_;unfold Ln;simp only[meets,hdt,Kh hdj,Bool.true_or])];unfold B_;rw[if_pos ⟨hupi,by simp[O,hdt]⟩,D];rfl
  ·refine .inr ⟨?_,hdt⟩;exact Gy l.length λj z hd=>by exact T j λe=>by grind
 have K:∀ {v:BU} {E:Nat->BU} {X:Hp},(∀t,(B_ l tr S0 p t l.length).is C E X (a.tmps.getD t undef))->s.sv.is C E X v->∀t,(B_ l tr S0 (I0 p i) t l.length).is C E X ((a.put o.dst v).tmps.getD t undef):=λ{v E X} hold hnew t=>by
  rcases slotN v t with⟨F,L⟩|⟨F,L⟩;· rw[F,L,HO (by rw[h3];exact J.dst t L)];simpa using hnew
  ·rw[F];cases hd:o.dst with
   |none=>exact hold t
   |some d=>
    rw[HO (by rw[h3];exact J.dst d hd)];have:Nat.beq d t=Ap:=by
     cases hb:Nat.beq d t with
     |false=>rfl
     |true=>exact absurd (by rw[hd,AI hb]) L
    rw[this];exact hold t
 have hdz:∀v,(a.put o.dst v).defers=Of.ds/\(a.put o.dst v).tmps.size=n:=λv=>by cases o.dst<;>simp[Act.put,h2,h3]
 cases s with
 |skip=>
  obtain⟨j,b,t,hg,V,hv⟩:=J.skip rfl;have hval:=hv η H' _ (by have:=h4 t;rw[U t (lookG j b t hg V)]at this;exact this);have hw':Region.wanted o (yielded l.toArray a.tmps)=Ap:=by
   rcases hval with e|e;· simp[Region.wanted,hg,It V e]
   ·simp[Region.wanted,hg,Gd V e]
  rw[if_neg (by rw[hw'];simp)];refine⟨η,H',Y,h1,(hdz _).1,(hdz _).2,K h4 rfl,h5,h6,h7,λk g=>?_,λk sr g=>?_⟩
  ·rcases h8 k g with e|⟨j',s',F,L⟩;· exact .inl e
   ·refine .inr ⟨j',s',?_,L⟩;rw[T j' λe=>by subst e;rw[S]at F;cases F];exact F
  ·refine h9 k sr ?_;rw[<-g];exact EG l.length λj' Z s' hs' hk'=>by refine(T j' λe=>?_).symm;subst e;rw[D]at hs';cases hs';cases hk'
 |run st=>
  obtain⟨hgr,Sr,hSr,hLoc⟩:=J.run st rfl;have hw':Region.wanted o (yielded l.toArray a.tmps)=Br:=by
   cases hg:o.guard with
   |none=>simp[Region.wanted,hg]
   |some jb=>
    obtain⟨j,b⟩:=jb;obtain⟨t,V,hv⟩:=hgr j b hg;have hval:=hv η H' _ (by have:=h4 t;rw[U t (lookG j b t hg V)]at this;exact this);simp[Region.wanted,hg,Gd V hval]
  rw[if_pos hw'];have hnk:∀k∈keys st.wr,Cl tr R0 (λ_=>Br) k i=C7->nk<=k:=λk h1 h2=>(J.new k h1 h2).1;have fresh:∀k∈keys st.wr,Cl tr R0 (λ_=>Br) k i=C7->∀j f,tr[j]?=Ac f->p j=Br->k∉f.AJ:=λk g r j f c hpj=>by
   obtain⟨u,z⟩:=hLt j f c;rcases R i j o u _ f O z D c with e|e|e;· rw[hancs j u z hpj i e]at S;cases S
   ·subst e;rw[S]at hpj;cases hpj
   ·exact e.2 k g (hnk k g r) λq' s' hlt hs'=>OP r q' s' hlt hs'
  refine hLoc η H' Of.O a w Y h6 h7 (N.Cz h1 hiv) (λx hx=>aQ λt e=>?_) (λk g sr hsr=>?_) (λk g r hY=>?_) _ Q λv w' X E Y' hle hη hY hwr hn' hY' hsh' hsv=>?_;· subst e;exact hSr t hx η H' _ (by have:=h4 t;rw[U t (lookT t hx)]at this;exact this)
  ·exact h9 k sr (by rw[resC k g];exact hsr)
  ·have h11:=
         hnk k g r;rcases h8 k hY with e|⟨j,f,F,L,e3⟩;· omega
   ·obtain⟨
        u,z⟩:=hLt j f L;rcases Adb j i with B|B|B
    ·have:Cl tr R0 (λ_=>Br) k i≠C7:=by
      have key:∀m,j<m->Cl tr R0 (λ_=>Br) k m≠C7:=by
       intro m;induction m with
       |zero=>omega
       |succ m ih=>
        intro hjm;unfold Cl;by_cases e:j=m;· subst e;obtain⟨y0,hy0⟩:=Dg e3;rw[L];cases hl:Ax f.wr k with
         |none=>rw[hy0]at hl;cases hl
         |some y=>simp[hl]
        ·have:=ih (by omega);cases hl:(tr[m]?).bind λs=>Ax s.wr k with
         |none=>simpa using this
         |some y=>simp
      exact key i B
     exact this r
    ·subst B;rw[S]at F;cases F
    ·have:=A j u f z L B (by unfold Ln;have:GF (keys (TS.run st).wr) (f.rd++keys f.wr)=Br:=Acd.2 ⟨k,g,AP.2 (AT.2 (.inr e3))⟩;rw[this];simp);rw[this]at F;cases F
  ·
   have W:∀k,k<nk->E k=η k:=λk g=>hη k λr hm=>by have:=hnk k hm r;omega
   have mC:∀k∈CP C,E k=η k:=λk g=>W k (hC k g);have mJ:∀j f,tr[j]?=Ac f->p j=Br->∀k∈f.AJ,E k=η k:=λj f c hpj k g=>hη k λr hm=>fresh k hm r j f c hpj g;refine⟨E,X,Y',h1.trans hle,(hdz _).1,(hdz _).2,K (λt=>?_) hsv,λq hq=>?_,hn',hsh',λk g=>?_,λk sr g=>?_⟩
   ·refine((h4 t).env mC λk g=>?_).mono hle;rcases Sk (l:=l) (tr:=tr) (S0:=S0) (p:=p) (t:=t) l.length with e|⟨j,f,F,L,e3,e4⟩|e;· rw[e]at g;exact W k (hS t k g)
    ·rw[e4]at g;exact mJ j f e3 L k (AT.2 (.inl g))
    ·rw[e]at g;cases g
   ·rw[W q.1 (hbs q hq)];exact h5 q hq
   ·rcases hY' k g with e|e
    ·rcases h8 k e with e|⟨j',s',F,L⟩;· exact .inl e
     ·refine .inr ⟨j',s',?_,L⟩;rw[T j' λe=>by subst e;rw[S]at F;cases F];exact F
    ·exact .inr ⟨i,_,hupi,D,e⟩
   ·by_cases hkw:k∈keys st.wr;· rw[Hw (i:=i+1) l.length (by omega) (λj hij hjk f c I=>by
      obtain⟨u,z⟩:=hLt j f c;rw[T j (by omega)];refine A j u f z c (by omega) ?_;unfold Ln;have:GF (keys (TS.run st).wr) (f.rd++keys f.wr)=Br:=Acd.2 ⟨k,hkw,AP.2 (AT.2 (.inr I))⟩;rw[this];simp)]at g;unfold Cl at g;rw[if_pos hupi,D]at g;simp only[Option.bind_some]at g;cases hl:Ax (TS.run st).wr k with
     |some y=>
      rw[hl]at g;cases g;exact hwr k _ hl
     |none=>
      exfalso;obtain⟨y0,hy0⟩:=Dg hkw;exact absurd (hy0.symm.trans hl) (by simp)
    ·have e:Cl tr R0 (I0 p i) k l.length=Cl tr R0 p k l.length:=EG l.length λj z f c I=>T j λe=>by subst e;rw[D]at c;cases c;exact hkw I
     rw[e]at g;rcases h9 k sr g with e|⟨x,g1,g2⟩;· exact .inl e
     ·refine .inr ⟨x,by rw[hY k hkw];exact g1,(SR.is.env (hη k λ_ hm=>absurd hm hkw) mC (λm hm=>?_) g2).mono hle⟩;rcases MZ l.length g with e|⟨j,f,F,L,e3,e4⟩;· exact W m ((hR k sr e).2 m hm)
      ·exact mJ j f e3 L m (AT.2 (.inr (Aac.2 ⟨(k,sr),A2 e4,hm⟩)))
theorem JV.all{bs:List (Nat×BU)}(b:∀i,i<l.length->p i=Br)(h:JV C n Of bs nk l tr S0 R0 H p a w):JV C n Of bs nk l tr S0 R0 H (λ_=>Br) a w:=by
 obtain⟨η,c,Y,d,e,f,q,g,j,m,r,s⟩:=h;refine⟨η,c,Y,d,e,f,λt=>?_,g,j,m,λk o=>?_,λk u o=>?_⟩;· grind[Gy]
 ·grind
 grind[EG]
theorem rH{bs:List (Nat×BU)}{id:Nat}(g:N.inv H)
  (D:P.follows .mixedOrders=Br) (b:Ze l tr nk=Br) (u:∀k∈CP C,k<nk) (z:∀t,∀k∈(S0 t).AJ,k<nk) (y:∀k x,R0 k=Ac x->k<nk/\∀j∈x.AJ,j<nk) (f:∀q∈bs,q.1<nk)
  (B:∀i o s,l[i]?=Ac o->tr[i]?=Ac s->cz P C l.toArray n nk o s (λt=>B_ l tr S0 (λ_=>Br) t i) (λk=>Cl tr R0 (λ_=>Br) k i))
  (e:∀a w,JV C n Of bs nk l tr S0 R0 H (λ_=>Br) a w->Q .normal a w)   (h0:JV C n Of bs nk l tr S0 R0 H (λ_=>Ap) a {w with drawn:=w.drawn+1}):(Code.region id l.toArray Br).wp P Q a w:=by
 obtain⟨A,m,h⟩:=Kd b;exact LS D A (J:=λp a w=>JV C n Of bs nk l tr S0 R0 H p a w) (SI g b u z y f B) (λp a w c v=>e a w (v.all c)) h0
end
end
section
variable {N : C6} {R : Type}
def brD(s:SV N.T)(c a:Option R):Option R:=match s with
 | .lb Br=>c
 | .lb Ap=>a
 | .lt _ n m=>bif decide ((n:Int)<(m:Int))then c else a
 | .d .bool b=>bif b then c else a
 |_=>C7
def UY(P:Ge)(Φ:Nat->Option (CQ N))(C:List (SV N.T))(CR:List (SR N.T))(n:Nat)(o:J5)(st:St N.T)(tr:List (TS N.T))(kn:St N.T->List (TS N.T)->Option R):Option R:=
 eZ P Φ C 4 (Ck C st.L) (Al CR st.O) st.nk o.op o.type λs a=>match G3 CR n st o.dst s a&&vJ CR st s with
  |true=>kn (app st o.dst s a) (tr++[.run s])
  |false=>C7
def Q7(n:Nat)(d:Option Nat)(st:St N.T)(tr:List (TS N.T))(kn:St N.T->List (TS N.T)->Option R):Option R:=match NM n d with
 |true=>kn ⟨Re d .ud st.L,st.O,st.nk⟩ (tr++[.skip])
 |false=>C7
def dd(
    P:Ge) (Φ:Nat->Option (CQ N)) (C:List (SV N.T)) (CR:List (SR N.T)) (n:Nat) (b:Array J5):List J5->St N.T->List (TS N.T)->(St N.T->List (TS N.T)->Option R)->Option R
 | [],st,a,c=>c st a
 |o::e,st,a,c=>match o.guard with
  |none=>UY P Φ C CR n o st a λst a=>dd P Φ C CR n b e st a c
  |some (
      j,d)=>match BG b j with
   |none=>C7
   |some t=>match Ck C st.L t with
    | .ud=>Q7 n o.dst st a λst a=>dd P Φ C CR n b e st a c
    |s=>brD s
     (let st:=Ke t (.lb Br) st
      match d with
      |true=>UY P Φ C CR n o st a λst a=>dd P Φ C CR n b e st a c
      |false=>Q7 n o.dst st a λst a=>dd P Φ C CR n b e st a c)
     (let st:=Ke t (.lb Ap) st
      match d with
      |false=>UY P Φ C CR n o st a λst a=>dd P Φ C CR n b e st a c
      |true=>Q7 n o.dst st a λst a=>dd P Φ C CR n b e st a c)
def vY(P:Ge)(Φ:Nat->Option (CQ N))(C:List (SV N.T))(CR:List (SR N.T))(n:Nat)(a:Array J5)(st:St N.T)(kn:St N.T->Option R):Option R:=match CV CR st st.nk with
 |true=>dd P Φ C CR n a a.toList st [] λb c=>match Ze a.toList c st.nk with
  |true=>kn b
  |false=>C7
 |false=>C7
def s0(st:St N.T)(t:Nat):SV N.T:=match Ax st.L t with
 |some s=>s
 |none=> .no
def zk(C:List (SV N.T))(s t:SV N.T):Prop:= ∀(η:Nat->BU) (H:Hp) v,s.is C η H v->t.is C η H v
theorem JG{l:List J5}{tr a:List (TS N.T)}{S0:Nat->SV N.T}{p:Nat->Bool}{t:Nat} :∀i,(∀j,j<i->tr[j]?=a[j]?)->B_ l tr S0 p t i=B_ l a S0 p t i
 |0,_=>rfl
 |i+1,h=>by unfold B_;rw[h i (by omega),JG i λj b=>h j (by omega)]
theorem JF{tr a:List (TS N.T)}{R0:Nat->Option (SR N.T)}{p:Nat->Bool}{k:Nat} :∀i,(∀j,j<i->tr[j]?=a[j]?)->Cl tr R0 p k i=Cl a R0 p k i
 |0,_=>rfl
 |i+1,h=>by unfold Cl;rw[h i (by omega),JF i λj b=>h j (by omega)]
variable {P : Ge} [CC N P] {Φ : Nat -> Option (CQ N)} {C : List (SV N.T)} {CR : List (SR N.T)} {n : Nat} {bs : List (Nat × BU)}
structure IV(P:Ge)(C:List (SV N.T))(CR:List (SR N.T))(n:Nat)(bs:List (Nat×BU))(l:List J5)(st0:St N.T)(st:St N.T)(tr:List (TS N.T))(i:Nat):Prop where
 len:tr.length=i
 sl:∀t sv,Ax st.L t=Ac sv->zk C (B_ l tr (s0 st0) (λ_=>Br) t i) sv
 ow:∀k,Al CR st.O k=Cl tr (Al CR st0.O) (λ_=>Br) k i
 wf:WF C CR bs st
 le:st0.nk<=st.nk
 ks:∀(j:Nat) s,tr[j]?=Ac s->∀k∈keys s.wr,k<st.nk
 loc:∀j o s,j<i->l[j]?=Ac o->tr[j]?=Ac s->cz P C l.toArray n st0.nk o s (λt=>B_ l tr (s0 st0) (λ_=>Br) t j) (λk=>Cl tr (Al CR st0.O) (λ_=>Br) k j)
variable {l : List J5} {st0 : St N.T}
section
variable{tr:List (TS N.T)}{i:Nat}{st:St N.T}{r:R}{o:J5}{kn:St N.T->List (TS N.T)->Option R}{x:TS N.T}
theorem IV.lk(h:IV P C CR n bs l st0 st tr i)(t:Nat):zk C (B_ l tr (s0 st0) (λ_=>Br) t i) (Ck C st.L t):=by
 intro η H v b;unfold Ck;split;· rename_i s a;exact Eu (h.sl t s a η H v b)
 trivial
theorem eV(h:tr.length=i):∀j,j<i->(tr++[x])[j]?=tr[j]?:=λj a=>Aaa (by omega)
theorem IV.put{a:St N.T}(h:IV P C CR n bs l st0 st tr i)(G:l[i]?=Ac o)(D:∀t sv,Ax a.L t=Ac sv->(o.dst=Ac t/\sv=x.sv)\/(o.dst≠Ac t/\∃c,Ax st.L t=Ac c/\zk C c sv))
  (B:∀k,Al CR a.O k=match Ax x.wr k with|some y=>Ac y|none=>Al CR st.O k) (E:WF C CR bs a) (r:st.nk<=a.nk) (A:∀k∈keys x.wr,k<a.nk)
  (u:cz P C l.toArray n st0.nk o x (λt=>B_ l tr (s0 st0) (λ_=>Br) t i) (λk=>Cl tr (Al CR st0.O) (λ_=>Br) k i)):IV P C CR n bs l st0 a (tr++[x]) (i+1):=by
 have d:=eV (x:=x) h.len;have z:(tr++[x])[i]?=Ac x:=by simp[h.len]
 refine⟨by simp[h.len],λt sv K η H v p=>?_,λk=>?_,E,Aar h.le r,λj s b k F=>?_,λj L s O m b=>?_⟩
 ·unfold B_ at p;rw[G,z,JG i d]at p;rcases D t sv K with⟨f,g⟩|⟨f,c,g,I⟩;· grind
  ·rw[if_neg (λJ=>f (by grind))]at p;exact I η H v (h.sl t c g η H v p)
 ·unfold Cl;rw[z,JF i d,B k];rw[h.ow k];rfl
 ·by_cases e:j<i;· rw[d j e]at b;exact Abs (h.ks j s b k F) r
  ·have:j=i:=by have:=(No.1 b).1;simp[h.len]at this;omega
   simp_all
 ·by_cases e:j<i;· rw[d j e]at b;have:=h.loc j L s e m b;have f:(λt=>B_ l (tr++[x]) (s0 st0) (λ_=>Br) t j)=λt=>B_ l tr (s0 st0) (λ_=>Br) t j:=funext λt=>JG j λq w=>d q (by omega);have g:(λk=>Cl (tr++[x]) (Al CR st0.O) (λ_=>Br) k j)=λk=>Cl tr (Al CR st0.O) (λ_=>Br) k j:=funext λk=>JF j λq w=>d q (by omega);rw[f,g];exact this
  ·obtain rfl:j=i:=by omega
   rw[z]at b;cases b;rw[G]at m;cases m;have f:(λt=>B_ l (tr++[x]) (s0 st0) (λ_=>Br) t j)=λt=>B_ l tr (s0 st0) (λ_=>Br) t j:=funext λt=>JG j λq w=>d q w;have g:(λk=>Cl (tr++[x]) (Al CR st0.O) (λ_=>Br) k j)=λk=>Cl tr (Al CR st0.O) (λ_=>Br) k j:=funext λk=>JF j λq w=>d q w;rw[f,g];exact u
theorem L8(S:∀f q,Φ f=Ac q->Bm P f q)(h:IV P C CR n bs l st0 st tr i)(ho:l[i]?=Ac o)(J:Nr C l.toArray o (λt=>B_ l tr (s0 st0) (λ_=>Br) t i))
  (I:UY P Φ C CR n o st tr kn=Ac r):∃y A,kn y A=Ac r/\IV P C CR n bs l st0 y A (i+1):=by
 have X:∀j,st.nk<=j->Al CR st.O j=C7:=λj Y=>by unfold Al;rw[h.wf.ok j Y]
 obtain⟨s,nk,E,T,F,G,W⟩:=TK (o:=o) S h.wf.mC 4 X h.wf.wf I;split at E
 ·rename_i m;rw[AS]at m;obtain⟨m,K⟩:=m;have hs:KK C CR n st o.dst s nk P o:=⟨m,T,F,G,W⟩;have b:=m;unfold G3 at b;simp only[AS]at b;have Q:∀p∈s.wr,C2 CR p.2=p.2:=λp hp=>I' (AS _ _▸OF.1 b.2.1 p hp).1;refine⟨_,_,E,h.put ho (λt sv a=>?_) (λk=>G5 _ _ Q k) (h.wf.step hs) F (λk L=>?_) ⟨λd I=>?_,λk L Z=>?_,λst1 e=>?_,λe=>(by grind)⟩⟩
  ·have g:Ax (hQ (keys s.wr) st.L) t=Ac sv->∃z,Ax st.L t=Ac z/\zk C z sv:=λa=>by
    rw[Qf]at a;obtain⟨x,hx,rfl⟩:=Pe.1 a;exact⟨x,hx,λη H v hv=>Qg hv⟩
   cases u:o.dst with
   |none=>
    rw[u]at a;exact .inr ⟨by simp,g a⟩
   |some d=>
    rw[u]at a;have a:Ax ((d,s.sv)::hQ (keys s.wr) st.L) t=Ac sv:=a;simp only[Ax]at a;cases c:Nat.beq d t with
    |true=>
     rw[c]at a;cases a;exact .inl ⟨by simp_all,rfl⟩
    |false=>
     rw[c]at a;refine .inr ⟨λe=>?_,g a⟩;simp_all
  ·cases B:Al CR st.O k with
   |none=>exact(G k L B).2
   |some x=>
    have O:Ax st.O k≠C7:=λe=>by simp_all[Al]
    have:k<st.nk:=Abz λM=>O (h.wf.ok k M);exact Abs this F
  ·have:=b.1.1;rw[I]at this;simpa [NM]using this
  ·have w:Al CR st.O k=C7:=by rw[h.ow k];exact Z
   refine⟨Aar h.le (G k L w).1,λJ=>?_⟩;have U:(Al CR st.O k).isSome=Br:=OF.1 K _ (A2 J);rw[w]at U;cases U
  ·cases e;refine⟨J,Ck C st.L,λt _=>h.lk t,?_⟩;have V:(λk=>Cl tr (Al CR st0.O) (λ_=>Br) k i)=Al CR st.O:=funext λk=>(h.ow k).symm;rw[V];exact T
 grind
theorem L_(h:IV P C CR n bs l st0 st tr i)(w:l[i]?=Ac o)(v:KL C l.toArray o (λt=>B_ l tr (s0 st0) (λ_=>Br) t i))
  (f:Q7 n o.dst st tr kn=Ac r):∃g j,kn g j=Ac r/\IV P C CR n bs l st0 g j (i+1):=by
 unfold Q7 at f;split at f
 ·refine⟨_,_,f,h.put w (λt sv a=>?_) (λk=>rfl) (h.wf.Gm λτ u q=>?_) (Aad _) (λk s=>(by cases s)) ⟨λd f=>?_,λk s=>(by cases s),λ_ e=>(by grind),λ_=>v⟩⟩;· cases c:o.dst with
   |none=>
    rw[c]at a;exact .inr ⟨by simp,sv,a,λ_ _ _ h=>h⟩
   |some d=>
    rw[c]at a;have a:Ax ((d,SV.ud)::st.L) t=Ac sv:=a;simp only[Ax]at a;cases b:Nat.beq d t with
    |true=>
     rw[b]at a;cases a;exact .inl ⟨by simp_all,rfl⟩
    |false=>
     rw[b]at a;refine .inr ⟨λe=>?_,sv,a,λ_ _ _ h=>h⟩;simp_all
  ·have m:=u q;cases c:o.dst with
   |none=>exact m
   |some d=>
    unfold Ck at m⊢;simp only[Re,Ax];cases p:Nat.beq d q with
    |true=>trivial
    |false=>omega
  simp_all[NM]
 grind
theorem IV.Ke{t:Nat}{b:Bool}(h:IV P C CR n bs l st0 st tr i)(f:∀(η:Nat->BU) (H:Hp) v,(B_ l tr (s0 st0) (λ_=>Br) t i).is C η H v->v= .bool b):IV P C CR n bs l st0 (Ke t (.lb b) st) tr i:=by
 refine⟨h.len,λq sv c η H v g=>?_,h.ow,h.wf.Gm λτ d q=>?_,h.le,h.ks,h.loc⟩;· have c:Ax ((t,SV.lb b)::st.L) q=Ac sv:=c;simp only[Ax]at c;cases a:Nat.beq t q with
  |true=>
   rw[a]at c;cases c;have:=AI a;subst this;exact f η H v g
  |false=>rw[a]at c;exact h.sl q sv c η H v g
 ·have e:=d q;unfold Ck at e⊢;simp only[Ax];cases f:Nat.beq t q with
  |true=>trivial
  |false=>omega
theorem bL{s:SV N.T}{e d:Option R}(h:brD s e d=Ac r):∃b,(∀(C:List (SV N.T)) (η:Nat->BU) (H:Hp) v,s.is C η H v->v= .bool b)/\(if b=Br then e=Ac r else d=Ac r):=by
 unfold brD at h;split at h;· exact⟨Br,λ_ _ _ _ a=>a,h⟩
 ·exact⟨Ap,λ_ _ _ _ a=>a,h⟩
 ·rename_i i n m;cases c:decide ((n:Int)<(m:Int))with
  |true=>rw[c]at h;exact⟨Br,λ_ _ _ _ a=>by rw[a.1,c],h⟩
  |false=>rw[c]at h;exact⟨Ap,λ_ _ _ _ a=>by rw[a.1,c],h⟩
 ·rename_i b;cases b with
  |true=>exact⟨Br,λ_ _ _ _ a=>Qj a,h⟩
  |false=>exact⟨Ap,λ_ _ _ _ a=>Qj a,h⟩
 grind
theorem K4(g:∀f q,Φ f=Ac q->Bm P f q){kn:St N.T->List (TS N.T)->Option R}{r:R} :∀(os:List J5) (st:St N.T) (tr:List (TS N.T)) (i:Nat),l.drop i=os->i<=l.length->IV P C CR n bs l st0 st tr i->dd P Φ C CR n l.toArray os st tr kn=Ac r->∃a c,kn a c=Ac r/\IV P C CR n bs l st0 a c l.length
 | [],st,tr,i,E,J,h,k=>by
  have:i=l.length:=by have:=congrArg List.length E;grind
  subst this;exact⟨st,tr,k,h⟩
 |o::os,st,tr,i,E,J,h,k=>by
  have y:l[i]?=Ac o:=by have:=congrArg (·[0]?) E;grind
  have p:i<l.length:=(No.1 y).1;have m:l.drop (i+1)=os:=by rw[<-Adi,E];rfl
  unfold dd at k;split at k;· obtain⟨a,c,s,u⟩:=L8 g h y (λj w e=>by grind) k;exact K4 g os a c (i+1) m p u s
  ·rename_i j d A;split at k;· grind
   ·rename_i t F;split at k;· rename_i K;obtain⟨a,c,s,u⟩:=L_ h y ⟨j,d,t,A,F,λη H v z=> .inl (by have:=h.lk t η H v z;rw[K]at this;trivial)⟩ k;exact K4 g os a c (i+1) m p u s
    ·obtain⟨b,I,k⟩:=bL k;have x:∀(η:Nat->BU) (H:Hp) v,(B_ l tr (s0 st0) (λ_=>Br) t i).is C η H v->v= .bool b:=λη H v z=>I C η H v (h.lk t η H v z);have D:=h.Ke x;have run:d=b->Nr C l.toArray o (λt=>B_ l tr (s0 st0) (λ_=>Br) t i):=λe L M G=>by
      grind
     have B:d=(!b)->KL C l.toArray o (λt=>B_ l tr (s0 st0) (λ_=>Br) t i):=λe=>⟨j,d,t,A,F,λη H v z=> .inr (by grind)⟩;cases b with
     |true=>
      cases d with
      |true=>
       obtain⟨a,c,s,u⟩:=L8 g D y (run rfl) k;exact K4 g os a c (i+1) m p u s
      |false=>
       obtain⟨a,c,s,u⟩:=L_ D y (B rfl) k;exact K4 g os a c (i+1) m p u s
     |false=>
      cases d with
      |false=>
       obtain⟨a,c,s,u⟩:=L8 g D y (run rfl) k;exact K4 g os a c (i+1) m p u s
      |true=>
       obtain⟨a,c,s,u⟩:=L_ D y (B rfl) k;exact K4 g os a c (i+1) m p u s
theorem qK(M:∀f q,Φ f=Ac q->Bm P f q)(hm:P.follows .mixedOrders=Br){Of:Fm}{Q:Exit->Act->GD->Prop}{id:Nat}{g:Array J5}{kn:St N.T->Option R}{r:R}{st:St N.T}{η:Nat->BU}{H:Hp}{a:Act}{w:GD}(h:Sat C CR n Of bs st η H a w)(E:WF C CR bs st)
  (D:vY P Φ C CR n g st kn=Ac r) (hK:∀d η' u a' w',H.le u->Sat C CR n Of bs d η' u a' w'->WF C CR bs d->kn d=Ac r->Q .normal a' w'):(Code.region id g Br).wp P Q a w:=by
 obtain⟨l,rfl⟩:∃l:List J5,g=l.toArray:=⟨g.toList,by simp⟩;unfold vY at D;split at D
 ·rename_i y;have O:IV P C CR n bs l st st [] 0:=⟨rfl,λt sv L η H v A=>by
   have A:(s0 st t).is C η H v:=A;grind[s0],λk=>rfl,E,Aad _,λj s m=>by grind,λj o s hj=>by omega⟩;obtain⟨d,tr,S,p⟩:=K4 (l:=l) M l st [] 0 rfl (Abh _) O (by omega);split at S
  ·have c:=y;unfold CV at c;rw[AS]at c;refine rH h.inv (l:=l) (tr:=tr) (S0:=s0 st) (R0:=Al CR st.O) (bs:=bs) (Of:=Of) (n:=n) (H:=H) hm (by omega) E.mC (λt k b=>?_) (λk x b=>⟨?_,DK b y⟩) E.lo (λi o s U m=>p.loc i o s (No.1 U).1 U m) (λa' w' hJ=>?_) ?_
   ·unfold s0 at b;split at b;· rename_i s m;have:=OF.1 (OF.1 c.1 _ (A2 m)) k b;simp_all
    trivial
   ·have K:Ax st.O k≠C7:=λe=>by grind[Al]
    exact Abz λJ=>K (E.ok k J)
   ·obtain⟨η',u,Y,B,F,G,I,X,Z,g7,g8,g9⟩:=hJ;refine hK d η' u a' w' B ⟨N.Cz B h.inv,F,G,λt sv L=>p.sl t sv L η' u _ (I t),X,Y,Z,g7,λk b=>?_,λk T b=>g9 k T (by rw[<-p.ow k];omega)⟩ p.wf S;rcases g8 k b with e|⟨j,s,_,V,W⟩;· exact Abs e p.le
    ·exact p.ks j s V k W
   ·obtain⟨Y,B,F,G,I⟩:=h.own;refine⟨η,H,Y,Hp.le.refl H,h.defers,h.size,λt=>?_,h.base,B,F.drew,λk b=> .inl (G k b),λk T b=>I k T ?_⟩
    ·rw[Hx (i:=0) l.length (Abh _) (λ_ _ _ _=>rfl)];show(s0 st t).is C η H _;unfold s0;split;· rename_i s m;exact h.Bi t s m
     ·trivial
    ·rw[Hw (i:=0) l.length (Abh _) (λ_ _ _ _ _ _=>rfl)]at b;exact b
  grind
 grind
end
end
section
variable {N : C6}
def Jx(k:Nat)(t:Ty)(l:List (t.den N.T))(st:St N.T):St N.T:=⟨st.L.map λp=>(p.1,Gv k t l p.2),(k, .gone)::st.O.map λp=>(p.1,qn k t l p.2),st.nk⟩
variable {C : List (SV N.T)} {CR : List (SR N.T)} {n : Nat} {Of : Fm} {bs : List (Nat × BU)} {st : St N.T} {η : Nat -> BU} {H : Hp} {a : Act} {w : GD}
section
variable{t:Ty}{g e:Ee}{k:Nat}{l:List (t.den N.T)}{α:Type}{c:Cd α}{m b:Nat}
theorem aD{W:SR N.T}(h:Sat C CR n Of bs st η H a w)(g:WF C CR bs st)(I:Al CR st.O k=Ac W)
  (M:∀Y:List (Nat×Av),(keys Y).Nodup->SH w H (Y.map (·.2)++Of.O)->(W= .gone\/∃X,Ax Y k=Ac X/\W.is C η H k X)->∃d,H.le d/\SH w d ((GQ Y k).map (·.2)++Of.O)/\GI (N.c t) d l (η k)):∃d,H.le d/\Sat C CR n Of bs (Jx k t l st) η d a w/\WF C CR bs (Jx k t l st):=by
 obtain⟨Y,hn,T,R,f⟩:=h.own;obtain⟨d,o,G,D⟩:=M Y hn T (f k _ I);have z:Ax st.O k≠C7:=λe=>by grind[Al]
 have hkn:k<st.nk:=Abz λQ=>z (g.ok k Q);have rr:∀j m,Al CR (Jx k t l st).O j=Ac m->m= .gone\/(j≠k/\∃s0,Al CR st.O j=Ac s0/\(m=qn k t l s0\/m=s0)):=λj m b=>by
  unfold Al Jx at b;simp only[Ax]at b;cases v:Nat.beq k j with
  |true=>rw[v]at b;cases b;exact .inl rfl
  |false=>
   rw[v]at b;simp only[Ds (qn k t l)]at b;refine .inr ⟨λe=>by simp_all,?_⟩;unfold Al;cases hl:Ax st.O j with
   |none=>grind
   |some s=>
    rw[hl]at b;cases b;refine⟨_,rfl,?_⟩;cases s with
    |Ah u r=>exact .inl rfl
    |row u t' V=>exact .inl rfl
    |gone=>exact .inl rfl
    |map u kt vt V=>exact .inl rfl
    |Ep _ _ _ _ _=>exact .inl rfl
    |Cr q=>exact .inr rfl
 refine⟨d,o,⟨N.Cz o h.inv,h.defers,h.size,λq sv J=>?_,h.base,GQ Y k,JD hn,G,λj b=>R j (DO b),λj m b=>?_⟩,⟨g.lo,λj b=>?_,?_,g.mC,g.cP⟩⟩;· have J:Ax (st.L.map λp=>(p.1,Gv k t l p.2)) q=Ac sv:=J;rw[Ds (Gv k t l)]at J;obtain⟨s,hs,rfl⟩:=Pe.1 J;exact CJ D ((h.Bi q s hs).mono o)
 ·rcases rr j m b with e|⟨A,s0,L,F⟩;· exact .inl e
  ·rcases f j s0 L with e|⟨y,y1,Z⟩;· subst e;rcases F with e|e<;>exact .inl e
   ·refine .inr ⟨y,by grind[E9],?_⟩;rcases F with rfl|rfl;· cases s0 with
     |Ah u r=>
      obtain⟨B,cs,b1,b2,b3⟩:=Z.mono o;exact⟨B,cs,b1,b2,CJ D b3⟩
     |_=>exact Z.mono o
    ·exact Z.mono o
 ·show Ax ((k,SR.gone)::st.O.map λp=>(p.1,qn k t l p.2)) j=C7;have b:st.nk<=j:=b;rw[A6 (by omega),Ds (qn k t l),g.ok j b];rfl
 ·obtain⟨
      τ,U⟩:=g.wf;refine⟨τ,λq=>?_⟩;have c:=U q;show DF τ (Al CR (Jx k t l st).O) (Ck C (st.L.map λp=>(p.1,Gv k t l p.2)) q);unfold Ck at c⊢;rw[Ds (Gv k t l)];cases hx:Ax st.L q with
  |none=>trivial
  |some x=>
   rw[hx]at c;simp only[Adk]at c⊢;have DU:∀j i off E y,j≠k->DF τ (Al CR st.O) (.DU j i off E y)->DF τ (Al CR (Jx k t l st).O) (.DU j i off E y):=λj i off E y A S u t' V P=>by
    rcases rr j _ P with e|⟨_,s0,L,F⟩;· grind
    ·refine S u t' V ?_;rw[L];rcases F with e|e;· cases s0 with
      |row G t2 l2=>exact congrArg Ac e.symm
      |Ah G r=>cases e
      |Cr q=>cases e
      |gone=>cases e
      |map G kt vt l2=>cases e
      |Ep _ _ _ _ _=>cases e
     ·exact congrArg Ac e.symm
   cases x with
   |AG j=>unfold Gv;split<;>trivial
   |DU j i off E y=>
    unfold Gv;split;· trivial
    ·rename_i v;exact DU j i off E y (λe=>by subst e;simp at v) c
   |Cr j=>
    simp only[Gv,res]at c⊢;rw[IS]at c⊢;cases hc:C[j]? with
    |none=>trivial
    |some s0=>
     have S:=g.cP s0 (Aai hc);rw[hc]at c;cases s0<;>first|exact c|cases S
   |_=>exact c
theorem og{q:Nat}(h:Sat C CR n Of bs st η H a w)(l:WF C CR bs st)(L:CV CR st st.nk=Br)(S:Ck C st.L q= .raw (.slice C7 0 0)):
  ∃η',Sat C CR n Of bs ⟨(q, .AG st.nk)::st.L,(st.nk, .row g t [])::st.O,st.nk+1⟩ η' H a w/\WF C CR bs ⟨(q, .AG st.nk)::st.L,(st.nk, .row g t [])::st.O,st.nk+1⟩:=by
 obtain⟨Y,R,J,u,v⟩:=h.own;have f:=L;unfold CV at f;rw[AS]at f;have d:∀k,k<st.nk->El η st.nk (.slice C7 0 0) k=η k:=λk b=>Gw (by omega);have O:∀k∈CP C,El η st.nk (.slice C7 0 0) k=η k:=λk b=>d k (l.mC k b);have o:a.tmps.getD q undef= .slice C7 0 0:=by have:=h.lk q;rw[S]at this;trivial
 refine⟨El η st.nk (.slice C7 0 0),⟨h.inv,h.defers,h.size,λp sv c=>?_,λp c=>by rw[d p.1 (l.lo p c)];exact h.base p c,(st.nk, .row (.slice C7 0 0) g (t.sz N) 0 [])::Y,?_,J.G' g (t.sz N),λk b=>?_,λk P b=>?_⟩,⟨λp c=>Ael (l.lo p c),λj A=>?_,?_,λk b=>Ael (l.mC k b),l.cP⟩⟩;· simp only[Ax]at c;cases m:Nat.beq q p with
  |true=>
   rw[m]at c;cases c;have:=AI m;subst this;exact⟨by rw[o,AB],by rw[o];rfl⟩
  |false=>
   rw[m]at c;refine(h.Bi p sv c).env O λk b=>d k ?_;have:=OF.1 (OF.1 f.1 _ (A2 c)) k b;simp_all
 ·exact Abl.2 ⟨λI=>absurd (u _ I) (Nat.lt_irrefl _),R⟩
 ·grind[keys]
 ·unfold Al at b;simp only[Ax]at b;cases m:Nat.beq st.nk k with
  |true=>
   rw[m]at b;cases b;have:=AI m;subst this;exact .inr ⟨_,DV _ _ _,[],by grind[AB],rfl⟩
  |false=>
   rw[m]at b;rcases v k P b with e|⟨y,W,X⟩;· exact .inl e
   ·have G:Ax st.O k≠C7:=λe=>by grind
    have E:k<st.nk:=Abz λF=>G (l.ok k F);exact .inr ⟨y,by rw[A6 (by omega)];exact W,SR.is.env (d k E) O (λj A=>d j (DK b L j A)) X⟩
 ·have A:st.nk+1<=j:=A;rw[A6 (by omega)];exact l.ok j (by omega)
 ·obtain⟨
      τ,K⟩:=l.wf;refine⟨τ,λp=>?_⟩;have z:=K p;have key:∀s:SV N.T,(∀j i off D y,s= .DU j i off D y->j<st.nk)->DF τ (Al CR st.O) s->DF τ (Al CR ((st.nk,SR.row g t [])::st.O)) s:=λs T M=>by
   cases s with
   |DU j i off D y=>
    intro Q V U r;have:=T j i off D y rfl;unfold Al at r;rw[A6 (by omega)]at r;exact M Q V U r
   |_=>exact M
  unfold Ck at z⊢;simp only[Ax];cases m:Nat.beq q p with
  |true=>trivial
  |false=>
   cases B:Ax st.L p with
   |none=>trivial
   |some x=>
    simp only[B]at z⊢;refine key _ (λj i off D y e=>?_) z;have I:∀k∈x.AJ,k<st.nk:=λk b=>by have:=OF.1 (OF.1 f.1 _ (A2 B)) k b;simpa using this
    cases x with
    |Cr q=>
     simp only[res]at e;rw[IS]at e;cases hc:C[q]? with
     |none=>rw[hc]at e;cases e
     |some s0=>
      rw[hc]at e;have:=l.cP s0 (Aai hc);subst e;cases this
    |_=>cases e<;>exact I _ (by simp[SV.AJ])
theorem R3(h:Sat C CR n Of bs st η H a w)(v:WF C CR bs st)(r:Al CR st.O k=Ac (.row g t l)):∃c,H.le c/\Sat C CR n Of bs (Jx k t l st) η c a w/\WF C CR bs (Jx k t l st):=by
 refine aD h v r λY s b u=>?_;rcases u with e|⟨x,o,y,rfl,q⟩;· grind
 obtain⟨i,j,p⟩:=Xv Of.O s o;obtain⟨c,d,f,m⟩:=b.freeze j;rw[p]at f;exact⟨c,d,f,GI.of (by grind[Bk]) rfl (q.mono d) (b.Mk j)⟩
theorem Ajl{α:Type}{c:Cd α}{e:Ee}{A:List Av} :∀ {g:List (Bool×List α)} {xs:List BU} {rs:List (Option (Nat×List BU))} {H:Hp},Uz c H g xs rs->(∀p∈g,p.1=Br)->SH w H (A++R8 e c.sz xs rs)->∃o,H.le o/\SH w o A/\AZ (cL c) o (g.map (·.2)) xs
 | [],xs,rs,H,f,_,h=>by have E:=Abc f.len;have F:=Abc f.eN;subst E;exact⟨H,Hp.le.refl H,by grind[R8],rfl⟩
 |(b,d)::g,[],rs,H,f,_,h=>by have:=f.len;grind
 |(b,d)::g,_::_,[],H,f,_,h=>by have:=f.eN;grind
 |(b,d)::g,u::xs,r::rs,H,f,z,h=>by
  have J:b=Br:=z (b,d) (by simp);subst J;obtain⟨l,s,I⟩:=f.own 0 d rfl;have s:r=Ac (d.length,l):=by grind
  subst s;have k:(A++R8 e c.sz (u::xs) (Ac (d.length,l)::rs))[A.length]?=Ac (.row u e c.sz d.length l):=by simp[R8]
  have v:=h.Mk k;obtain⟨B,q,y,G⟩:=h.freeze k;have K:(A++R8 e c.sz (u::xs) (Ac (d.length,l)::rs)).eraseIdx A.length=A++R8 e c.sz xs rs:=by rw[List.eraseIdx_append_of_length_le (Aad _),Aje];rfl
  rw[K]at y;have t:Uz c B g xs rs:=⟨by simpa using f.len,by simpa using f.eN,λi d k=>by obtain⟨l,m,x⟩:=f.own (i+1) d (by grind);exact⟨l,by trivial,x.mono q⟩,λi d k=>by simpa using f.not (i+1) d (by simpa using k)⟩;obtain⟨D,m,x,M⟩:=Ajl t (λp L=>z p (by simp[L])) y;exact⟨D,q.trans m,x,[u],xs,rfl,⟨u,rfl,(GI.of G rfl (I.mono q) v).mono m⟩,M⟩
theorem qm{J:Nat}{l:List (Bool×List (t.den N.T))}(h:Sat C CR n Of bs st η H a w)(Q:WF C CR bs st)(K:Al CR st.O k=Ac (.Ep g e t J l))(ht:l.all (·.1)=Br):∃r,H.le r/\Sat C CR n Of bs (Jx k (.sl t) (l.map (·.2)) st) η r a w/\WF C CR bs (Jx k (.sl t) (l.map (·.2)) st):=by
 refine aD h Q K λY M q P=>?_;rcases P with e|⟨x,E,j,T,rfl,_,G⟩;· grind
 obtain⟨i,v,F⟩:=Xv Of.O M E;have m:=q.flat v;obtain⟨S,B,u,D⟩:=Ajl (c:=N.c t) G (λp O=>OF.1 ht p O) (by rw[Bk];omega);have L:=(No.1 v).1;have d:((Y.map (·.2)++Of.O).set i (.row (η k) g 1 l.length j))[i]?=Ac (.row (η k) g 1 l.length j):=by simp_all
 have o:=u.Mk d;obtain⟨s,z,A,R⟩:=u.freeze d;have I:((Y.map (·.2)++Of.O).set i (.row (η k) g 1 l.length j)).eraseIdx i=(Y.map (·.2)++Of.O).eraseIdx i:=by rw[List.eraseIdx_set_eq]
 rw[I,F]at A;have y:(l.map (·.2)).length=l.length:=Aah ..;refine⟨s,B.trans z,A,?_⟩;show GI (cL (N.c t)) s (l.map (·.2)) (η k);exact⟨⟨j,by rw[y];exact R,D.mono z⟩,by rw[y];exact o⟩
theorem qw(xs:List BU)(e:xs.length=m):Uz c H (List.replicate m (Ap,([]:List α))) xs (List.replicate m C7):=
 ⟨by grind,by simp,λi d b=>by grind,λi d b=>by grind⟩
theorem qv{v:BU}{f:Ee}{sz:Nat}{xs:List BU}(h:w.ownsRow 0 e 1 v n xs):Is w v e n xs f sz (List.replicate m C7):=
 ⟨h,λi u m d _ c=>by grind,λi j u l m k d g b _ c=>by grind,λi u m d b _ c=>by grind⟩
theorem vP{l:List (List (t.den N.T))}(h:Sat C CR n Of bs st η H a w)(A:WF C CR bs st)(W:CV CR st st.nk=Br)(K:Al CR st.O b=Ac (.row g (.sl t) l)):
  ∃η',Sat C CR n Of bs ⟨st.L,(b, .Ep g e t st.nk (List.replicate l.length (Ap,[])))::(st.nk, .gone)::st.O,st.nk+1⟩ η' H a w/\WF C CR bs ⟨st.L,(b, .Ep g e t st.nk (List.replicate l.length (Ap,[])))::(st.nk, .gone)::st.O,st.nk+1⟩:=by
 obtain⟨Y,X,I,R,B⟩:=h.own;have D:=W;unfold CV at D;rw[AS]at D;rcases B b _ K with q|⟨x,V,v,rfl,hL⟩;· grind
 have r:∀k,k<st.nk->El η st.nk (.tuple v.toArray) k=η k:=λk d=>Gw (by omega);have mC:∀k∈CP C,El η st.nk (.tuple v.toArray) k=η k:=λk d=>r k (A.mC k d);have G:Ax st.O b≠C7:=λq=>by grind[Al]
 have M:b<st.nk:=Abz λE=>G (A.ok b E);obtain⟨i,z,h3⟩:=Iz Of.O X V;have S:w.ownsRow 0 g 1 (η b) l.length v:=I.ok i _ z;have T:v.length=l.length:=by have:v.length=l.length*1:=hL.len;omega
 have J:SH w H ((H7 Y b (.Ep (η b) g l.length v e (t.sz N) (List.replicate l.length C7))).map (·.2)++Of.O):=by
  rw[<-h3];refine I.uL z (row:=C7) (λ_ q=>by grind) (GD.grownBy.refl w C7) (qv S) λc hc=> .inl ?_;rcases hc with hc|⟨i,u,m,ys,_,q,_⟩;· exact hc
  grind
 refine⟨El η st.nk (.tuple v.toArray),⟨h.inv,h.defers,h.size,λp sv F=>?_,λp F=>by rw[r p.1 (A.lo p F)];exact h.base p F,H7 Y b (.Ep (η b) g l.length v e (t.sz N) (List.replicate l.length C7)),by grind[En],J,λk d=>?_,λk sr d=>?_⟩,⟨λp F=>Ael (A.lo p F),λj L=>?_,?_,λk d=>Ael (A.mC k d),A.cP⟩⟩;· refine(h.Bi p sv F).env mC λk d=>r k ?_;have:=OF.1 (OF.1 D.1 _ (A2 F)) k d;simpa using this
 ·rw[En]at d;exact Ael (R k d)
 ·unfold Al at d;simp only[Ax]at d;cases o:Nat.beq b k with
  |true=>
   rw[o]at d;have:=AI o;subst this;cases d;refine .inr ⟨_,QN V,v,List.replicate l.length C7,?_,AB _ _ _,qw v T⟩;rw[r b M,Acq]
  |false=>
   rw[o]at d;have O:k≠b:=λq=>by subst q;simp at o
   cases s:Nat.beq st.nk k with
   |true=>rw[s]at d;cases d;exact .inl rfl
   |false=>
    rw[s]at d;have d:Al CR st.O k=Ac sr:=d;rcases B k sr d with q|⟨y,y1,y2⟩;· exact .inl q
    ·have Q:Ax st.O k≠C7:=λq=>by unfold Al at d;rw[q]at d;cases d
     have P:k<st.nk:=Abz λE=>Q (A.ok k E);exact .inr ⟨y,by rw[Pa O];exact y1,SR.is.env (r k P) mC (λj L=>r j (DK d W j L)) y2⟩
 ·have L:st.nk+1<=j:=L;rw[A6 (by omega),A6 (by omega)];exact A.ok j (by omega)
 ·obtain⟨τ,U⟩:=A.wf;refine⟨τ,λp=>?_⟩;have z:=U p;cases Z:Ck C st.L p with
  |DU j i off te y=>
   rw[Z]at z;intro g' t' l' f;unfold Al at f;simp only[Ax]at f;cases o:Nat.beq b j with
   |true=>rw[o]at f;cases f
   |false=>
    rw[o]at f;cases s:Nat.beq st.nk j with
    |true=>rw[s]at f;cases f
    |false=>rw[s]at f;exact z g' t' l' f
  |_=>rw[Z]at z;exact z
theorem eY{off:Nat}{F:Ee}{l J:SV N.T}(h:Sat C CR n Of bs st η H a w)(r:WF C CR bs st)(V:CV CR st st.nk=Br)(z:Al CR st.O b=Ac (.Ah F l))(hl:Ez N C l off C7=Ac (.raw (.slice C7 0 0)))(hs:dL N C 64 l off 1 (.AG st.nk)=Ac J)(O:N' (.Ah F J:SR N.T)=Br):
  ∃η',Sat C CR n Of bs ⟨st.L,(b, .Ah F J)::(st.nk, .row g t [])::st.O,st.nk+1⟩ η' H a w/\WF C CR bs ⟨st.L,(b, .Ah F J)::(st.nk, .row g t [])::st.O,st.nk+1⟩:=by
 obtain⟨Y,hn,hsh,D,E⟩:=h.own;have A:=V;unfold CV at A;rw[AS]at A;have m:∀k,k<st.nk->El η st.nk (.slice C7 0 0) k=η k:=λk d=>Gw (by omega);have mC:∀k∈CP C,El η st.nk (.slice C7 0 0) k=η k:=λk d=>m k (r.mC k d);have M:Ax st.O b≠C7:=λe=>by grind[Al]
 have U:b<st.nk:=Abz λG=>M (r.ok b G);refine⟨El η st.nk (.slice C7 0 0),⟨h.inv,h.defers,h.size,λp sv I=>?_,λp I=>by rw[m p.1 (r.lo p I)];exact h.base p I,(st.nk, .row (.slice C7 0 0) g (t.sz N) 0 [])::Y,?_,hsh.G' g (t.sz N),λk d=>?_,λk sr d=>?_⟩,⟨λp I=>Ael (r.lo p I),λj K=>?_,?_,λk d=>Ael (r.mC k d),r.cP⟩⟩;· refine(h.Bi p sv I).env mC λk d=>m k ?_;have:=OF.1 (OF.1 A.1 _ (A2 I)) k d;simp_all
 ·exact Abl.2 ⟨λhm=>absurd (D _ hm) (Nat.lt_irrefl _),hn⟩
 ·grind[keys]
 ·unfold Al at d;simp only[Ax]at d;cases o:Nat.beq b k with
  |true=>
   rw[o]at d;have:=AI o;cases d;rcases E b _ z with e|⟨x,h1,B,cs,e1,rfl,R⟩;· grind
   refine .inr ⟨_,by grind[A6],B,cs,by grind,rf,?_⟩;have h3:l.is C (El η st.nk (.slice C7 0 0)) H (.agg cs.toList.toArray):=by have S:l.is C (El η st.nk (.slice C7 0 0)) H (.agg cs):=SV.is.env mC (λj K=>m j (DK z V j K)) R;simpa using S
   obtain⟨c,⟨u,k1,k2,_⟩,k4⟩:=Dh (cs:=cs.toList) hl h3;subst k1
   subst k2;have W:(SV.AG st.nk:SV N.T).is C (El η st.nk (.slice C7 0 0)) H (.slice C7 0 0):=⟨by rw[AB],rfl⟩;have P:∀x∈(BU.slice C7 0 0).cells.toList,x.oneCell'=Br:=by rw[A' rfl];intro x L;simp at L;subst L;rfl
   obtain⟨q1,q2⟩:=Iw (v:= .slice C7 0 0) W P (by exact hs) h3;have e2:CG cs.toList off (BU.slice C7 0 0).cells.toList=cs.toList:=by
    rw[A' rfl]at q2⊢;have D:off<cs.toList.length:=by simp only[Aav,Ady]at q2;omega
    rw[U0 _ _ _ D];have h0:cs.toList[off]?=Ac (.slice C7 0 0):=drop_one k4;refine Agp λj=>?_;rw[Adw];split;· rename_i e;subst e;exact h0.symm
    ·rfl
   rw[e2]at q1;omega
  |false=>
   rw[o]at d;cases z:Nat.beq st.nk k with
   |true=>
    rw[z]at d;cases d;have:=AI z;subst this;exact .inr ⟨_,DV _ _ _,[],by rw[AB];rfl,rfl⟩
   |false=>
    rw[z]at d;have d:Al CR st.O k=Ac sr:=d;rcases E k sr d with e|⟨y,y1,y2⟩;· exact .inl e
    ·have Z:Ax st.O k≠C7:=λe=>by unfold Al at d;rw[e]at d;cases d
     have X:k<st.nk:=Abz λG=>Z (r.ok k G);exact .inr ⟨y,by rw[A6 (by omega)];exact y1,SR.is.env (m k X) mC (λj K=>m j (DK d V j K)) y2⟩
 ·have K:st.nk+1<=j:=K;rw[A6 (by omega),A6 (by omega)];exact r.ok j (by omega)
 ·obtain⟨
      τ,hτ⟩:=r.wf;refine⟨τ,λp=>?_⟩;have R:=hτ p;have key:∀s:SV N.T,(∀j i off Q y,s= .DU j i off Q y->j<st.nk)->DF τ (Al CR st.O) s->DF τ (Al CR ((b,SR.Ah F J)::(st.nk,SR.row g t [])::st.O)) s:=λs hs hv=>by
   cases s with
   |DU j i off Q y=>
    intro g2 t' l2 f;have:=hs j i off Q y rfl;unfold Al at f;simp only[Ax]at f;cases o:Nat.beq b j with
    |true=>rw[o]at f;cases f
    |false=>
     rw[o]at f;have e:Nat.beq st.nk j=Ap:=by
      cases T:Nat.beq st.nk j with
      |true=>have:=AI T;omega
      |false=>rfl
     rw[e]at f;exact hv g2 t' l2 f
   |_=>exact hv
  refine key _ (λj i off Q y e=>?_) R;unfold Ck at e;cases L:Ax st.L p with
  |none=>rw[L]at e;cases e
  |some x=>
   rw[L]at e;have hm:∀k∈x.AJ,k<st.nk:=λk d=>by have:=OF.1 (OF.1 A.1 _ (A2 L)) k d;simpa using this
   cases x with
   |Cr q=>
    simp only[res]at e;rw[IS]at e;cases hc:C[q]? with
    |none=>rw[hc]at e;cases e
    |some s0=>
     rw[hc]at e;have:=r.cP s0 (Aai hc);subst e;cases this
   |_=>cases e<;>exact hm _ (by simp[SV.AJ])
end
end
theorem W8{l:List Nat}(h:l.Nodup):Cf l=Br:=by
 induction l with
 |nil=>rfl
 |cons k l b=>
  rw[Abl]at h;simp only[Cf,AS,Aff,b h.2,and_true];grind[BZ,absurd,AP]
def Ue:List Nat->List Nat
 | []=>[]
 |k::l=>if k∈l then Ue l else k::Ue l
theorem Hv{k:Nat} :∀ {l:List Nat},k∈Ue l↔k∈l
 | []=>Iff.rfl
 |j::l=>by
  unfold Ue;split;· rw[Hv,Aay];grind
  ·rw[Aay,Aay,Hv]
theorem P_:∀l:List Nat,(Ue l).Nodup
 | []=>Agj
 |j::l=>by
  unfold Ue;split;· exact P_ l
  ·rename_i h;exact Abl.2 ⟨λb=>h (Hv.1 b),P_ l⟩
section
variable {N : C6} {C : List (SV N.T)} {CR : List (SR N.T)} {n : Nat} {Of : Fm} {bs : List (Nat × BU)} {st : St N.T} {η : Nat -> BU} {H : Hp} {a : Act} {w : GD}
theorem Sat.conv{O:List (SV N.T)}{D:List (SR N.T)}{f:St N.T}(ρ:Nat->Nat)(h:Sat C CR n Of bs st η H a w)(hs:∀t sv,Ax f.L t=Ac sv->sv.is O (λc=>η (ρ c)) H (a.tmps.getD t undef))(hb:∀p∈bs,ρ p.1=p.1)
  (hr:∀c L,Al D f.O c=Ac L->L= .gone\/∃q,Al CR st.O (ρ c)=Ac q/\q≠ .gone/\∀x,q.is C η H (ρ c) x->L.is O (λc=>η (ρ c)) H c x)
  (I:∀c Q,c∈keys f.O->Q∈keys f.O->ρ c=ρ Q->c=Q) (hk:∀c∈keys f.O,c<f.nk):Sat O D n Of bs f (λc=>η (ρ c)) H a w:=by
 obtain⟨Y,hn,Z,hlt,J⟩:=h.own;let g:=(Ue (keys f.O)).filter λc=>(Ax Y (ρ c)).isSome;have i:∀c∈g,c∈keys f.O:=λc hc=>Hv.1 (Aax.1 hc).1;have m:g.Nodup:=Acv.nodup (P_ _);let E:List (Nat×Av):=g.map λc=>(c,(Ax Y (ρ c)).getD .emp);have A:keys E=g:=by show(g.map _).map _=g;rw[Aao];exact Aga _
 have o:∀c,c∈g->∃x,Ax Y (ρ c)=Ac x/\Ax E c=Ac x:=λc hc=>by grind[Option.isSome_iff_exists,CF]
 let js:=g.map λc=>(keys Y).idxOf (ρ c);have W:∀l:List Nat,(∀c∈l,c∈g)->(l.map λc=>(keys Y).idxOf (ρ c)).filterMap ((Y.map (·.2)++Of.O)[·]?)=l.map λc=>(Ax Y (ρ c)).getD .emp:=by
  intro l;induction l with
  |nil=>simp
  |cons c l ih=>
   intro s;obtain⟨x,u,_⟩:=o c (s c (by simp));rw[Aap,Adj,(LI Of.O u).1,ih λd r=>s d (by grind),Aap,u];rfl
 have inj:∀c∈g,∀d∈g,(keys Y).idxOf (ρ c)=(keys Y).idxOf (ρ d)->c=d:=λc hc d r e=>by
  obtain⟨x,u,_⟩:=o c hc;obtain⟨y,hy,_⟩:=o d r;have R:=(Dd u);have F:(keys Y)[(keys Y).idxOf (ρ c)]?=Ac (ρ c):=by rw[BY (List.idxOf_lt_length_iff.2 R),Aey]
  grind
 have V:js.Nodup:=by
  have key:∀l:List Nat,l.Nodup->(∀c∈l,c∈g)->(l.map λc=>(keys Y).idxOf (ρ c)).Nodup:=by
   intro l;induction l with
   |nil=>intro _ _;exact Agj
   |cons c l ih=>
    intro B s;rw[Abl]at B;rw[Aap,Abl];refine⟨λhm=>?_,ih B.2 λd r=>s d (by simp[r])⟩;obtain⟨d,r,e⟩:=By.1 hm;have:=inj d (s d (by simp[r])) c (s c (by simp)) e;subst this;exact B.1 r
  exact key g m λc hc=>hc
 have K:SH w H (E.map (·.2)++Of.O):=by
  have:=SH.Rn js Y.length (OF.2 λj hj=>by
   obtain⟨c,hc,rfl⟩:=By.1 hj;obtain⟨x,u,_⟩:=o c hc;simpa using(LI Of.O u).2) (W8 V) (by simp) Z;unfold GK.Rn at this;rw[W g (λc hc=>hc),Agb (by simp),Abf (by simp),Abp]at this;have e:E.map (·.2)=g.map λc=>(Ax Y (ρ c)).getD .emp:=by
   rw[Aao];rfl
  rw[e];exact this
 refine⟨h.inv,h.defers,h.size,hs,λp hp=>by rw[hb p hp];exact h.base p hp,E,by rw[A];exact m,K,λk X=>hk k (i k (by rw[<-A];exact X)),λc L hc=>?_⟩;rcases hr c L hc with e|⟨q,R,S,e3⟩;· exact .inl e
 ·rcases J (ρ c) q R with e|⟨x,F,T⟩;· exact absurd e S
  ·have U:c∈keys f.O:=by
    unfold Al at hc;cases s:Ax f.O c with
    |none=>rw[s]at hc;cases hc
    |some y=>exact Dd s
   have G:c∈g:=Aax.2 ⟨Hv.2 U,by rw[F];rfl⟩;obtain⟨x',g3,g4⟩:=o c G;rw[F]at g3;cases g3;exact .inr ⟨x,g4,e3 x T⟩
end
section
variable (N : C6)
def kmS(C:List (SV N.T))(L:List (Nat×SV N.T))(l:List (Nat×SP)):List (Nat×Nat):=l.flatMap λq=>match q.2,Ck C L q.1 with
 | .AG c, .AG k=>[(c,k)]
 | .loc c _, .loc k _=>[(c,k)]
 |_,_=>[]
def kmR(C:List (SV N.T))(CR:List (SR N.T))(O:List (Nat×SR N.T))(m:List (Nat×Nat))(l:List (Nat×RP)):List (Nat×Nat):=l.flatMap λq=>match q.2,Al CR O (AV m q.1)with
 | .Ah _ c,Ac (.Ah _ b)=>kmL N C b c
 | .Ep _ _ h _,Ac (.Ep _ _ _ a _)=>[(h,a)]
 |_,_=>[]
def yS(C:List (SV N.T))(L:List (Nat×SV N.T))(l:List (Nat×SP)):List (Nat×SV N.T):=l.flatMap λq=>match q.2 with
 | .v j _=>[(j,Ck C L q.1)]
 | .AH j _=>[(j,Ck C L q.1)]
 | .nat j=>[(j,Ck C L q.1)]
 |_=>[]
def qi(C:List (SV N.T))(CR:List (SR N.T))(O:List (Nat×SR N.T))(m:List (Nat×Nat))(l:List (Nat×RP)):List (Nat×SV N.T):=l.flatMap λq=>match q.2,Al CR O (AV m q.1)with
 | .row _ j,Ac (.row _ t x)=>[(j, .d (.sl t) x)]
 | .map _ j,Ac (.map _ a e x)=>[(j, .d (.sl (.st (.pr a e))) x)]
 | .Ep _ _ _ j,Ac (.Ep _ _ t _ x)=>[(j, .d (.sl (.pr .bool (.sl t))) x)]
 | .Ah _ c,Ac (.Ah _ b)=>qj N C b c
 |_,_=>[]
def ckS(C:List (SV N.T))(L:List (Nat×SV N.T))(m:List (Nat×Nat))(q:Nat×SP):Bool:=match q.2 with
 | .v _ _=>Br
 | .AH _ _=>Br
 | .nat _=>Br
 | .c j=>match Ax L q.1 with
  |some (.Cr i)=>Nat.beq i j
  |_=>Ap
 | .AG c=>match Ck C L q.1 with
  | .AG k=>Nat.beq (AV m c) k
  |_=>Ap
 | .loc c off=>match Ck C L q.1 with
  | .loc k o=>Nat.beq (AV m c) k&&Nat.beq off o
  |_=>Ap
 |_=>Ap
def ckL(C:List (SV N.T))(b:SV N.T)(m:List (Nat×Nat))(q:Nat×Nat×SP):Bool:=match q.2.2 with
 | .v _ t=>match Ez N C b q.1 (Ac t)with
  |some sv=>Nat.beq (WG N sv) q.2.1
  |none=>Ap
 | .nat _=>match Ez N C b q.1 C7 with
  |some sv=>Nat.beq (WG N sv) q.2.1
  |none=>Ap
 | .c j=>match RL N b q.1 q.2.1 with
  |some (.Cr i)=>Nat.beq i j
  |_=>Ap
 | .AG c=>match Ez N C b q.1 C7 with
  |some (.AG k)=>Nat.beq (AV m c) k&&Nat.beq q.2.1 1
  |_=>Ap
 | .mp c=>match Ez N C b q.1 C7 with
  |some (.mp k)=>Nat.beq (AV m c) k&&Nat.beq q.2.1 1
  |_=>Ap
 | .AK f [] []=>match Ez N C b q.1 C7 with
  |some (.AK g .vn [])=>Nat.beq f g&&Nat.beq q.2.1 1
  |_=>Ap
 | .px [c] .sf=>yD N (AV m) c (Ez N C b q.1 C7)&&Nat.beq q.2.1 1
 |_=>Ap
def ckR(C:List (SV N.T))(CR:List (SR N.T))(O:List (Nat×SR N.T))(m:List (Nat×Nat))(q:Nat×RP):Bool:=match q.2 with
 | .row g _=>match Al CR O (AV m q.1)with
  |some (.row a _ _)=>Nat.beq g a
  |_=>Ap
 | .Ah g d=>match Al CR O (AV m q.1)with
  |some (.Ah a b)=>Nat.beq g a&&(whole b&&Nat.beq (Pj d) (Tr N b)&&(NH 0 d).all (ckL N C b m))
  |_=>Ap
 | .c j=>match Ax O q.1 with
  |some (.Cr i)=>Nat.beq i j&&Nat.beq (AV m q.1) q.1
  |_=>Ap
 | .map g _=>match Al CR O (AV m q.1)with
  |some (.map a _ _ _)=>Nat.beq g a
  |_=>Ap
 | .Ep g e h _=>match Al CR O (AV m q.1)with
  |some (.Ep a f _ k _)=>Nat.beq g a&&(Nat.beq e f&&Nat.beq (AV m h) k)
  |_=>Ap
def vG(C:List (SV N.T)):List Nat:=C.flatMap λs=>match s with
 | .ct i _=>[i]
 | .cb i _=>[i]
 | .lt i _ _=>[i]
 |_=>[]
def PS(l:List (Nat×SP)):List (Nat×Nat):=l.flatMap λq=>match q.2 with
 | .AH j i=>[(i,j)]
 |_=>[]
def ckP(C:List (SV N.T))(CR:List (SR N.T))(kb:Nat)(p:A9)(m:List (Nat×Nat)):Bool:=(((p.ro.map (·.1)).all λk=>Nat.blt k p.nk)&&((CP C).all λk=>Nat.blt k p.nk&&Nat.beq (AV m k) k))&&((Nat.ble kb p.nk&&((List.range kb).all λk=>Nat.beq (AV m k) k))&&(Cf (p.ro.map λq=>AV m q.1)&&(Cf (keys (PS p.sl))&&(!GF (keys (PS p.sl)) (vG N C)&&CR.all λr=>r.AJ.all λk=>Nat.blt k p.nk&&Nat.beq (AV m k) k))))
def Sf(C:List (SV N.T))(CR:List (SR N.T))(kb:Nat)(p:A9)(st:St N.T):Option (BV N p.hs):=
 let b:=kmS N C st.L p.sl
 let m:=b++kmR N C CR st.O b p.ro
 match(ckP N C CR kb p m&&(p.sl.all (ckS N C st.L m)&&(p.ro.all (ckR N C CR st.O m)&&Cf ((yS N C st.L p.sl++qi N C CR st.O m p.ro).map (·.1)))))with
 |true=>vM N C (λj=>(Ax (yS N C st.L p.sl++qi N C CR st.O m p.ro) j).getD .no) 0 p.hs
 |false=>C7
end
section
variable {N : C6} {C : List (SV N.T)} {CR : List (SR N.T)} {n : Nat} {Of : Fm} {bs : List (Nat × BU)} {st : St N.T} {η : Nat -> BU} {H : Hp} {a : Act} {w : GD}
section
variable{m:List (Nat×Nat)}{j:Nat}{l:List (Nat×RP)}{O:List (Nat×SR N.T)}{c:Nat}{g:Ee}{b:SV N.T}{t:Ty}{p:A9}{x:BV N p.hs}
theorem gq{L:List (Nat×SV N.T)}{q:Nat×SP}{l:List (Nat×SP)}(h:q∈l)(e:q.2= .nat j\/(∃t,q.2= .v j t)\/∃i,q.2= .AH j i):(j,Ck C L q.1)∈yS N C L l:=by refine Aac.2 ⟨q,h,?_⟩;grind
theorem gr{b:Ee}{x:List (t.den N.T)}(h:(c,RP.row g j)∈l)(d:Al CR O (AV m c)=Ac (.row b t x)):(j,SV.d (.sl t) x)∈qi N C CR O m l:=
 Aac.2 ⟨_,h,by grind⟩
theorem gv{e:Ee}{b d:Ty}{x:List (b.den N.T×d.den N.T)}(h:(c,RP.map g j)∈l)(f:Al CR O (AV m c)=Ac (.map e b d x)):(j,SV.d (.sl (.st (.pr b d))) x)∈qi N C CR O m l:=
 Aac.2 ⟨_,h,by grind⟩
theorem gw{g e d b h f:Nat}{x:List (Bool×List (t.den N.T))}(i:(c,RP.Ep g e h j)∈l)(k:Al CR O (AV m c)=Ac (.Ep d b t f x)):(j,SV.d (.sl (.pr .bool (.sl t))) x)∈qi N C CR O m l:=
 Aac.2 ⟨_,i,by grind⟩
theorem VK{d:Ee}{ls:List (Nat×SP)}(h:(c,RP.Ah g ls)∈l)(e:Al CR O (AV m c)=Ac (.Ah d b)){z:Nat×SV N.T}(f:z∈qj N C b ls):z∈qi N C CR O m l:=
 Aac.2 ⟨_,h,by grind⟩
theorem TB{k:Nat}(h:Nat.beq (AV m k) k=Br):AV m k=k:=AI h
theorem instL_ok{R:List HT}{x:BV N R}{b:SV N.T}{m:List (Nat×Nat)}{Hs:List (Nat×SV N.T)}{cs:List BU}(T:cC C Hs (Cq N R x))(F:b.is C η H (.agg cs.toArray))(I:∀y∈cs,y.oneCell'=Br)(V:∀k∈CP C,AV m k=k):
  ∀(ls:List (Nat×SP)) (off:Nat),(∀q∈NH off ls,ckL N C b m q=Br/\(∀j t,q.2.2= .v j t->(j,(Ez N C b q.1 (Ac t)).getD .no)∈Hs)/\∀j,q.2.2= .nat j->(j,(Ez N C b q.1 C7).getD .no)∈Hs)->off+Pj ls=cs.length->
   (instL N R x ls).is C (λc=>η (AV m c)) H (.agg (cs.drop off).toArray)
 | [],off,_,S=>by have:cs.drop off=[]:=Abf (by grind[Pj]);rw[this];rfl
 |(s,p)::ls,off,W,S=>by
  have S:off+(s+Pj ls)=cs.length:=S;have ih:=instL_ok T F I V ls (off+s) (λq U=>W q (Aag _ U)) (by omega);obtain⟨d,X,G⟩:=W (off,s,p) (Aaj ..);have A:∀ {u:BU},(inst N R x p).is C (λc=>η (AV m c)) H u->u.cells.toList=(cs.drop off).take s->u.cells.toList.length=s->(instL N R x ((s,p)::ls)).is C (λc=>η (AV m c)) H (.agg (cs.drop off).toArray):=λ{u} l h K=>by have Q:=K1 (s:=s) l K (λy Y=>I y (by grind)) ih;rw[h]at K Q;rw[<-YP rfl K]at Q;exact Q
  unfold ckL at d;cases p with
  |v j t=>
   simp only at d;split at d
   ·rename_i sv D;have L:=AI d;obtain⟨c,r,hc⟩:=Dh D F;have e:=Ct r;obtain⟨u,l,h,_⟩:=r;have o:=X j t rfl;rw[D]at o;exact A (T.is o l) (by grind) (by grind)
   grind
  |nat j=>
   simp only at d;split at d
   ·rename_i sv D;have L:=AI d;obtain⟨c,r,hc⟩:=Dh D F;have e:=Ct r;obtain⟨u,l,h,_⟩:=r;have o:=G j rfl;rw[D]at o;have e:c.length=s:=by omega
    rw[e]at hc;exact A (T.is o l) (by rw[h,hc]) (by rw[h];exact e)
   grind
  |c j=>
   simp only at d;split at d;· rename_i i hi;have:=AI d;subst this;obtain⟨u,l,h,K⟩:=ZX hi F;exact A (l.env (λk B=>by rw[V k B]) (λk B=>by cases B)) h K
   ·cases d
  |AG c=>
   simp only at d;split at d;· rename_i k B;rw[AS]at d;have O:=AI d.1;have J:=AI d.2;subst J;obtain⟨M,r,hc⟩:=Dh B F;have e:=Ct r;obtain⟨u,l,h,_⟩:=r;have e:M.length=1:=e;rw[e]at hc;exact A (u:=u) ⟨by show u=η (AV m c);rw[O];exact l.1,l.2⟩ (by rw[h,hc]) (by rw[h];exact e)
   ·cases d
  |mp c=>
   simp only at d;split at d;· rename_i k B;rw[AS]at d;have O:=AI d.1;have J:=AI d.2;subst J;obtain⟨M,r,hc⟩:=Dh B F;have e:=Ct r;obtain⟨u,l,h,_⟩:=r;have e:M.length=1:=e;rw[e]at hc;exact A (u:=u) ⟨by show u=η (AV m c);rw[O];exact l.1,l.2⟩ (by rw[h,hc]) (by rw[h];exact e)
   ·cases d
  |AK f fs cs=>
   cases fs with
   |cons _ _=>cases d
   |nil=>
    cases cs with
    |cons _ _=>cases d
    |nil=>
     simp only at d;split at d;· rename_i g B;rw[AS]at d;have O:=AI d.1;have J:=AI d.2;subst O;subst J;obtain⟨M,r,hc⟩:=Dh B F;have e:=Ct r;obtain⟨u,l,h,_⟩:=r;have e:M.length=1:=e;rw[e]at hc;obtain⟨us,a1,a2⟩:=l;exact A (u:=u) ⟨us,a1,a2⟩ (by rw[h,hc]) (by rw[h];exact e)
     ·cases d
  |px cs z=>
   cases z with
   |sub _ _ _=>cases cs with
    |nil=>cases d
    |cons c cs=>cases cs<;>cases d
   |hc _=>cases cs with
    |nil=>cases d
    |cons c cs=>cases cs<;>cases d
   |sf=>
    match cs,d with
    | [],d=>cases d
    | [c],d=>
     rw[AS]at d;cases B:Ez N C b off C7 with
     |none=>rw[B]at d;cases d.1
     |some s0=>
      rw[B]at d;have J:=AI d.2;subst J;obtain⟨M,r,hc⟩:=Dh B F;have e:=Ct r;obtain⟨u,l,h,_⟩:=r;obtain⟨K,Q⟩:=YU d.1 l;rw[Q]at e;rw[e]at hc;exact A (u:=u) K (by rw[h,hc]) (by rw[h];exact e)
    |_::_::_,d=>cases d
  |_=>cases d
theorem Du{t:Nat}{sv:SV N.T}(h:Ax (Fl N p x).L t=Ac sv):∃q∈p.sl,q.1=t/\sv=inst N p.hs x q.2:=by obtain⟨q,b,e⟩:=By.1 (A2 h);grind
theorem MX{kb:Nat}(h:Sat C CR n Of bs st η H a w)(hw:WF C CR bs st)(hkb:∀q∈bs,q.1<kb)(hx:Sf N C CR kb p st=Ac x):∃η',Sat C CR n Of bs (Fl N p x) η' H a w/\WF C CR bs (Fl N p x):=by
 unfold Sf at hx;simp only at hx;generalize hm:kmS N C st.L p.sl++kmR N C CR st.O (kmS N C st.L p.sl) p.ro=m at hx;split at hx
 ·rename_i hck;simp only[AS]at hck;obtain⟨hP,hS,hR,hN⟩:=hck;unfold ckP at hP;simp only[AS,Aff]at hP;obtain⟨⟨p1,p2⟩,⟨p3,p4⟩,p5,p6,p7,p8⟩:=hP;have hro:∀q∈p.ro,q.1<p.nk:=λq D=>by simpa using OF.1 p1 q.1 (By.2 ⟨q,D,rfl⟩)
  have V:∀k∈CP C,k<p.nk/\AV m k=k:=λk E=>by simp_all
  have hkbp:=Aba p3;have hbase:∀k,k<kb->AV m k=k:=λk E=>TB (OF.1 p4 k (Abb.2 E));have hnd:=BF hN;have P:cC C (yS N C st.L p.sl++qi N C CR st.O m p.ro) (Cq N p.hs x):=⟨λj s hj=>by
   rcases Jv p.hs 0 x hx j with e|⟨Y,y,R,G⟩;· grind
   ·rw[Abi,CF hnd hj]at R;grind⟩;have Q:∀q∈p.sl,∀ {C':List (SV N.T)} {η':Nat->BU} j,(q.2= .nat j\/(∃t,q.2= .v j t)\/∃i,q.2= .AH j i)->(Cq N p.hs x j).is C' η' H (a.tmps.getD q.1 undef):=λq D {_ _} j e=>
   P.is (AT.2 (.inl (gq D e))) (h.lk q.1);refine⟨λc=>η (AV m c),h.conv (AV m) (λt sv ht=>?_) (λq D=>hbase q.1 (hkb q D)) (λc sr hc=>?_) (λc c' hc hc' e=>?_) (λc hc=>?_),⟨λq D=>Abs (hkb q D) hkbp,λj hj=>?_,?_,λk E=>(V k E).1,hw.cP⟩⟩;· obtain⟨q,D,rfl,rfl⟩:=Du ht;have u:=OF.1 hS q D;unfold ckS at u;cases T:q.2 with
   |v j t=>exact Q q D j (.inr (.inl ⟨t,T⟩))
   |nat j=>exact Q q D j (.inl T)
   |AH j i=>
    have K:=Q q D (C':=C) (η':=λc=>η (AV m c)) j (.inr (.inr ⟨i,T⟩));show(match Cq N p.hs x j with| .na n=>SV.ct i n|s=>s).is C _ H _;split;· rename_i n' e;rw[e]at K;exact K
    omega
   |c j=>
    rw[T]at u;simp only at u;split at u;· rename_i i hi;have:=AI u;subst this;exact(h.Bi q.1 _ hi).env (λk E=>by grind) (λk E=>by cases E)
    grind
   |AG c=>
    rw[T]at u;simp only at u;split at u;· rename_i k E;have e:=AI u;have K:=h.lk q.1;rw[E]at K;exact⟨by show _=η (AV m c);rw[e];exact K.1,K.2⟩
    grind
   |loc c off=>
    rw[T]at u;simp only at u;split at u;· rename_i k o E;rw[AS]at u;have e:=AI u.1;have G:=AI u.2;subst G;have K:=h.lk q.1;rw[E]at K;obtain⟨B,b1,b2⟩:=K;exact⟨B,by show η (AV m c)=_;rw[e];exact b1,b2⟩
    ·cases u
   |_=>rw[T]at u;cases u
  ·unfold Al at hc;cases hl:Ax (Fl N p x).O c with
   |none=>rw[hl]at hc;cases hc
   |some s0=>
    rw[hl]at hc;cases hc;obtain⟨q,D,e⟩:=By.1 (A2 hl);obtain⟨q1,q2⟩:=q;cases e;have r:=OF.1 hR _ D;unfold ckR at r;cases q2 with
    |row g j=>
     simp only at r;split at r
     ·rename_i g' t l J;have e:=AI r;subst e;have F:=gr (C:=C) (CR:=CR) (O:=st.O) (m:=m) D J;rcases P.ok j _ (AT.2 (.inr F))with e|⟨Y,y,R,G⟩;· left;show C2 CR (match Cq N p.hs x j with| .d (.sl t) l=>SR.row g t l|_=> .gone)=_;rw[e];rfl
      ·right;refine⟨_,J,by simp,λX M=>?_⟩;show(C2 CR (match Cq N p.hs x j with| .d (.sl t) l=>SR.row g t l|_=> .gone)).is C _ H _ X;rw[G];cases Y with
       |nat=>cases R
       |Ae th=>
        obtain⟨f,hf,e3⟩:=Pe.1 (show(P6 N.T (.sl t) th).map (· l)=Ac y from R);obtain⟨he,rfl⟩:=Bw hf;have:=Adx he;subst this;cases e3;exact M
     ·cases r
    |map g j=>
     simp only at r;split at r
     ·rename_i g' kt vt l J;have e:=AI r;subst e;have F:=gv (C:=C) (CR:=CR) (O:=st.O) (m:=m) D J;rcases P.ok j _ (AT.2 (.inr F))with e|⟨Y,y,R,G⟩;· left;show C2 CR (match Cq N p.hs x j with| .d (.sl (.st (.pr kt vt))) l=>SR.map g kt vt l|_=> .gone)=_;rw[e];rfl
      ·right;refine⟨_,J,by simp,λX M=>?_⟩;show(C2 CR (match Cq N p.hs x j with| .d (.sl (.st (.pr kt vt))) l=>SR.map g kt vt l|_=> .gone)).is C _ H _ X;rw[G];cases Y with
       |nat=>cases R
       |Ae th=>
        obtain⟨f,hf,e3⟩:=Pe.1 (show(P6 N.T (.sl (.st (.pr kt vt))) th).map (· l)=Ac y from R);obtain⟨he,rfl⟩:=Bw hf;have:=Adx he;subst this;cases e3;exact M
     ·cases r
    |Ep g e0 h0 j=>
     simp only at r;split at r
     ·rename_i g' e' t Y l J;simp only[AS]at r;have R:=AI r.1;have G:=AI r.2.1;have e3:=AI r.2.2;subst R;subst G;have F:=gw (C:=C) (CR:=CR) (O:=st.O) (m:=m) D J;rcases P.ok j _ (AT.2 (.inr F))with e|⟨hh,y,k1,k2⟩;· left;show C2 CR (match Cq N p.hs x j with| .d (.sl (.pr .bool (.sl t))) l=>SR.Ep g e0 t h0 l|_=> .gone)=_;rw[e];rfl
      ·right;refine⟨_,J,by simp,λX M=>?_⟩;show(C2 CR (match Cq N p.hs x j with| .d (.sl (.pr .bool (.sl t))) l=>SR.Ep g e0 t h0 l|_=> .gone)).is C _ H _ X;rw[k2];cases hh with
       |nat=>cases k1
       |Ae th=>
        obtain⟨f,hf,e3'⟩:=Pe.1 (show(P6 N.T (.sl (.pr .bool (.sl t))) th).map (· l)=Ac y from k1);obtain⟨he,rfl⟩:=Bw hf;have:=Adx he;subst this;cases e3';obtain⟨xs,rs,z1,z2,z3⟩:=M;exact⟨xs,rs,z1,by show η (AV m h0)=_;rw[e3];exact z2,z3⟩
     ·cases r
    |Ah g ls=>
     simp only at r;split at r
     ·rename_i g' b J;simp only[AS]at r;have e:=AI r.1;subst e;right;refine⟨_,J,by simp,λX M=>?_⟩;obtain⟨B,cs,b1,b2,b3⟩:=M;refine⟨B,cs,b1,b2,?_⟩;have hlen:=HH (cs:=cs.toList) r.2.1.1 b3;have:=instL_ok (η:=η) (cs:=cs.toList) P b3 (J1 r.2.1.1 b3) (λk E=>(V k E).2) ls 0 (λz W=>⟨OF.1 r.2.2 z W,λj t e=>AT.2 (.inr (VK D J ((Gu W).1 j t e))),λj e=>AT.2 (.inr (VK D J ((Gu W).2 j e)))⟩)
       (by rw[Abi,AI r.2.1.2,hlen]);simpa using this
     ·cases r
    |c j=>
     simp only at r;split at r;· rename_i i hi;rw[AS]at r;have e:=AI r.1;have G:=TB r.2;subst e;show CR.getD i .gone= .gone\/_;cases Z:CR[i]? with
      |none=>left;rw[IS,Z];rfl
      |some s0=>
       by_cases hs0:s0= .gone;· left;rw[IS,Z];exact hs0
       ·right;have J:Al CR st.O q1=Ac s0:=by unfold Al;rw[hi];simp[C2,IS,Z]
        refine⟨s0,by rw[G];exact J,hs0,λX M=>?_⟩;show(CR.getD i .gone).is C _ H _ X;rw[IS,Z];have M:s0.is C η H q1 X:=by rw[G]at M;exact M
        refine SR.is.env (by show η (AV m q1)=η q1;rw[G]) (λk E=>by show η (AV m k)=η k;rw[(V k E).2]) (λk E=>?_) M;have:=OF.1 (OF.1 p8 s0 (Aai Z)) k E;rw[AS]at this;show η (AV m k)=η k;rw[TB this.2]
     ·cases r
  ·have K:=BF p5;obtain⟨q,D,rfl⟩:=By.1 hc;obtain⟨q',hq',rfl⟩:=By.1 hc';obtain⟨z,W,rfl⟩:=By.1 D;obtain⟨z',hz',rfl⟩:=By.1 hq';have:=PO (f:=λq:Nat×RP=>AV m q.1) K W hz' e;subst this;rfl
  ·obtain⟨q,D,rfl⟩:=By.1 hc;obtain⟨z,W,rfl⟩:=By.1 D;exact hro z W
  ·have hj:p.nk<=j:=hj;refine Cy λhm=>?_;obtain⟨q,D,rfl⟩:=By.1 hm;obtain⟨z,W,rfl⟩:=By.1 D;have:=hro z W;simp only at hj;omega
  ·obtain⟨
       τ,hτ⟩:=hw.wf;refine⟨λi=>match Ax (PS p.sl) i with
    |some j=>(match Cq N p.hs x j with| .na n=>n|_=>0)
    |none=>τ i,λt=>?_⟩;unfold Ck;cases ht:Ax (Fl N p x).L t with
   |none=>trivial
   |some sv=>
    simp only;obtain⟨q,D,rfl,rfl⟩:=Du ht;have A:∀j,Ex (Cq N p.hs x j)=Br/\Ry (Cq N p.hs x j)=Br:=λj=>by
     rcases Jv p.hs 0 x hx j with e|⟨Y,y,_,G⟩;· rw[e];exact⟨rfl,rfl⟩
     ·rw[G];cases Y<;>exact⟨rfl,rfl⟩
    have Ja:∀ {s:SV N.T},Ry s=Br->res C s=s:=λ{s} hs=>by cases s<;>first|rfl|cases hs
    cases T:q.2 with
    |v j t=>show DF _ _ (res C (Cq N p.hs x j));rw[Ja (A j).2];exact Dr (A j).1
    |nat j=>show DF _ _ (res C (Cq N p.hs x j));rw[Ja (A j).2];exact Dr (A j).1
    |AH j i=>
     show DF _ _ (res C (match Cq N p.hs x j with| .na n=>SV.ct i n|s=>s));have hid:Ax (PS p.sl) i=Ac j:=CF (BF p6) (Aac.2 ⟨q,D,by rw[T];simp⟩);split;· rename_i n' e;show(match Ax (PS p.sl) i with|some j=>(match Cq N p.hs x j with| .na n=>n|_=>0)|none=>τ i)=n';rw[hid];simp only[e]
     ·rename_i hne;rw[Ja (A j).2];exact Dr (A j).1
    |c j=>
     have u:=OF.1 hS q D;unfold ckS at u;rw[T]at u;simp only at u;split at u;· rename_i i hi;have:=AI u;subst this;have S:=hτ q.1;unfold Ck at S;rw[hi]at S;show DF _ _ (C.getD i .no);have S:DF τ (Al CR st.O) (C.getD i .no):=S;rw[IS]at S⊢;cases Z:C[i]? with
      |none=>trivial
      |some s0=>
       rw[Z]at S;have U:=Aai Z;have hp0:=hw.cP s0 U;have nid:∀I,I∈vG N C->Ax (PS p.sl) I=C7:=λI hi'=>Cy λhm=>Rz p7 hm hi';simp only[Acm]at S⊢;cases s0 with
       |ct I n'=>show(match Ax (PS p.sl) I with|some j=>_|none=>τ I)=n';rw[nid I (Aac.2 ⟨_,U,by simp⟩)];exact S
       |cb I n'=>show(match Ax (PS p.sl) I with|some j=>_|none=>τ I)=n';rw[nid I (Aac.2 ⟨_,U,by simp⟩)];exact S
       |lt I n' m'=>show(match Ax (PS p.sl) I with|some j=>_|none=>τ I)=n';rw[nid I (Aac.2 ⟨_,U,by simp⟩)];exact S
       |DU k i off t y=>cases hp0
       |_=>trivial
     ·cases u
    |sv ls=>cases ls<;>trivial
    |pd j t off=>
     show DF _ _ (res C (match Cq N p.hs x j with| .d t x=>SV.pd t x off|_=> .no));split<;>trivial
    |px ks z=>cases z with
     |sf=>trivial
     |hc _=>trivial
     |sub j n t=>
      show DF _ _ (res C (match Cq N p.hs x j,Cq N p.hs x n with| .na i, .na m=>SV.px ks (.sub i m t)|_,_=> .px ks .any));split<;>trivial
    |_=>trivial
 grind
end
end
def clean{T:Nat->Type} :SV T->Bool
 | .Cr _=>Ap
 | .DU _ _ _ _ _=>Ap
 | .lf _ a l=>clean a&&clean l
 | .t2 a b=>clean a&&clean b
 | .t3 a b c=>clean a&&(clean b&&clean c)
 | .AK _ l _=>clean l
 | .vc a l=>clean a&&clean l
 |_=>Br
section
variable {N : C6} {C : List (SV N.T)} {CR : List (SR N.T)} {n : Nat} {Of : Fm} {bs : List (Nat × BU)} {st : St N.T} {η : Nat -> BU} {H : Hp} {a : Act} {w : GD}
section
variable{T:Nat->Type}{X:List (SV N.T)}{s:SV N.T}
theorem CA{g q:Nat->BU->Prop} :∀ {s:SV N.T} {v:BU},clean s=Br->s.BN g η H v->s.BN q η H v
 | .lf s a l,v,hc,⟨o,p,u,e,i,j,k,t,A⟩=>by simp only[clean,AS]at hc;exact⟨o,p,u,e,i,CA hc.1 j,k,t,CA hc.2 A⟩
 | .t2 a b,v,hc,⟨x,y,e,i,j⟩=>by simp only[clean,AS]at hc;exact⟨x,y,e,CA hc.1 i,CA hc.2 j⟩
 | .t3 a b c,v,hc,⟨x,y,z,e,i,j,k⟩=>by simp only[clean,AS]at hc;exact⟨x,y,z,e,CA hc.1 i,CA hc.2.1 j,CA hc.2.2 k⟩
 | .AK f r B,v,hc,⟨m,e,i⟩=>⟨m,e,CA (by trivial) i⟩
 | .vn,_,_,h=>h
 | .vc a r,v,hc,⟨u,m,e,i,j⟩=>by simp only[clean,AS]at hc;exact⟨u,m,e,CA hc.1 i,CA hc.2 j⟩
 | .d _ _,_,_,h=>h
 | .na _,_,_,h=>h
 | .ct _ _,_,_,h=>h
 | .cb _ _,_,_,h=>h
 | .lt _ _ _,_,_,h=>h
 | .lb _,_,_,h=>h
 | .raw _,_,_,h=>h
 | .ud,_,_,h=>h
 | .no,_,_,h=>h
 | .loc _ _,_,_,h=>h
 | .AG _,_,_,h=>h
 | .DU _ _ _ _ _,_,hc,_=>by cases hc
 | .pd _ _ _,_,_,h=>h
 | .mp _,_,_,h=>h
 | .nl,_,_,h=>h
 | .px _ _,_,_,h=>h
 | .Cr _,_,hc,_=>by cases hc
theorem K8(h:clean s=Br):Rv s=Br:=by cases s<;>first|rfl|cases h
theorem Km{v:BU}(h:s.is C η H v):s.is (C++X) η H v:=
 SV.BN.imp (λj v ⟨s,e,h⟩=>⟨s,by grind,h⟩) h
theorem VH{s:SR N.T}{k:Nat}{r:Av}(h:s.is C η H k r):s.is (C++X) η H k r:=by
 cases s with
 |Ah g l=>obtain⟨B,b,c,d,e⟩:=h;exact⟨B,b,c,d,Km e⟩
 |row g t l=>exact h
 |Cr j=>exact h
 |gone=>exact h
 |map g f i l=>exact h
 |Ep _ _ _ _ _=>exact h
def Lo(L:List (Nat×SV N.T)):List (Nat×SP)->List (SV N.T)->List (Nat×SP)×List (SV N.T)
 | [],C=>([],C)
 |q::l,C=>match q.2 with
  | .Ak=>match Ax L q.1 with
   |none=>Lo L l C
   |some (.Cr j)=>((q.1, .c j)::(Lo L l C).1,(Lo L l C).2)
   |some s=>((q.1, .c C.length)::(Lo L l (C++[s])).1,(Lo L l (C++[s])).2)
  |_=>(q::(Lo L l C).1,(Lo L l C).2)
def Lp(O:List (Nat×SR N.T)):List (Nat×RP)->List (SR N.T)->List (Nat×RP)×List (SR N.T)
 | [],CR=>([],CR)
 |q::l,CR=>match q.2 with
  | .c _=>match Ax O q.1 with
   |none=>Lp O l CR
   |some (.Cr j)=>((q.1, .c j)::(Lp O l CR).1,(Lp O l CR).2)
   |some s=>((q.1, .c CR.length)::(Lp O l (CR++[s])).1,(Lp O l (CR++[s])).2)
  |_=>(q::(Lp O l CR).1,(Lp O l CR).2)
def t_(l:List (Nat×SP)):List (Nat×SV N.T):=l.filterMap λq=>match q.2 with
 | .c j=>Ac (q.1, .Cr j)
 |_=>C7
def mT(l:List (Nat×RP)):List (Nat×SR N.T):=l.filterMap λq=>match q.2 with
 | .c j=>Ac (q.1, .Cr j)
 |_=>C7
theorem KA{L:List (Nat×SV N.T)} :∀(l:List (Nat×SP)) (C:List (SV N.T)),(∃X,(Lo L l C).2=C++X)/\∀q∈(Lo L l C).1,∀j,q.2= .c j->q∈l\/Ax L q.1=Ac (.Cr j)\/∃s,Ax L q.1=Ac s/\(Lo L l C).2[j]?=Ac s/\C.length<=j
 | [],C=>⟨⟨[],by simp[Lo]⟩,λq b=>by cases b⟩
 |p::l,C=>by
  unfold Lo;split
  ·split;· obtain⟨f,d⟩:=KA (L:=L) l C;grind
   ·obtain⟨f,d⟩:=KA (L:=L) l C;grind
   ·rename_i s u r;obtain⟨⟨X,g⟩,d⟩:=KA (L:=L) l (C++[s]);refine⟨⟨[s]++X,by grind⟩,λq b j e=>?_⟩;rcases Aay.1 b with rfl|b;· grind
    grind
  ·obtain⟨f,d⟩:=KA (L:=L) l C;grind
theorem KB{O:List (Nat×SR N.T)} :∀(l:List (Nat×RP)) (CR:List (SR N.T)),(∀q∈l,∀j,q.2= .c j->j=0\/True)->(∃X,(Lp O l CR).2=CR++X)/\∀q∈(Lp O l CR).1,∀j,q.2= .c j->Ax O q.1=Ac (.Cr j)\/∃s,Ax O q.1=Ac s/\N' s=Br/\(Lp O l CR).2[j]?=Ac s
 | [],CR,_=>⟨⟨[],by simp[Lp]⟩,λq b=>by cases b⟩
 |p::l,CR,i=>by
  unfold Lp;split
  ·split;
      · exact KB l CR λ_ _ _ _=> .inr trivial
   ·obtain⟨f,d⟩:=KB (O:=O) l CR λ_ _ _ _=> .inr trivial;grind
   ·rename_i s m i;obtain⟨⟨X,h⟩,d⟩:=KB (O:=O) l (CR++[s]) λ_ _ _ _=> .inr trivial;refine⟨⟨[s]++X,by grind⟩,λq b j e=>?_⟩;rcases Aay.1 b with rfl|b
    ·refine .inr ⟨s,i,?_,?_⟩;· cases s with
      |Cr j=>grind
      |_=>rfl
     grind
    grind
  ·rename_i g;obtain⟨f,d⟩:=KB (O:=O) l CR λ_ _ _ _=> .inr trivial;refine⟨f,λq b j e=>?_⟩;rcases Aay.1 b with rfl|b;· exact absurd e (g j)
   ·exact d q b j e
def BO(CR:List (SR N.T)):SR N.T->Bool
 | .Cr j=>Nat.blt j CR.length
 |_=>Br
def cnB(C C':List (SV N.T))(CR:List (SR N.T))(st:St N.T)(kp:List (Nat×SP)):Bool:=((C'.drop C.length).all clean&&(C'.drop C.length).all λs=>s.AJ.all λk=>Nat.blt k st.nk)&&((st.O.all λp=>BO CR p.2)&&kp.all λq=>match q.2 with
 | .c _=>Ap
 |_=>Br)
theorem v8{p:A9}(h:Sat C CR n Of bs st η H a w)(I:WF C CR bs st)(hb:cnB C (Lo st.L p.sl C).2 CR st p.sl=Br):
  Sat (Lo st.L p.sl C).2 (Lp st.O p.ro CR).2 n Of bs ⟨t_ (Lo st.L p.sl C).1++st.L,mT (Lp st.O p.ro CR).1++st.O,st.nk⟩ η H a w/\WF (Lo st.L p.sl C).2 (Lp st.O p.ro CR).2 bs ⟨t_ (Lo st.L p.sl C).1++st.L,mT (Lp st.O p.ro CR).1++st.O,st.nk⟩:=by
 obtain⟨⟨X,K⟩,hS⟩:=KA (L:=st.L) p.sl C;obtain⟨⟨Z,hZ⟩,W⟩:=KB (O:=st.O) p.ro CR λ_ _ _ _=> .inr trivial;unfold cnB at hb;simp only[AS]at hb;obtain⟨⟨b1,b2⟩,b3,b4⟩:=hb;generalize hC':(Lo st.L p.sl C).2=J at K hS b1 b2;generalize hCR':(Lp st.O p.ro CR).2=v at hZ W;have hsl:∀q∈(Lo st.L p.sl C).1,∀j,q.2= .c j->Ax st.L q.1=Ac (.Cr j)\/∃s,Ax st.L q.1=Ac s/\J[j]?=Ac s/\C.length<=j:=λq G j e=>by grind
 have F:∀j s,J[j]?=Ac s->C.length<=j->clean s=Br/\∀k∈s.AJ,k<st.nk:=λj s u hle=>by
  have hm:s∈J.drop C.length:=by grind[List.mem_of_getElem?]
  exact⟨OF.1 b1 s hm,λk d=>by have:=OF.1 (OF.1 b2 s hm) k d;simpa using this⟩
 have D:∀s∈J,(s∈C)\/(clean s=Br/\∀k∈s.AJ,k<st.nk):=λs m=>by
  obtain⟨j,u⟩:=List.mem_iff_getElem?.1 m;by_cases hlt:j<C.length;· grind[List.getElem?_append_left,List.mem_of_getElem?]
  grind
 have P:∀t sv,Ax (t_ (Lo st.L p.sl C).1++st.L) t=Ac sv->Ax st.L t=Ac sv\/∃j s,sv= .Cr j/\Ax st.L t=Ac s/\J[j]?=Ac s/\C.length<=j:=λt sv A=>by
  rw[BQ]at A;cases o:Ax (t_ (Lo st.L p.sl C).1:List (Nat×SV N.T)) t with
  |none=>grind
  |some x=>
   rw[o]at A;obtain⟨q,G,e⟩:=Aeu.1 (A2 o);obtain⟨R,S⟩:=q;cases S with
   |c j=>
    rcases hsl _ G j rfl with h|⟨s,b,z,E⟩;· grind
    grind
   |_=>grind
 have T:∀k B,Al v (mT (Lp st.O p.ro CR).1++st.O) k=Ac B->Al CR st.O k=Ac B:=λk B d=>by
  have Q:∀s,Ax st.O k=Ac s->C2 v s=C2 CR s:=λs m=>by
   cases s with
   |Cr j=>
    have:=OF.1 b3 _ (A2 m);have u:j<CR.length:=by simpa [BO]using this
    simp only[C2];rw[IS,IS,hZ,Aaa u]
   |_=>rfl
  unfold Al at d⊢;rw[BQ]at d;cases o:Ax (mT (Lp st.O p.ro CR).1:List (Nat×SR N.T)) k with
  |none=>
   rw[o]at d;cases m:Ax st.O k with
   |none=>rw[m]at d;cases d
   |some s=>
    rw[m]at d;show Ac (C2 CR s)=Ac B;rw[<-Q s m];exact d
  |some x=>
   rw[o]at d;obtain⟨q,G,e⟩:=Aeu.1 (A2 o);obtain⟨R,S⟩:=q;cases S with
   |c j=>
    cases e;rcases W _ G j rfl with h|⟨s,b,z,E⟩;· rw[h];show Ac (C2 CR (.Cr j))=Ac B;rw[<-Q _ h];exact d
    ·rw[b];show Ac (C2 CR s)=Ac B;rw[I' z];simp only[C2,IS,E,Acm]at d;exact d
   |_=>cases e
 refine⟨⟨h.inv,h.defers,h.size,λt sv A=>?_,h.base,?_⟩,⟨I.lo,λj u=>?_,?_,λk d=>?_,λs m=>?_⟩⟩
 ·rcases P t sv A with b|⟨j,s,rfl,b,z,E⟩;· rw[K];exact Km (h.Bi t sv b)
  ·exact⟨s,z,CA (F j s z E).1 (h.Bi t s b)⟩
 ·obtain⟨Y,g1,g2,g3,g4⟩:=h.own;refine⟨Y,g1,g2,g3,λk B d=>?_⟩;rcases g4 k B (T k B d)with e|⟨x,g5,g6⟩;· exact .inl e
  ·exact .inr ⟨x,g5,by rw[K];exact VH g6⟩
 ·rw[BQ,I.ok j u];cases o:Ax (mT (Lp st.O p.ro CR).1:List (Nat×SR N.T)) j with
  |none=>rfl
  |some x=>
   obtain⟨q,G,e⟩:=Aeu.1 (A2 o);obtain⟨R,S⟩:=q;cases S with
   |c j'=>
    have hn:=I.ok j u;have e1:R=j:=by cases e;rfl
    subst e1;rcases W _ G j' rfl with h|⟨s,b,_⟩;· exact absurd (h.symm.trans hn) (by simp)
    ·exact absurd (b.symm.trans hn) (by simp)
   |_=>cases e
 ·obtain⟨τ,M⟩:=I.wf;refine⟨τ,λt=>?_⟩;have key:∀s:SV N.T,Rv s=Br->DF τ (Al CR st.O) s->DF τ (Al v (mT (Lp st.O p.ro CR).1++st.O)) s:=λs m U=>by
   cases s<;>first|exact U|cases m
  have r:∀s:SV N.T,DF τ (Al CR st.O) s->DF τ (Al v (mT (Lp st.O p.ro CR).1++st.O)) s:=λs U=>by
   cases s with
   |DU k i off t y=>intro g t' l o;exact U g t' l (T k _ o)
   |_=>exact U
  unfold Ck;cases A:Ax (t_ (Lo st.L p.sl C).1++st.L) t with
  |none=>trivial
  |some sv=>
   simp only;rcases P t sv A with b|⟨j,s,rfl,b,z,E⟩;· have f:=M t;unfold Ck at f;rw[b]at f;have f:DF τ (Al CR st.O) (res C sv):=f;cases sv with
    |Cr j=>
     simp only[res]at f⊢;rw[IS]at f⊢;have m:=h.Bi t _ b;obtain⟨s0,V,_⟩:=m;rw[V]at f;rw[K,Aaa (No.1 V).1,V];exact r _ f
    |_=>exact r _ f
   ·simp only[res];rw[IS,z];have f:=M t;unfold Ck at f;rw[b]at f;have hc:=(F j s z E).1;have:res C s=s:=by cases s<;>first|rfl|cases hc
    have f:DF τ (Al CR st.O) (res C s):=f;rw[this]at f;exact r _ f
 ·obtain⟨s,m,d⟩:=Aac.1 d;rcases D s m with b|⟨_,b⟩;· exact I.mC k (Aac.2 ⟨s,b,d⟩)
  ·exact b k d
 ·rcases D s m with b|⟨b,_⟩;· exact I.cP s b
  ·exact K8 b
def Nx(C:List (SV N.T))(m:Nat):SV N.T->SV N.T
 | .Cr j=>match Nat.blt j m with
  |true=> .Cr j
  |false=>match C.getD j .no with
   | .Cr _=> .no
   |s=>s
 | .lf s a l=> .lf s (Nx C m a) (Nx C m l)
 | .t2 a b=> .t2 (Nx C m a) (Nx C m b)
 | .t3 a b c=> .t3 (Nx C m a) (Nx C m b) (Nx C m c)
 | .AK f l d=> .AK f (Nx C m l) d
 | .vc a l=> .vc (Nx C m a) (Nx C m l)
 |s=>s
def uQ(C:List (SV N.T))(CR:List (SR N.T))(m b:Nat):SR N.T->SR N.T
 | .Cr j=>match Nat.blt j b with
  |true=> .Cr j
  |false=>match CR.getD j .gone with
   | .Ah g l=> .Ah g (Nx C m l)
   | .Cr _=> .gone
   |s=>s
 | .Ah g l=> .Ah g (Nx C m l)
 |s=>s
def DJ(C:List (SV N.T))(CR:List (SR N.T))(m b:Nat)(st:St N.T):St N.T:=⟨st.L.map λp=>(p.1,Nx C m p.2),st.O.map λp=>(p.1,uQ C CR m b p.2),st.nk⟩
theorem Ec{X:List (SV N.T)} :∀ {s:SV N.T} {v:BU},s.BN (λj v=> ∃s,(C++X)[j]?=Ac s/\SV.BN (λ_ _=>False) η H s v) η H v->(Nx (C++X) C.length s).BN (λj v=> ∃s,C[j]?=Ac s/\SV.BN (λ_ _=>False) η H s v) η H v
 | .Cr j,v,⟨s,e,h⟩=>by
  unfold Nx;split
  ·have D:j<C.length:=by simp_all
   rw[Aaa D]at e;exact⟨s,e,h⟩
  ·split;· trivial
   grind[SV.BN.imp]
 | .lf s a l,v,⟨p,q,u,g,i,k,m,t,A⟩=>⟨p,q,u,g,i,Ec k,m,t,Ec A⟩
 | .t2 a b,v,⟨x,y,g,i,k⟩=>⟨x,y,g,Ec i,Ec k⟩
 | .t3 a b c,v,⟨x,y,z,g,i,k,m⟩=>⟨x,y,z,g,Ec i,Ec k,Ec m⟩
 | .AK f r F,v,⟨o,g,i⟩=>⟨o,g,Ec i⟩
 | .vn,_,h=>h
 | .vc a r,v,⟨u,o,g,i,k⟩=>⟨u,o,g,Ec i,Ec k⟩
 | .d _ _,_,h=>h
 | .na _,_,h=>h
 | .ct _ _,_,h=>h
 | .cb _ _,_,h=>h
 | .lt _ _ _,_,h=>h
 | .lb _,_,h=>h
 | .raw _,_,h=>h
 | .ud,_,h=>h
 | .no,_,h=>h
 | .loc _ _,_,h=>h
 | .AG _,_,h=>h
 | .DU _ _ _ _ _,_,h=>h
 | .pd _ _ _,_,h=>h
 | .mp _,_,h=>h
 | .nl,_,h=>h
 | .px _ _,_,h=>h
def HC{T:Nat->Type}(m:Nat):SV T->Bool
 | .Cr j=>Nat.blt j m
 | .lf _ a l=>HC m a&&HC m l
 | .t2 a b=>HC m a&&HC m b
 | .t3 a b c=>HC m a&&(HC m b&&HC m c)
 | .AK _ l _=>HC m l
 | .vc a l=>HC m a&&HC m l
 |_=>Br
def Sv(m:Nat):SR T->Bool
 | .Ah _ l=>HC m l
 |_=>Br
theorem Dv{X:List (SV N.T)} :∀ {s:SV N.T} {v:BU},HC C.length s=Br->s.BN (λj v=> ∃s,(C++X)[j]?=Ac s/\SV.BN (λ_ _=>False) η H s v) η H v->s.BN (λj v=> ∃s,C[j]?=Ac s/\SV.BN (λ_ _=>False) η H s v) η H v
 | .Cr j,v,hc,⟨s,e,h⟩=>by
  have B:j<C.length:=by simp_all[HC]
  rw[Aaa B]at e;exact⟨s,e,h⟩
 | .lf s a l,v,hc,⟨p,q,u,g,i,k,m,t,A⟩=>by simp only[HC,AS]at hc;exact⟨p,q,u,g,i,Dv hc.1 k,m,t,Dv hc.2 A⟩
 | .t2 a b,v,hc,⟨x,y,g,i,k⟩=>by simp only[HC,AS]at hc;exact⟨x,y,g,Dv hc.1 i,Dv hc.2 k⟩
 | .t3 a b c,v,hc,⟨x,y,z,g,i,k,m⟩=>by simp only[HC,AS]at hc;exact⟨x,y,z,g,Dv hc.1 i,Dv hc.2.1 k,Dv hc.2.2 m⟩
 | .AK f r D,v,hc,⟨o,g,i⟩=>⟨o,g,Dv (by trivial) i⟩
 | .vn,_,_,h=>h
 | .vc a r,v,hc,⟨u,o,g,i,k⟩=>by simp only[HC,AS]at hc;exact⟨u,o,g,Dv hc.1 i,Dv hc.2 k⟩
 | .d _ _,_,_,h=>h
 | .na _,_,_,h=>h
 | .ct _ _,_,_,h=>h
 | .cb _ _,_,_,h=>h
 | .lt _ _ _,_,_,h=>h
 | .lb _,_,_,h=>h
 | .raw _,_,_,h=>h
 | .ud,_,_,h=>h
 | .no,_,_,h=>h
 | .loc _ _,_,_,h=>h
 | .AG _,_,_,h=>h
 | .DU _ _ _ _ _,_,_,h=>h
 | .pd _ _ _,_,_,h=>h
 | .mp _,_,_,h=>h
 | .nl,_,_,h=>h
 | .px _ _,_,_,h=>h
theorem uP{X:List (SV N.T)}{Z:List (SR N.T)}(h:Sat (C++X) (CR++Z) n Of bs st η H a w)(q:WF (C++X) (CR++Z) bs st)(K:CR.all (Sv C.length)=Br):Sat C CR n Of bs (DJ (C++X) (CR++Z) C.length CR.length st) η H a w/\WF C CR bs (DJ (C++X) (CR++Z) C.length CR.length st):=by
 have R:∀k m,Al CR (DJ (C++X) (CR++Z) C.length CR.length st).O k=Ac m->m= .gone\/∃s0,Al (CR++Z) st.O k=Ac s0/\((m=s0/\Sv C.length s0=Br)\/∃g l,s0= .Ah g l/\m= .Ah g (Nx (C++X) C.length l)):=λk m b=>by
  unfold Al DJ at b;simp only[Ds (uQ (C++X) (CR++Z) C.length CR.length)]at b;unfold Al;cases z:Ax st.O k with
  |none=>grind
  |some s=>
   rw[z]at b;simp only[Adk,Aei]at b;cases s with
   |Ah g l=>subst b;exact .inr ⟨_,rfl, .inr ⟨g,l,rfl,rfl⟩⟩
   |row g t l=>subst b;exact .inr ⟨_,rfl, .inl ⟨rfl,rfl⟩⟩
   |map g kt vt l=>subst b;exact .inr ⟨_,rfl, .inl ⟨rfl,rfl⟩⟩
   |Ep _ _ _ _ _=>subst b;exact .inr ⟨_,rfl, .inl ⟨rfl,rfl⟩⟩
   |gone=>exact .inl b.symm
   |Cr j=>
    simp only[uQ]at b;split at b
    ·have f:j<CR.length:=by simp_all
     subst b;all_goals grind[C2,List.getElem?_append_left,List.getElem?_eq_getElem,List.all_eq_true,List.getElem_mem]
    ·split at b;· rename_i g l e;subst b;refine .inr ⟨_,rfl, .inr ⟨g,l,?_,rfl⟩⟩;trivial
     ·exact .inl b.symm
     ·have:C2 CR (CR++Z |>.getD j .gone)=(CR++Z).getD j .gone:=by
       cases M:(CR++Z).getD j .gone with
       |Cr i=>grind
       |_=>rfl
      rw[this]at b;refine .inr ⟨_,rfl, .inl ⟨b.symm,?_⟩⟩;simp only[C2];cases M:(CR++Z).getD j .gone with
      |Ah g l=>grind
      |_=>rfl
 refine⟨⟨h.inv,h.defers,h.size,λt sv A=>?_,h.base,?_⟩,⟨q.lo,λj f=>?_,?_,λk b=>q.mC k (by grind[CP]),λs v=>q.cP s (AT.2 (.inl v))⟩⟩;· have A:Ax (st.L.map λp=>(p.1,Nx (C++X) C.length p.2)) t=Ac sv:=A;rw[Ds (Nx (C++X) C.length)]at A;obtain⟨s,v,rfl⟩:=Pe.1 A;exact Ec (h.Bi t s v)
 ·obtain⟨
      Y,T,U,V,W⟩:=h.own;refine⟨Y,T,U,V,λk m b=>?_⟩;rcases R k m b with e|⟨s0,u,r⟩;· exact .inl e
  ·rcases W k s0 u with e|⟨x,g5,I⟩
   ·subst e;rcases r with⟨e,_⟩|⟨g,l,e,_⟩;· exact .inl e
    ·cases e
   ·refine .inr ⟨x,g5,?_⟩;rcases r with⟨rfl,hc⟩|⟨g,l,rfl,rfl⟩;· cases m with
     |Ah g l=>
      obtain⟨B,G,D,E,F⟩:=I;exact⟨B,G,D,E,Dv hc F⟩
     |_=>exact I
    ·obtain⟨B,G,D,E,F⟩:=I;exact⟨B,G,D,E,Ec F⟩
 ·show Ax (st.O.map λp=>(p.1,uQ (C++X) (CR++Z) C.length CR.length p.2)) j=C7;rw[Ds (uQ (C++X) (CR++Z) C.length CR.length),q.ok j f];rfl
 ·obtain⟨
      τ,Q⟩:=q.wf;refine⟨τ,λt=>?_⟩;have c:=Q t;unfold Ck at c⊢;have hm:Ax (DJ (C++X) (CR++Z) C.length CR.length st).L t=(Ax st.L t).map (Nx (C++X) C.length):=Ds (Nx (C++X) C.length) st.L t;rw[hm];cases z:Ax st.L t with
  |none=>trivial
  |some s=>
   rw[z]at c;show DF τ _ (res C (Nx (C++X) C.length s));have np:∀s:SV N.T,Rv s=Br->DF τ (Al (CR++Z) st.O) s->DF τ (Al CR (DJ (C++X) (CR++Z) C.length CR.length st).O) s:=λs v hv=>by cases s<;>first|exact hv|cases v
   cases s with
   |Cr j=>
    simp only[res]at c;rw[IS]at c;unfold Nx;split
    ·rename_i J;have f:j<C.length:=by simpa using J
     simp only[res];rw[Aaa f]at c;rw[IS];cases hc:C[j]? with
     |none=>trivial
     |some s0=>
      rw[hc]at c;exact np s0 (q.cP s0 (AT.2 (.inl (Aai hc)))) c
    ·split;
        · trivial
     ·rename_i o;rw[IS]at o⊢;cases hc:(C++X)[j]? with
      |none=>trivial
      |some s0=>
       rw[hc]at c o;have hr:res C s0=s0:=by
        cases s0 with
        |Cr i=>exact absurd rfl (o i)
        |_=>rfl
       show DF τ _ (res C s0);rw[hr];exact np s0 (q.cP s0 (Aai hc)) c
   |DU k i off te y=>
    intro S t' l' P;rcases R k _ P with e|⟨s0,u,r⟩;· cases e
    ·rcases r with⟨e,_⟩|⟨_,_,_,e⟩;· exact c S t' l' (by rw[u,<-e])
     ·cases e
   |_=>exact c
end
end
section
variable {N : C6} {C : List (SV N.T)} {CR : List (SR N.T)} {n : Nat} {Of : Fm} {bs : List (Nat × BU)} {st : St N.T} {η : Nat -> BU} {H : Hp} {a : Act} {w : GD}
def fR:List (Nat×SP)->SV N.T->List (SV N.T)->Option (List (Nat×SP)×(SV N.T×List (SV N.T)))
 | [],b,C=>Ac ([],(b,C))
 |(s,q)::e,b,C=>match b with
  | .lf d x r=>match Nat.beq s d with
   |true=>match q with
    | .Ak=>match x with
     | .Cr j=>(fR e r C).map λp=>((s, .c j)::p.1,(.lf d (.Cr j) p.2.1,p.2.2))
     |x=>(fR e r (C++[x])).map λp=>((s, .c C.length)::p.1,(.lf d (.Cr C.length) p.2.1,p.2.2))
    |q=>(fR e r C).map λp=>((s,q)::p.1,(.lf d x p.2.1,p.2.2))
   |false=>C7
  |_=>C7
theorem E3:∀ {ls d:List (Nat×SP)} {b b':SV N.T} {C C':List (SV N.T)},fR ls b C=Ac (d,(b',C'))->∃X,C'=C++X
 | [],_,_,_,_,_,h=>by cases h;simp
 |(s,q)::ls,_,b,_,C,_,h=>by
  unfold fR at h;split at h
  ·split at h
   ·split at h
    ·split at h;· obtain⟨p,c,e⟩:=Pe.1 h;cases e;exact E3 c
     ·obtain⟨p,c,e⟩:=Pe.1 h;cases e;obtain⟨X,f⟩:=E3 c;exact⟨[_]++X,by rw[f,Aam]⟩
    ·obtain⟨p,c,e⟩:=Pe.1 h;cases e;exact E3 c
   grind
  grind
theorem PK{g:Nat} :∀ {ls E:List (Nat×SP)} {b b':SV N.T} {C C':List (SV N.T)} {v:BU},fR ls b C=Ac (E,(b',C'))->((C'.drop g).all clean)=Br->g<=C.length->b.is C η H v->b'.is C' η H v
 | [],_,_,_,_,_,_,h,_,_,B=>by cases h;omega
 |(s,q)::ls,_,b,_,C,C',v,h,hc,F,B=>by
  unfold fR at h;split at h
  ·rename_i I x r;split at h
   ·split at h
    ·split at h;· rename_i j;obtain⟨p,d,e⟩:=Pe.1 h;cases e;obtain⟨X,A⟩:=E3 d;obtain⟨f,k,u,l,m,o,t,y,z⟩:=B;exact⟨f,k,u,l,m,by rw[A];exact Km (s:= .Cr j) o,t,y,PK d hc F z⟩
     ·obtain⟨p,d,e⟩:=Pe.1 h;cases e;obtain⟨X,A⟩:=E3 d;obtain⟨f,k,u,l,m,o,t,y,z⟩:=B;have c:p.2.2[C.length]?=Ac x:=by simp_all
      have D:clean x=Br:=by refine OF.1 hc x (Aai (i:=C.length-g) ?_);rw[Afk,show g+(C.length-g)=C.length by omega];exact c
      exact⟨f,k,u,l,m,⟨x,c,CA D o⟩,t,y,PK d hc (by simp;omega) (Km z)⟩
    ·obtain⟨p,d,e⟩:=Pe.1 h;cases e;obtain⟨X,A⟩:=E3 d;obtain⟨f,k,u,l,m,o,t,y,z⟩:=B;exact⟨f,k,u,l,m,by rw[A];exact Km o,t,y,PK d hc F z⟩
   grind
  grind
def klB(C C':List (SV N.T))(nk:Nat):Bool:=(C'.drop C.length).all clean&&(C'.drop C.length).all λs=>s.AJ.all λk=>Nat.blt k nk
theorem pV{k:Nat}{g:Ee}{b b':SV N.T}{ls F:List (Nat×SP)}{C':List (SV N.T)}(h:Sat C CR n Of bs st η H a w)(p:WF C CR bs st)(r:Ax st.O k=Ac (.Ah g b))(I:fR ls b C=Ac (F,(b',C')))(q:klB C C' st.nk=Br):
  Sat C' CR n Of bs ⟨st.L,(k, .Ah g b')::st.O,st.nk⟩ η H a w/\WF C' CR bs ⟨st.L,(k, .Ah g b')::st.O,st.nk⟩:=by
 obtain⟨X,o⟩:=E3 I;unfold klB at q;rw[AS]at q;have m:∀s∈X,clean s=Br/\∀k∈s.AJ,k<st.nk:=λs c=>by
  have J:s∈C'.drop C.length:=by grind
  exact⟨OF.1 q.1 s J,λk r=>by have:=OF.1 (OF.1 q.2 s J) k r;simp_all⟩
 have z:Al CR st.O k=Ac (.Ah g b):=by unfold Al;rw[r];rfl
 have hkn:k<st.nk:=Abz λA=>by rw[p.ok k A]at r;grind
 have K:∀j,Al CR ((k, .Ah g b')::st.O) j=match Nat.beq k j with|true=>Ac (.Ah g b')|false=>Al CR st.O j:=λj=>by unfold Al;simp only[Ax];cases Nat.beq k j<;>rfl
 refine⟨⟨h.inv,h.defers,h.size,λt sv D=>by rw[o];exact Km (h.Bi t sv D),h.base,?_⟩,⟨p.lo,λj d=>?_,?_,λj d=>?_,λs c=>?_⟩⟩
 ·obtain⟨Y,T,U,V,G⟩:=h.own;refine⟨Y,T,U,V,λj L d=>?_⟩;have f:Al CR ((k, .Ah g b')::st.O) j=Ac L:=d;rw[K j]at f;split at f
  ·rename_i Z;have:=AI Z;subst this;cases f;rcases G k _ z with e|⟨x,u,B,M,P,Q,R⟩;· cases e
   ·exact .inr ⟨x,u,B,M,P,Q,PK I q.1 (Aad _) R⟩
  ·exact(G j L f).imp id λ⟨x,u,W⟩=>⟨x,u,by rw[o];exact VH W⟩
 ·have d:st.nk<=j:=d;rw[A6 (by omega)];exact p.ok j d
 ·obtain⟨τ,E⟩:=p.wf;refine⟨τ,λt=>?_⟩;have v:=E t;have e:Ck C' st.L t=Ck C st.L t:=by
   unfold Ck;cases D:Ax st.L t with
   |none=>rfl
   |some s=>
    cases s with
    |Cr j=>
     obtain⟨s0,O,_⟩:=h.Bi t _ D;simp only[res];rw[IS,IS,o,Aaa (No.1 O).1]
    |_=>rfl
  show DF τ (Al CR ((k, .Ah g b')::st.O)) (Ck C' st.L t);rw[e];generalize Ck C st.L t=sv at v;cases sv with
  |DU j i off te y=>
   intro S t' l' l;rw[K j]at l;split at l;· cases l
   ·exact v S t' l' l
  |_=>exact v
 ·obtain⟨s,c,d⟩:=Aac.1 d;rw[o]at c;rcases AT.1 c with c|c;· exact p.mC j (Aac.2 ⟨s,c,d⟩)
  ·exact(m s c).2 j d
 ·rw[o]at c;rcases AT.1 c with c|c;· exact p.cP s c
  ·exact K8 (m s c).1
def vH:List (Nat×SP)->Bool
 | []=>Ap
 |(_, .Ak)::_=>Br
 |_::l=>vH l
def pU:List (Nat×RP)->List (SV N.T)->St N.T->Option (List (Nat×RP)×(St N.T×List (SV N.T)))
 | [],C,st=>Ac ([],(st,C))
 |q::l,C,st=>match q.2 with
  | .Ah g e=>match vH e with
   |true=>match Ax st.O q.1 with
    |some (.Ah h b)=>match fR e b C with
     |some (c,(f,d))=>match klB C d st.nk with
      |true=>(pU l d ⟨st.L,(q.1, .Ah h f)::st.O,st.nk⟩).map λp=>((q.1, .Ah g c)::p.1,p.2)
      |false=>C7
     |none=>C7
    |_=>C7
   |false=>(pU l C st).map λp=>(q::p.1,p.2)
  |_=>(pU l C st).map λp=>(q::p.1,p.2)
theorem TX:∀ {l ro:List (Nat×RP)} {C C':List (SV N.T)} {st d:St N.T},pU l C st=Ac (ro,(d,C'))->Sat C CR n Of bs st η H a w->WF C CR bs st->(∃X,C'=C++X)/\Sat C' CR n Of bs d η H a w/\WF C' CR bs d
 | [],_,_,_,_,_,h,g,i=>by cases h;simp_all
 |q::l,ro,C,C',st,d,h,g,i=>by
  have f:(pU l C st).map (λp=>(q::p.1,p.2))=Ac (ro,(d,C'))->(∃X,C'=C++X)/\Sat C' CR n Of bs d η H a w/\WF C' CR bs d:=λh=>by obtain⟨⟨r,s,c⟩,j,e⟩:=Pe.1 h;cases e;exact TX j g i
  unfold pU at h;split at h
  ·split at h
   ·split at h
    ·rename_i D b y;split at h
     ·rename_i z B A k;split at h;· rename_i x;obtain⟨⟨r,s,c⟩,j,e⟩:=Pe.1 h;cases e;obtain⟨m,o⟩:=pV g i y k x;obtain⟨⟨Y,v⟩,t⟩:=TX j m o;obtain⟨X,u⟩:=E3 k;exact⟨⟨X++Y,by rw[v,u,Aam]⟩,t⟩
      ·cases h
     ·cases h
    ·cases h
   grind
  grind
end
section
variable{w:GD}{P:Ge}{g:Dc}{ps:Array Tmp}{assign b:Code}{Q:Exit->Act->GD->Prop}{a:Act}{f:FuncId}{us caps:List BU}{H:Hp}{A O:List Av}
abbrev Ef(D:Nat):Deferred:= {target:= .collected D,args:= #[]}
abbrev BB(D:Nat):Av:= .Ah D (.deferred (Ac []))
def PB(O:List Av)(M:List Nat):Fm:=⟨M.map BB++O,M.map Ef⟩
def KV(D:Nat)(Of:Fm):Fm:=⟨BB D::Of.O,Ef D::Of.ds⟩
abbrev Bf(fn:FuncId)(tmps:Array BU)(ps:Array Tmp)(assign body:Code)(D:Nat):Loop:= {state:= .ready,pending:=C7,fn,tmps,params:=ps,assign,body,defers:=D}
theorem Wz(m:a.eval g= .func (.func f) us.toArray caps.toArray)(d:QF P f)
  (h:∀fn,Calls P f (us++[BU.func (.yield (w.heap.size+1)) #[] #[]]++caps).toArray ((w.alloc (.deferred (Ac []))).alloc (.loop (Bf fn a.tmps ps assign b w.heap.size))) (λe w'=> ∃v,e= .returned v/\w'.heap[w.heap.size+1]?=Ac (.loop (Bf fn a.tmps ps assign b w.heap.size))/\
   Q .normal {a with defers:=Ef w.heap.size::a.defers} (w'.putObj (w.heap.size+1) (.loop {Bf fn a.tmps ps assign b w.heap.size with state:= .exhausted})))):(Code.rangeFunc g ps assign b).wp P Q a w:=by
 refine(wpIn_wide (n:=0)).1 (wpIn_rangeFunc λfn _=>?_);refine⟨w.heap.size+1,[Ef w.heap.size],(w.alloc (.deferred (Ac []))).alloc (.loop (Bf fn a.tmps ps assign b w.heap.size)),⟨.fn (.func f) caps.toArray,us.toArray++ #[BU.func (.yield (w.heap.size+1)) #[] #[]]⟩,(w.alloc (.deferred (Ac []))).alloc (.loop (Bf fn a.tmps ps assign b w.heap.size)),f,(us++[BU.func (.yield (w.heap.size+1)) #[] #[]]++caps).toArray,(w.alloc (.deferred (Ac []))).alloc (.loop (Bf fn a.tmps ps assign b w.heap.size)),?_,?_,?_,?_,?_,?_⟩;· simp_all[run_enterLoop_outer]
 ·have:a.eval (.const (BU.func (.yield (w.heap.size+1)) #[] #[]))=BU.func (.yield (w.heap.size+1)) #[] #[]:=rfl;simp_all[resolve,Deferred.ofValue]
 ·exact λ_ _=>trivial
 ·have:=d.run (us++[BU.func (.yield (w.heap.size+1)) #[] #[]]++caps).toArray ((w.alloc (.deferred (Ac []))).alloc (.loop (Bf fn a.tmps ps assign b w.heap.size)));grind[invoke]
 ·trivial
 ·refine callsIn_wide.2 ((h fn).mono ?_);rintro e w' ⟨v,rfl,k,l⟩;exact⟨C7,_,by simp_all[run_endLoop],l⟩
theorem Wy(r:a.eval g= .func (.func f) us.toArray caps.toArray)(l:QF P f)
  (h:∀fn,Calls P f (us++[BU.func (.yield (w.heap.size+1)) #[] #[]]++caps).toArray ((w.alloc (.deferred (Ac []))).alloc (.loop (Bf fn a.tmps ps assign b w.heap.size))) (λe w'=> ∃v d,e= .returned v/\w'.heap[w.heap.size+1]?=Ac (.loop d)/\d.state≠ .busy/\
   (
    match d.pending with
    |none=>Q .normal {a with defers:=Ef w.heap.size::a.defers} (w'.putObj (w.heap.size+1) (.loop {d with state:= .exhausted}))
    |some c=>c.wp P Q {a with defers:=Ef w.heap.size::a.defers} (w'.putObj (w.heap.size+1) (.loop {d with state:= .exhausted}))))):(Code.rangeFunc g ps assign b).wp P Q a w:=by
 refine(wpIn_wide (n:=0)).1 (wpIn_rangeFunc λfn _=>?_);refine⟨w.heap.size+1,[Ef w.heap.size],(w.alloc (.deferred (Ac []))).alloc (.loop (Bf fn a.tmps ps assign b w.heap.size)),⟨.fn (.func f) caps.toArray,us.toArray++ #[BU.func (.yield (w.heap.size+1)) #[] #[]]⟩,(w.alloc (.deferred (Ac []))).alloc (.loop (Bf fn a.tmps ps assign b w.heap.size)),f,(us++[BU.func (.yield (w.heap.size+1)) #[] #[]]++caps).toArray,(w.alloc (.deferred (Ac []))).alloc (.loop (Bf fn a.tmps ps assign b w.heap.size)),?_,?_,?_,?_,?_,?_⟩;· simp_all[run_enterLoop_outer]
 ·have:a.eval (.const (BU.func (.yield (w.heap.size+1)) #[] #[]))=BU.func (.yield (w.heap.size+1)) #[] #[]:=rfl;simp_all[resolve,Deferred.ofValue]
 ·exact λ_ _=>trivial
 ·have:=l.run (us++[BU.func (.yield (w.heap.size+1)) #[] #[]]++caps).toArray ((w.alloc (.deferred (Ac []))).alloc (.loop (Bf fn a.tmps ps assign b w.heap.size)));grind[invoke]
 ·trivial
 ·refine callsIn_wide.2 ((h fn).mono ?_);rintro e w' ⟨v,d,rfl,p,q,m⟩;refine⟨d.pending,_,run_endLoop (P:=P) p q,?_⟩;obtain⟨st,s,o,y,x,aS,t,u⟩:=d;cases s with
  |none=>exact m
  |some c=>exact wpIn_wide.2 m
theorem Je(w:GD)(b:Nat)(o:Obj):w.grownBy (w.putObj b o) (Ac b):=⟨rfl,rfl,rfl,by simp,λk _ a=>GD.putObj_heap_other (λe=>by grind)⟩
theorem Agw{b:Nat}{o:Obj}(h:SH w H (A++ .Ah b o::O))(o':Obj):SH (w.putObj b o') H (A++O):=by
 have g:(A++ .Ah b o::O)[A.length]?=Ac (.Ah b o):=by simp
 have j:w.heap[b]?=Ac o:=h.ok _ _ g;have d:b<w.heap.size:=(Acy.1 j).1;have i:=h.set g (r':= .Ah b o') (Je w b o') (GD.putObj_heap_same d) (λc hc=> .inl hc);have f:=i.drop A.length;grind
theorem Ahw{x y:Av}(h:SH w H (x::y::(A++O))):SH w H (A++x::y::O):=by
 refine h.pick (λi=>if i<A.length then i+2 else if i<A.length+2 then i-A.length else i) (λi r a=>?_) λi j _ _ e=>?_
 ·by_cases b:i<A.length;· simp_all[if_true,Aaa,Adg]
  ·rw[Aab (by omega)]at a;simp only[b,if_false];by_cases c:i<A.length+2;· grind
   ·simp only[c,if_false];obtain⟨j,rfl⟩:∃j,i=A.length+2+j:=⟨i-(A.length+2),by omega⟩;rw[show A.length+2+j-A.length=j+2 by omega]at a;rw[show A.length+2+j=(A.length+j)+2 by omega];simp_all[Adg,Aab]
 grind
end
section
variable {N : C6} {R : Type} {P : Ge} [CC N P] {C : List (SV N.T)} {CR : List (SR N.T)} {n : Nat} {O : List Av} {bs : List (Nat × BU)} {r : R}
section
variable{H:Hp}{st:St N.T}{η:Nat->BU}{fn:Func}
def Fi(l:SV N.T)(cs:List Nat):List (SV N.T):=Sz l++[.no]++cs.map (λc=> .loc c 0)
def n7(C:List (SV N.T))(CR:List (SR N.T))(n:Nat)(st:St N.T)(a:List (SV N.T))(cs:List Nat)(kn:St N.T->Option R):List (PQ N)->Option R
 | []=>C7
 |q::c=>match Wc C (Al CR st.O) st.nk q a cs (λs b=>match G3 CR n st C7 s b with|true=>kn (app st C7 s b)|false=>C7)with
  |some z=>z
  |none=>n7 C CR n st a cs kn c
def n9(Φ:Nat->Option (CQ N))(C:List (SV N.T))(CR:List (SR N.T))(n:Nat)(g:Dc)(st:St N.T)(kn:St N.T->Option R):Option R:=match Ay (Ck C st.L) g with
 | .AK f l a=>match ua l&&a.all λc=>match Al CR st.O c with|some (.Ah _ _)=>Br|_=>Ap with
  |true=>match Φ f with
   |some (.Ro b)=>n7 C CR n st (Fi l a) a kn b
   |_=>C7
  |false=>C7
 |_=>C7
theorem eL{Φ:Nat->Option (CQ N)}(hΦ:∀f q,Φ f=Ac q->Bm P f q){g:Dc}{ps:Array Tmp}{assign d:Code}{kn:St N.T->Option R}{Of:Fm}{a:Act}{w:GD}{Q:Exit->Act->GD->Prop}
  (h:Sat C CR n Of bs st η H a w) (hw:WF C CR bs st) (o:n9 Φ C CR n g st kn=Ac r)
  (hn:∀D I η' L a' w',H.le L->Sat C CR n (KV D Of) bs I η' L a' w'->WF C CR bs I->kn I=Ac r->Q .normal a' w'):(Code.rangeFunc g ps assign d).wp P Q a w:=by
 unfold n9 at o;split at o
 ·rename_i f l G hs;
           split at o
  ·rename_i hb;
         rw[AS]at hb;split at o;· rename_i qs hq;have hS:∀q∈qs,Dx P f q:=hΦ f _ hq;clear hq;have hg:=h.ev g;rw[hs]at hg;obtain⟨us,e,hl⟩:=hg;obtain⟨g1,g2⟩:=M6 hb.1 hl;induction qs with
    |nil=>cases o
    |cons q qs ih=>
     unfold n7 at o;split at o
     ·rename_i z E;subst o;unfold Wc at E;simp only at E;split at E
      ·rename_i m;simp only[AS]at m;split at E
       ·rename_i x hx;obtain⟨y,hy,E⟩:=Bp (Abo E);have W:=hS q (by simp);obtain⟨c1,c2⟩:=Na (P:=P) (f:=f) (ex:=G) W m.2.2.1 m.2.2.2 (AI m.1) (λp hp=>by simpa using OF.1 m.2.1 p hp) hx hy (λj hj=>by unfold Al;rw[hw.ok j hj]);split at E
        ·rename_i hsb;have hW:O6 C CR n st C7 ⟨(Ja q y).DA (GM (G9 C (Al CR st.O) (λi=>(Fi l G).getD i .no) q.pi) q.pi.nk st.nk),q.pi.ro.map (λp=>AV (G9 C (Al CR st.O) (λi=>(Fi l G).getD i .no) q.pi) p.1)++G,O9 q (GM (G9 C (Al CR st.O) (λi=>(Fi l G).getD i .no) q.pi) q.pi.nk st.nk) y⟩ (st.nk+(q.po.nk-q.pi.nk)):=⟨hsb,Nat.le_add_right _ _,c2,λτ _=>U7 m.2.2.2⟩;refine Wz (us:=us) (caps:=G.map η) e W.Uc λfn=>?_;have hw1:SH ((w.alloc (.deferred (Ac []))).alloc (.loop (Bf fn a.tmps ps assign d w.heap.size))) H (.Ah (w.heap.size+1) (.loop (Bf fn a.tmps ps assign d w.heap.size))::BB w.heap.size::(h.own.choose.map (·.2)++Of.O)):=by
          have:=(h.own.choose_spec.2.1.alloc (.deferred (Ac []))).alloc (.loop (Bf fn a.tmps ps assign d w.heap.size));simpa using this
         have T:Sat C CR n ⟨.Ah (w.heap.size+1) (.loop (Bf fn a.tmps ps assign d w.heap.size))::BB w.heap.size::Of.O,Of.ds⟩ bs st η H a ((w.alloc (.deferred (Ac []))).alloc (.loop (Bf fn a.tmps ps assign d w.heap.size))):=
          ⟨h.inv,h.defers,h.size,h.Bi,h.base,h.own.choose,h.own.choose_spec.1,Ahw hw1,h.own.choose_spec.2.2.1,h.own.choose_spec.2.2.2⟩;refine T.stepG hw hW (goal:=Calls P f _ _ _) (K:=λv w'=>(w'.heap[w.heap.size+1]?=Ac (.loop (Bf fn a.tmps ps assign d w.heap.size))/\Q .normal {a with defers:=Ef w.heap.size::a.defers} (w'.putObj (w.heap.size+1) (.loop {Bf fn a.tmps ps assign d w.heap.size with state:= .exhausted})))) (λY hn' hsh hr hf hk=>?_) λη' L v w' hle u=>?_
         ·refine c1 η H _ _ Y hn' hsh h.inv hr hf (us++[BU.func (.yield (w.heap.size+1)) #[] #[]]++G.map η) (by simp[Fi,g1]) (λi s t=>?_) _ _ (λO' R' ht U hk'=>?_) hk
          ·unfold Fi at t;rw[Aam]at t⊢;by_cases c1':i<(Sz l).length;· rw[Aaa c1']at t;rw[Aaa (by omega)];exact g2 i s t
           ·rw[Aab (by omega)]at t;rw[Aab (by omega),g1];generalize hj:i-(Sz l).length=j at t⊢;cases j with
            |zero=>
             simp at t;subst t;exact⟨_,rfl,trivial⟩
            |succ j=>
             simp only[Adt,Abp,Adg,Abx]at t⊢;obtain⟨c,hc,rfl⟩:=Pe.1 t;have S:=Aai hc;have M:=OF.1 hb.2 c S;refine⟨η c,by rw[hc];rfl,?_⟩;split at M
             ·rename_i g' b hR;rcases hr c (.inl (Acf _ S)) _ hR with e|⟨X,_,B,_,b1,_⟩;· cases e
              ·exact⟨B,b1,b1⟩
             ·cases M
          ·refine(ht _ U).mono ?_;rintro e' w' ⟨v,L,O2,rfl,k2,k3,k4⟩;obtain⟨q1,q2⟩:=hk' v w' L O2 k2 k4 k3;exact⟨v,rfl,q1,q2⟩
         ·obtain⟨Z,y1,y2,y3,y4⟩:=u.own;have t:(Z.map (·.2)++Av.Ah (w.heap.size+1) (.loop (Bf fn a.tmps ps assign d w.heap.size))::BB w.heap.size::Of.O)[(Z.map (·.2)).length]?=Ac (.Ah (w.heap.size+1) (.loop (Bf fn a.tmps ps assign d w.heap.size))):=by simp
          have hob:w'.heap[w.heap.size+1]?=Ac (.loop (Bf fn a.tmps ps assign d w.heap.size)):=y2.ok _ _ t;refine⟨hob,?_⟩;have V:=Agw (A:=Z.map (·.2)) y2 (.loop {Bf fn a.tmps ps assign d w.heap.size with state:= .exhausted});refine hn w.heap.size _ η' L _ _ hle ⟨u.inv,?_,u.size,u.Bi,u.base,Z,y1,V,y3,y4⟩ (hw.UX hW) E;show Ef w.heap.size::a.defers=Ef w.heap.size::Of.ds;rw[h.defers]
        ·cases E
       trivial
      grind
     grind
   grind
  grind
 grind
theorem Hb{fn:Func}{st:St N.T}{η:Nat->BU}{H:Hp}{X:Ending->GD->Prop} :∀ {M:List Nat} {a:Act} {w:GD},Sat C CR n (PB O M) bs st η H a w->
  (∀w',Sat C CR n (PB O []) bs st η H {a with defers:=[]} w'->∃v,(results fn a.tmps).run P w'= .ok v w'/\X (.returned v) w')->LeavesInM Fence.wide 0 P fn a.tmps X (M.map Ef) .returning w
 | [],a,w,h,k=>(λ(_:CC N P)=>k w ⟨h.inv,rfl,h.size,h.Bi,h.base,h.own⟩) inferInstance
 |D::M,a,w,h,k=>by
  obtain⟨Y,i,j,l,m⟩:=h.own;have c:SH w H (Y.map (·.2)++Av.Ah D (.deferred (Ac []))::(PB O M).O):=j;have f:(Y.map (·.2)++Av.Ah D (.deferred (Ac []))::(PB O M).O)[(Y.map (·.2)).length]?=Ac (.Ah D (.deferred (Ac []))):=by simp
  have g:w.heap[D]?=Ac (.deferred (Ac [])):=c.ok _ _ f;refine⟨by simp, .inl ⟨D,_,rfl,run_takeDeferred g,?_⟩⟩;have e:=Agw c (.deferred C7);exact Hb (a:= {a with defers:=M.map Ef}) ⟨h.inv,rfl,h.size,h.Bi,h.base,Y,i,e,l,m⟩ k
theorem O5.ofM{f:FuncId}{c:Code}{vs:List BU}{R:BU->Hp->List Av->Prop}(e:P.funcs[f]?=Ac fn)(d:fn.body=Ac c)(g:fn.ntmps=n)(b:Nat.ble vs.length n=Br)
  (h:∀a w,Fr a n (Ib 0 vs)->SH w H O->c.wp P (bodyPostM Fence.wide 0 P fn (zj H R)) a w):O5 P f vs H O R:=λw i=>by
 subst g;exact(callsIn_wide (n:=0)).1 (callsIn_of_wp_marks e d trivial ((wpIn_wide (n:=0)).2 (h _ w (Fr.enter vs _ b) i)) rfl)
end
end
inductive Gh where
 |fz (t:Nat)
 |own (t:Nat) (g:Ee) (te:Ty)
 |PZ (t off:Nat)
 |Ed (t off:Nat) (g:Ee) (te:Ty)
 |fm (t:Nat) (e:Ee)
structure Cx(N:C6)where
 P:Ge
 Φ:Nat->Option (CQ N)
 la:Nat->Option A9
 jn:Nat->Option A9
 pre:Nat->List Gh
 post:Nat->List Gh
 kb:Nat
 n:Nat
 ct:Nat->Nat:=λ_=>0
def Ll:Code->Option Nat
 | .region i _ _=>Ac i
 | .seq a b=>match Ll a with
  |some i=>Ac i
  |none=>Ll b
 | .cond _ a b=>match Ll a with
  |some i=>Ac i
  |none=>Ll b
 | .block _ a=>Ll a
 | .loop a=>Ll a
 | .scope a=>Ll a
 | .rangeFunc _ _ a b=>match Ll a with
  |some i=>Ac i
  |none=>Ll b
 |_=>C7
section
variable {N : C6} {R : Type}
def PV(C:List (SV N.T))(CR:List (SR N.T)):List Gh->St N.T->(St N.T->Option R)->Option R
 | [],st,k=>k st
 | .fz t::l,st,k=>match Ck C st.L t with
  | .AG j=>match Al CR st.O j with
   |some (.row _ a c)=>PV C CR l (Jx j a c st) k
   |some (.Ep _ _ a _ c)=>Af (c.all (·.1)=Br) (PV C CR l (Jx j (.sl a) (c.map (·.2)) st) k)
   |_=>C7
  | .d _ _=>PV C CR l st k
  |_=>C7
 | .own t g a::l,st,k=>match Ck C st.L t with
  | .AG _=>PV C CR l st k
  | .raw (.slice C7 0 0)=>match CV CR st st.nk with
   |true=>PV C CR l ⟨(t, .AG st.nk)::st.L,(st.nk, .row g a [])::st.O,st.nk+1⟩ k
   |false=>C7
  |_=>C7
 | .PZ t off::l,st,k=>match Ck C st.L t with
  | .loc b _=>match Al CR st.O b with
   |some (.Ah _ x)=>match Ez N C x off C7 with
    |some (.AG j)=>match Al CR st.O j with
     |some (.row _ a c)=>PV C CR l (Jx j a c st) k
     |_=>C7
    |_=>C7
   |_=>C7
  |_=>C7
 | .Ed t off g a::l,st,k=>match Ck C st.L t with
  | .loc b _=>match Al CR st.O b with
   |some (.Ah i x)=>match Ez N C x off C7,CV CR st st.nk,dL N C 64 x off 1 (.AG st.nk)with
    |some (.raw (.slice C7 0 0)),Br,Ac m=>PV C CR l ⟨st.L,(b, .Ah i m)::(st.nk, .row g a [])::st.O,st.nk+1⟩ k
    |_,_,_=>C7
   |_=>C7
  |_=>C7
 | .fm t e::l,st,k=>match Ck C st.L t with
  | .AG b=>match Al CR st.O b,CV CR st st.nk with
   |some (.row g (.sl a) c),Br=>PV C CR l ⟨st.L,(b, .Ep g e a st.nk (List.replicate c.length (Ap,[])))::(st.nk, .gone)::st.O,st.nk+1⟩ k
   |_,_=>C7
  |_=>C7
variable {P : Ge} [CC N P] {C : List (SV N.T)} {CR : List (SR N.T)} {n : Nat} {Of : Fm} {O : List Av} {bs : List (Nat × BU)} {r : R}
theorem Fk{a:Act}{w:GD}{k:St N.T->Option R}{X:Prop} :∀ {l:List Gh} {st:St N.T} {η:Nat->BU} {H:Hp},Sat C CR n Of bs st η H a w->WF C CR bs st->PV C CR l st k=Ac r->
  (∀c η' u,H.le u->Sat C CR n Of bs c η' u a w->WF C CR bs c->k c=Ac r->X)->X
 | [],st,η,H,h,f,b,d=>d st η H (Hp.le.refl H) h f b
 | .fz t::l,st,η,H,h,f,b,d=>by
  unfold PV at b;split at b
  ·split at b;· rename_i g s D m;obtain⟨u,A,o,p⟩:=R3 h f m;exact Fk o p b λc η' i q v y z=>d c η' i (A.trans q) v y z
   ·rename_i g J s Q D m;obtain⟨hc,b⟩:=AQ b;obtain⟨u,A,o,p⟩:=qm h f m hc;exact Fk o p b λc η' i q v y z=>d c η' i (A.trans q) v y z
   grind
  ·exact Fk h f b d
  grind
 | .own t g s::l,st,η,H,h,f,b,d=>by
  unfold PV at b;split at b;· exact Fk h f b d
  ·rename_i e;split at b;· rename_i m;obtain⟨η',o,p⟩:=og (g:=g) (t:=s) h f m e;exact Fk o p b d
   ·cases b
  grind
 | .PZ t off::l,st,η,H,h,f,b,d=>by
  unfold PV at b;split at b
  ·split at b
   ·split at b
    ·split at b;· rename_i g s D m;obtain⟨u,A,o,p⟩:=R3 h f m;exact Fk o p b λc η' i q v y z=>d c η' i (A.trans q) v y z
     ·cases b
    ·cases b
   ·cases b
  ·cases b
 | .Ed t off g s::l,st,η,H,h,f,b,d=>by
  unfold PV at b;split at b
  ·split at b
   ·rename_i M x I;split at b;· rename_i S B m F;obtain⟨η',o,p⟩:=eY (g:=g) (t:=s) h f m I B F rfl;exact Fk o p b d
    ·cases b
   ·cases b
  ·cases b
 | .fm t e::l,st,η,H,h,f,b,d=>by
  unfold PV at b;split at b
  ·split at b;· rename_i g s D B m;obtain⟨η',o,p⟩:=vP (e:=e) h f m B;exact Fk o p b d
   ·cases b
  ·cases b
def v_(C:List (SV N.T))(st:St N.T)(p:A9):List (SV N.T):=(Lo st.L p.sl C).2
def gX(CR:List (SR N.T))(st:St N.T)(p:A9):List (SR N.T):=(Lp st.O p.ro CR).2
def qP(C:List (SV N.T))(CR:List (SR N.T))(st:St N.T)(p:A9):St N.T:=⟨t_ (Lo st.L p.sl C).1++st.L,mT (Lp st.O p.ro CR).1++st.O,st.nk⟩
def cnK(C:List (SV N.T))(CR:List (SR N.T))(st:St N.T)(p:A9):Bool:=cnB C (v_ C st p) CR st p.sl&&CR.all (Sv C.length)
structure Kc(T:Nat->Type)where
 sl:List (Nat×SP)
 ro:List (Nat×RP)
 C:List (SV T)
 CR:List (SR T)
 st:St T
section
variable{H:Hp}{st:St N.T}{η:Nat->BU}{a:Act}{w:GD}{p:A9}{C':List (SV N.T)}{b:List (SR N.T)}{G:Hp->Fm->R->Prop}{k:St N.T->Option R}{Q:Act->GD->Prop}
def vz(C:List (SV N.T))(CR:List (SR N.T))(st:St N.T)(p:A9):Option (Kc N.T):=match pU p.ro C st with
 |some (b,(a,c))=>match cnK c CR a ⟨p.hs,p.sl,b,p.nk⟩&&CR.all (Sv C.length)with
  |true=>Ac ⟨(Lo a.L p.sl c).1,(Lp a.O b CR).1,v_ c a ⟨p.hs,p.sl,b,p.nk⟩,gX CR a ⟨p.hs,p.sl,b,p.nk⟩,qP c CR a ⟨p.hs,p.sl,b,p.nk⟩⟩
  |false=>C7
 |none=>C7
def GG(p:A9)(q:Kc N.T):A9:=⟨p.hs,q.sl,q.ro,p.nk⟩
theorem qO(h:Sat C CR n Of bs st η H a w)(c:WF C CR bs st)(b:cnK C CR st p=Br):
  (∃X,v_ C st p=C++X)/\(∃Z,gX CR st p=CR++Z)/\CR.all (Sv C.length)=Br/\Sat (v_ C st p) (gX CR st p) n Of bs (qP C CR st p) η H a w/\WF (v_ C st p) (gX CR st p) bs (qP C CR st p):=by
 unfold cnK at b;rw[AS]at b;exact⟨(KA p.sl C).1,(KB p.ro CR λ_ _ _ _=> .inr trivial).1,b.2,v8 h c b.1⟩
theorem Y9(d:∃X,C'=C++X)(e:∃Z,b=CR++Z)(c:CR.all (Sv C.length)=Br)(h:Sat C' b n Of bs st η H a w)(f:WF C' b bs st):
  Sat C CR n Of bs (DJ C' b C.length CR.length st) η H a w/\WF C CR bs (DJ C' b C.length CR.length st):=by
 grind[uP]
theorem TZ{q:Kc N.T}(h:Sat C CR n Of bs st η H a w)(m:WF C CR bs st)(b:vz C CR st p=Ac q):
  (∃X,q.C=C++X)/\(∃Z,q.CR=CR++Z)/\CR.all (Sv C.length)=Br/\Sat q.C q.CR n Of bs q.st η H a w/\WF q.C q.CR bs q.st:=by
 unfold vz at b;split at b
 ·rename_i t o s l;split at b;· rename_i hc;cases b;rw[AS]at hc;obtain⟨⟨X,k⟩,i,j⟩:=TX l h m;obtain⟨⟨c,d⟩,e,_,f,g⟩:=qO i j hc.1;simp_all
  grind
 grind
def Kn(C:List (SV N.T))(CR:List (SR N.T))(n:Nat)(G:Hp->Fm->R->Prop)(bs:List (Nat×BU))(H:Hp)(k:St N.T->Option R)(Q:Act->GD->Prop):Prop:= ∀Of r st η b a w,H.le b->G b Of r->Sat C CR n Of bs st η b a w->WF C CR bs st->k st=Ac r->Q a w
theorem Kn.le{d:Hp}(h:Kn C CR n G bs H k Q)(c:H.le d):Kn C CR n G bs d k Q:=λOf r st η b a w e=>h Of r st η b a w (c.trans e)
theorem Kn.rs(l:∃X,C'=C++X)(m:∃Z,b=CR++Z)(c:CR.all (Sv C.length)=Br)(h:Kn C CR n G bs H k Q):
  Kn C' b n G bs H (λs=>k (DJ C' b C.length CR.length s)) Q:=λOf r st η d a w p o g i j=>by
 obtain⟨e,f⟩:=Y9 l m c g i;exact h Of r _ η d a w p o e f j
end
end
section
variable {N : C6} {C : List (SV N.T)} {CR : List (SR N.T)} {n : Nat} {Of : Fm} {bs : List (Nat × BU)} {st : St N.T} {η : Nat -> BU} {H : Hp} {a : Act} {w : GD}
section
variable{T:Nat->Type}{Hs:List (Nat×SV N.T)}{m:List (Nat×Nat)}{b:List HT}{x:BV N b}{t:Ty}{v:t.den N.T}{ρ:Nat->Nat}{A:Nat->SV N.T}{q:A9}{O:List (Nat×SR N.T)}
def kp1:SV T->SV T->Bool
 | .AG k, .AG j=>Nat.beq k j
 | .mp k, .mp j=>Nat.beq k j
 | .AK f .vn c, .AK g .vn b=>Nat.beq f g&&Nb c b
 | .px c .sf, .px b .sf=>Nb c b
 |_,_=>Ap
theorem pT{T:Nat->Type}{a b:SV T}(h:kp1 a b=Br):a=b:=by
 unfold kp1 at h;split at h;· simp_all
 ·simp_all
 ·grind[Nat.eq_of_beq_eq_true,Fc]
 all_goals grind[Fc]
def kpV(p:SP)(a b:SV T):Bool:=match p with
 | .v _ t=>match a,b with
  | .d _ _, .d c _=>c.Kw t
  |_,_=>Ap
 |_=>kp1 a b
def yM{T:Nat->Type} :List (Nat×SP)->SV T->SV T->Bool
 | [], .nl, .nl=>Br
 |(s,p)::c, .lf n a l, .lf m b r=>Nat.beq s m&&(Nat.beq n m&&(Nat.blt 0 m&&(kpV p a b&&yM c l r)))
 |_,_,_=>Ap
def vy(p:RP)(a b:SR T):Bool:=match p,a,b with
 | .row _ _, .row c _ _, .row d _ _=>Nat.beq c d
 | .Ah _ e, .Ah c a, .Ah d b=>Nat.beq c d&&yM e a b
 |_,_,_=>Ap
theorem Rh(i:cC C Hs (Cq N b x)){j:Nat}(o:(j,SV.d t v)∈Hs):Cq N b x j= .no\/(∃k,Cq N b x j= .na k)\/Cq N b x j= .d t v:=by
 rcases i.ok j _ o with e|⟨h,y,c,g⟩;· grind
 ·cases h with
  |nat=>trivial
  |Ae t2=>
   have c:dP N t2 (.d t v)=Ac y:=c;obtain⟨f,m,rfl⟩:=Pe.1 c;obtain⟨l,rfl⟩:=Bw m;have e:=Adx l;subst e;exact .inr (.inr g)
theorem pP{t2:Ty}{m:Nat}{r:SV N.T}(g:Nat.blt 0 m=Br)(b:t.Kw t2=Br):Ez N C (.lf m (.d t v) r) 0 (Ac t2)=Ac (.d t v):=by
 have e:=Adx b;subst e;have c:EW N 16 t v 0 t=Ac v:=by unfold EW P6;rw[dif_pos b];rfl
 grind[Ez,Nat.beq,Pw,res,EW]
theorem pO{s:Nat}{a l:SV N.T}{o:Nat}{b:Option Ty} :Ez N C (.lf s a l) (s+o) b=Ez N C l o b:=by
 have h:Nat.blt (s+o) s=Ap:=by
  cases c:Nat.blt (s+o) s with
  |false=>rfl
  |true=>
   have:s+o<s:=by simp_all
   omega
 simp_all[Ez]
theorem Z'{g:List HT}{x:BV N g}{Hs:List (Nat×SV N.T)}{b:SV N.T}{ρ:Nat->Nat}(A:cC C Hs (Cq N g x)):∀(ls:List (Nat×SP)) (off:Nat) (f:SV N.T),(∀o i,Ez N C b (off+o) i=Ez N C f o i)->(∀q∈NH off ls,∀j t,q.2.2= .v j t->(j,(Ez N C b q.1 (Ac t)).getD .no)∈Hs)->yM ls ((instL N g x ls).DA ρ) f=Br->(instL N g x ls).DA ρ=f
 | [],_,f,_,_,h=>by
  cases f with
  |nl=>rfl
  |_=>cases h
 |(s,p)::ls,off,f,D,E,h=>by
  cases f with
  |lf m d r=>
   have h:(Nat.beq s m&&(Nat.beq s m&&(Nat.blt 0 m&&(kpV p ((inst N g x p).DA ρ) d&&yM ls ((instL N g x ls).DA ρ) r))))=Br:=h;simp only[AS]at h;obtain⟨e,_,G,u,I⟩:=h;have e:=AI e;subst e;have K:=Z' (Hs:=Hs) (b:=b) (ρ:=ρ) A ls (off+s) r (λo i=>by rw[Adu,D,pO]) (λq y=>E q (Aag _ y)) I;have J:(inst N g x p).DA ρ=d:=by
    unfold kpV at u;split at u
    ·rename_i j t;split at u
     ·rename_i L M t2 O l;have B:=E (off,s, .v j t) (Aaj ..) j t rfl;have F:Ez N C b off (Ac t)=Ac (.d t2 O):=by
       rw[show off=off+0 from rfl,D];exact pP G u
      rw[F]at B;have l:(Cq N g x j).DA ρ= .d L M:=l;rcases Rh A B with e|⟨k,e⟩|e;· rw[e]at l;cases l
      ·rw[e]at l;cases l
      ·show(Cq N g x j).DA ρ=_;rw[e];rfl
     grind
    grind[pT]
   show SV.lf s ((inst N g x p).DA ρ) ((instL N g x ls).DA ρ)=_;grind
  |_=>cases h
theorem pS{i:List HT}{x:BV N i}(v:cC C Hs (Cq N i x)){p:RP}{f:SR N.T}(h1:∀g j r t l,p= .row g j->f= .row r t l->(j,SV.d (.sl t) l)∈Hs)(h2:∀g ls r b,p= .Ah g ls->f= .Ah r b->∀z∈qj N C b ls,z∈Hs)(h:vy p ((instR N i x p).DA ρ) f=Br):(instR N i x p).DA ρ=f:=by
 unfold vy at h;split at h
 ·rename_i g j s F D u t2 E e;have A:=h1 g j u t2 E rfl rfl;have e:(match Cq N i x j with
   | .d (.sl t) l=>SR.row g t l
   |_=> .gone:SR N.T).DA ρ= .row s F D:=e;show(match Cq N i x j with
   | .d (.sl t) l=>SR.row g t l
   |_=> .gone:SR N.T).DA ρ=_;rcases Rh v A with m|⟨k,m⟩|m;· rw[m]at e;cases e
  ·rw[m]at e;cases e
  ·rw[m]at e⊢;cases e;rw[<-AI h];rfl
 ·rename_i g ls s a u b e;rw[AS]at h;have e:SR.Ah g ((instL N i x ls).DA ρ)= .Ah s a:=e;cases e;have:=Z' (Hs:=Hs) (b:=b) (ρ:=ρ) v ls 0 b (λo y=>by simp) (λq B j t e=>h2 g ls u b rfl rfl _ ((Gu B).1 j t e)) h.2;simp_all
 grind
theorem aT{Rr:Nat->Option (SR N.T)}{x:BV N q.hs}(d:JB C Rr A m q=Ac x):cC C (dM C A q.sl++dN C Rr m q.ro) (Cq N q.hs x):=by
 unfold JB at d;split at d;· rename_i b;simp only[AS]at b;obtain⟨l,p,o,i⟩:=b;have c:=BF i;exact⟨λj s k=>by
  rcases Jv q.hs 0 x d j with e|⟨h,y,f,g⟩;· grind
  ·refine .inr ⟨h,y,?_,g⟩;rw[Abi,CF c k]at f;exact f⟩
 grind
def Yp(CR:List (SR N.T))(b:List HT)(x:BV N b)(m:List (Nat×Nat))(O:List (Nat×SR N.T)):List (Nat×RP)->List (Nat×SR N.T)
 | []=>[]
 |p::l=>match Ax O (AV m p.1)with
  |some (.Cr j)=>match vy p.2 ((instR N b x p.2).DA (AV m)) (C2 CR (.Cr j))with
   |true=>(AV m p.1, .Cr j)::Yp CR b x m O l
   |false=>Yp CR b x m O l
  |_=>Yp CR b x m O l
def Uk(l:List (Nat×SR N.T))(st:St N.T):St N.T:=⟨st.L,l++st.O,st.nk⟩
theorem Ql{b:List HT}{x:BV N b}{m:List (Nat×Nat)}{O:List (Nat×SR N.T)} :∀ {l:List (Nat×RP)} {z:Nat×SR N.T},z∈Yp CR b x m O l->∃p∈l,z.1=AV m p.1/\Ax O z.1=Ac z.2/\vy p.2 ((instR N b x p.2).DA (AV m)) (C2 CR z.2)=Br
 | [],z,h=>by cases h
 |p::l,z,h=>by
  unfold Yp at h;have d:z∈Yp CR b x m O l->∃c∈p::l,z.1=AV m c.1/\Ax O z.1=Ac z.2/\vy c.2 ((instR N b x c.2).DA (AV m)) (C2 CR z.2)=Br:=λh=>by obtain⟨c,f,g⟩:=Ql h;grind
  grind
theorem wh{x:BV N q.hs}(G:JB C (Al CR O) A m q=Ac x)(r:(q.ro.map λp=>AV m p.1).Nodup)(k:Nat):Al CR (Yp CR q.hs x m O q.ro++((q.ro.map λp=>(AV m p.1,(instR N q.hs x p.2).DA (AV m)))++O)) k=Al CR ((q.ro.map λp=>(AV m p.1,(instR N q.hs x p.2).DA (AV m)))++O) k:=by
 have s:=aT G;cases o:Ax (Yp CR q.hs x m O q.ro) k with
 |none=>grind[Al,BQ]
 |some v=>
  obtain⟨p,u,e,y,B⟩:=Ql (A2 o);have e:k=AV m p.1:=e;have d:Al CR O (AV m p.1)=Ac (C2 CR v):=by grind[Al]
  have key:=pS (ρ:=AV m) s (λg j D t l i h=>Acf _ (Aac.2 ⟨p,u,by simp_all⟩)) (λg J D b i h z I=>Acf _ (Aac.2 ⟨p,u,by rw[i,d,h];exact I⟩)) B;have F:Ax ((q.ro.map λp=>(AV m p.1,(instR N q.hs x p.2).DA (AV m)))++O) k=Ac ((instR N q.hs x p.2).DA (AV m)):=by
   have E:Ax (q.ro.map λp=>(AV m p.1,(instR N q.hs x p.2).DA (AV m))) k=Ac ((instR N q.hs x p.2).DA (AV m)):=by rw[e];exact CF (by unfold keys;rw[Aao];exact r) (By.2 ⟨p,u,rfl⟩)
   rw[BQ,E]
  unfold Al;rw[BQ,o,F,key];show Ac (C2 CR v)=Ac (C2 CR (C2 CR v));rw[<-key];cases instR N q.hs x p.2<;>rfl
theorem wi{l:List (Nat×SR N.T)}(h:Sat C CR n Of bs st η H a w)(b:WF C CR bs st)(q:∀k,Al CR (l++st.O) k=Al CR st.O k)(p:∀z∈l,z.1<st.nk):Sat C CR n Of bs (Uk l st) η H a w/\WF C CR bs (Uk l st):=by
 have e:Al CR (Uk l st).O=Al CR st.O:=funext q;refine⟨⟨h.inv,h.defers,h.size,h.Bi,h.base,?_⟩,⟨b.lo,λj d=>?_,?_,b.mC,b.cP⟩⟩;· obtain⟨Y,g,i,m,o⟩:=h.own;exact⟨Y,g,i,m,λk r f=>o k r (by simp_all)⟩
 ·show Ax (l++st.O) j=C7;rw[BQ];cases c:Ax l j with
  |none=>exact b.ok j d
  |some v=>exact absurd (p _ (A2 c)) (Nat.not_lt.2 d)
 ·rw[e];exact b.wf
end
end
section
variable{ro:Option Nat}{n:Nat}{P:Ge}{w:GD}{f:FuncId}{vs:Array BU}{R:Ending->GD->Prop}{o:J5}
abbrev FR:Option Nat->Fence
 |none=>Fence.wide
 |some l=>Fence.wide.inRound l
theorem Wu(ro:Option Nat)(f:FuncId):(FR ro).fn f:=by cases ro<;>trivial
theorem cN(h:Calls P f vs w R):CallsIn (FR ro) n P f vs w R:=by
 cases ro with
 |none=>grind[callsIn_wide]
 |some l=>exact(callsIn_wide (n:=n)).2 h
theorem iO{s:String}{R:BU->GD->Prop}(h:Rows P s vs w R):RowsIn (FR ro) n P s vs w R:=λc a _=>by
 obtain⟨v,e,b,d⟩:=h c a;refine⟨v,e,b,?_⟩;cases ro with
 |none=>grind[stepsIn_wide]
 |some l=>exact stepsIn_wide.2 d
theorem cJ{l:Nat}{b:Array BU}{d a:Code}(h:RoundIn Fence.wide 0 P l f b d a w R):RoundIn (FR ro) n P l f b d a w R:=by refine⟨Wu ro f,λc e _=>?_⟩;have:=h.2 c e (room_wide _);cases ro<;>exact this
theorem cM(ro:Option Nat):(FR ro).depth=C7:=by cases ro<;>rfl
theorem rS:(FR ro).depth.isSome=Br->1<=n:=λh=>by grind[cM]
def Vm(o:J5):Bool:=match o.op with
 | .defer _=>Ap
 |_=>Br
theorem ZD(h:Vm o=Br):∀c,o.op≠ .defer c:=λc e=>by grind[Vm]
theorem Aho{a:Act}{K:Act->GD->Prop}{Q:Exit->Act->GD->Prop}(b:Vm o=Br)(h:o.wp P a w K Q):o.wpIn (FR ro) 0 P a w K Q:=by
 refine⟨λf _=>Wu ro f,?_⟩;rw[J5.semAt_eq _ _ _ (ZD b)];unfold J5.wp at h;revert h;generalize(ID a.eval o).run P w=z;intro h;unfold J5.upon at h;split at h;· exact h
 ·exact h
 ·exact h
 ·exact⟨rS,cN h⟩
 ·exact⟨rS,iO h⟩
 all_goals trivial
end
section
variable {N : C6} {R : Type}
structure YL(N:C6)(R:Type)where
 ky:Nat
 f:List (SV N.T)->List (SV N.T)->(Bool->Option R)->Option R
 ag:R->R->Option R:=λ_ _=>C7
 b9:∀a b r,ag a b=Ac r->a=r/\b=r:=by intros;contradiction
section
variable{α:Type}{P:Ge}{yv:BU}{Y:List (Nat×Av)}{x:α}{T:Nat->Type}{C:List (SV N.T)}{a:Act}{H:Hp}{η:Nat->BU}{o:J5}{cs:List Nat}{g:Nat->Nat}
def zh[DecidableEq α](x y:α):Bool:=decide (x=y)
theorem Ut[DecidableEq α]{y:α}(h:zh x y=Br):x=y:=of_decide_eq_true h
def agN:List α->List α->Bool
 | [],[]=>Br
 |_,_=>Ap
theorem rL:∀ {x y:List α},agN x y=Br->x=y
 | [],[],_=>rfl
 | [],_::_,h=>by cases h
 |_::_,_,h=>by cases h
def wx:(t:Ty)->t.den T->t.den T->Bool
 | .int _,x,y=>zh (α:=Int) x y
 | .bool,x,y=>zh (α:=Bool) x y
 | .str,x,y=>zh (α:=Au) x y
 | .sl t,x,y=>agN (α:=t.den T) x y
 |_,_,_=>Ap
theorem Us:∀ {t:Ty} {x y:t.den T},wx t x y=Br->x=y
 | .int _,_,_,h=>Ut (α:=Int) h
 | .bool,_,_,h=>Ut (α:=Bool) h
 | .str,_,_,h=>Ut (α:=Au) h
 | .sl _,_,_,h=>rL h
 | .st _,_,_,h=>by cases h
 | .pr _ _,_,_,h=>by cases h
 | .un,_,_,h=>by rfl
 | .bs,_,_,h=>by cases h
 | .nm _,_,_,h=>by cases h
 | .ar _ _,_,_,h=>by cases h
def zg:(h:HT)->h.den N->h.den N->Bool
 | .Ae t,x,y=>wx t x y
 | .nat,x,y=>Nat.beq x y
theorem cc:∀ {h:HT} {x y:h.den N},zg h x y=Br->x=y
 | .Ae t,_,_,h=>Us (t:=t) h
 | .nat,_,_,h=>AI h
def zf:(a:List HT)->BV N a->BV N a->Bool
 | [],_,_=>Br
 | [t],x,y=>zg t x y
 |t::u::ts,x,y=>zg t x.1 y.1&&zf (u::ts) x.2 y.2
theorem ca:∀ {a:List HT} {x y:BV N a},zf a x y=Br->x=y
 | [],_,_,_=>rfl
 | [_],_,_,h=>cc h
 |t::u::b,(x,c),(y,d),h=>by have h:(zg t x y&&zf (u::b) c d)=Br:=h;rw[AS]at h;rw[cc h.1,ca h.2]
def zi:(ts:List Ty)->Bc N ts->Bc N ts->Bool
 | [],_,_=>Br
 | [t],x,y=>wx t x y
 |t::u::ts,x,y=>wx t x.1 y.1&&zi (u::ts) x.2 y.2
theorem cf:∀ {ts:List Ty} {x y:Bc N ts},zi ts x y=Br->x=y
 | [],_,_,_=>rfl
 | [t],_,_,h=>Us (t:=t) h
 |t::u::ts,(x,a),(y,b),h=>by have h:(wx t x y&&zi (u::ts) a b)=Br:=h;rw[AS]at h;rw[Us (t:=t) h.1,cf h.2]
def agO(b:Bool)(x:α):Option α:=match b with
 |true=>Ac x
 |false=>C7
theorem F_{b:Bool}{r:α}(h:agO b x=Ac r):b=Br/\x=r:=by cases b<;>cases h;simp
def noP(b:List HT):YL N (BV N b):= {ky:=0,f:=λ_ _ _=>C7,ag:=λx y=>agO (zf b x y) x,b9:=λ_ _ _ h=>⟨(F_ h).2,(ca (F_ h).1).symm.trans (F_ h).2⟩}
def noD(ts:List Ty):YL N (Bc N ts):= {ky:=0,f:=λ_ _ _=>C7,ag:=λx y=>agO (zi ts x y) x,b9:=λ_ _ _ h=>⟨(F_ h).2,(cf (F_ h).1).symm.trans (F_ h).2⟩}
structure O4(P:Ge)(bs:List (Nat×BU))(yl:YL N R)(yv:BU)(G:Hp->Fm->R->Prop):Prop where
 mem:∀C As k r,yl.f C As k=Ac r->(yl.ky,yv)∈bs
 ok:∀C As k r Of H,N.inv H->G H Of r->yl.f C As k=Ac r->∀η A vs w,vs.length=As.length->(∀(i:Nat) (s:SV N.T),As[i]?=Ac s->∃v,vs[i]?=Ac v/\s.is C η H v)->SH w H (A++Of.O)->
  IU P yv vs w λb w'=> ∃H' Of' r',H.le H'/\Of'.ds=Of.ds/\SH w' H' (A++Of'.O)/\G H' Of' r'/\k b=Ac r'
theorem pb{a:List HT}{bs:List (Nat×BU)}{G:Hp->Fm->BV N a->Prop} :O4 P bs (noP a:YL N (BV N a)) yv G:=⟨(λ_ _ _ _ h=>by cases h),(λ_ _ _ _ _ _ _ _ h=>by cases h)⟩
theorem pf{ts:List Ty}{bs:List (Nat×BU)}{G:Hp->Fm->Bc N ts->Prop} :O4 P bs (noD ts:YL N (Bc N ts)) yv G:=⟨(λ_ _ _ _ h=>by cases h),(λ_ _ _ _ _ _ _ _ h=>by cases h)⟩
def QH:(ts:List Ty)->Bc N ts->List (SV N.T)
 | [],_=>[]
 | [t],x=>[.d t x]
 |t::u::ts,x=> .d t x.1::QH (u::ts) x.2
theorem Ud{C:List (SV N.T)}{H:Hp}{η:Nat->BU} :∀(ts:List Ty) (y:Bc N ts) (vs:List BU),Lw H ts y vs->vs.length=(QH ts y).length/\(QH ts y).length=ts.length/\∀(i:Nat) (s:SV N.T),(QH ts y)[i]?=Ac s->∃v,vs[i]?=Ac v/\s.is C η H v
 | [],_,vs,h=>by subst h;exact⟨rfl,rfl,λi s b=>by trivial⟩
 | [t],y,vs,⟨v,e,c⟩=>by
  subst e;refine⟨rfl,rfl,λi s b=>?_⟩;cases i with
  |zero=>simp[QH]at b;subst b;exact⟨v,rfl,JE c⟩
  |succ i=>trivial
 |t::u::ts,y,vs,⟨v,g,e,c,f⟩=>by
  subst e;obtain⟨j,k,d⟩:=Ud (u::ts) y.2 g f;refine⟨by grind[QH],by grind[QH],λi s b=>?_⟩;cases i with
  |zero=>simp[QH]at b;subst b;exact⟨v,rfl,JE c⟩
  |succ i=>exact d i s (by trivial)
theorem im{S:Nat->SV N.T}{Rr:Nat->Option (SR N.T)}{x:Dc}{xs:List Dc}{tys:Array Ee}{c:Ca N.T}(M:o.op= .call {callee:= .value x,args:=xs.toArray,argTypes:=tys})(h:SF S Rr x xs=Ac c)(r:QF P c.f)(V:∀x,(Ay S x).is C η H (a.eval x))(O:∀k∈c.cs,∀F,Rr k=Ac F->Dy C η H Y k F):
  ∃vs:List BU,vs.length=c.As.length/\(∀(i:Nat) (s:SV N.T),c.As[i]?=Ac s->∃v,vs[i]?=Ac v/\s.is C η H v)/\∀w (K:Act->GD->Prop) Q,Calls P c.f vs.toArray w (λe w'=> ∃v,e= .returned v/\K (a.put o.dst v) w')->o.wp P a w K Q:=by
 unfold SF at h;split at h
 ·rename_i f l y T;split at h
  ·rename_i z;cases h;rw[AS]at z;have u:(Ay S x).is C η H (a.eval x):=V x;rw[T]at u;obtain⟨A,e,L⟩:=u;obtain⟨G,Z⟩:=M6 z.1 L;refine⟨A++xs.map a.eval++y.map η,by grind,λi s n=>?_,λw K Q U=>?_⟩
   ·rw[Aam]at n⊢;by_cases W:i<(Sz l).length;· grind
    ·rw[Aab (by omega)]at n;rw[Aab (by omega),G];by_cases E:i-(Sz l).length<xs.length;· rw[Aaa (by simp_all),Abx]at n;grind
     ·rw[Aab (by simpa using E),Abx]at n;rw[Aab (by simpa using E),Abx];simp only[Aah]at n⊢;obtain⟨c,hc,rfl⟩:=Pe.1 n;have q:=Aai hc;have p:=OF.1 z.2 c q;refine⟨η c,by rw[hc];rfl,?_⟩;split at p
      ·rename_i g b J;rcases O c q _ J with e|⟨X,_,B,_,D,_⟩;· cases e
       ·exact⟨B,D,D⟩
      ·cases p
   ·have t:(ID a.eval o).run P w= .ok (.enter f (A++xs.map a.eval++y.map η).toArray) w:=by
     have:=r.run (A++xs.map a.eval++y.map η).toArray w;simp[ID,M,resolve,Deferred.ofValue,e,invoke]at this⊢;rw[this]
    unfold J5.wp;rw[t];refine Calls.mono U ?_;rintro e w' ⟨v,rfl,I⟩;exact I
  grind
 grind
theorem nY(l:(keys Y).Nodup)(hc:cs.Nodup)(n:(cs.map g).Nodup)(r:∀c∈cs,∃X,Ax Y (g c)=Ac X):
  keys (cs.map λc=>(c,(Ax Y (g c)).getD .emp))=cs/\(∀c∈cs,Ax (cs.map λc=>(c,(Ax Y (g c)).getD .emp)) c=Ax Y (g c))/\
  ∀w H O,SH w H (Y.map (·.2)++O)->SH w H ((cs.map λc=>(c,(Ax Y (g c)).getD .emp)).map (·.2)++((Y.filter λp=> !BZ (cs.map g) p.1).map (·.2)++O)):=by
 have i:keys (cs.map λc=>(c,(Ax Y (g c)).getD .emp))=cs:=by unfold keys;rw[Aao];exact Aga _
 refine⟨i,λc d=>?_,λw H O f=>?_⟩;· have o:=CF (Y:=cs.map λc=>(c,(Ax Y (g c)).getD .emp)) (by grind) (By.2 ⟨c,d,rf⟩);grind
 ·have j:=SH.Tm f (Z:=(cs.map λc=>(g c,(Ax Y (g c)).getD .emp))++Y.filter λp=> !BZ (cs.map g) p.1) (by
   have e:keys (cs.map λc=>(g c,(Ax Y (g c)).getD .emp))=cs.map g:=by simp[keys]
   unfold keys at e⊢;rw[Aan,e];refine Acs.2 ⟨n,(Acv.map _).nodup l,λk i s m e=>?_⟩;grind[AP]) (λp q=>by
   grind[CF]);rw[Aan,Aao,Aam]at j;rw[Aao];exact j
theorem vA{Yc:List (Nat×Av)}(j:(keys Y).Nodup)(l:(cs.map g).Nodup)(b:keys Yc=cs):
  keys (Yc.map λp=>(g p.1,p.2))=cs.map g/\(keys ((Yc.map λp=>(g p.1,p.2))++Y.filter λp=> !BZ (cs.map g) p.1)).Nodup/\
  (∀c X,Ax Yc c=Ac X->Ax ((Yc.map λp=>(g p.1,p.2))++Y.filter λp=> !BZ (cs.map g) p.1) (g c)=Ac X)/\(∀k,k∉cs.map g->Ax ((Yc.map λp=>(g p.1,p.2))++Y.filter λp=> !BZ (cs.map g) p.1) k=Ax Y k)/\
  ∀w H O,SH w H (Yc.map (·.2)++((Y.filter λp=> !BZ (cs.map g) p.1).map (·.2)++O))->SH w H (((Yc.map λp=>(g p.1,p.2))++Y.filter λp=> !BZ (cs.map g) p.1).map (·.2)++O):=by
 have e:keys (Yc.map λp=>(g p.1,p.2))=cs.map g:=by unfold keys at b⊢;rw[Aao,<-b,Aao];rfl
 have h:(keys ((Yc.map λp=>(g p.1,p.2))++Y.filter λp=> !BZ (cs.map g) p.1)).Nodup:=by unfold keys at e⊢;rw[Aan,e];refine Acs.2 ⟨l,(Acv.map _).nodup j,λk b n d e=>?_⟩;grind[AP]
 refine⟨e,h,λc X i=>CF h (Abu _ (By.2 ⟨_,A2 i,rf⟩)),λk d=>?_,λw H O m=>?_⟩;· grind[BQ,Cy,LJ]
 ·rw[Aan,Aao,Aam];trivial
def okJ(q:JQ N):Bool:=Cf (q.pi.ro.map (·.1))
def NF(q:JQ N)(x:BV N q.pi.hs)(m:List (Nat×Nat))(cs:List Nat):Bq N.T:=⟨.no,cs,q.pi.ro.map λp=>(AV m p.1,(instR N q.pi.hs x p.2).DA (AV m))⟩
def qH(q:JQ N)(d:Option Nat)(b:Bool)(st:St N.T):St N.T:=match q.rb,d with
 |true,Ac t=>Ke t (.lb b) st
 |_,_=>st
def aV(a:YL N R)(C:List (SV N.T))(ts:List Ty)(kb:Bool->Option R):List (Bc N ts)->Option Bool->Option R
 | [],Ac b=>kb b
 | [],C7=>C7
 |y::l,b=>a.f C (QH ts y) λc=>match c with
  |true=>aV a C ts kb l b
  |false=>kb Ap
def jq1(c:YL N R)(C:List (SV N.T))(CR:List (SR N.T))(n:Nat)(d:Option Nat)(st:St N.T)(a:List (SV N.T))(cs:List Nat)(kn:St N.T->Option R)(q:JQ N):Option (Option R):=
 match Nat.beq a.length q.pi.sl.length&&(q.pi.sl.all (λp=>Nat.blt p.1 a.length)&&okJ q)with
 |false=>C7
 |true=>match JB C (Al CR st.O) (λi=>a.getD i .no) (G9 C (Al CR st.O) (λi=>a.getD i .no) q.pi) q.pi with
  |none=>C7
  |some x=>match Nat.beq (AV (G9 C (Al CR st.O) (λi=>a.getD i .no) q.pi) q.ky) c.ky&&G3 CR n st d (NF q x (G9 C (Al CR st.O) (λi=>a.getD i .no) q.pi) cs) st.nk with
   |false=>C7
   |true=>Ac (Ab (q.F x) λr=>aV c C q.ts (λb=>kn (qH q d b (Uk (Yp CR q.pi.hs x (G9 C (Al CR st.O) (λi=>a.getD i .no) q.pi) st.O q.pi.ro) (app st d (NF q x (G9 C (Al CR st.O) (λi=>a.getD i .no) q.pi) cs) st.nk)))) r.1 r.2)
def yN(f:JQ N->Option (Option R)):List (JQ N)->Option R
 | []=>C7
 |q::l=>match f q with
  |some z=>z
  |none=>yN f l
theorem RS{f:JQ N->Option (Option R)}{r:R} :∀ {l:List (JQ N)},yN f l=Ac r->∃q∈l,f q=Ac (Ac r)
 | [],h=>by cases h
 |q::l,h=>by
  unfold yN at h;split at h;· grind
  ·obtain⟨c,a,b⟩:=RS h;grind
def p9(
     d:YL N R) (Φ:Nat->Option (CQ N)) (C:List (SV N.T)) (CR:List (SR N.T)) (n:Nat) (o:J5) (st:St N.T) (kn:St N.T->Option R):Option (Option R):=match o.op with
 | .call {callee:= .value x,args:=⟨xs⟩,argTypes:=_} =>match Ay (Ck C st.L) x with
  | .AK f _ _=>match Φ f with
   |some (.pY b)=>match SF (Ck C st.L) (Al CR st.O) x xs with
    |some c=>match Nat.beq f c.f with
     |true=>Ac (yN (jq1 d C CR n o.dst st c.As c.cs kn) b)
     |false=>C7
    |none=>C7
   |_=>C7
  |_=>C7
 |_=>C7
theorem fV{C:List (SV N.T)}{CR:List (SR N.T)}{n:Nat}{Of:Fm}{bs:List (Nat×BU)}{st:St N.T}{η:Nat->BU}{H:Hp}{a:Act}{w:GD}{P:Ge} [CC N P]{Φ:Nat->Option (CQ N)}{G:Hp->Fm->R->Prop}{yl:YL N R}{yv:BU}
  (hΦ:∀f q,Φ f=Ac q->Bm P f q) (hG:∀H l Of r,H.le l->G H Of r->G l Of r) (hY:O4 P bs yl yv G) {o:J5} {kn:St N.T->Option R} {r:R} (hg:G H Of r) (h:Sat C CR n Of bs st η H a w) (hw:WF C CR bs st) (E:p9 yl Φ C CR n o st kn=Ac (Ac r)) {K:Act->GD->Prop} {Q:Exit->Act->GD->Prop}
  (hK:∀d r' st' η' l a' w',H.le l->G l d r'->Sat C CR n d bs st' η' l a' w'->WF C CR bs st'->kn st'=Ac r'->K a' w'):o.wp P a w K Q:=by
 unfold p9 at E;split at E;case h_2=>grind
 rename_i x xs tys ho;split at E;case h_2=>grind
 split at E;case h_2=>grind
 rename_i qs hq;split at E;case h_2=>grind
 rename_i c hcal;split at E;case h_2=>grind
 rename_i hf;have hf:=AI hf;subst hf;obtain⟨q,hqm,E⟩:=RS (Abo E);have hsp:IW P c.f q:=hΦ _ _ hq q hqm;unfold jq1 at E;split at E;· grind
 rename_i M;simp only[AS]at M;obtain⟨ck1,ck2,ck3⟩:=M;split at E;· grind
 rename_i z hz;generalize hm:G9 C (Al CR st.O) (λi=>c.As.getD i .no) q.pi=m at hz E;split at E;· grind
 rename_i M;rw[AS]at M;obtain⟨ck4,ck5⟩:=M;have ck4:=AI ck4;obtain⟨⟨ys,b0⟩,hys,E⟩:=Bp (Abo E);have hnr:=BF ck3;have hkw:keys (NF q z m c.cs).wr=(q.pi.ro.map (·.1)).map (AV m):=by unfold keys NF;rw[Aao,Aao];rfl
 have hlt:∀p∈q.pi.sl,p.1<c.As.length:=λp D=>by simpa using OF.1 ck2 p D
 have Uc:∀Y,(∀k,(k∈c.cs\/k∈keys (NF q z m c.cs).wr)->∀L,Al CR st.O k=Ac L->Dy C η H Y k L)->∃vs:List BU,vs.length=q.pi.sl.length/\(q.pi.ro.map λp=>AV m p.1).Nodup/\(∀p∈q.pi.sl,∃v,vs[p.1]?=Ac v/\(inst N q.pi.hs z p.2).is [] (λc=>η (AV m c)) H v)/\
   (∀p∈q.pi.ro,(∃L,Al CR st.O (AV m p.1)=Ac L)/\∃X,Ax Y (AV m p.1)=Ac X/\(instR N q.pi.hs z p.2).is [] (λc=>η (AV m c)) H p.1 X)/\∀w (K:Act->GD->Prop) Q,Calls P c.f vs.toArray w (λe w'=> ∃v,e= .returned v/\K (a.put o.dst v) w')->o.wp P a w K Q:=λY hr=>by
  obtain⟨vs,v1,v2,v3⟩:=im ho hcal hsp.Uc (λx=>h.ev x) (Y:=Y) (λk hk L B=>hr k (.inl hk) L B);have J:vs.length=q.pi.sl.length:=by rw[v1];exact AI ck1
  obtain⟨V,e2,e3⟩:=LN (C:=C) (η:=η) (H:=H) (Y:=Y) (vs:=vs) (A:=λi=>c.As.getD i .no) hz J (λp D=>by obtain⟨v,g1,g2⟩:=v2 p.1 (c.As[p.1]'(hlt p D)) (BY (hlt p D));refine⟨v,g1,?_⟩;rw[IS,BY (hlt p D)];exact g2) (λp D L B=>hr _ (.inr (by exact By.2 ⟨_,By.2 ⟨p,D,rfl⟩,rfl⟩)) L B);exact⟨vs,J,V,e2,e3,v3⟩
 have hW:O6 C CR n st o.dst (NF q z m c.cs) st.nk:=⟨ck5,Aad _,λj hj S=>(by
  obtain⟨_,_,_,_,e3,_⟩:=Uc h.own.choose λk _ L B=>h.own.choose_spec.2.2.2 k L B;obtain⟨p,D,rfl⟩:=By.1 hj;obtain⟨p',hp',rfl⟩:=By.1 D;obtain⟨⟨L,B⟩,_⟩:=e3 p' hp';rw[B]at S;cases S),λτ _=>trivial⟩;have u:=ck5;unfold G3 at u;simp only[AS]at u;have u:=u.1.1;have hbk:∀ {η':Nat->BU} {l:Hp} {d:Fm} {a':Act} {w':GD},Sat C CR n d bs (app st o.dst (NF q z m c.cs) st.nk) η' l a' w'->Sat C CR n d bs (Uk (Yp CR q.pi.hs z m st.O q.pi.ro) (app st o.dst (NF q z m c.cs) st.nk)) η' l a' w'/\WF C CR bs (Uk (Yp CR q.pi.hs z m st.O q.pi.ro) (app st o.dst (NF q z m c.cs) st.nk)):=λhs'=>
  wi hs' (hw.UX hW) (λk=>wh hz (by obtain⟨_,_,V,_⟩:=Uc h.own.choose λk _ L B=>h.own.choose_spec.2.2.2 k L B;exact V) k) λy hy=>by obtain⟨p,_,_,e,_⟩:=Ql hy;exact Abz λhle=>by rw[hw.ok _ hle]at e;cases e
 generalize hkb:(λb=>kn (qH q o.dst b (Uk (Yp CR q.pi.hs z m st.O q.pi.ro) (app st o.dst (NF q z m c.cs) st.nk))))=kb at E;refine h.kL (goal:=o.wp P a w K Q) (K:=λv w' d l=> ∀b r',G l d r'->(q.rb=Br->v= .bool b)->kb b=Ac r'->K (a.put o.dst v) w') hw hW (λY hn hsh hr hf hk=>?_) λη' l v w' d hl hs b r' hg' hv F=>?_
 ·obtain⟨vs,J,V,e2,e3,v3⟩:=Uc Y hr;have V:((q.pi.ro.map (·.1)).map (AV m)).Nodup:=by rw[Aao];exact V
  obtain⟨s1,s2,s3⟩:=nY (Y:=Y) (cs:=q.pi.ro.map (·.1)) (g:=AV m) hn hnr V (λc hc=>by obtain⟨p,D,rfl⟩:=By.1 hc;obtain⟨_,X,hX,_⟩:=e3 p D;exact⟨X,hX⟩);generalize hYc:((q.pi.ro.map (·.1)).map λc=>(c,(Ax Y (AV m c)).getD .emp))=Yc at s1 s2 s3;refine v3 w K Q ?_;generalize hYr:(Y.filter λp=> !BZ ((q.pi.ro.map (·.1)).map (AV m)) p.1)=Yr at s3;refine Calls.mono (hsp.ok z (ys,b0) hys (λc=>η (AV m c)) (λl O r2=>H.le l/\∃(d:Fm) (r':R),d.ds=Of.ds/\O=Yr.map (·.2)++d.O/\G l d r'/\aV yl C q.ts kb r2.1 r2.2=Ac r') (λH1 H2 O r2 hl ⟨k0,d,r',k1,k2,k3,k4⟩=>⟨k0.trans hl,d,r',k1,k2,hG _ _ _ _ hl k3,k4⟩) (λH1 O ⟨_,_,_,_,_,_,k4⟩=>(by cases k4)) (λH1 O y rest b hinv1 ⟨k0,d,r',k1,k2,k3,k4⟩ A ws w1 hArg hSH=>?_) H (Yr.map (·.2)++Of.O) Yc vs w (by rw[s1];exact hnr) J e2 s1 (λp D=>?_) ⟨Hp.le.refl H,Of,r,rfl,rfl,hg,E⟩ h.inv (s3 w H Of.O hsh)) ?_
  ·subst k2;have hyv:yv=η (AV m q.ky):=by rw[ck4];exact(h.base _ (hY.mem _ _ _ _ k4)).symm
   obtain⟨p1,p2,p3⟩:=Ud (C:=C) (η:=η) q.ts y ws hArg;have:=hY.ok C (QH q.ts y) _ r' d H1 hinv1 k3 k4 η (A++Yr.map (·.2)) ws w1 p1 p3 (by rw[Aam];exact hSH);rw[hyv]at this;refine this.mono λc' w' ⟨l,U,r'',l1,l2,l3,l4,l5⟩=>⟨l,Yr.map (·.2)++U.O,l1,by rw[Aam]at l3;exact l3,k0.trans l1,U,r'',l2.trans k1,rfl,l4,?_⟩;cases c' with
   |true=>exact l5
   |false=>exact l5
  ·obtain⟨_,X,hX,hX2⟩:=e3 p D;exact⟨X,by rw[s2 p.1 (By.2 ⟨p,D,rfl⟩)];exact hX,hX2⟩
  ·rintro e w' ⟨v,l,O',Y',b,rfl,hl,W,hk',hro',⟨k0,d,r',k1,rfl,k2,k3⟩,hvb⟩;obtain⟨j1,j2,j3,j4,j5⟩:=vA (Y:=Y) (Yc:=Y') (cs:=q.pi.ro.map (·.1)) (g:=AV m) hn V hk';rw[<-hYr]at W;refine⟨v,rfl,hk v w' l η _ d k1 hl (λ_ _=>rfl) (λk hkn=>j4 k (by rw[<-hkw];exact hkn)) (λk L hks=>?_) j2 (λk I=>?_) (j5 _ _ _ W) trivial b r' k2 hvb k3⟩;· obtain⟨p,D,e⟩:=By.1 (A2 hks);cases e;obtain⟨X,x1,x2⟩:=hro' p D;exact .inr ⟨X,j3 p.1 X x1,SR.Mp rfl (λ_ _=>rfl) x2⟩
   ·unfold keys at I j1;rw[Aan,j1]at I;rcases AT.1 I with I|I;· exact .inr (by rw[hkw];exact I)
    ·obtain⟨p,D,rfl⟩:=By.1 I;exact .inl (By.2 ⟨p,(Aax.1 D).1,rfl⟩)
 ·subst hkb;obtain⟨hs,hwf⟩:=hbk hs;unfold qH at F;split at F
  ·rename_i t hrb hdt;rw[hdt]at hs hwf F⊢;rw[hdt]at u;have htn:t<n:=by simpa [NM]using u
   obtain⟨g1,g2⟩:=Pr (t:=t) (s:= .lb b) hs hwf (by rw[HO (by rw[h.size];exact htn),Agz];exact hv hrb) rfl rfl;exact hK d r' _ η' l _ w' hl hg' g1 g2 F
  ·exact hK d r' _ η' l _ w' hl hg' hs hwf F
def jkey(Φ:Nat->Option (CQ N))(S:Nat->SV N.T)(Rr:Nat->Option (SR N.T)):Op->Option Nat
 | .call {callee:= .value x,args:=⟨xs⟩,argTypes:=_} =>match Ay S x with
  | .AK f _ _=>match Φ f with
   |some (.pY (q::_))=>match SF S Rr x xs with
    |some c=>Vv c.As q.pi.sl
    |none=>C7
   |_=>C7
  |_=>C7
 |_=>C7
def fU(b:YL N R)(Φ:Nat->Option (CQ N))(C:List (SV N.T))(CR:List (SR N.T))(n:Nat)(o:J5):Nat->St N.T->(St N.T->Option R)->Option (Option R)
 |0,_,_=>C7
 |m+1,st,kn=>match jkey Φ (Ck C st.L) (Al CR st.O) o.op with
  |some a=>match Al CR st.O a with
   |some (.row _ c l)=>fU b Φ C CR n o m (Jx a c l st) kn
   |_=>C7
  |none=>p9 b Φ C CR n o st kn
def pZ(a:YL N R)(Φ:Nat->Option (CQ N))(C:List (SV N.T))(CR:List (SR N.T))(n:Nat)(o:J5)(st:St N.T)(kn:St N.T->Option R):Option (Option R):=fU a Φ C CR n o 4 st kn
theorem VD{C:List (SV N.T)}{CR:List (SR N.T)}{n:Nat}{Of:Fm}{bs:List (Nat×BU)}{a:Act}{w:GD}{P:Ge} [CC N P]{Φ:Nat->Option (CQ N)}{G:Hp->Fm->R->Prop}{p:YL N R}{yv:BU}
  (i:∀f q,Φ f=Ac q->Bm P f q) (k:∀H d Of r,H.le d->G H Of r->G d Of r) (v:O4 P bs p yv G) {o:J5} {kn:St N.T->Option R} {r:R} {K:Act->GD->Prop} {Q:Exit->Act->GD->Prop} :∀ {m:Nat} {st:St N.T} {η:Nat->BU} {H:Hp},G H Of r->Sat C CR n Of bs st η H a w->WF C CR bs st->fU p Φ C CR n o m st kn=Ac (Ac r)->
  (∀c r' b η' d a' w',H.le d->G d c r'->Sat C CR n c bs b η' d a' w'->WF C CR bs b->kn b=Ac r'->K a' w')->o.wp P a w K Q
 |0,_,_,_,_,_,_,e,_=>by cases e
 |m+1,st,η,H,x,h,A,e,u=>by
  unfold fU at e;split at e
  ·split at e;· rename_i B l y;obtain⟨d,j,s,t⟩:=R3 h A y;exact VD i k v (k _ _ _ _ j x) s t e λc r' b η' g a' w' z=>u c r' b η' g a' w' (j.trans z)
   grind
  grind[fV]
theorem VB{C:List (SV N.T)}{CR:List (SR N.T)}{n:Nat}{Of:Fm}{bs:List (Nat×BU)}{st:St N.T}{η:Nat->BU}{H:Hp}{a:Act}{w:GD}{P:Ge} [CC N P]{Φ:Nat->Option (CQ N)}{G:Hp->Fm->R->Prop}{g:YL N R}{yv:BU}
 (e:∀f q,Φ f=Ac q->Bm P f q) (i:∀H c Of r,H.le c->G H Of r->G c Of r) (k:O4 P bs g yv G) {o:J5} {kn:St N.T->Option R} {r:R} (m:G H Of r) (h:Sat C CR n Of bs st η H a w) (p:WF C CR bs st) (l:pZ g Φ C CR n o st kn=Ac (Ac r)) {K:Act->GD->Prop} {Q:Exit->Act->GD->Prop}
 (j:∀d r' b η' c a' w',H.le c->G c d r'->Sat C CR n d bs b η' c a' w'->WF C CR bs b->kn b=Ac r'->K a' w'):o.wp P a w K Q:=VD e i k m h p l j
def ux(c:YL N R)(C:List (SV N.T))(n:Nat)(o:J5)(st:St N.T)(kn:St N.T->Option R):Option (Option R):=match o.op with
 | .call {callee:= .value x,args:=⟨xs⟩,argTypes:=_} =>match Ay (Ck C st.L) x with
  | .mp k=>match Nat.beq k c.ky&&NM n o.dst with
   |true=>Ac (c.f C (xs.map (Ay (Ck C st.L))) λb=>kn ⟨Re o.dst (.lb b) st.L,st.O,st.nk⟩)
   |false=>C7
  |_=>C7
 |_=>C7
def QU(a:YL N R)(P:Ge)(Φ:Nat->Option (CQ N))(C:List (SV N.T))(CR:List (SR N.T))(n:Nat)(o:J5)(st:St N.T)(kn:St N.T->Option R):Option R:=match ux a C n o st kn with
 |some z=>z
 |none=>match Vm o with
  |true=>match pZ a Φ C CR n o st kn with
   |some z=>z
   |none=>YN P Φ C CR n o st kn
  |false=>C7
def guY(c:YL N R)(P:Ge)(Φ:Nat->Option (CQ N))(C:List (SV N.T))(CR:List (SR N.T))(n:Nat)(b:Array J5)(o:J5)(st:St N.T)(kn:St N.T->Option R):Option R:=match o.guard with
 |none=>QU c P Φ C CR n o st kn
 |some (
     j,a)=>match BG b j with
  |none=>C7
  |some t=>match Ck C st.L t with
   | .ud=>Ii n o.dst st kn
   |s=>wg s st
    (λst=>let st:=Ke t (.lb Br) st
     match a with
     |true=>QU c P Φ C CR n o st kn
     |false=>Ii n o.dst st kn)
    (λst=>let st:=Ke t (.lb Ap) st
     match a with
     |false=>QU c P Φ C CR n o st kn
     |true=>Ii n o.dst st kn)
def aX(b:YL N R)(P:Ge)(Φ:Nat->Option (CQ N))(C:List (SV N.T))(CR:List (SR N.T))(n:Nat)(a:Array J5):List J5->St N.T->(St N.T->Option R)->Option R
 | [],st,kn=>kn st
 |o::os,st,kn=>guY b P Φ C CR n a o st λst=>aX b P Φ C CR n a os st kn
end
variable {C : List (SV N.T)} {CR : List (SR N.T)} {n : Nat} {Of : Fm} {bs : List (Nat × BU)} {st : St N.T} {η : Nat -> BU} {H : Hp} {a : Act} {w : GD} {P : Ge} [CC N P] {Φ : Nat -> Option (CQ N)} {G : Hp -> Fm -> R -> Prop} {yl : YL N R} {yv : BU} {ro : Option Nat}
section
variable{d:Option Nat}{s:SV N.T}
theorem eT(c:WF C CR bs st)(g:Ex s=Br)(hc:Ry s=Br):WF C CR bs ⟨Re d s st.L,st.O,st.nk⟩:=by
 cases d with
 |none=>exact c
 |some d=>
  refine c.Gm λτ b q=>?_;have e:=b q;unfold Ck at e⊢;simp only[Re,Ax];cases f:Nat.beq d q with
  |true=>
   have:res C s=s:=by cases s<;>first|rfl|cases hc
   grind[Dr]
  |false=>omega
theorem Sat.yld{c:Fm}{g:Hp}{w':GD}{v:BU}{Y:List (Nat×Av)}(h:Sat C CR n Of bs st η H a w)(b:H.le g)(m:c.ds=Of.ds)(q:NM n d=Br)(B:s.is C η g v)
  (u:(keys Y).Nodup) (y:SH w' g (Y.map (·.2)++c.O)) (z:∀k∈keys Y,k<st.nk) (A:∀k i,Al CR st.O k=Ac i->Dy C η H Y k i):Sat C CR n c bs ⟨Re d s st.L,st.O,st.nk⟩ η g (a.put d v) w':=by
 refine⟨N.Cz b h.inv,?_,?_,λt sv f=>?_,h.base,Y,u,y,z,λk i r=>?_⟩;· rw[m];cases d<;>exact h.defers
 ·cases d<;>simp[Act.put,h.size]
 ·cases d with
  |none=>exact(h.Bi t sv f).mono b
  |some d=>
   have q:d<n:=by simp_all[NM]
   have f:Ax ((d,s)::st.L) t=Ac sv:=f;rw[HO (by rw[h.size];omega)];simp only[Ax]at f;cases l:Nat.beq d t with
   |true=>grind
   |false=>rw[l]at f;exact(h.Bi t sv f).mono b
 ·rcases A k i r with e|⟨x,o,p⟩;· exact .inl e
  ·exact .inr ⟨x,o,p.mono b⟩
theorem L5(B:∀f q,Φ f=Ac q->Bm P f q)(U:∀H j Of r,H.le j->G H Of r->G j Of r)(I:O4 P bs yl yv G){o:J5}{kn:St N.T->Option R}{r:R}(L:G H Of r)(h:Sat C CR n Of bs st η H a w)(M:WF C CR bs st)(p:QU yl P Φ C CR n o st kn=Ac r){K:Act->GD->Prop}{Q:Exit->Act->GD->Prop}
  (F:∀m r' g η' j a' w',H.le j->G j m r'->Sat C CR n m bs g η' j a' w'->WF C CR bs g->kn g=Ac r'->K a' w'):o.wpIn (FR ro) 0 P a w K Q:=by
 unfold QU at p;split at p
 ·rename_i z d;subst p;unfold ux at d;split at d
  ·rename_i x T tys ho;split at d
   ·rename_i k hs;split at d
    ·rename_i J;have d:=Abo d;rw[AS]at J;have hk:=AI J.1;subst hk;have X:=h.ev x;rw[hs]at X;have S:a.eval x=yv:=X.1.trans (h.base _ (I.mem _ _ _ _ d));obtain⟨Y,y1,y2,y3,y4⟩:=h.own;have t:∀(i:Nat) (s:SV N.T),(T.map (Ay (Ck C st.L)))[i]?=Ac s->∃v,(T.map a.eval)[i]?=Ac v/\s.is C η H v:=λi s V=>by
      rw[Abx]at V;obtain⟨z,d,rfl⟩:=Pe.1 V;exact⟨a.eval z,by grind,h.ev z⟩
     obtain⟨l,f,D,E,u,e1,e2,e3⟩:=I.ok _ _ _ _ Of H h.inv L d η (Y.map (·.2)) (T.map a.eval) w (by simp) t y2;refine⟨λf _=>Wu ro f,?_⟩;have A:(ID a.eval o).run P w= .ok (.round l f D E u) w:=by have O:a.eval x= .func (.yield l) #[] #[]:=S.trans e1;simp[ID,ho,resolve,Deferred.ofValue,O,invoke]at e2⊢;omega
     rw[J5.semAt_eq _ _ _ (λc e=>by grind),A];refine⟨rS,cJ (e3.mono ?_)⟩;rintro e w' ⟨b,rfl,j,m,r',Z,k2,k3,k4,k5⟩;exact F m r' _ η j _ w' Z k4 (h.yld (s:= .lb b) Z k2 J.2 (rfl:BU.bool b= .bool b) y1 k3 y3 y4) (eT M rfl rfl) k5
    grind
   grind
  grind
 ·split at p
  ·rename_i W;split at p;· rename_i z d;subst p;exact Aho W (VB B U I L h M d F)
   exact Aho W (QX B h M p λg η' j a' w' y h1 h2 h3=>F Of r g η' j a' w' y (U _ _ _ _ y L) h1 h2 h3)
  ·cases p
theorem qk(m:∀f q,Φ f=Ac q->Bm P f q)(D:∀H g Of r,H.le g->G H Of r->G g Of r)(F:O4 P bs yl yv G){p:Array J5}{o:J5}{kn:St N.T->Option R}{r:R}(l:G H Of r)(h:Sat C CR n Of bs st η H a w)(S:WF C CR bs st)(k:guY yl P Φ C CR n p o st kn=Ac r){K:Act->GD->Prop}{Q:Exit->Act->GD->Prop}
  (E:∀i r' c η' g a' w',H.le g->G g i r'->Sat C CR n i bs c η' g a' w'->WF C CR bs c->kn c=Ac r'->K a' w'):if Region.wanted o (yielded p a.tmps)then o.wpIn (FR ro) 0 P a w K Q else(∀f,o.about P w a.eval=Ac f->(FR ro).fn f)/\K (a.put o.dst undef) w:=by
 have u:∀ {d:St N.T},Sat C CR n Of bs d η H a w->WF C CR bs d->Ii n o.dst d kn=Ac r->(∀f,o.about P w a.eval=Ac f->(FR ro).fn f)/\K (a.put o.dst undef) w:=λ{d} T U V=>by grind[Q6,Wu,Hp.le.refl]
 unfold guY at k;split at k;· rw[if_pos (by grind[Region.wanted])];grind[L5]
 ·rename_i j e z;split at k;· grind
  ·rename_i t I;split at k;· rename_i O;have J:=h.lk t;rw[O]at J;rw[if_neg (by simp[Region.wanted,z,It I J])];grind
   ·obtain⟨b,c,B,L,M,v⟩:=Ui h S k;have A:=Gd I B;obtain⟨x,y⟩:=Pr (t:=t) (s:= .lb b) L M B rfl rfl;cases b with
    |true=>
     cases e with
     |true=>
      rw[if_pos (by grind[Region.wanted])];exact L5 m D F l x y v E
     |false=>
      rw[if_neg (by simp[Region.wanted,z,A])];exact u x y v
    |false=>
     cases e with
     |false=>
      rw[if_pos (by simp[Region.wanted,z,A])];exact L5 m D F l x y v E
     |true=>
      rw[if_neg (by simp[Region.wanted,z,A])];exact u x y v
theorem Si(i:∀f q,Φ f=Ac q->Bm P f q)(B:∀H c Of r,H.le c->G H Of r->G c Of r)(D:O4 P bs yl yv G){j:Array J5}{Q:Exit->Act->GD->Prop}{kn:St N.T->Option R} :∀ {os:List J5} {Of:Fm} {r:R} {st:St N.T} {η:Nat->BU} {H:Hp} {a:Act} {w:GD},G H Of r->Sat C CR n Of bs st η H a w->WF C CR bs st->aX yl P Φ C CR n j os st kn=Ac r->
  (∀d r' b η' c a' w',H.le c->G c d r'->Sat C CR n d bs b η' c a' w'->WF C CR bs b->kn b=Ac r'->Q .normal a' w')->wpListIn (FR ro) 0 P j Q os a w
 | [],Of,r,st,η,H,a,w,v,h,y,u,s=>s Of r st η H a w (Hp.le.refl H) v h y u
 |o::os,Of,r,st,η,H,a,w,v,h,y,u,s=>by refine wpListIn_step λK t=>qk i B D v h y u λd r' b η' c a' w' x L M O S=>t a' w' ?_;exact Si i B D L M O S λe z k l m p A g E F I J=>s e z k l m p A (x.trans g) E F I J
end
end
section
variable{A B:List J5}{i:Nat}
def Pn(P:Ge)(b:Array J5)(Q:Exit->Act->GD->Prop):List J5->Act->GD->Prop
 | [],a,w=>Q .normal a w
 |o::c,a,w=>if Region.wanted o (yielded b a.tmps)then o.wp P a w (Pn P b Q c) Q else Pn P b Q c (a.put o.dst undef) w
theorem SK:∀(os:List J5) (acc:List Nat),(Nd acc os).length=acc.length+os.length
 | [],acc=>rfl
 |o::os,acc=>by show(Nd (acc++[_]) os).length=_;rw[SK];grind
theorem SJ:∀(os:List J5) (acc:List Nat) (i:Nat),i<acc.length->(Nd acc os).getD i 0=acc.getD i 0
 | [],_,_,_=>rfl
 |o::os,acc,i,h=>by show(Nd (acc++[_]) os).getD i 0=_;rw[SJ os _ i (by grind),IS,Aaa h,<-IS]
theorem SL:∀(A B:List J5) (acc:List Nat),Nd acc (A++B)=Nd (Nd acc A) B
 | [],_,_=>rfl
 |o::A,B,acc=>by exact SL A B _
theorem Wm(h:i<A.length):Up (A++B) i=Up A i:=by grind[Up,SL,SJ,SK]
def Xz(m:Nat)(l:List J5):Bool:=(List.range l.length).all λj=>Nat.blt j m||(List.range j).all λi=>(Up l j).testBit i
theorem Xy{m:Nat}{l:List J5}(h:Xz m l=Br){j:Nat}(c:j<l.length)(d:m<=j)(hi:i<j):(Up l j).testBit i=Br:=by
 have a:=OF.1 h j (Abb.2 c);rw[Ado]at a;rcases a with a|a
 ·have:j<m:=by simp_all
  omega
 grind
theorem gP{P:Ge}{Q:Exit->Act->GD->Prop}{id:Nat}(z:P.follows .mixedOrders=Br)(V:GH 0 (A++B)=Br)(E:Xz A.length (A++B)=Br){J:(Nat->Bool)->Act->GD->Prop}
  (step:∀p a w i o,A[i]?=Ac o->p i=Ap->HG A p->(∀j,(Up A i).testBit j=Br->p j=Br)->(∀j M,A[j]?=Ac M->p j=Br->∀m,(Up A j).testBit m=Br->p m=Br)->J p a w->
   if Region.wanted o (yielded (A++B).toArray a.tmps)then o.wp P a w (J (I0 p i)) Q else J (I0 p i) (a.put o.dst undef) w)
  (L:∀p a w,(∀i,i<A.length->p i=Br)->J p a w->Pn P (A++B).toArray Q B a w) {a:Act} {w:GD} (h:J (λ_=>Ap) a {w with drawn:=w.drawn+1}):(Code.region id (A++B).toArray Br).wp P Q a w:=by
 refine LS z V (J:=λp a w=>((∀j,A.length<=j->j<(A++B).length->p j=Ap)/\J p a w)\/∃m,A.length<=m/\(∀j,j<(A++B).length->p j=decide (j<m))/\Pn P (A++B).toArray Q ((A++B).drop m) a w) ?_ ?_ (.inl ⟨λ_ _ _=>rfl,h⟩)
 ·intro p a w i o y H R v x u;have g:i<(A++B).length:=(No.1 y).1;have I:∀j,j≠i->I0 p i j=p j:=λj f=>by grind[I0]
  have K:I0 p i i=Br:=by simp[I0]
  have full:A.length<=i->∀j,j<i->p j=Br:=λr j f=>v j (Xy E g r f);have seq:∀m,m=i->A.length<=m->(∀j,j<(A++B).length->p j=decide (j<m))->Pn P (A++B).toArray Q ((A++B).drop m) a w->if Region.wanted o (yielded (A++B).toArray a.tmps)then o.wp P a w (λa w=>((∀j,A.length<=j->j<(A++B).length->I0 p i j=Ap)/\J (I0 p i) a w)\/∃m,A.length<=m/\(∀j,j<(A++B).length->I0 p i j=decide (j<m))/\Pn P (A++B).toArray Q ((A++B).drop m) a w) Q
    else((∀j,A.length<=j->j<(A++B).length->I0 p i j=Ap)/\J (I0 p i) (a.put o.dst undef) w)\/∃m,A.length<=m/\(∀j,j<(A++B).length->I0 p i j=decide (j<m))/\Pn P (A++B).toArray Q ((A++B).drop m) (a.put o.dst undef) w:=λm e z t s=>by
   subst e;have W:(A++B).drop m=o::(A++B).drop (m+1):=by grind[List.drop_eq_getElem_cons,Option.some.inj,List.getElem?_eq_getElem]
   rw[W]at s;have G:∀j,j<(A++B).length->I0 p m j=decide (j<m+1):=λj f=>by
    by_cases e:j=m;· grind
    ·rw[I j e,t j f];have:j<m↔j<m+1:=by omega
     simp[this]
   unfold Pn at s;split at s;· rename_i C;rw[if_pos C];exact J5.wp_mono (λa w h=> .inr ⟨m+1,by omega,G,h⟩) s
   grind
  rcases u with⟨D,u⟩|⟨m,z,t,s⟩
  ·by_cases r:i<A.length
   ·have X:A[i]?=Ac o:=by grind
    have st:=step p a w i o X H (λj M f=>R j M (by rw[Aaa (No.1 f).1];exact f)) (λj f=>v j (by rw[Wm r];exact f)) (λj M f t m z=>x j M (by rw[Aaa (No.1 f).1];exact f) t m (by rw[Wm (No.1 f).1];exact z)) u;have T:∀j,A.length<=j->j<(A++B).length->I0 p i j=Ap:=λj k N=>by rw[I j (by omega)];exact D j k N
    split at st;· rename_i C;rw[if_pos C];exact J5.wp_mono (λa w h=> .inl ⟨T,h⟩) st
    grind
   ·have r:A.length<=i:=by omega
    have e:A.length=i:=by refine Alp r (Ajy λn=>?_);have k:=full r A.length n;rw[D A.length (Aad _) (by omega)]at k;cases k
    refine seq A.length e (Aad _) (λj f=>?_) ?_
    ·by_cases F:j<A.length;· rw[full r j (by omega)];simp[F]
     ·rw[D j (by omega) f];simp[F]
    ·rw[Alv];exact L p a w (λj f=>full r j (by omega)) u
  ·refine seq m ?_ z t s;have k:=t i g;rw[H]at k;have k:¬i<m:=by simpa using k.symm
   refine Alp (by omega) (Ajy λn=>?_);have N:=full (by omega) m n;rw[t m (by omega)]at N;simp at N
 ·intro p a w l u;rcases u with⟨D,u⟩|⟨m,z,t,s⟩
  ·have U:B=[]:=by
    cases B with
    |nil=>rfl
    |cons b B=>
     have k:=l A.length (by simp);rw[D A.length (Aad _) (by simp)]at k;cases k
   have:=L p a w (λi r=>l i (by rw[Pd];omega)) u;rw[U]at this;exact this
  ·have S:(A++B).length<=m:=by
    refine Ajy λg=>?_;have k:=t m g;rw[l m g]at k;simp at k
   rw[Abf S]at s;exact s
end
section
variable {N : C6} {R : Type}
def QY(a:YL N R)(P:Ge)(Φ:Nat->Option (CQ N))(C:List (SV N.T))(CR:List (SR N.T))(n:Nat)(o:J5)(st:St N.T)(kn:St N.T->Option R):Option R:=match pZ a Φ C CR n o st kn with
 |some z=>z
 |none=>YN P Φ C CR n o st kn
def guJ(c:YL N R)(P:Ge)(Φ:Nat->Option (CQ N))(C:List (SV N.T))(CR:List (SR N.T))(n:Nat)(b:Array J5)(o:J5)(st:St N.T)(kn:St N.T->Option R):Option R:=match o.guard with
 |none=>QY c P Φ C CR n o st kn
 |some (
     j,a)=>match BG b j with
  |none=>C7
  |some t=>match Ck C st.L t with
   | .ud=>Ii n o.dst st kn
   |s=>wg s st
    (λst=>let st:=Ke t (.lb Br) st
     match a with
     |true=>QY c P Φ C CR n o st kn
     |false=>Ii n o.dst st kn)
    (λst=>let st:=Ke t (.lb Ap) st
     match a with
     |false=>QY c P Φ C CR n o st kn
     |true=>Ii n o.dst st kn)
def aY(c:YL N R)(P:Ge)(Φ:Nat->Option (CQ N))(C:List (SV N.T))(CR:List (SR N.T))(n:Nat)(a:Array J5):List J5->St N.T->(St N.T->Option R)->Option R
 | [],st,b=>b st
 |o::d,st,b=>guJ c P Φ C CR n a o st λst=>aY c P Φ C CR n a d st b
def a7(c:YL N R)(P:Ge)(Φ:Nat->Option (CQ N))(C:List (SV N.T))(CR:List (SR N.T))(n:Nat)(a:Array J5)(m:Nat)(st:St N.T)(kn:St N.T->Option R):Option R:=match Nat.ble m a.size&&(GH 0 a.toList&&Xz m a.toList)with
 |true=>vY P Φ C CR n (a.toList.take m).toArray st λst=>aY c P Φ C CR n a (a.toList.drop m) st kn
 |false=>C7
variable {C : List (SV N.T)} {CR : List (SR N.T)} {n : Nat} {bs : List (Nat × BU)} {P : Ge} [CC N P] {Φ : Nat -> Option (CQ N)} {G : Hp -> Fm -> R -> Prop} {yl : YL N R} {yv : BU}
section
variable{o:J5}{kn:St N.T->Option R}{Q:Exit->Act->GD->Prop}
theorem L6(g:∀f q,Φ f=Ac q->Bm P f q)(j:∀H c Of r,H.le c->G H Of r->G c Of r)(u:O4 P bs yl yv G){o:J5}{Of:Fm}{st:St N.T}{η:Nat->BU}{H:Hp}{a:Act}{w:GD}{kn:St N.T->Option R}{r:R}(l:G H Of r)(h:Sat C CR n Of bs st η H a w)(m:WF C CR bs st)(i:QY yl P Φ C CR n o st kn=Ac r){K:Act->GD->Prop}{Q:Exit->Act->GD->Prop}
  (k:∀d r' b η' c a' w',H.le c->G c d r'->Sat C CR n d bs b η' c a' w'->WF C CR bs b->kn b=Ac r'->K a' w'):o.wp P a w K Q:=by
 grind[QY,VB,QX]
theorem ql(l:∀f q,Φ f=Ac q->Bm P f q)(D:∀H p Of r,H.le p->G H Of r->G p Of r)(E:O4 P bs yl yv G){x:Array J5}{Of:Fm}{st:St N.T}{η:Nat->BU}{H:Hp}{a:Act}{w:GD}{r:R}(d:G H Of r)(h:Sat C CR n Of bs st η H a w)(F:WF C CR bs st)(g:guJ yl P Φ C CR n x o st kn=Ac r){K:Act->GD->Prop}
  (A:∀v r' c η' p a' w',H.le p->G p v r'->Sat C CR n v bs c η' p a' w'->WF C CR bs c->kn c=Ac r'->K a' w'):if Region.wanted o (yielded x a.tmps)then o.wp P a w K Q else K (a.put o.dst undef) w:=by
 have m:∀ {e:St N.T},Sat C CR n Of bs e η H a w->WF C CR bs e->Ii n o.dst e kn=Ac r->K (a.put o.dst undef) w:=λ{e} M O S=>by grind[Q6,Hp.le.refl]
 unfold guJ at g;split at g;· rw[if_pos (by grind[Region.wanted])];grind[L6]
 ·rename_i j i k;split at g;· grind
  ·rename_i t J;split at g;· rename_i V;have L:=h.lk t;rw[V]at L;rw[if_neg (by simp[Region.wanted,k,It J L])];grind
   ·obtain⟨b,c,I,T,U,u⟩:=Ui h F g;have B:=Gd J I;obtain⟨y,z⟩:=Pr (t:=t) (s:= .lb b) T U I rfl rfl;cases b with
    |true=>
     cases i with
     |true=>
      rw[if_pos (by grind[Region.wanted])];grind[L6]
     |false=>
      rw[if_neg (by simp[Region.wanted,k,B])];exact m y z u
    |false=>
     cases i with
     |false=>
      rw[if_pos (by simp[Region.wanted,k,B])];exact L6 l D E d y z u A
     |true=>
      rw[if_neg (by simp[Region.wanted,k,B])];exact m y z u
theorem Sj(i:∀f q,Φ f=Ac q->Bm P f q)(A:∀H c Of r,H.le c->G H Of r->G c Of r)(B:O4 P bs yl yv G){j:Array J5}{Q:Exit->Act->GD->Prop}{kn:St N.T->Option R} :∀ {os:List J5} {Of:Fm} {r:R} {st:St N.T} {η:Nat->BU} {H:Hp} {a:Act} {w:GD},G H Of r->Sat C CR n Of bs st η H a w->WF C CR bs st->aY yl P Φ C CR n j os st kn=Ac r->
  (∀d r' b η' c a' w',H.le c->G c d r'->Sat C CR n d bs b η' c a' w'->WF C CR bs b->kn b=Ac r'->Q .normal a' w')->Pn P j Q os a w
 | [],Of,r,st,η,H,a,w,u,h,x,t,s=>s Of r st η H a w (Hp.le.refl H) u h x t
 |o::os,Of,r,st,η,H,a,w,u,h,x,t,s=>by exact ql i A B u h x t λd r' b η' c a' w' v J K L M=>Sj i A B J K L M λe y k l m p z g D E F I=>s e y k l m p z (v.trans g) D E F I
theorem Te{A B:List J5}{g:Array BU}(h:∀j b,o.guard=Ac (j,b)->∃t,BG A.toArray j=Ac t):Region.wanted o (yielded (A++B).toArray g)=Region.wanted o (yielded A.toArray g):=by
 cases i:o.guard with
 |none=>grind[Region.wanted]
 |some l=>
  obtain⟨j,b⟩:=l;grind[BG,yielded,Region.wanted]
theorem a6(hΦ:∀f q,Φ f=Ac q->Bm P f q)(hm:P.follows .mixedOrders=Br)(hG:∀H F Of r,H.le F->G H Of r->G F Of r)(hY:O4 P bs yl yv G){Of:Fm}{Q:Exit->Act->GD->Prop}{id m:Nat}{u:Array J5}{kn:St N.T->Option R}{r:R}{st:St N.T}{η:Nat->BU}{H:Hp}{a:Act}{w:GD}(hg:G H Of r)(h:Sat C CR n Of bs st η H a w)(hw:WF C CR bs st)
  (L:a7 yl P Φ C CR n u m st kn=Ac r) (hK:∀I r' D η' F a' w',H.le F->G F I r'->Sat C CR n I bs D η' F a' w'->WF C CR bs D->kn D=Ac r'->Q .normal a' w'):(Code.region id u Br).wp P Q a w:=by
 unfold a7 at L;split at L;case h_2=>grind
 rename_i hck;simp only[AS]at hck;obtain⟨hsz,hbk,hct⟩:=hck;have hsz:m<=u.size:=by simp_all
 obtain⟨A,B,rfl,hA⟩:∃A B:List J5,u=(A++B).toArray/\A.length=m:=⟨u.toList.take m,u.toList.drop m,by simp,by grind⟩;have e1:(A++B).toArray.toList.take m=A:=by grind
 have e2:(A++B).toArray.toList.drop m=B:=by grind
 rw[e1,e2]at L;rw[<-hA]at hct;unfold vY at L;split at L;case h_2=>grind
 rename_i hfr;have iv0:IV P C CR n bs A st st [] 0:=⟨rfl,λt sv ht η H v hv=>by have hv:(s0 st t).is C η H v:=hv;simp_all[s0],λk=>rfl,hw,Aad _,λj s K=>by simp at K,λj o s hj=>by omega⟩;obtain⟨D,O,k1,V⟩:=K4 (l:=A) hΦ A st [] 0 rfl (Abh _) iv0 (by simpa using L);split at k1;case h_2=>cases k1
 rename_i g
 have y:=hfr;unfold CV at y;rw[AS]at y;have hTr:∀i o,A[i]?=Ac o->∃s,O[i]?=Ac s:=λi o ho=>by
  have:i<O.length:=by rw[(Kd g).2.1];exact(No.1 ho).1
  exact⟨O[i],BY this⟩
 have hl:∀i o s,A[i]?=Ac o->O[i]?=Ac s->cz P C A.toArray n st.nk o s (λt=>B_ A O (s0 st) (λ_=>Br) t i) (λk=>Cl O (Al CR st.O) (λ_=>Br) k i):=λi o s ho K=>V.loc i o s (No.1 ho).1 ho K;refine gP (J:=JV C n Of bs st.nk A O (s0 st) (Al CR st.O) H) hm (by simpa using hbk) (by simpa using hct) (λp a' w' i o U hpi hcl hanc S hJ=>?_) (λp a' w' Z hJ=>?_) ?_
 ·rw[Te λj b hgd=>by
   obtain⟨s,K⟩:=hTr i o U;have M:=hl i o s U K;cases s with
   |skip=>
    obtain⟨j',b',t,E,W,_⟩:=M.skip rfl;rw[hgd]at E;cases E;exact⟨t,W⟩
   |run z=>
    obtain⟨t,E,_⟩:=(M.run z rfl).1 j b hgd;exact⟨t,E⟩];refine SI h.inv g hw.mC (λt k c=>?_) (λk x c=>⟨?_,DK c hfr⟩) hw.lo hl p a' w' i o U hpi hcl hanc S hJ
  ·unfold s0 at c;split at c;· rename_i s K;have:=OF.1 (OF.1 y.1 _ (A2 K)) k c;simpa using this
   ·cases c
  ·have hlk:Ax st.O k≠C7:=λe=>by unfold Al at c;rw[e]at c;cases c
   exact Abz λT=>hlk (hw.ok k T)
 ·obtain⟨η',F,Y,E,W,g3,g4,g5,g6,g7,g8,g9⟩:=hJ.all Z;refine Sj hΦ hG hY (hG _ _ _ _ E hg) (st:=D) (η:=η') (H:=F) ⟨N.Cz E h.inv,W,g3,λt sv ht=>V.sl t sv ht η' F _ (g4 t),g5,Y,g6,g7,λk c=>?_,λk sr c=>g9 k sr (by rw[<-V.ow k];exact c)⟩ V.wf k1 λI r' st2 η2 H2 a2 w2 T q0 q1 q2 q3=>hK I r' st2 η2 H2 a2 w2 (E.trans T) q0 q1 q2 q3;rcases g8 k c with e|⟨j,s,_,e2,e3⟩;· exact Abs e V.le
  ·exact V.ks j s e2 k e3
 ·obtain⟨Y,E,W,g3,g4⟩:=h.own;refine⟨η,H,Y,Hp.le.refl H,h.defers,h.size,λt=>?_,h.base,E,W.drew,λk c=> .inl (g3 k c),λk sr c=>g4 k sr ?_⟩
  ·rw[Hx (i:=0) A.length (Abh _) (λ_ _ _ _=>rfl)];show(s0 st t).is C η H _;unfold s0;split;· rename_i s K;exact h.Bi t s K
   ·trivial
  ·rw[Hw (i:=0) A.length (Abh _) (λ_ _ _ _ _ _=>rfl)]at c;exact c
end
end
section
variable {N : C6} {R : Type}
def TG:List Tmp->List (SV N.T)->List (Nat×SV N.T)->List (Nat×SV N.T)
 |t::ts,s::ss,L=>TG ts ss ((t,s)::L)
 |_,_,L=>L
def E_{X Y:Type}(f:Y->X->(X->Option R)->Option R)(a:X->Option R):List Y->X->Option R
 | [],x=>a x
 |y::ys,x=>f y x (E_ f a ys)
def ND(e:Bool)(k:Option R):Option R:=match e with
 |true=>k
 |false=>C7
def yR(p:Nat×SP):Bool:=match p.2 with
 | .c _=>Br
 |_=>Ap
def tZ(q:IQ N):Bool:=((q.pi.ro.map (·.1)).all λk=>Nat.blt k q.pi.nk)&&(Cf (q.pi.ro.map (·.1))&&(q.pi.ro.all λp=>p.2.ks.all λk=>BZ (q.pi.ro.map (·.1)) k))
def RK(a:List Nat)(st:St N.T):St N.T:=app st C7 ⟨.no,[],a.map λk=>(k, .gone)⟩ st.nk
def Wg(q:IQ N)(x:BV N q.pi.hs)(m:List (Nat×Nat))(s:St N.T):St N.T:=⟨s.L,(q.pi.ro.map λp=>(AV m p.1,(instR N q.pi.hs x p.2).DA (AV m)))++s.O,s.nk⟩
abbrev dH(N:C6)(R:Type):=Nat->List (SV N.T)->List (SR N.T)->St N.T->(St N.T->Option R)->(Nat->St N.T->Option R)->(St N.T->Option R)->Option R
def eM(C:List (SV N.T))(CR:List (SR N.T))(nk:Nat)(ps:Array Tmp)(q:IQ N)(x:BV N q.pi.hs)(m:List (Nat×Nat))(p:A9)(z:Kc N.T)(b c:dH N R)(ke:Nat->St N.T->Option R)(kr:St N.T->Option R)(y:Bc N q.ts)(a:BV N (GG p z).hs)(nx:BV N (GG p z).hs->Option R):Option R:=b nk z.C z.CR ⟨TG ps.toList (QH q.ts y) (Fl N (GG p z) a).L,(Fl N (GG p z) a).O,(Fl N (GG p z) a).nk⟩ (λs=>c nk z.C z.CR s (λs=>Ab (Sf N z.C z.CR nk (GG p z) ⟨(Fl N (GG p z) a).L,s.O,s.nk⟩) nx) (λi s=>ke i (DJ z.C z.CR C.length CR.length (Wg q x m ⟨(Fl N (GG p z) a).L,s.O,s.nk⟩))) (λs=>kr (DJ z.C z.CR C.length CR.length (Wg q x m ⟨(Fl N (GG p z) a).L,s.O,s.nk⟩)))) (λ_ _=>C7) (λ_=>C7)
def n8(
     C:List (SV N.T)) (CR:List (SR N.T)) (n:Nat) (ps:Array Tmp) (e:Option A9) (st:St N.T) (q:IQ N) (l:SV N.T) (cs:List Nat) (c d:dH N R) (kn:St N.T->Option R) (ke:Nat->St N.T->Option R) (kr:St N.T->Option R):Option (Option R):=
 match(Nat.beq (Fi l cs).length q.pi.sl.length&&q.pi.sl.all (λp=>Nat.blt p.1 (Fi l cs).length))&&(tZ q&&Nat.beq q.yi (Sz l).length)with
 |false=>C7
 |true=>
      match JB C (Al CR st.O) (λi=>(Fi l cs).getD i .no) (G9 C (Al CR st.O) (λi=>(Fi l cs).getD i .no) q.pi) q.pi with
  |none=>C7
  |some x=>Ac (match e with
   |none=>C7
   |some p=>match vz C CR (RK (q.pi.ro.map λp=>AV (G9 C (Al CR st.O) (λi=>(Fi l cs).getD i .no) q.pi) p.1) st) p with
    |none=>C7
    |some z=>match(z.sl.all yR&&Nat.beq z.st.nk st.nk)&&(Nat.beq ps.size q.ts.length&&ps.toList.all (λt=>Nat.blt t n))with
     |false=>C7
     |true=>Ab (q.F x) λys=>Ab (Sf N z.C z.CR st.nk (GG p z) z.st) λx0=>
      E_ (eM C CR st.nk ps q x (G9 C (Al CR st.O) (λi=>(Fi l cs).getD i .no) q.pi) p z c d ke kr)
       (λf=>ND ys.2 (kn (DJ z.C z.CR C.length CR.length (Wg q x (G9 C (Al CR st.O) (λi=>(Fi l cs).getD i .no) q.pi) (Fl N (GG p z) f))))) ys.1 x0)
structure Sa(C:List (SV N.T))(CR:List (SR N.T))(n:Nat)(bs:List (Nat×BU))(st:St N.T)(η:Nat->BU)(H:Hp)(tm:Array BU)(Y:List (Nat×Av)):Prop where
 inv:N.inv H
 size:tm.size=n
 Bi:∀t sv,Ax st.L t=Ac sv->sv.is C η H (tm.getD t undef)
 base:∀p∈bs,η p.1=p.2
 nd:(keys Y).Nodup
 lt:∀k∈keys Y,k<st.nk
 res:∀k sr,Al CR st.O k=Ac sr->Dy C η H Y k sr
variable {C : List (SV N.T)} {CR : List (SR N.T)} {n : Nat} {Of : Fm} {bs : List (Nat × BU)} {st : St N.T} {η : Nat -> BU} {H : Hp} {a : Act} {w : GD} {Y : List (Nat × Av)}
section
variable{nk:Nat}{η':Nat->BU}{c:Hp}{k:Nat}{L:List (Nat×SV N.T)}{τ:Nat->Nat}{q:IQ N}{x:BV N q.pi.hs}{m:List (Nat×Nat)}{tm:Array BU}
theorem Sat.sa(h:Sat C CR n Of bs st η H a w):∃Y,Sa C CR n bs st η H a.tmps Y/\SH w H (Y.map (·.2)++Of.O):=by obtain⟨Y,b,c,d,e⟩:=h.own;exact⟨Y,⟨h.inv,h.size,h.Bi,h.base,b,d,e⟩,c⟩
theorem Sa.sat{b:Array BU}(h:Sa C CR n bs st η H b Y){O:List Av}{ds:List Deferred}(c:SH w H (Y.map (·.2)++O)):Sat C CR n ⟨O,ds⟩ bs st η H ⟨b,ds⟩ w:=
 ⟨h.inv,rfl,h.size,h.Bi,h.base,Y,h.nd,c,h.lt,h.res⟩
theorem Sa.mono{d:Array BU}(h:Sa C CR n bs st η H d Y)(b:H.le c):Sa C CR n bs st η c d Y:=
 ⟨N.Cz b h.inv,h.size,λt sv i=>(h.Bi t sv i).mono b,h.base,h.nd,h.lt,λk j g=>(h.res k j g).imp id λ⟨x,e,f⟩=>⟨x,e,f.mono b⟩⟩
def Ft(η:Nat->BU)(nk:Nat):List (Nat×BU):=(List.range nk).map λk=>(k,η k)
theorem Nh(h:k<nk):(k,η k)∈Ft η nk:=By.2 ⟨k,Abb.2 h,rfl⟩
theorem H6{p:Nat×BU}(h:p∈Ft η nk):p.1<nk/\p.2=η p.1:=by obtain⟨k,b,rfl⟩:=By.1 h;grind
theorem LO(h:∀p∈Ft η nk,η' p.1=p.2)(b:k<nk):η' k=η k:=h _ (Nh b)
theorem XA{e:Array BU}(hc:∀t sv,Ax L t=Ac sv->∃j,sv= .Cr j)(g:∀k∈CP C,η' k=η k)(b:H.le c)(h:∀t sv,Ax L t=Ac sv->sv.is C η H (e.getD t undef)):∀t sv,Ax L t=Ac sv->sv.is C η' c (e.getD t undef):=λt sv d=>by obtain⟨j,rfl⟩:=hc t sv d;exact((h t _ d).env g (λk f=>by cases f)).mono b
theorem bc{O e:List (Nat×SR N.T)}(hc:∀t sv,Ax L t=Ac sv->∃j,sv= .Cr j)(f:∀s∈C,Rv s=Br)(h:Nl (Al CR O) (Ck C L) τ):Nl (Al CR e) (Ck C L) τ:=λt=>by
 have b:=h t;unfold Ck at b⊢;cases d:Ax L t with
 |none=>trivial
 |some sv=>
  obtain⟨j,rfl⟩:=hc t sv d;rw[d]at b;simp only[res]at b⊢;rw[IS]at b⊢;cases c:C[j]? with
  |none=>trivial
  |some s=>
   rw[c]at b;have:=f s (Aai c);cases s<;>first|exact b|trivial
theorem gJ{p:A9}{x:BV N p.hs}(h:p.sl.all yR=Br):∀t sv,Ax (Fl N p x).L t=Ac sv->∃j,sv= .Cr j:=λt sv c=>by
 obtain⟨q,b,_,rfl⟩:=Du c;have:=OF.1 h q b;unfold yR at this;split at this;· rename_i j e;rw[e];exact⟨j,rfl⟩
 grind
theorem Zm{η:Nat->BU} :∀(ts:List Tmp) (ss:List (SV N.T)) (vs:List BU) (L:List (Nat×SV N.T)) (b:Array BU),vs.length=ss.length->ss.length=ts.length->(∀t∈ts,t<b.size)->(∀(i:Nat) (s:SV N.T),ss[i]?=Ac s->∃v,vs[i]?=Ac v/\s.is C η H v)->
  (∀t sv,Ax L t=Ac sv->sv.is C η H (b.getD t undef))->((ts.zip vs).foldl (λb (p:Tmp×BU)=>b.setIfInBounds p.1 p.2) b).size=b.size/\∀t sv,Ax (TG ts ss L) t=Ac sv->sv.is C η H (((ts.zip vs).foldl (λb (p:Tmp×BU)=>b.setIfInBounds p.1 p.2) b).getD t undef)
 | [],[],[],L,b,_,_,_,_,h=>⟨rfl,h⟩
 | [],_::_,_,_,_,_,h,_,_,_=>by grind
 |_::_,[],_,_,_,_,h,_,_,_=>by grind
 |_,_::_,[],_,_,h,_,_,_,_=>by grind
 | [],[],_::_,_,_,h,_,_,_,_=>by grind
 |t::ts,s::ss,v::vs,L,b,m,o,j,k,q=>by
  have:=Zm ts ss vs ((t,s)::L) (b.setIfInBounds t v) (by grind) (by grind) (λu d=>by grind) (λi s r=>k (i+1) s (by grind)) λu sv d=>by
   simp only[Ax]at d;cases f:Nat.beq t u with
   |true=>
    rw[f]at d;have:=AI f;obtain⟨z,e,y⟩:=k 0 s rfl;simp_all
   |false=>
    simp_all[ne,Abe]
  exact⟨by simp_all,this.2⟩
theorem OO:∀(ts:List Ty) (y:Bc N ts),∀s∈QH ts y,Ex s=Br/\Ry s=Br
 | [],_,s,h=>by trivial
 | [t],y,s,h=>by simp[QH]at h;subst h;trivial
 |t::u::ts,y,s,h=>by
  simp only[QH,Aay]at h;rcases h with rfl|h;· trivial
  ·exact OO (u::ts) y.2 s h
theorem Ve{τ:Nat->Nat}{Rr:Nat->Option (SR N.T)} :∀(ts:List Tmp) (ss:List (SV N.T)) (L:List (Nat×SV N.T)),(∀s∈ss,Ex s=Br/\Ry s=Br)->Nl Rr (Ck C L) τ->Nl Rr (Ck C (TG ts ss L)) τ
 | [],_,_,_,h=>h
 |_::_,[],_,_,h=>h
 |t::ts,s::ss,L,c,h=>by
  refine Ve ts ss ((t,s)::L) (λz f=>c z (by grind)) λq=>?_;have b:=h q;unfold Ck at b⊢;simp only[Ax];cases g:Nat.beq t q with
  |true=>
   obtain⟨d,e⟩:=c s (by simp);have:res C s=s:=by cases s<;>first|rfl|cases e
   grind[Dr]
  |false=>omega
theorem fL{A:Nat->SV N.T}{vs:List BU}(hx:JB C (Al CR st.O) A m q.pi=Ac x)(M:tZ q=Br)(len:vs.length=q.pi.sl.length)(hv:∀p∈q.pi.sl,∃v,vs[p.1]?=Ac v/\(A p.1).is C η H v)
  (h:Sa C CR n bs st η H tm Y) (hw:WF C CR bs st):
  (q.pi.ro.map λp=>AV m p.1).Nodup/\(∀p∈q.pi.ro,AV m p.1<st.nk)/\(∀p∈q.pi.sl,∃v,vs[p.1]?=Ac v/\(inst N q.pi.hs x p.2).is [] (λc=>η (AV m c)) H v)/\WF C CR bs (RK (q.pi.ro.map λp=>AV m p.1) st)/\
  ∃Yc U:List (Nat×Av),keys Yc=q.pi.ro.map (·.1)/\(∀p∈q.pi.ro,∃X,Ax Yc p.1=Ac X/\(instR N q.pi.hs x p.2).is [] (λc=>η (AV m c)) H p.1 X)/\Sa C CR n bs (RK (q.pi.ro.map λp=>AV m p.1) st) η H tm U/\∀w O,SH w H (Y.map (·.2)++O)->SH w H (Yc.map (·.2)++(U.map (·.2)++O)):=by
 obtain⟨B,Q,D⟩:=LN (C:=C) (η:=η) (H:=H) (Y:=Y) (vs:=vs) (A:=A) hx len hv (λp d r f=>h.res _ r f);generalize o:(q.pi.ro.map λp=>AV m p.1)=l at B;have T:∀k∈l,∃r,Al CR st.O k=Ac r:=λk b=>by grind
 have S:∀k∈l,k<st.nk:=λk b=>by refine Abz λL=>?_;have:=hw.ok k L;grind[Al]
 have F:keys (l.map λk=>(k,(SR.gone:SR N.T)))=l:=by unfold keys;rw[Aao];exact Aga _
 refine⟨B,λp d=>S _ (by grind),Q,hw.UX (n:=n) ⟨?_,Aad _,λj W i=>?_,λ_ _=>trivial⟩,q.pi.ro.map (λp=>(p.1,(Ax Y (AV m p.1)).getD .emp)),Y.filter (λp=> !BZ l p.1),?_,λp d=>?_,⟨h.inv,h.size,λt sv I=>?_,h.base,(Acv.map _).nodup h.nd,λk b=>?_,λk r b=>?_⟩,λw O P=>?_⟩;· unfold G3;simp only[NM,Ry,Bool.and_self,Aht,AS,Agz,and_true];refine OF.2 λp d=>?_;grind[N',mP]
 ·grind
 ·simp[keys]
 ·obtain⟨_,X,J,h2⟩:=D p d;refine⟨X,?_,h2⟩;unfold tZ at M;have nd:(keys (q.pi.ro.map (λp=>(p.1,(Ax Y (AV m p.1)).getD .emp)))).Nodup:=by
   unfold keys;grind
  rw[CF nd (By.2 ⟨p,d,rfl⟩),J];rfl
 ·have I:Ax (hQ (keys (l.map λk=>(k,(SR.gone:SR N.T)))) st.L) t=Ac sv:=I;rw[Qf]at I;obtain⟨z,y,rfl⟩:=Pe.1 I;exact Qg (h.Bi t z y)
 ·obtain⟨p,d,rfl⟩:=By.1 b;exact h.lt _ (By.2 ⟨p,(Aax.1 d).1,rfl⟩)
 ·have b:Al CR ((l.map λk=>(k,(SR.gone:SR N.T)))++st.O) k=Ac r:=b;rw[G5 _ _ (λp d=>by obtain⟨k,_,rfl⟩:=By.1 d;rfl)]at b;unfold Rq at b;split at b;· rename_i s G;cases b;obtain⟨k',_,e⟩:=By.1 (A2 G);cases e;exact .inl rfl
  ·have hn:k∉l:=λhm=>by
    obtain⟨z,y⟩:=Dg (show k∈keys (l.map λk=>(k,(SR.gone:SR N.T))) by rw[F];exact hm);grind
   exact(h.res k r b).imp id λ⟨z,g1,g2⟩=>⟨z,by rw[LJ hn];exact g1,g2⟩
 ·have y:=SH.Tm P (Z:=(q.pi.ro.map λp=>(AV m p.1,(Ax Y (AV m p.1)).getD .emp))++Y.filter λp=> !BZ l p.1) (by
   unfold keys;rw[Aan,Aao];refine Acs.2 ⟨by show(q.pi.ro.map λp=>AV m p.1).Nodup;rw[o];exact B,(Acv.map _).nodup h.nd,λk b k' K e=>?_⟩;subst e;obtain⟨p,d,rfl⟩:=By.1 K;have V:=(Aax.1 d).2;have b:p.1∈q.pi.ro.map λp=>AV m p.1:=b;rw[o]at b;rw[AP.2 b]at V;cases V) (λp d=>by
   rcases AT.1 d with d|d;· obtain⟨z,y,rfl⟩:=By.1 d;obtain⟨_,X,J,_⟩:=D z y;simp only[J,Acm]
   ·exact CF h.nd (Aax.1 d).1);rw[Aan,Aao,Aam]at y;rw[Aao];exact y
theorem W1{ρ:Nat->Nat}(s:SR N.T):N' (s.DA ρ)=Br:=by cases s<;>rfl
theorem gA{G:Hp}{Yc:List (Nat×Av)}(W:tZ q=Br)(o:(q.pi.ro.map λp=>AV m p.1).Nodup)(B:∀p∈q.pi.ro,AV m p.1<nk)(V:nk<=st.nk)(M:∀k,k<nk->η' k=η k)
  (hc:∀t sv,Ax st.L t=Ac sv->∃j,sv= .Cr j) (r:keys Yc=q.pi.ro.map (·.1)) (hr:∀p∈q.pi.ro,∃X,Ax Yc p.1=Ac X/\(instR N q.pi.hs x p.2).is [] (λc=>η (AV m c)) G p.1 X) (h:Sa C CR n bs st η' G tm Y) (J:WF C CR bs st):
  WF C CR bs (Wg q x m st)/\∃Y',Sa C CR n bs (Wg q x m st) η' G tm Y'/\∀w O,SH w G (Yc.map (·.2)++(Y.map (·.2)++O))->SH w G (Y'.map (·.2)++O):=by
 unfold tZ at W;simp only[AS]at W;obtain⟨o1,o2,o3⟩:=W;generalize u:(q.pi.ro.map λp=>AV m p.1)=K at o;have y:keys (q.pi.ro.map λp=>(AV m p.1,(instR N q.pi.hs x p.2).DA (AV m)))=K:=by unfold keys;rw[Aao,<-u];rfl
 have inj:∀c∈q.pi.ro.map (·.1),∀d∈q.pi.ro.map (·.1),AV m c=AV m d->c=d:=λc hc d U e=>by obtain⟨p,i,rfl⟩:=By.1 hc;obtain⟨p',D,rfl⟩:=By.1 U;grind[AV,PO]
 have b:keys (Yc.map λp=>(AV m p.1,p.2))=K:=by
  unfold keys at r⊢;rw[Aao];have e:(Yc.map ((·.1)∘λp=>(AV m p.1,p.2)))=(Yc.map (·.1)).map (AV m):=by simp
  rw[e,r,Aao,<-u];rfl
 refine⟨⟨J.lo,λj A=>?_,?_,J.mC,J.cP⟩,(Yc.map λp=>(AV m p.1,p.2))++Y.filter (λp=> !BZ K p.1),⟨h.inv,h.size,h.Bi,h.base,?_,λk l=>?_,λk sr g=>?_⟩,λw O hsh=>?_⟩;· have A:st.nk<=j:=A;show Ax ((q.pi.ro.map λp=>(AV m p.1,(instR N q.pi.hs x p.2).DA (AV m)))++st.O) j=C7;rw[BQ,J.ok j A,Cy λI=>?_];grind
 ·obtain⟨τ,hτ⟩:=J.wf;exact⟨τ,bc hc J.cP hτ⟩
 ·unfold keys at b⊢;rw[Aan,b];refine Acs.2 ⟨o,(Acv.map _).nodup h.nd,λk r k' g e=>?_⟩;grind[AP]
 ·show k<st.nk;unfold keys at l b;rw[Aan,b]at l;rcases AT.1 l with l|l;· grind
  ·obtain⟨p,i,rfl⟩:=By.1 l;exact h.lt _ (By.2 ⟨p,(Aax.1 i).1,rfl⟩)
 ·have g:Al CR ((q.pi.ro.map λp=>(AV m p.1,(instR N q.pi.hs x p.2).DA (AV m)))++st.O) k=Ac sr:=g;rw[G5 _ _ (λp i=>by obtain⟨z,_,rfl⟩:=By.1 i;exact I' (W1 _))]at g;unfold Rq at g;split at g
  ·rename_i s S;cases g;obtain⟨p,i,e⟩:=By.1 (A2 S);cases e;obtain⟨X,x1,x2⟩:=hr p i;have Z:p.1∈q.pi.ro.map (·.1):=By.2 ⟨p,i,rfl⟩;refine .inr ⟨X,?_,SR.Mp (M _ (B p i)) (λj A=>?_) x2⟩;· rw[BQ,Vt (λd U e=>inj d (by rw[<-r];exact U) p.1 Z e),x1]
   ·have A:=instR_ment _ _ _ _ A;have:=AP.1 (OF.1 (OF.1 o3 p i) j A);obtain⟨p',D,rfl⟩:=By.1 this;exact M _ (B p' D)
  ·rename_i S;have Q:k∉K:=λI=>by
    obtain⟨z,hz⟩:=Dg (show k∈keys (q.pi.ro.map λp=>(AV m p.1,(instR N q.pi.hs x p.2).DA (AV m))) by rw[y];exact I);rw[hz]at S;cases S
   refine(h.res k sr g).imp id λ⟨z,g1,g2⟩=>⟨z,?_,g2⟩;rw[BQ,Cy (by rw[b];exact Q),LJ Q];exact g1
 ·have L:SH w G (((Yc.map λp=>(AV m p.1,p.2))++Y).map (·.2)++O):=by
   rw[Aan,Aao,Aam];exact hsh
  refine SH.Tm L ?_ λp i=>?_;· unfold keys at b⊢;rw[Aan,b];refine Acs.2 ⟨o,(Acv.map _).nodup h.nd,λk r k' g e=>?_⟩;subst e;obtain⟨p,i,rfl⟩:=By.1 g;have v:=(Aax.1 i).2;rw[AP.2 r]at v;cases v
  ·rw[BQ];rcases AT.1 i with i|i;· rw[CF (by rw[b];exact o) i]
   ·have v:=(Aax.1 i).2;have Q:p.1∉K:=λI=>by rw[AP.2 I]at v;cases v
    rw[Cy (by rw[b];exact Q)];exact CF h.nd (Aax.1 i).1
end
end
section
variable{w:GD}{H:Hp}{A O B D:List Av}{b:Nat}{o:Obj}
theorem Agu(h:SH w H (A++(B++(D++O)))):SH w H (D++(B++(A++O))):=by grind[Ahm,List.append_assoc]
theorem Ajk(h:SH w H (A++(B++(D++O)))):SH w H (A++(D++(B++O))):=Ahm (Agu (Ahm h))
theorem Ahn(h:SH w H (A++ .Ah b o::O))(o':Obj):SH (w.putObj b o') H (A++ .Ah b o'::O):=by
 have f:(A++ .Ah b o::O)[A.length]?=Ac (.Ah b o):=by simp
 have g:w.heap[b]?=Ac o:=h.ok _ _ f;have a:b<w.heap.size:=(Acy.1 g).1;have d:=h.set f (r':= .Ah b o') (Je w b o') (GD.putObj_heap_same a) (λc hc=> .inl hc);grind
theorem SH.at_(h:SH w H (A++ .Ah b o::O)):w.heap[b]?=Ac o:=h.ok A.length (.Ah b o) (by simp)
end
section
variable {N : C6} {R : Type}
def GX(X:List Av)(ds:List Deferred)(G:Hp->Fm->R->Prop):Hp->Fm->R->Prop:=λH Of r=> ∃a,Of=⟨X++a.O,[]⟩/\G H a r/\a.ds=ds
variable {C : List (SV N.T)} {CR : List (SR N.T)} {n : Nat} {Of : Fm} {bs : List (Nat × BU)} {st : St N.T} {η : Nat -> BU} {H : Hp} {a : Act} {w : GD} {Y : List (Nat × Av)} {P : Ge} [CC N P] {G : Hp -> Fm -> R -> Prop} {yl : YL N R} {yv : BU}
section
variable{nk:Nat}
theorem O4.frame{f:List (Nat×BU)}{X:List Av}{ds:List Deferred}(l:O4 P bs yl yv G)(x:∀p∈bs,p∈f):O4 P f yl yv (GX X ds G):=by
 refine⟨λC i k r h=>x _ (l.mem C i k r h),λC i k r Of H s ⟨d,e,g,q⟩ v η A F w t u j=>?_⟩;subst e;have j:SH w H ((A++X)++d.O):=by grind
 refine(l.ok C i k r d H s g v η (A++X) F w t u j).mono λb J ⟨o,c,E,y,z,m,B,D⟩=>⟨o,⟨X++c.O,[]⟩,E,y,rf,by grind,⟨c,rf,B,z.trans q⟩,D⟩
def w9(P:Ge)(n:Nat)(yl:YL N R)(yv:BU)(c:Code)(d:dH N R):Prop:= ∀(l:Nat) {C:List (SV N.T)} {CR:List (SR N.T)} {kb:Nat} {bs:List (Nat×BU)} {G:Hp->Fm->R->Prop} {Of:Fm} {r:R} {st:St N.T} {kn:St N.T->Option R} {ke:Nat->St N.T->Option R} {kr:St N.T->Option R} {η:Nat->BU} {H:Hp} {a:Act} {w:GD} {Q:Exit->Act->GD->Prop},(∀q∈bs,q.1<kb)->(∀H b Of r,H.le b->G H Of r->G b Of r)->O4 P bs yl yv G->G H Of r->Sat C CR n Of bs st η H a w->WF C CR bs st->d kb C CR st kn ke kr=Ac r->Kn C CR n G bs H kn (Q .normal)->(∀i,Kn C CR n G bs H (ke i) (Q (.exit i)))->Kn C CR n G bs H kr (Q .ret)->c.wpIn (FR (Ac l)) 0 P Q a w
theorem mF(b:WF C CR (Ft η nk) st):nk<=st.nk:=by
 cases nk with
 |zero=>omega
 |succ k=>exact b.lo _ (Nh (Afy k))
theorem Qp{η' f:Nat->BU}{m g:Hp}{u:Array BU}{L:List (Nat×SV N.T)}{o:List (Nat×SR N.T)}{e:Nat}{b:St N.T}{O:List Av}{v:Act}(hc:∀t sv,Ax L t=Ac sv->∃j,sv= .Cr j)(q:∀k∈CP C,k<nk)(i:m.le g)
  (s:Sa C CR n (Ft η nk) ⟨L,o,e⟩ η' m u Y) (r:WF C CR (Ft η nk) ⟨L,o,e⟩) (h1:Sat C CR n ⟨O,[]⟩ (Ft η nk) b f g v w) (c:WF C CR (Ft η nk) b):
  WF C CR (Ft η nk) ⟨L,b.O,b.nk⟩/\∃h,Sa C CR n (Ft η nk) ⟨L,b.O,b.nk⟩ f g u h/\SH w g (h.map (·.2)++O):=by
 obtain⟨h,d,x⟩:=h1.sa;obtain⟨τ,l⟩:=r.wf;refine⟨⟨c.lo,c.ok,⟨τ,bc hc r.cP l⟩,c.mC,c.cP⟩,h,⟨d.inv,s.size,?_,d.base,d.nd,d.lt,d.res⟩,x⟩;exact XA hc (λk p=>(LO d.base (q k p)).trans (LO s.base (q k p)).symm) i s.Bi
theorem eK{q:IQ N}{f:Nat}{l:SV N.T}{cs:List Nat}{asg body:Code}{da db:dH N R}{ps:Array Tmp}{g:Dc}{pp:Option A9}{kn:St N.T->Option R}{ke:Nat->St N.T->Option R}{kr:St N.T->Option R}{r:R}{Q:Exit->Act->GD->Prop}(hsp:IX P f q)(hda:w9 P n yl yv asg da)(hdb:w9 P n yl yv body db)
  (hG:∀H H' Of r,H.le H'->G H Of r->G H' Of r) (hpush:∀H Of r D,G H Of r->G H (KV D Of) r) (hY:O4 P bs yl yv G) (hg:G H Of r) (h:Sat C CR n Of bs st η H a w) (hw:WF C CR bs st) {us:List BU} (he:a.eval g= .func (.func f) us.toArray (cs.map η).toArray) (hl:l.is C η H (.tuple us.toArray)) (hb:ua l=Br)
  (hcs:∀c∈cs,∃g b,Al CR st.O c=Ac (.Ah g b)) (hd:n8 C CR n ps pp st q l cs da db kn ke kr=Ac (Ac r)) (hn:Kn C CR n G bs H kn (Q .normal)) (hke:∀i,Kn C CR n G bs H (ke i) (Q (.exit i))) (hkr:Kn C CR n G bs H kr (Q .ret)):(Code.rangeFunc g ps asg body).wp P Q a w:=by
 unfold n8 at hd;split at hd;· grind
 rename_i hck;simp only[AS]at hck;obtain⟨⟨ck1,ck2⟩,ck3,ck4⟩:=hck;split at hd;· grind
 rename_i x hx;replace hd:=Abo hd;generalize hm:G9 C (Al CR st.O) (λi=>(Fi l cs).getD i .no) q.pi=m at hx hd;split at hd;· grind
 rename_i p;split at hd;· grind
 rename_i z hz;split at hd;· grind
 rename_i hck2;simp only[AS]at hck2;obtain⟨⟨cz1,cz2⟩,cz3,cz4⟩:=hck2;obtain⟨ys,hys,hd⟩:=Bp hd;obtain⟨x0,hx0,hd⟩:=Bp hd;obtain⟨g1,g2⟩:=M6 hb hl;obtain⟨Y,sa,hsh⟩:=h.sa;refine Wy (us:=us) (caps:=cs.map η) he hsp.Uc λfn=>?_;generalize hD:w.heap.size=D;generalize K:Bf fn a.tmps ps asg body D=d;have hlen:(us++[BU.func (.yield (D+1)) #[] #[]]++cs.map η).length=q.pi.sl.length:=by simp_all[Fi]
 have hargs:∀(i:Nat) (s:SV N.T),(Fi l cs)[i]?=Ac s->∃v,(us++[BU.func (.yield (D+1)) #[] #[]]++cs.map η)[i]?=Ac v/\s.is C η H v:=λi s hi=>by
  unfold Fi at hi;rw[Aam]at hi⊢;by_cases c1':i<(Sz l).length;· grind
  · rw[Aab (by omega)]at hi;rw[Aab (by omega),g1];generalize hj:i-(Sz l).length=j at hi⊢;cases j with
    |zero=>
     simp at hi;subst hi;exact⟨_,rfl,trivial⟩
    |succ j=>
     simp only[Adt,Abp,Adg,Abx]at hi⊢;obtain⟨c,hc,rfl⟩:=Pe.1 hi;have hcm:=Aai hc;obtain⟨g',b,hR⟩:=hcs c hcm;refine⟨η c,by grind,?_⟩;rcases sa.res c _ hR with e|⟨X,_,B,_,b1,_⟩;· cases e
     ·exact⟨B,b1,b1⟩
 have hsl:∀p∈q.pi.sl,∃v,(us++[BU.func (.yield (D+1)) #[] #[]]++cs.map η)[p.1]?=Ac v/\((Fi l cs).getD p.1 .no).is C η H v:=λp U=>by
  have hlt:p.1<(Fi l cs).length:=by simpa using OF.1 ck2 p U
  obtain⟨v,e1,e2⟩:=hargs p.1 (Fi l cs)[p.1] (BY hlt);refine⟨v,e1,?_⟩;rw[IS,BY hlt];exact e2
 obtain⟨l1,l2,l3,l4,Yc,Yr,l5,l6,l7,l8⟩:=fL (A:=λi=>(Fi l cs).getD i .no) hx ck3 hlen hsl sa hw;generalize hks:(q.pi.ro.map λp=>AV m p.1)=ks at l1 l4 l7 hz;have hw1:SH ((w.alloc (.deferred (Ac []))).alloc (.loop d)) H (.Ah (D+1) (.loop d)::BB D::(Y.map (·.2)++Of.O)):=by have:=(hsh.alloc (.deferred (Ac []))).alloc (.loop d);rw[<-hD];simpa using this
 generalize hW1:(w.alloc (.deferred (Ac []))).alloc (.loop d)=w1 at hw1;have hw2:SH w1 H (Yr.map (·.2)++(([.Ah (D+1) (.loop d),BB D]:List Av)++(Yc.map (·.2)++Of.O))):=Ajk (B:=Yc.map (·.2)) (Ahm (l8 w1 _ (Ahw hw1)));have l7':Sa C CR n (Ft η st.nk) (RK ks st) η H a.tmps Yr:=⟨l7.inv,l7.size,l7.Bi,λp U=>(H6 U).2.symm,l7.nd,l7.lt,l7.res⟩;have l4':WF C CR (Ft η st.nk) (RK ks st):=⟨λp U=>(H6 U).1,l4.ok,l4.wf,l4.mC,l4.cP⟩;obtain⟨c1,c2,c3,c4,c5⟩:=TZ (l7'.sat (ds:=[]) hw2) l4' hz;obtain⟨η0,e1,e2⟩:=MX c4 c5 (λp U=>(H6 U).1) hx0;obtain⟨Y0,s0,hsh0⟩:=e1.sa;have hnkz:=AI cz2;have hmz:∀k∈CP z.C,k<st.nk:=λk hk=>by rw[<-hnkz];exact c5.mC k hk
 have W:∀J:BV N (GG p z).hs,∀t sv,Ax (Fl N (GG p z) J).L t=Ac sv->∃j,sv= .Cr j:=λJ=>gJ (show(GG p z).sl.all yR=Br from cz1);let G2:Hp->List Av->List (Bc N q.ts)×Bool->Prop:=λH' O ys'=>H.le H'/\∃I r',G H' I r'/\I.ds=Of.ds/\
  (
   (∃J E Z,O= .Ah (D+1) (.loop d)::BB D::(Z.map (·.2)++I.O)/\Sa z.C z.CR n (Ft η st.nk) (Fl N (GG p z) J) E H' a.tmps Z/\WF z.C z.CR (Ft η st.nk) (Fl N (GG p z) J)/\E_ (eM C CR st.nk ps q x m p z da db ke kr) (λJ=>ND ys'.2 (kn (DJ z.C z.CR C.length CR.length (Wg q x m (Fl N (GG p z) J))))) ys'.1 J=Ac r')\/
   (
    ys'=([],Br)/\∃c s E Z,O= .Ah (D+1) (.loop {d with state:= .done,pending:=Ac c})::BB D::(Z.map (·.2)++I.O)/\(∀t sv,Ax s.L t=Ac sv->∃j,sv= .Cr j)/\Sa z.C z.CR n (Ft η st.nk) s E H' a.tmps Z/\WF z.C z.CR (Ft η st.nk) s/\
    ((c= .ret/\kr (DJ z.C z.CR C.length CR.length (Wg q x m s))=Ac r')\/∃i,c= .exit i/\ke i (DJ z.C z.CR C.length CR.length (Wg q x m s))=Ac r')));have mono2:∀S H2 O r,S.le H2->G2 S O r->G2 H2 O r:=λS H2 O r' hle ⟨k0,I,r1,k1,k2,k3⟩=>by
  refine⟨k0.trans hle,I,r1,hG _ _ _ _ hle k1,k2,?_⟩;rcases k3 with⟨J,E,Z,q1,q2,q3,q4⟩|⟨q0,c,s,E,Z,q1,q2,q3,q4,q5⟩;· exact .inl ⟨J,E,Z,q1,q2.mono hle,q3,q4⟩
  · exact .inr ⟨q0,c,s,E,Z,q1,q2,q3.mono hle,q4,q5⟩
 have no2:∀S O,¬G2 S O ([],Ap):=λS O ⟨_,_,_,_,_,k3⟩=>by
  rcases k3 with⟨_,_,_,_,_,_,e⟩|⟨e,_⟩;· cases e
  · cases e
 have yld2:∀S O y r ce,N.inv S->G2 S O (y::r,ce)->∀A vs w,Lw S q.ts y vs->SH w S (A++O)->IU P (.func (.yield (D+1)) #[] #[]) vs w λb w'=> ∃H' O',S.le H'/\SH w' H' (A++O')/\G2 H' O' (KI (r,ce) b):=λS O y rest ce _ ⟨k0,I,r',k1,k2,k3⟩ A vs w' hArg hSH=>by
  rcases k3 with⟨J,E,Z,rfl,s1,f1,M⟩|⟨e,_⟩;case inr=>cases e
  have M:eM C CR st.nk ps q x m p z da db ke kr y J (E_ (eM C CR st.nk ps q x m p z da db ke kr) (λJ=>ND ce (kn (DJ z.C z.CR C.length CR.length (Wg q x m (Fl N (GG p z) J))))) rest)=Ac r':=M;obtain⟨p1,p2,p3⟩:=Ud (C:=z.C) (η:=E) q.ts y vs hArg;have hps:ps.size=q.ts.length:=AI cz3;obtain⟨q1,q2⟩:=Zm (C:=z.C) ps.toList (QH q.ts y) vs (Fl N (GG p z) J).L a.tmps p1 (by rw[p2,<-hps];simp) (λt ht=>by rw[h.size];simpa using OF.1 cz4 t ht) p3 s1.Bi;have hhp:w'.heap[D+1]?=Ac (.loop d):=SH.at_ hSH;have hrp:d.params=ps:=by rw[<-K]
  have hrt:d.tmps=a.tmps:=by rw[<-K]
  have hra:d.assign=asg:=by rw[<-K]
  have hrb:d.body=body:=by rw[<-K]
  have hrs:d.state= .ready:=by rw[<-K]
  have hry:=run_yield (P:=P) (args:=vs.toArray) hhp (by rw[hrp];simp[p1,p2,hps]);rw[hrp,hrt,hra,hrb,<-Array.foldl_toList,Array.toList_zip]at hry;refine⟨D+1,d.fn,_,asg,body,rfl,hry,?_⟩;generalize htm:(ps.toList.zip vs.toArray.toList).foldl (λtm (p:Tmp×BU)=>tm.setIfInBounds p.1 p.2) a.tmps=tm' at*;have q1':tm'.size=n:=q1.trans h.size;have q2':∀t sv,Ax (TG ps.toList (QH q.ts y) (Fl N (GG p z) J).L) t=Ac sv->sv.is z.C E S (tm'.getD t undef):=q2;have hX:SH w' S (Z.map (·.2)++((.Ah (D+1) (.loop d)::BB D::A)++I.O)):=Agu (A:=A) (B:=[.Ah (D+1) (.loop d),BB D]) (D:=Z.map (·.2)) (O:=I.O) hSH;have hYm:∀p∈bs,p∈Ft η st.nk:=λp U=>by have e:=h.base p U;obtain⟨k,v⟩:=p;have e:η k=v:=e;rw[<-e];exact Nh (hw.lo _ U)
  have gm:∀X:List Av,∀H H' Of3 r,H.le H'->GX X Of.ds G H Of3 r->GX X Of.ds G H' Of3 r:=λX H H' Of3 r hle ⟨O2,e,g,gd⟩=>⟨O2,e,hG _ _ _ _ hle g,gd⟩;refine roundIn_of_wpIn (F:=Fence.wide) trivial ?_;refine hda (D+1) (G:=GX (.Ah (D+1) (.loop d)::BB D::A) Of.ds G) (r:=r') (a:=⟨tm',[]⟩) (st:=⟨TG ps.toList (QH q.ts y) (Fl N (GG p z) J).L,(Fl N (GG p z) J).O,(Fl N (GG p z) J).nk⟩) (ke:=λ_ _=>C7) (kr:=λ_=>C7) (λp U=>(H6 U).1) (gm _) (hY.frame hYm) ⟨I,rfl,k1,k2⟩ (Sa.sat (st:=⟨TG ps.toList (QH q.ts y) (Fl N (GG p z) J).L,(Fl N (GG p z) J).O,(Fl N (GG p z) J).nk⟩) (ds:=[]) ⟨s1.inv,q1',q2',s1.base,s1.nd,s1.lt,s1.res⟩ hX) (f1.Gm λτ hτ=>Ve _ _ _ (OO _ _) hτ) M ?_ (λi Of1 r1 st1 η1 H2 a1 w1 _ _ _ _ hd1=>by cases hd1) (λOf1 r1 st1 η1 H2 a1 w1 _ _ _ _ hd1=>by cases hd1);intro Of1 r1 st1 η1 H2 a1 w1 hl1 ⟨Of2,e,g,gd⟩ h1 hw1 hd1;subst e;obtain⟨Y5,y1,y2,y3,y4⟩:=h1.own;refine⟨_,run_beginRound (SH.at_ (A:=Y5.map (·.2)) y2) hrs,?_⟩;refine hdb (D+1) (G:=GX (.Ah (D+1) (.loop {d with state:= .busy})::BB D::A) Of.ds G) (r:=r1) (Of:=⟨(.Ah (D+1) (.loop {d with state:= .busy})::BB D::A)++Of2.O,[]⟩) (λp U=>(H6 U).1) (gm _) (hY.frame hYm) ⟨Of2,rfl,g,gd⟩ ⟨h1.inv,h1.defers,h1.size,h1.Bi,h1.base,Y5,y1,Ahn y2 _,y3,y4⟩ hw1 hd1 ?_ (λi=>?_) ?_
  · intro Of3 r3 st3 η3 H3 a3 w3 T ⟨Of4,e,g4,gd4⟩ V hw3 hd3;subst e;obtain⟨Y6,z1,z2,z3,z4⟩:=V.own;have hend:(Instr.endRound (D+1) C7).run P w3= .ok (.bool Br) (w3.putObj (D+1) (.loop d)):=by
     have:=run_endRound (P:=P) C7 (SH.at_ (A:=Y6.map (·.2)) z2);rw[<-K]at this⊢;exact this
    obtain⟨b1,Y7,b2,b3⟩:=Qp (w:=w3.putObj (D+1) (.loop d)) (O:=(.Ah (D+1) (.loop d)::BB D::A)++Of4.O) (W J) hmz (hl1.trans T) s1 f1 ⟨V.inv,V.defers,V.size,V.Bi,V.base,Y6,z1,Ahn z2 _,z3,z4⟩ hw3;obtain⟨z',e3,e4⟩:=Bp hd3;obtain⟨η4,e5,e6⟩:=MX (b2.sat (ds:=[]) b3) b1 (λp U=>(H6 U).1) e3;obtain⟨Y8,s8,g8⟩:=e5.sa;exact⟨_,_,hend,Br,rfl,H3,_,hl1.trans T,Agu (B:=[.Ah (D+1) (.loop d),BB D]) g8,(k0.trans hl1).trans T,Of4,r3,g4,gd4, .inl ⟨z',η4,Y8,rfl,s8,e6,e4⟩⟩
  · intro Of3 r3 st3 η3 H3 a3 w3 T ⟨Of4,e,g4,gd4⟩ V hw3 hd3;subst e;obtain⟨Y6,z1,z2,z3,z4⟩:=V.own;have hend:(Instr.endRound (D+1) (Ac (.exit i))).run P w3= .ok (.bool Ap) (w3.putObj (D+1) (.loop {d with state:= .done,pending:=Ac (.exit i)})):=by
     have:=run_endRound (P:=P) (Ac (.exit i)) (SH.at_ (A:=Y6.map (·.2)) z2);exact this
    obtain⟨b1,Y7,b2,b3⟩:=Qp (w:=w3.putObj (D+1) (.loop {d with state:= .done,pending:=Ac (.exit i)})) (O:=(.Ah (D+1) (.loop {d with state:= .done,pending:=Ac (.exit i)})::BB D::A)++Of4.O) (W J) hmz (hl1.trans T) s1 f1 ⟨V.inv,V.defers,V.size,V.Bi,V.base,Y6,z1,Ahn z2 _,z3,z4⟩ hw3;exact⟨_,_,hend,Ap,rfl,H3,_,hl1.trans T,Agu (B:=[.Ah (D+1) (.loop {d with state:= .done,pending:=Ac (.exit i)}),BB D]) b3,(k0.trans hl1).trans T,Of4,r3,g4,gd4, .inr ⟨rfl, .exit i,⟨(Fl N (GG p z) J).L,st3.O,st3.nk⟩,η3,Y7,rfl,W J,b2,b1, .inr ⟨i,rfl,hd3⟩⟩⟩
  · intro Of3 r3 st3 η3 H3 a3 w3 T ⟨Of4,e,g4,gd4⟩ V hw3 hd3;subst e;obtain⟨Y6,z1,z2,z3,z4⟩:=V.own;have hend:(Instr.endRound (D+1) (Ac .ret)).run P w3= .ok (.bool Ap) (w3.putObj (D+1) (.loop {d with state:= .done,pending:=Ac .ret})):=by
     have:=run_endRound (P:=P) (Ac .ret) (SH.at_ (A:=Y6.map (·.2)) z2);exact this
    obtain⟨b1,Y7,b2,b3⟩:=Qp (w:=w3.putObj (D+1) (.loop {d with state:= .done,pending:=Ac .ret})) (O:=(.Ah (D+1) (.loop {d with state:= .done,pending:=Ac .ret})::BB D::A)++Of4.O) (W J) hmz (hl1.trans T) s1 f1 ⟨V.inv,V.defers,V.size,V.Bi,V.base,Y6,z1,Ahn z2 _,z3,z4⟩ hw3;exact⟨_,_,hend,Ap,rfl,H3,_,hl1.trans T,Agu (B:=[.Ah (D+1) (.loop {d with state:= .done,pending:=Ac .ret}),BB D]) b3,(k0.trans hl1).trans T,Of4,r3,g4,gd4, .inr ⟨rfl, .ret,⟨(Fl N (GG p z) J).L,st3.O,st3.nk⟩,η3,Y7,rfl,W J,b2,b1, .inl ⟨rfl,hd3⟩⟩⟩
 have nd:(keys Yc).Nodup:=by rw[l5];have:=ck3;unfold tZ at this;simp only[AS]at this;exact BF this.2.1
 have hyi:(us++[BU.func (.yield (D+1)) #[] #[]]++cs.map η)[q.yi]?=Ac (BU.func (.yield (D+1)) #[] #[]):=by rw[AI ck4,<-g1];simp
 refine(hsp.ok x ys hys G2 (.func (.yield (D+1)) #[] #[]) rfl mono2 no2 yld2 (λc=>η (AV m c)) H (.Ah (D+1) (.loop d)::BB D::(Y0.map (·.2)++Of.O)) Yc _ w1 nd hlen l3 hyi l5 l6 ⟨Hp.le.refl H,Of,r,hg,rfl, .inl ⟨x0,η0,Y0,rfl,s0,e2,hd⟩⟩ h.inv (Agu (B:=[.Ah (D+1) (.loop d),BB D]) hsh0)).mono ?_;rintro e w' ⟨v,S,O1,Y1,rfl,hle1,hsh1,hk1,hr1,k0,I,r',k1,k2,k3⟩;have endS:∀ {s:St N.T} {E:Nat->BU} {Z:List (Nat×Av)} {o:Obj} (o':Obj),(∀t sv,Ax s.L t=Ac sv->∃j,sv= .Cr j)->Sa z.C z.CR n (Ft η st.nk) s E S a.tmps Z->WF z.C z.CR (Ft η st.nk) s->SH w' S (Y1.map (·.2)++ .Ah (D+1) o::BB D::(Z.map (·.2)++I.O))->
    Sat C CR n (KV D I) bs (DJ z.C z.CR C.length CR.length (Wg q x m s)) E S {a with defers:=Ef D::a.defers} (w'.putObj (D+1) o')/\WF C CR bs (DJ z.C z.CR C.length CR.length (Wg q x m s)):=λ{s} {E} {Z} {o} o' hc s2 f2 hs=>by
  have hs:=Agw hs o';have hs:SH (w'.putObj (D+1) o') S (Y1.map (·.2)++(([BB D]:List Av)++(Z.map (·.2)++I.O))):=hs;have hs:=Ajk hs;obtain⟨u1,Y3,u2,u3⟩:=gA (η:=η) (nk:=st.nk) ck3 (by rw[hks];exact l1) l2 (mF f2) (λk hk=>LO s2.base hk) hc hk1 hr1 s2 f2;have hs:=u3 _ _ hs;have u2':Sa z.C z.CR n bs (Wg q x m s) E S a.tmps Y3:=⟨u2.inv,u2.size,u2.Bi,λp U=>(LO s2.base (hw.lo p U)).trans (h.base p U),u2.nd,u2.lt,u2.res⟩;have u1':WF z.C z.CR bs (Wg q x m s):=⟨λp U=>Abs (hw.lo p U) (show st.nk<=s.nk from mF f2),u1.ok,u1.wf,u1.mC,u1.cP⟩;have hst:=u2'.sat (ds:=Ef D::a.defers) hs;have hst:Sat z.C z.CR n (KV D I) bs (Wg q x m s) E S {a with defers:=Ef D::a.defers} (w'.putObj (D+1) o'):=by
    have e:KV D I=⟨([BB D]:List Av)++I.O,Ef D::a.defers⟩:=by rw[h.defers,<-k2];rfl
    rw[e];exact hst
  exact Y9 c1 c2 c3 hst u1'
 rcases k3 with⟨J,E,Z,rfl,s1,f1,M⟩|⟨_,c,s,E,Z,rfl,hc,s1,f1,hj⟩
 ·have hrs:d.state= .ready:=by rw[<-K]
  have hrn:d.pending=C7:=by rw[<-K]
  refine⟨v,d,rfl,SH.at_ hsh1,by rw[hrs];simp,?_⟩;rw[hrn];obtain⟨t1,t2⟩:=endS (.loop {d with state:= .exhausted,pending:=C7}) (W J) s1 f1 hsh1;exact hn _ r' _ E S _ _ k0 (hpush _ _ _ _ k1) t1 t2 M
 ·refine⟨v,{d with state:= .done,pending:=Ac c},rfl,SH.at_ hsh1,by simp,?_⟩;obtain⟨t1,t2⟩:=endS (.loop {d with state:= .exhausted,pending:=Ac c}) hc s1 f1 hsh1;rcases hj with⟨rfl,hj⟩|⟨i,rfl,hj⟩;· exact wp_ret (hkr _ r' _ E S _ _ k0 (hpush _ _ _ _ k1) t1 t2 hj)
  · exact wp_exit (hke i _ r' _ E S _ _ k0 (hpush _ _ _ _ k1) t1 t2 hj)
end
end
end Go.GV
