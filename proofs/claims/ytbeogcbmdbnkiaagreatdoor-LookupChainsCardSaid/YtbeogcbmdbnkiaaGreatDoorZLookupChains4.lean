/- Part 4 of the texts of this claim: what its theorem leans on. -/
import Derived.Test.YtbeogcbmdbnkiaaGreatDoorZLookupChains3
import Derived.TacticsIn
import Derived.Scope
import Derived.Test.YtbeogcbmdbnkiaaGreatDoorZLookupChains1
import Derived.Shelf.Strconv.AppendUint10
import Derived.Shelf.Strconv.AppendIntPublic10
import Derived.KernelRfl
set_option linter.all false
open Option renaming some→Ac,none→C7
open Bool renaming false→Ap,true→Br
open Go renaming Value→BU,Operand→Dc,TypeId→Ee,Program→Ge,World→GD,execOp→ID,Oper→J5,IntKind→Kj
set_option maxRecDepth 100000
set_option maxHeartbeats 4000000
namespace Go.GV
open Go Go.GK
section
variable {N : C6} {R : Type}
def f_(f:IQ N->Option (Option R)):List (IQ N)->Option R
 | []=>C7
 |q::l=>match f q with
  |some z=>z
  |none=>f_ f l
def uR(Φ:Nat->Option (CQ N))(C:List (SV N.T))(CR:List (SR N.T))(n:Nat)(g:Dc)(ps:Array Tmp)(e:Option A9)(st:St N.T)(b d:dH N R)(kn:St N.T->Option R)(ke:Nat->St N.T->Option R)(kr:St N.T->Option R):Option R:=match Ay (Ck C st.L) g with
 | .AK f l a=>match Φ f with
  |some (.its h)=>match ua l&&a.all λc=>match Al CR st.O c with|some (.Ah _ _)=>Br|_=>Ap with
   |true=>f_ (λq=>n8 C CR n ps e st q l a b d kn ke kr) h
   |false=>C7
  |_=>n9 Φ C CR n g st kn
 |_=>C7
def unK{T:Nat->Type} :Nat->(St T->(St T->Option R)->Option R)->St T->Option R
 |0,_,_=>C7
 |n+1,f,st=>f st (λa=>unK n f a)
def den(cx:Cx N)(n:YL N R)(fu:Nat):Code->Nat->Bool->List (SV N.T)->List (SR N.T)->St N.T->(St N.T->Option R)->(Nat->St N.T->Option R)->(St N.T->Option R)->Option R
 | .skip,_,_,_,_,st,f,_,_=>f st
 | .label _,_,_,_,_,st,f,_,_=>f st
 | .region i o d,_,l,C,e,st,f,_,_=>PV C e (cx.pre i) st λst=>match d with
  |true=>match l with
   |true=>C7
   |false=>match cx.ct i with
    |0=>vY cx.P cx.Φ C e cx.n o st λst=>PV C e (cx.post i) st f
    |m+1=>a7 n cx.P cx.Φ C e cx.n o (m+1) st λst=>PV C e (cx.post i) st f
  |false=>aX n cx.P cx.Φ C e cx.n o o.toList st λst=>PV C e (cx.post i) st f
 | .seq a b,kb,l,C,e,st,f,h,k=>match(Ll b).bind cx.jn with
  |none=>den cx n fu a kb l C e st (λst=>den cx n fu b kb l C e st f h k) h k
  |some p=>match vz C e st p with
   |none=>C7
   |some q=>den cx n fu a kb l q.C q.CR q.st
     (λu=>Ab (Sf N q.C q.CR kb (GG p q) u) λx=>den cx n fu b kb l q.C q.CR (Fl N (GG p q) x)
      (λs=>f (DJ q.C q.CR C.length e.length s)) (λi s=>h i (DJ q.C q.CR C.length e.length s)) (λs=>k (DJ q.C q.CR C.length e.length s)))
     (λi s=>h i (DJ q.C q.CR C.length e.length s)) (λs=>k (DJ q.C q.CR C.length e.length s))
 | .cond c a b,kb,l,C,e,st,f,h,k=>match c with
  | .tmp t=>match Ck C st.L t with
   | .px _ .ub=>match den cx n fu a kb l C e st f h k,den cx n fu b kb l C e st f h k with
    |some x,Ac y=>n.ag x y
    |_,_=>C7
   |s=>wg s st (λst=>den cx n fu a kb l C e st f h k) (λst=>den cx n fu b kb l C e st f h k)
  | .const (.bool Br)=>den cx n fu a kb l C e st f h k
  | .const (.bool Ap)=>den cx n fu b kb l C e st f h k
  |_=>C7
 | .block i a,kb,l,C,e,st,f,h,k=>den cx n fu a kb l C e st f (λj st=>match Nat.beq i j with
  |true=>f st
  |false=>h j st) k
 | .loop a,kb,l,C,e,st,f,h,k=>match(Ll a).bind cx.la with
  |none=>unK 9 (λst nx=>den cx n fu a kb l C e st nx h k) st
  |some p=>match vz C e st p with
   |none=>C7
   |some q=>Ab (Sf N q.C q.CR kb (GG p q) q.st) λz=>
    Ad fu (λx nx=>den cx n fu a kb l q.C q.CR (Fl N (GG p q) x)
     (λu=>Ab (Sf N q.C q.CR kb (GG p q) u) nx)
     (λi s=>h i (DJ q.C q.CR C.length e.length s)) (λs=>k (DJ q.C q.CR C.length e.length s))) z
 | .scope a,kb,l,C,e,st,f,h,k=>match l with
  |true=>C7
  |false=>den cx n fu a kb l C e st f h k
 | .exit i,_,_,_,_,st,_,h,_=>h i st
 | .ret,_,_,_,_,st,_,_,k=>k st
 | .rangeFunc g w v r,_,l,C,e,st,f,h,k=>match l with
  |true=>C7
  |false=>uR cx.Φ C e cx.n g w ((Ll (.seq v r)).bind cx.la) st (λkb C e st f h k=>den cx n fu v kb Br C e st f h k) (λkb C e st f h k=>den cx n fu r kb Br C e st f h k) f h k
 |_,_,_,_,_,_,_,_,_=>C7
theorem LU{F:Fence}{n:Nat}{P:Ge}{Q:Exit->Act->GD->Prop}{X:Type}{c:Code}(I:X->Act->GD->Prop)(μ:X->Nat){x:X}{a:Act}{w:GD}(t:I x a w)
  (round:∀x a w,I x a w->c.wpIn F n P (Exit.then (λa' w'=> ∃D,I D a' w'/\μ D<μ x) Q) a w):(Code.loop c).wpIn F n P Q a w:=by
 intro b k v B y A;have key:∀j x a w,μ x=j->I x a w->
   ∃e a' w',Q e a' w'/\ArrivesIn (Machine.fenced P F) P (lone (b.atR a (.code c:: .inLoop c::k)) v w) b k v e a' w':=by
  intro j;induction j using Nat.strongRecOn with
  |_ j H=>
   intro x a w G E;obtain⟨e,f,g,m,d⟩:=round x a w E b (.inLoop c::k) v B y A;cases e with
   |normal=>
    obtain⟨o,p,z⟩:=m;obtain⟨s,r,u,q,i⟩:=H (μ o) (G▸z) o f g rfl p;exact⟨s,r,u,q, .of_steps (StepsIn.trans d (.one (fenced_calm y A rfl) stepR_inLoop)) i⟩
   |exit id=>exact⟨_,f,g,m, .pass (x:= .inLoop c) rfl (λ_ _=> .inl (by simp)) d⟩
   |goto l=>exact⟨_,f,g,m, .pass (x:= .inLoop c) rfl (λ_ _=> .inl (by simp)) d⟩
   |ret=>exact⟨_,f,g,m, .pass (x:= .inLoop c) rfl (λ_ _=> .inl (by simp)) d⟩
   |panic J=>exact⟨_,f,g,m, .pass (x:= .inLoop c) rfl (λ_ _=> .inl (by simp)) d⟩
   |outgrown=>exact⟨_,f,g,m, .pass (x:= .inLoop c) rfl (λ_ _=> .inl (by simp)) d⟩
 obtain⟨e,a',w',m,d⟩:=key _ x a w rfl t;exact⟨e,a',w',m, .of_steps (.one (fenced_calm y A rfl) stepR_loop) d⟩
theorem OD{f:IQ N->Option (Option R)}{r:R} :∀ {l:List (IQ N)},f_ f l=Ac r->∃q∈l,f q=Ac (Ac r)
 | [],h=>by cases h
 |q::l,h=>by
  unfold f_ at h;split at h;· grind
  ·obtain⟨d,a,b⟩:=OD h;grind
variable {P : Ge} [CC N P] {yv : BU}
theorem Ci{cx:Cx N} [CC N cx.P](u:∀f q,cx.Φ f=Ac q->Bm cx.P f q)(M:cx.P.follows .mixedOrders=Br){yl:YL N R}{fu:Nat} :∀(c:Code) {kb:Nat} {Z:Bool} {ro:Option Nat} {bs:List (Nat×BU)} {G:Hp->Fm->R->Prop} {Of:Fm} {r:R} {C:List (SV N.T)} {CR:List (SR N.T)} {st:St N.T} {kn:St N.T->Option R} {ke:Nat->St N.T->Option R} {kr:St N.T->Option R} {η:Nat->BU} {H:Hp} {a:Act} {w:GD} {Q:Exit->Act->GD->Prop},
  (Z=Ap->ro=C7/\∀H Of r D,G H Of r->G H (KV D Of) r)->(∀q∈bs,q.1<kb)->(∀H H' Of r,H.le H'->G H Of r->G H' Of r)->O4 cx.P bs yl yv G->G H Of r->
  Sat C CR cx.n Of bs st η H a w->WF C CR bs st->den cx yl fu c kb Z C CR st kn ke kr=Ac r->
  Kn C CR cx.n G bs H kn (Q .normal)->(∀i,Kn C CR cx.n G bs H (ke i) (Q (.exit i)))->Kn C CR cx.n G bs H kr (Q .ret)->c.wpIn (FR ro) 0 cx.P Q a w
 | .skip,_,_,_,_,_,Of,r,C,CR,st,kn,ke,kr,η,H,a,w,Q,_,_,_,_,v,h,A,k,F,E,I=>wpIn_skip (F Of r st η H a w (Hp.le.refl H) v h A k)
 | .label _,_,_,_,_,_,Of,r,C,CR,st,kn,ke,kr,η,H,a,w,Q,_,_,_,_,v,h,A,k,F,E,I=>wpIn_label (F Of r st η H a w (Hp.le.refl H) v h A k)
 | .ret,_,_,_,_,_,Of,r,C,CR,st,kn,ke,kr,η,H,a,w,Q,_,_,_,_,v,h,A,k,F,E,I=>wpIn_ret (I Of r st η H a w (Hp.le.refl H) v h A k)
 | .exit i,_,_,_,_,_,Of,r,C,CR,st,kn,ke,kr,η,H,a,w,Q,_,_,_,_,v,h,A,k,F,E,I=>wpIn_exit (E i Of r st η H a w (Hp.le.refl H) v h A k)
 | .region i ops d,kb,Z,ro,bs,G,Of,r,C,CR,st,kn,ke,kr,η,H,a,w,Q,o,n,B,J,v,h,A,k,F,E,I=>by
  simp only[den]at k;refine Fk h A k λT U H1 hl1 h1 hw1 hd1=>?_;have fin:∀Of' r' L η' H' a' w',H1.le H'->G H' Of' r'->Sat C CR cx.n Of' bs L η' H' a' w'->WF C CR bs L->PV C CR (cx.post i) L kn=Ac r'->Q .normal a' w':=λOf' r' L η' H' a' w' K g0 V W S=>
   Fk V W S λst2 η2 H2 hl2 k1 k2 k3=>F Of' r' st2 η2 H2 a' w' (hl1.trans (K.trans hl2)) (B _ _ _ _ hl2 g0) k1 k2 k3;have hg1:=B _ _ _ _ hl1 v;cases d with
  |true=>
   cases Z with
   |true=>grind
   |false=>
    obtain⟨rfl,_⟩:=o rfl;simp only at hd1;split at hd1;case h_2=>grind[wpIn_wide,a6]
    grind[wpIn_wide,qK]
  |false=>
   obtain⟨l,rfl⟩:∃l:List J5,ops=l.toArray:=⟨ops.toList,by simp⟩;grind[wpIn_region_lit,Si]
 | .seq x y,kb,Z,ro,bs,G,Of,r,C,CR,st,kn,ke,kr,η,H,a,w,Q,o,n,B,J,v,h,A,k,F,E,I=>by
  simp only[den]at k;split at k;· exact wpIn_seq (Ci u M x o n B J v h A k (λO r1 T U H1 a1 w1 K g0 V W S=>Ci u M y o n B J g0 V W S (F.le K) (λi=>(E i).le K) (I.le K)) E I)
  ·rename_i p hp;split at k;· grind
   ·rename_i q hb;obtain⟨c1,c2,c3,c4,c5⟩:=TZ h A hb;refine wpIn_seq (Ci u M x o n B J v c4 c5 k (λO r1 T U H1 a1 w1 K g0 V W S=>?_) (λi=>Kn.rs c1 c2 c3 (E i)) (Kn.rs c1 c2 c3 I));obtain⟨z,e1,e2⟩:=Bp S;obtain⟨η2,k1,k2⟩:=MX V W n e1;exact Ci u M y o n B J g0 k1 k2 e2 (Kn.rs c1 c2 c3 (F.le K)) (λi=>Kn.rs c1 c2 c3 ((E i).le K)) (Kn.rs c1 c2 c3 (I.le K))
 | .cond c x y,kb,Z,ro,bs,G,Of,r,C,CR,st,kn,ke,kr,η,H,a,w,Q,o,n,B,J,v,h,A,k,F,E,I=>by
  simp only[den]at k;split at k
  ·rename_i t;split at k
   ·rename_i ks hub;split at k;case h_2=>grind
    rename_i x1 y1 hx1 hy1;obtain⟨rfl,rfl⟩:=yl.b9 _ _ _ k;have hv:=h.lk t;rw[hub]at hv;obtain⟨b,hv⟩:=hv;cases b with
    |true=>exact wpIn_cond_true hv (Ci u M x o n B J v h A hx1 F E I)
    |false=>exact wpIn_cond_false hv (Ci u M y o n B J v h A hy1 F E I)
   obtain⟨b,L,h1,h2,h3,h4⟩:=Ui h A k;cases b with
   |true=>exact wpIn_cond_true h1 (Ci u M x o n B J v h2 h3 h4 F E I)
   |false=>exact wpIn_cond_false h1 (Ci u M y o n B J v h2 h3 (by simpa using h4) F E I)
  ·exact wpIn_cond_true rf (Ci u M x o n B J v h A k F E I)
  ·exact wpIn_cond_false rf (Ci u M y o n B J v h A k F E I)
  grind
 | .block i x,kb,Z,ro,bs,G,Of,r,C,CR,st,kn,ke,kr,η,H,a,w,Q,o,n,B,J,v,h,A,k,F,E,I=>by
  simp only[den]at k;refine wpIn_block (Ci u M x o n B J v h A k F (λj O r1 T U H1 a1 w1 K g0 V W S=>?_) I);simp only[Exit.inBlock];split at S;· rename_i hb;rw[if_pos (AI hb).symm];exact F O r1 T U H1 a1 w1 K g0 V W S
  ·rename_i hb;rw[if_neg (λe=>Abe hb e.symm)];exact E j O r1 T U H1 a1 w1 K g0 V W S
 | .loop x,kb,Z,ro,bs,G,Of,r,C,CR,st,kn,ke,kr,η,H,a,w,Q,o,n,B,J,v,h,A,k,F,E,I=>by
  simp only[den]at k;split at k;· refine LU (X:=Nat×St N.T×(Nat->BU)×Hp×Fm×R) (λX a w=>H.le X.2.2.2.1/\G X.2.2.2.1 X.2.2.2.2.1 X.2.2.2.2.2/\Sat C CR cx.n X.2.2.2.2.1 bs X.2.1 X.2.2.1 X.2.2.2.1 a w/\WF C CR bs X.2.1/\unK X.1 (λst nx=>den cx yl fu x kb Z C CR st nx ke kr) X.2.1=Ac X.2.2.2.2.2) (λX=>X.1) (x:=(9,st,η,H,Of,r)) ⟨Hp.le.refl H,v,h,A,k⟩ ?_;rintro⟨m,st3,η3,H3,Of3,r3⟩ a w ⟨l1,l0,l2,l3,l4⟩;cases m with
   |zero=>cases l4
   |succ m=>exact Ci u M x o n B J l0 l2 l3 l4 (λO r1 T U H1 a1 w1 K g0 V W S=>⟨(m,T,U,H1,O,r1),⟨l1.trans K,g0,V,W,S⟩,Afy m⟩) (λi=>(E i).le l1) (I.le l1)
  ·rename_i p hp;split at k;· cases k
   ·rename_i q hb;obtain⟨c1,c2,c3,c4,c5⟩:=TZ h A hb;obtain⟨z,e1,e2⟩:=Bp k;obtain⟨η2,k1,k2⟩:=MX c4 c5 n e1;refine LU (X:=Nat×BV N (GG p q).hs×(Nat->BU)×Hp×Fm×R) (λX a w=>H.le X.2.2.2.1/\G X.2.2.2.1 X.2.2.2.2.1 X.2.2.2.2.2/\Sat q.C q.CR cx.n X.2.2.2.2.1 bs (Fl N (GG p q) X.2.1) X.2.2.1 X.2.2.2.1 a w/\WF q.C q.CR bs (Fl N (GG p q) X.2.1)/\Ad X.1 (λx nx=>den cx yl fu _ kb Z q.C q.CR (Fl N (GG p q) x)
     (λL=>Ab (Sf N q.C q.CR kb (GG p q) L) nx)
     (λi s=>ke i (DJ q.C q.CR C.length CR.length s)) (λs=>kr (DJ q.C q.CR C.length CR.length s))) X.2.1=Ac X.2.2.2.2.2) (λX=>X.1) (x:=(fu,z,η2,H,Of,r)) ⟨Hp.le.refl H,v,k1,k2,e2⟩ ?_;rintro⟨m,z,η3,H3,Of3,r3⟩ a w ⟨l1,l0,l2,l3,l4⟩;obtain⟨m',rfl,l5⟩:=TU l4;refine Ci u M x o n B J l0 l2 l3 l5 (λO r1 T U H1 a1 w1 K g0 V W S=>?_) (λi=>Kn.rs c1 c2 c3 ((E i).le l1)) (Kn.rs c1 c2 c3 (I.le l1));obtain⟨z',e1,e2⟩:=Bp S;obtain⟨η2,k1,k2⟩:=MX V W n e1;exact⟨(m',z',η2,H1,O,r1),⟨l1.trans K,g0,k1,k2,e2⟩,Afy m'⟩
 | .rangeFunc g ps asg body,kb,Z,ro,bs,G,Of,r,C,CR,st,kn,ke,kr,η,H,a,w,Q,o,n,B,J,v,h,A,k,F,E,I=>by
  simp only[den]at k;split at k;· cases k
  ·obtain⟨rfl,Y⟩:=o rfl;refine wpIn_wide.2 ?_;unfold uR at k;split at k
   ·rename_i f l cs hs;split at k
    ·rename_i qs hq;split at k
     ·rename_i hb;rw[AS]at hb;obtain⟨q,hqm,k⟩:=OD k;have hgg:=h.ev g;rw[hs]at hgg;obtain⟨us,e,K⟩:=hgg;refine eK (u f _ hq q hqm) (λl {C CR kb bs G Of r st kn ke kr η H a w Q} k1 k2 k3 k4 k5 k6 k7 k8 k9 k10=>Ci u M asg (ro:=Ac l) (λe=>by cases e) k1 k2 k3 k4 k5 k6 k7 k8 k9 k10) (λl {C CR kb bs G Of r st kn ke kr η H a w Q} k1 k2 k3 k4 k5 k6 k7 k8 k9 k10=>Ci u M body (ro:=Ac l) (λe=>by cases e) k1 k2 k3 k4 k5 k6 k7 k8 k9 k10) B Y J v h A e K hb.1 (λc hc=>?_) k F E I;have:=OF.1 hb.2 c hc;split at this;· rename_i g' b hR;exact⟨g',b,hR⟩
      ·cases this
     ·cases k
    ·exact eL u h A k λD L η' H' a' w' K V W S=>F (KV D Of) r L η' H' a' w' K (Y _ _ _ _ (B _ _ _ _ K v)) V W S
   ·cases k
 | .scope x,kb,Z,ro,bs,G,Of,r,C,CR,st,kn,ke,kr,η,H,a,w,Q,o,n,B,J,v,h,A,k,F,E,I=>by
  simp only[den]at k;split at k;· cases k
  ·obtain⟨rfl,Y⟩:=o rfl;exact wpIn_wide.2 (wp_scope_straight (wpIn_wide.1 (Ci u M x o n B J v h A k F E I)))
 | .goto _,kb,Z,ro,bs,G,Of,r,C,CR,st,kn,ke,kr,η,H,a,w,Q,o,n,B,J,v,h,A,k,F,E,I=>by cases k
 | .refuse _,kb,Z,ro,bs,G,Of,r,C,CR,st,kn,ke,kr,η,H,a,w,Q,o,n,B,J,v,h,A,k,F,E,I=>by cases k
end
section
variable {N : C6}
section
variable{H:Hp}{R:Type}{η:Nat->BU}{O:List Av}{y:R}{P:Ge}{C:List (SV N.T)}{CR:List (SR N.T)}{n:Nat}{Of:Fm}{st:St N.T}{a:Act}{w:GD}{rs:List Ty}{fn:Func}
def XV:(ps:List Ty)->Bc N ps->Nat->List (Nat×SV N.T)
 | [],_,_=>[]
 | [t],x,i=>[(i, .d t x)]
 |t::u::a,x,i=>(i, .d t x.1)::XV (u::a) x.2 (i+1)
def U2(P:Ge)(C:List (SV N.T))(CR:List (SR N.T))(st:St N.T)(t:Ty):ResultVar->Option (t.den N.T)
 | .tmp s=>Ta C t (Ck C st.L s)
 | .cell c d=>match Ck C st.L c,Lz N P d with
  | .loc b 0,Ac a=>match Al CR st.O b,P6 N.T a t with
   |some (.Ah _ l),Ac f=>match JS N C 64 a l with
    |some (x, .nl)=>Ac (f x)
    |_=>C7
   |_,_=>C7
  |_,_=>C7
def WZ(P:Ge)(C:List (SV N.T))(CR:List (SR N.T))(st:St N.T):(rs:List Ty)->List ResultVar->Option (Bc N rs)
 | [],[]=>Ac ()
 | [t],[v]=>U2 P C CR st t v
 | [t,u],[v,w]=>match U2 P C CR st t v,U2 P C CR st u w with
  |some x,Ac y=>Ac (x,y)
  |_,_=>C7
 | [t,u,s],[v,w,z]=>match U2 P C CR st t v,U2 P C CR st u w,U2 P C CR st s z with
  |some x,Ac y,Ac q=>Ac (x,y,q)
  |_,_,_=>C7
 |_,_=>C7
def qu(cx:Cx N)(fu:Nat)(f:Func)(ps rs:List Ty)(x:Bc N ps):Option (Bc N rs):=match f.body with
 |none=>C7
 |some c=>den cx (noD rs) fu c cx.kb Ap [] [] ⟨XV ps x 0,[],0⟩ (λst=>WZ cx.P [] [] st rs f.results.toList) (λ_ _=>C7) (λst=>WZ cx.P [] [] st rs f.results.toList)
def Rt(O:List Av)(y:R):Hp->Fm->R->Prop:=λ_ a r=>r=y/\∃M,a=PB O M
theorem N9:∀H a Of r,H.le a->Rt O y H Of r->Rt O y a Of r:=λ_ _ _ _ _ h=>h
theorem N8:Ap=Ap->C7=(C7:Option Nat)/\∀H Of r D,Rt O y H Of r->Rt O y H (KV D Of) r:=λ_=>⟨rfl,λ_ _ _ D ⟨h,M,e⟩=>⟨h,D::M,by subst e;rfl⟩⟩
theorem Qr{H:Hp}{η:Nat->BU} :∀ {ps:List Ty} {x:Bc N ps} {vs:List BU},Lw H ps x vs->∀i t sv,Ax (XV ps x i) t=Ac sv->∃v,i<=t/\vs[t-i]?=Ac v/\sv.is [] η H v/\∃p y,sv= .d p y
 | [],x,vs,_,i,t,sv,h=>by cases h
 | [p],x,vs,⟨v,e,b⟩,i,t,sv,h=>by
  subst e;simp only[XV,Ax]at h;split at h;· rename_i a;have:=AI a;subst this;cases h;exact⟨v,Aad _,by simp,JE b,_,_,rfl⟩
  grind
 |p::q::ps,x,vs,⟨v,m,e,b,j⟩,i,t,sv,h=>by
  subst e;simp only[XV,Ax]at h;split at h;· rename_i a;have:=AI a;subst this;cases h;exact⟨v,Aad _,by simp,JE b,_,_,rfl⟩
  ·obtain⟨k,l,c,f,g⟩:=Qr j (i+1) t sv h;exact⟨k,by omega,by grind,f,g⟩
theorem Lw.len{H:Hp} :∀ {ps:List Ty} {x:Bc N ps} {vs:List BU},Lw H ps x vs->vs.length=ps.length
 | [],_,_,h=>by cases h;rfl
 | [_],_,_,⟨v,e,_⟩=>by grind
 |_::_::_,_,_,⟨v,b,e,_,a⟩=>by subst e;simp[Lw.len a]
theorem HM[CC N P]{bs:List (Nat×BU)}{t:Ty}{v:ResultVar}{y:t.den N.T}(h:Sat C CR n Of bs st η H a w)(m:U2 P C CR st t v=Ac y):∃u,(Ym a.tmps v).run P w= .ok u w/\(SV.d t y:SV N.T).is [] η0 H u:=by
 cases v with
 |tmp s=>exact⟨_,by rfl,JE (Dm (t:=t) m (h.lk s))⟩
 |cell R ty=>
  simp only[U2]at m;split at m
  ·rename_i b O hs ht;split at m
   ·rename_i g l f hb hf;split at m
    ·rename_i x hx;cases m;obtain⟨he,rfl⟩:=Bw hf;have U:=Adx he;subst U;obtain⟨d,K,p,bytes,zv,E⟩:=Iv ht;have M:=h.lk R;rw[hs]at M;obtain⟨B,S,G⟩:=M;obtain⟨Y,hn,r,_,q⟩:=h.own;rcases q b _ hb with e|⟨X,W,Q,cs,z,T,Z⟩;· grind
     rw[S]at z;have z:B=Q:=by grind[ptr]
     subst z;subst T;obtain⟨i,J,_⟩:=Iz Of.O hn W;obtain⟨c1,F,I,A,o⟩:=DW (cs:=cs.toList) hx Z;have o:BU.agg F.toArray= .agg #[]:=o;have o:F=[]:=by simpa using o
     subst o;rw[Adc]at I;rw[<-I]at A;have k:=Bb A;cases c:O.agg with
     |true=>
      refine⟨.agg cs,?_,cs.toList,A,by unfold Cu;rw[c]⟩;have:=Cw (P:=P) (w:=w) (a:=⟨B,0,C7⟩) (vs:=cs.toList) K (by rw[p,c]) (by rw[k];exact E) (λj u hj=>by rw[Addr.add_lit];exact r.H4 J (by simpa using hj));simp only[Ym,G,ptr];simpa [asAddr]using this
     |false=>
      have D:O.sz N=1:=by
       unfold Ty.agg at c;split at c;· cases c
       ·cases c
       ·cases c
       ·cases c
       ·cases c
       ·cases c
       ·rename_i q1 q2 q3 q4 q5 q6;unfold Ty.sz;split;· exact absurd rfl (q1 _)
        ·exact absurd rf (q5 _ _)
        ·exact absurd rf q6
        ·exact absurd rf q2
        ·exact absurd rf (q3 _)
        ·exact absurd rf (q4 _ _)
        ·rfl
      rw[D]at k;obtain⟨u,L⟩:∃u,cs.toList=[u]:=by
       match hcs:cs.toList,k with
       | [u],_=>exact⟨u,rfl⟩
      refine⟨u,?_,cs.toList,A,by unfold Cu;rw[c];exact L⟩;have V:cs[0]?=Ac u:=by
       have:cs.toList[0]?=Ac u:=by rw[L];rfl
       simpa using this
      have:=Cv (P:=P) (w:=w) (a:=⟨B,0,C7⟩) K (by rw[p,c]) (r.H4 J V);simp only[Ym,G,ptr];simpa [asAddr]using this
    grind
   grind
  grind
theorem Mm[CC N P]{bs:List (Nat×BU)}{y:Bc N rs}(h:Sat C CR n Of bs st η H a w)(b:WZ P C CR st rs fn.results.toList=Ac y):∃u,(results fn a.tmps).run P w= .ok u w/\(FG N rs y).is [] η0 H u:=by
 rw[IB];obtain⟨l,o⟩:∃l:List ResultVar,fn.results=l.toArray:=⟨fn.results.toList,by simp⟩;rw[o]at b⊢;match rs,l,y,b with
 | [],[],y,b=>exact⟨.tuple #[],by simp,rfl⟩
 | [],_::_,y,b=>cases b
 | [t],[v],y,b=>
  obtain⟨u,c,d⟩:=HM (P:=P) h (show U2 P C CR st t v=Ac y from b);exact⟨u,by simp[c],d⟩
 | [t],[],y,b=>cases b
 | [t],_::_::_,y,b=>cases b
 | [t,u],[],y,b=>cases b
 | [t,u],[_],y,b=>cases b
 | [t,u],[v,m],y,b=>
  have b:(match U2 P C CR st t v,U2 P C CR st u m with
   |some x,Ac y=>Ac (x,y)
   |_,_=>C7)=Ac y:=b;split at b;· rename_i x D g i;cases b;obtain⟨e,c,d⟩:=HM (P:=P) h g;obtain⟨f,j,k⟩:=HM (P:=P) h i;exact⟨.tuple #[e,f],by simp_all,e,f,rfl,d,k⟩
  grind
 | [t,u],_::_::_::_,y,b=>cases b
 | [t,u,s],[],y,b=>cases b
 | [t,u,s],[_],y,b=>cases b
 | [t,u,s],[_,_],y,b=>cases b
 | [t,u,s],[v,m,z],y,b=>
  have b:(match U2 P C CR st t v,U2 P C CR st u m,U2 P C CR st s z with
   |some x,Ac y,Ac q=>Ac (x,y,q)
   |_,_,_=>C7)=Ac y:=b;split at b;· rename_i x D q g i r;cases b;obtain⟨e,c,d⟩:=HM (P:=P) h g;obtain⟨f,j,k⟩:=HM (P:=P) h i;obtain⟨p,A,B⟩:=HM (P:=P) h r;exact⟨.tuple #[e,f,p],by simp_all,e,f,p,rfl,d,k,B⟩
  grind
 | [t,u,s],_::_::_::_::_,y,b=>cases b
 |_::_::_::_::_,_,y,b=>cases b
theorem gD{cx:Cx N} [mp:CC N cx.P](S:∀f q,cx.Φ f=Ac q->Bm cx.P f q)(hm:cx.P.follows .mixedOrders=Br){fu f:Nat}{ps:List Ty}(he:QF cx.P f)(hf:cx.P.funcs[f]?=Ac fn)(hn:fn.ntmps=cx.n)(Z:Nat.ble ps.length cx.n=Br):Dw cx.P f ⟨ps,rs,qu cx fu fn ps rs⟩:=by
 refine⟨he,λx y l H O vs I e=>?_⟩;unfold qu at l;split at l;· grind
 ·rename_i c C;refine O5.ofM hf C hn (by rw[e.len];omega) λa w g Q=>?_;have m:Kn [] [] cx.n (Rt O y) [] H (λst=>WZ cx.P [] [] st rs fn.results.toList) (bodyPostM Fence.wide 0 cx.P fn (zj H λv d T=>T=O/\(FG N rs y).is [] η0 d v) .ret):=λOf r st η d B A J F b _ n=>by
   obtain⟨rfl,M,rfl⟩:=F;show LeavesInM _ _ _ _ _ _ B.defers _ _;rw[b.defers];refine Hb b λA b=>?_;obtain⟨u,U,V⟩:=Mm (P:=cx.P) b n;obtain⟨Y,_,k2,_⟩:=b.own;have X:SH A d O:=by have:=k2.aW (Y.map (·.2)).length;grind[PB]
   exact⟨u,U,u,d,O,rf,J,X,rf,V⟩
  refine wpIn_wide.1 (Ci (R:=Bc N rs) (bs:=[]) (G:=Rt O y) (Of:=PB O []) (r:=y) (ro:=C7) (yv:=undef) (η:=η0) S hm c N8 (λq hq=>by grind) N9 pf ⟨rfl,[],rfl⟩ (st:=⟨XV ps x 0,[],0⟩) (H:=H) ⟨I,g.defers,g.size,λt sv ht=>?_,λp K=>(by grind),[],Agj,by trivial,λk o=>(by cases o),λk sr o=>(by cases o)⟩ ⟨λp K=>(by cases K),λj _=>rfl,⟨λ_=>0,λt=>?_⟩,λk o=>(by cases o),λs L=>(by cases L)⟩ l (λM r st η d B A J F b E n=>m M r st η d B A J F b E n) (λi M r st η d B A _ _ _ _ n=>by cases n) m)
  ·obtain⟨
       v,_,b,E,_⟩:=Qr (η:=η0) e 0 t sv ht;have:a.tmps.getD t undef=v:=g.get t v (by
    have key:∀(z:List BU) (i:Nat),z[t-i]?=Ac v->i<=t->lk (Ib i z) t=Ac v:=by
     intro z;induction z with
     |nil=>intro i h;simp at h
     |cons u z ih=>
      intro i h hle;simp only[Ib,lk];cases C:Nat.beq i t with
      |true=>
       have:=AI C;subst this;simp at h;simp[h]
      |false=>
       have ne:=Abe C;refine ih (i+1) ?_ (by omega);rw[show t-i=(t-(i+1))+1 by omega]at h;simpa using h
    exact key vs 0 b (Abh _));rw[this];exact E
  ·unfold Ck;split;· rename_i s L;obtain⟨v,_,_,_,W⟩:=Qr (η:=η0) e 0 t s L;obtain⟨p,q,rfl⟩:=W;trivial
   ·trivial
end
end
section
variable {N : C6}
section
variable{C:List (SV N.T)}{P:Ge}{CR:List (SR N.T)}{n:Nat}{Of:Fm}{st:St N.T}{η:Nat->BU}{H:Hp}{a:Act}{w:GD}{τ:Nat->Nat}{Rr:Nat->Option (SR N.T)}
def rsA(P:Ge)(C:List (SV N.T))(CR:List (SR N.T))(st:St N.T):ResultVar->Option (SV N.T)
 | .tmp s=>Ac (Ck C st.L s)
 | .cell c e=>match Ck C st.L c,Lz N P e with
  | .loc b 0,Ac a=>match Al CR st.O b with
   |some (.Ah _ l)=>match JS N C 64 a l with
    |some (x, .nl)=>Ac (.d a x)
    |_=>match a.agg with
     |true=>match whole l&&Nat.beq (Tr N l) (a.sz N)with
      |true=>Ac l
      |false=>C7
     |false=>match Ez N C l 0 C7 with
      |some (.d _ _)=>C7
      |z=>z
   |_=>C7
  |_,_=>C7
def yE(P:Ge)(C:List (SV N.T))(CR:List (SR N.T))(st:St N.T):List ResultVar->Option (List (SV N.T))
 | []=>Ac []
 |v::l=>match rsA P C CR st v,yE P C CR st l with
  |some a,Ac r=>Ac (a::r)
  |_,_=>C7
theorem eH[CC N P]{bs:List (Nat×BU)}{v:ResultVar}{s:SV N.T}(h:Sat C CR n Of bs st η H a w)(f:rsA P C CR st v=Ac s):∃u,(Ym a.tmps v).run P w= .ok u w/\s.is C η H u:=by
 cases v with
 |tmp t=>
  cases f;exact⟨_,by rfl,h.lk t⟩
 |cell J ty=>
  simp only[rsA]at f;split at f
  ·rename_i b I hs ht;split at f
   ·rename_i g l hb;obtain⟨d,U,p,bytes,zv,M⟩:=Iv ht;have W:=h.lk J;rw[hs]at W;obtain⟨B,e1,R⟩:=W;obtain⟨Y,hn,r,_,q⟩:=h.own;rcases q b _ hb with e|⟨X,h1,B',cs,E,e4,F⟩;· grind
    rw[e1]at E;have E:B=B':=by grind[ptr]
    subst E;subst e4;obtain⟨i,T,_⟩:=Iz Of.O hn h1;have D:I.agg=Br->cs.toList.length=I.sz N->(Ym a.tmps (.cell J ty)).run P w= .ok (.agg cs) w:=λha k=>by
     have:=Cw (P:=P) (w:=w) (a:=⟨B,0,C7⟩) (vs:=cs.toList) U (by grind) (by rw[k];omega) (λj u hj=>by rw[Addr.add_lit];exact r.H4 T (by simpa using hj));simp_all[Ym,ptr,asAddr]
    have ld1:I.agg=Ap->∀u,cs[0]?=Ac u->(Ym a.tmps (.cell J ty)).run P w= .ok u w:=λha u h0=>by have:=Cv (P:=P) (w:=w) (a:=⟨B,0,C7⟩) U (by rw[p,ha]) (r.H4 T h0);simp only[Ym,R,ptr];simpa [asAddr]using this
    split at f
    ·rename_i x hx;cases f;obtain⟨c1,Q,S,G,o⟩:=DW (cs:=cs.toList) hx F;have o:BU.agg Q.toArray= .agg #[]:=o;have o:Q=[]:=by simpa using o
     subst o;rw[Adc]at S;rw[<-S]at G;have k:=Bb G;cases ha:I.agg with
     |true=>exact⟨.agg cs,D ha k,cs.toList,G,by unfold Cu;rw[ha]⟩
     |false=>
      rw[YE ha]at k;obtain⟨u,V⟩:∃u,cs.toList=[u]:=Aew.1 k
      exact⟨u,ld1 ha u (by
         have:cs.toList[0]?=Ac u:=by rw[V];rfl
         simpa using this),cs.toList,G,by unfold Cu;rw[ha];exact V⟩
    ·split at f
     ·rename_i ha;split at f;· rename_i O;cases f;rw[AS]at O;have:=HH (cs:=cs.toList) O.1 F;exact⟨.agg cs,D ha (by rw[<-this];exact AI O.2),F⟩
      ·cases f
     ·rename_i ha;have f:Ez N C l 0 C7=Ac s/\∀t y,s≠ .d t y:=by
       revert f;cases hz:Ez N C l 0 C7 with
       |none=>intro f;cases f
       |some z=>cases z<;>intro f<;>cases f<;>exact⟨rfl,λ_ _ e=>by cases e⟩
      obtain⟨c,L,hc⟩:=Dh (cs:=cs.toList) f.1 F;obtain⟨u,k1,k2,k3⟩:=L;rcases k3 with⟨ty',y,rfl,e⟩|⟨ho,hn'⟩;· exact absurd rfl (f.2 _ _)
      ·have:c=[u]:=by rw[<-k2,A' ho]
       subst this;refine⟨u,ld1 ha u ?_,k1⟩;match K:cs.toList,hc with
       |z::zs,hc=>
        have:cs.toList[0]?=Ac u:=by rw[K];simpa using hc
        simpa using this
   grind
  grind
theorem U4{P:Ge} [CC N P]{C:List (SV N.T)}{CR:List (SR N.T)}{n:Nat}{Of:Fm}{bs:List (Nat×BU)}{st:St N.T}{η:Nat->BU}{H:Hp}{a:Act}{w:GD}(h:Sat C CR n Of bs st η H a w):∀ {l:List ResultVar} {c:List (SV N.T)},yE P C CR st l=Ac c->∃vs:List BU,vs.length=c.length/\(l.mapM (Ym a.tmps)).run P w= .ok vs w/\∀(i:Nat) (s:SV N.T),c[i]?=Ac s->∃v,vs[i]?=Ac v/\s.is C η H v
 | [],c,b=>by cases b;simp
 |v::l,c,b=>by
  simp only[yE]at b;split at b;· rename_i s r e f;obtain⟨u,o,p⟩:=eH h e;obtain⟨vs,g,j,k⟩:=U4 h f;refine⟨u::vs,by grind,by simp_all,λi m d=>?_⟩;grind
  grind
def yU(P:Ge)(l:List ResultVar)(b:Nat)(a:A9)(d:Nat)(st:St N.T):Option (BV N a.hs):=match yE P [] [] st l with
 |some c=>
  let m:=G9 [] (Al [] st.O) (λi=>c.getD i .no) a
  match(Nat.beq c.length d&&Nat.ble d 3)&&(Nb (a.sl.map (·.1)) (List.range d)&&(List.range b).all λk=>Nat.beq (AV m k) k)with
  |true=>JB [] (Al [] st.O) (λi=>c.getD i .no) m a
  |false=>C7
 |none=>C7
def Sb(cx:Cx N)(fu:Nat)(f:Func)(a b:A9)(d:Nat)(x:BV N a.hs):Option (BV N b.hs):=match f.body with
 |none=>C7
 |some c=>den cx (noP b.hs) fu c cx.kb Ap [] [] (Fl N a x) (yU cx.P f.results.toList a.nk b d) (λ_ _=>C7) (yU cx.P f.results.toList a.nk b d)
def h_(cx:Cx N)(a b:A9)(gone:List Nat):Bool:=(Nat.ble a.sl.length cx.n&&(Nb (a.sl.map (·.1)) (List.range a.sl.length)&&(a.sl.all λp=>p.2.pl)))&&((a.ro.all λp=>Nat.blt p.1 a.nk)&&(Cf (b.ro.map (·.1))&&((a.ro.all λp=>BZ (b.ro.map (·.1)) p.1||BZ gone p.1)&&Nat.ble a.nk cx.kb)))
theorem Zj(a:List HT)(x:BV N a) :∀j,DF τ Rr (res C (Cq N a x j)):=by
 have:∀(a:List HT) (x:BV N a) (j:Nat),Cq N a x j= .no\/∃h y,Cq N a x j=dJ N h y:=by
  intro a;induction a with
  |nil=>exact λ_ _=> .inl rfl
  |cons t b c=>
   intro x j;cases b with
   |nil=>cases j with
    |zero=>exact .inr ⟨t,x,rfl⟩
    |succ j=>exact .inl rfl
   |cons u b=>cases j with
    |zero=>exact .inr ⟨t,x.1,rfl⟩
    |succ j=>exact c x.2 j
 intro j;rcases this a x j with e|⟨h,y,e⟩;· rw[e];trivial
 ·rw[e];cases h<;>trivial
theorem inst_pl{a:List HT}{x:BV N a}{p:SP}(h:p.pl=Br) :DF τ Rr (res C (inst N a x p)):=by
 cases p with
 |v j t=>exact Zj _ _ j
 |nat j=>exact Zj _ _ j
 |AG _=>trivial
 |loc _ _=>trivial
 |AK _ _ _=>trivial
 |Ak=>trivial
 |nl=>trivial
 |mp _=>trivial
 |pd j t off=>
  show DF τ Rr (res C (match Cq N a x j with| .d t x=>SV.pd t x off|_=> .no));split<;>trivial
 |px b z=>cases z with
  |sf=>trivial
  |hc _=>trivial
  |sub j n t=>
   show DF τ Rr (res C (match Cq N a x j,Cq N a x n with| .na i, .na m=>SV.px b (.sub i m t)|_,_=> .px b .any));split<;>trivial
 |sv c=>cases c<;>trivial
 |_=>cases h
theorem ew{a:A9}{c i:Nat}(h:a.sl.map (·.1)=List.range c)(hi:i<c):(i,H8 a.sl i)∈a.sl:=by
 have d:i∈keys a.sl:=by grind[keys]
 obtain⟨x,b⟩:=Dg d;grind[H8,A2]
theorem aL{cx:Cx N} [mp:CC N cx.P](hΦ:∀f q,cx.Φ f=Ac q->Bm cx.P f q)(hm:cx.P.follows .mixedOrders=Br){fu f:Nat}{fn:Func}{b n:A9}{B:Nat}{gone:List Nat}(he:QF cx.P f)(hf:cx.P.funcs[f]?=Ac fn)(hn:fn.ntmps=cx.n)(hc:h_ cx b n gone=Br):Dx cx.P f ⟨b,n,B,gone,Sb cx fu fn b n B⟩:=by
 unfold h_ at hc;simp only[AS]at hc;obtain⟨⟨c1,c2,c3⟩,c4,c5,c6,c7⟩:=hc;refine⟨he,λx y hy η H Of Y vs hnd hin=>?_⟩;obtain⟨i1,i2,i3,i4,hiv⟩:=hin;unfold Sb at hy;split at hy;· grind
 ·rename_i c hb;let bs:List (Nat×BU):=(List.range b.nk).map λk=>(k,η k);have T:∀p∈bs,p.1<b.nk/\η p.1=p.2:=λp g=>by
   grind
  have hro:∀p∈b.ro,p.1<b.nk:=λp g=>by simpa using OF.1 c4 p g
  refine O5.ofM hf hb hn (by grind) λa w U hsh=>?_;have fin:Kn [] [] cx.n (Rt Of y) bs H (yU cx.P fn.results.toList b.nk n B) (bodyPostM Fence.wide 0 cx.P fn (zj H λv D O'=> ∃η' Y',O'=Y'.map (·.2)++Of/\wD ⟨b,n,B,gone,Sb cx fu fn b n B⟩ y η η' D Y Y' v) .ret):=λOf1 r1 st A D a' J I hg S _ E=>by
   obtain⟨e0,M,rfl⟩:=hg;rw[e0]at E;show LeavesInM _ _ _ _ _ _ a'.defers _ _;rw[S.defers];refine Hb S λJ S=>?_;unfold yU at E;split at E
   ·rename_i As hAs;simp only at E;generalize hmm:G9 [] (Al [] st.O) (λi=>As.getD i .no) n=m at E;split at E
    ·rename_i hck;simp only[AS]at hck;obtain⟨⟨e1,e2⟩,e3,e4⟩:=hck;have e1:=AI e1;have e2:=Aba e2;have e3:=Fc e3;have hlen:n.sl.length=B:=by
      have:=congrArg List.length e3;grind
     obtain⟨o,u1,u2,u3⟩:=U4 S hAs;obtain⟨Y1,y1,y2,y3,y4⟩:=S.own;have hlt:∀p∈n.sl,p.1<B:=λp g=>by have:p.1∈n.sl.map (·.1):=By.2 ⟨p,g,rfl⟩;grind
     obtain⟨r1,r2,r3⟩:=LN (C:=[]) (η:=A) (H:=D) (Y:=Y1) (vs:=o) E (by rw[u1,e1,hlen]) (λp g=>by
      have I:p.1<As.length:=by rw[e1];exact hlt p g
      obtain⟨v,v1,V⟩:=u3 p.1 As[p.1] (BY I);refine⟨v,v1,?_⟩;rw[IS,BY I];exact V) (λp g sr hsr=>y4 _ sr hsr);have P:∀k,k<b.nk->AV m k=k:=λk d=>AI (OF.1 e4 k (Abb.2 d));let W:List (Nat×Av):=n.ro.map λp=>(p.1,(Ax Y1 (AV m p.1)).getD .emp);have kY2:keys W=n.ro.map (·.1):=by show(n.ro.map _).map _=_;rw[Aao];rfl
     have nd2:(keys W).Nodup:=by rw[kY2];exact BF c5
     have hsh2:SH J D (W.map (·.2)++Of):=by
      have hz:=SH.Tm y2 (Z:=n.ro.map λp=>(AV m p.1,(Ax Y1 (AV m p.1)).getD .emp)) (by
       unfold keys;rw[Aao];exact r1) (λp g=>by obtain⟨z,hz,rfl⟩:=By.1 g;obtain⟨_,X,hX,_⟩:=r3 z hz;simp only[hX,Acm]);rw[Aao]at hz;rw[Aao];exact hz
     have hres:∃v,(results fn a'.tmps).run cx.P J= .ok v J/\(Ja (N:=N) ⟨b,n,B,gone,Sb cx fu fn b n B⟩ y).is [] (λc=>A (AV m c)) D v:=by
      rw[IB];obtain⟨l,I⟩:∃l:List ResultVar,fn.results=l.toArray:=⟨fn.results.toList,by simp⟩;rw[I]at u2⊢;have ul:o.length=B:=by rw[u1,e1]
      have F:∀i,i<B->∃v,o[i]?=Ac v/\(inst N n.hs y (H8 n.sl i)).is [] (λc=>A (AV m c)) D v:=λi hi=>r2 _ (ew e3 hi);have ru:(do let vs<-l.toArray.mapM (Ym a'.tmps);pure (if h:vs.size=1 then vs[0]else .tuple vs):Sem BU).run cx.P J= .ok (if h:o.toArray.size=1 then o.toArray[0]else .tuple o.toArray) J:=by simp[u2]
      rw[ru];refine⟨_,rfl,?_⟩;match o,ul,e2,F with
      | [],ul,_,F=>
       subst ul;rfl
      | [u],ul,_,F=>
       subst ul;obtain⟨v,v1,V⟩:=F 0 (by simp);cases v1;exact V
      | [u,u'],ul,_,F=>
       subst ul;obtain⟨v,v1,V⟩:=F 0 (by simp);obtain⟨v',v3,v4⟩:=F 1 (by simp);cases v1;cases v3;exact⟨_,_,rfl,V,v4⟩
      | [u,u',u''],ul,_,F=>
       subst ul;obtain⟨v,v1,V⟩:=F 0 (by simp);obtain⟨v',v3,v4⟩:=F 1 (by simp);obtain⟨v'',v5,v6⟩:=F 2 (by simp);cases v1;cases v3;cases v5;exact⟨_,_,_,rfl,V,v4,v6⟩
      |_::_::_::_::_,ul,h3',_=>simp at ul;omega
     obtain⟨v,g1,g2⟩:=hres;refine⟨v,g1,v,D,W.map (·.2)++Of,rfl,I,hsh2,λc=>A (AV m c),W,rfl,λk d=>?_,nd2,λk d=> .inr (by rw[kY2]at d;exact d),λp g=>?_,λk d hn1 hn2=>?_,g2⟩;· rw[P k d];exact S.base (k,η k) (By.2 ⟨k,Abb.2 d,rfl⟩)
     ·obtain⟨_,X,hX,h4⟩:=r3 p g;refine⟨X,?_,h4⟩;have:(p.1,(Ax Y1 (AV m p.1)).getD .emp)∈W:=By.2 ⟨p,g,rfl⟩;rw[CF nd2 this,hX];rfl
     ·rw[i3]at d;obtain⟨p,g,rfl⟩:=By.1 d;have:=OF.1 c6 p g;rw[Ado]at this;rcases this with h|h;· exact absurd (AP.1 h) hn1
      ·exact absurd (AP.1 h) hn2
    grind
   grind
  refine wpIn_wide.1 (Ci (R:=BV N n.hs) (bs:=bs) (G:=Rt Of y) (Of:=PB Of []) (r:=y) (ro:=C7) (yv:=undef) (η:=η) hΦ hm c N8 (λq K=>Abs (T q K).1 (Aba c7)) N9 pb ⟨rfl,[],rfl⟩ (st:=Fl N b x) (H:=H) ⟨hiv,U.defers,U.size,λt sv ht=>?_,λp g=>(T p g).2,Y,hnd,hsh,λk d=>?_,λk sr d=>?_⟩ ⟨λp g=>(T p g).1,λj hj=>?_,⟨λ_=>0,λt=>?_⟩,λk d=>(by cases d),λs hs=>(by cases hs)⟩ hy fin (λi M r st η D a' J _ _ _ _ E=>by cases E) fin)
  ·obtain⟨
       q,K,rfl,rfl⟩:=Du ht;obtain⟨v,S,h2⟩:=i2 q K;have:a.tmps.getD q.1 undef=v:=U.get q.1 v (by
    have key:∀(o:List BU) (i t:Nat),o[t-i]?=Ac v->i<=t->lk (Ib i o) t=Ac v:=by
     intro o;induction o with
     |nil=>intro i t h;simp at h
     |cons u o ih=>
      intro i t h hle;simp only[Ib,lk];cases hb:Nat.beq i t with
      |true=>
       have:=AI hb;subst this;simp at h;simp[h]
      |false=>
       have ne:=Abe hb;refine ih (i+1) t ?_ (by omega);rw[show t-i=(t-(i+1))+1 by omega]at h;simpa using h
    exact key vs 0 q.1 S (Abh _));rw[this];exact h2
  ·rw[i3]at d;obtain⟨p,g,rfl⟩:=By.1 d;exact hro p g
  ·unfold Al at d;cases I:Ax (Fl N b x).O k with
   |none=>rw[I]at d;cases d
   |some s0=>
    rw[I]at d;obtain⟨q,K,e⟩:=By.1 (A2 I);cases e;obtain⟨X,hX,h2⟩:=i4 q K;cases d;refine .inr ⟨X,hX,?_⟩;generalize instR N b.hs x q.2=z at h2;cases z with
    |Cr j=>exact h2.elim
    |_=>exact h2
  ·refine Cy λhm=>?_;obtain⟨q,K,rfl⟩:=By.1 hm;obtain⟨z,hz,rfl⟩:=By.1 K;have:=hro z hz;have hj:b.nk<=z.1:=hj;omega
  ·unfold Ck;cases ht:Ax (Fl N b x).L t with
   |none=>trivial
   |some sv=>
    simp only;obtain⟨q,K,rfl,rfl⟩:=Du ht;have hpl:=OF.1 c3 q K;exact inst_pl hpl
end
end
section
variable {N : C6}
section
variable{fn:Func}
def yI(ky:Nat)(ts:List Ty):YL N (List (Bc N ts)×Bool):= {ky:=ky,f:=λC b k=>match Lq N C ts b with
 |some y=>match k Ap with
  |some ([],Br)=>match k Br with
   |some l=>Ac (y::l.1,l.2)
   |none=>Ac ([y],Ap)
  |_=>C7
 |none=>C7}
def JH:List (Nat×RP)->Nat->List (Nat×SR N.T)
 | [],_=>[]
 |p::l,i=>(p.1, .Cr i)::JH l (i+1)
def vD(O:List (Nat×SR N.T)):List (Nat×RP)->Nat->Bool
 | [],_=>Br
 |p::l,i=>(match Ax O p.1 with
  |some (.Cr j)=>Nat.beq i j
  |_=>Ap)&&vD O l (i+1)
def yW(a:A9)(ts:List Ty)(st:St N.T):Option (List (Bc N ts)×Bool):=match vD st.O a.ro 0 with
 |true=>Ac ([],Br)
 |false=>C7
def VT(cx:Cx N)(fu:Nat)(f:Func)(a:A9)(b:Nat)(ts:List Ty)(x:BV N a.hs):Option (List (Bc N ts)×Bool):=match f.body,f.results.toList with
 |some c,[]=>den cx (yI a.nk ts) fu c (a.nk+1) Ap [] (a.ro.map λp=>instR N a.hs x p.2) ⟨(b, .mp a.nk)::(Fl N a x).L,JH a.ro 0,a.nk+1⟩ (yW a ts) (λ_ _=>C7) (yW a ts)
 |_,_=>C7
def ia(cx:Cx N)(a:A9)(c:Nat):Bool:=(Nat.ble a.sl.length cx.n&&(Nat.blt c a.sl.length&&(a.sl.all λp=>p.2.pl)))&&((a.sl.all λp=>Nat.blt p.1 a.sl.length&&p.2.ks.all λk=>Nat.blt k a.nk)&&((a.ro.all λp=>Nat.blt p.1 a.nk&&p.2.ks.all λk=>Nat.blt k a.nk)&&Cf (a.ro.map (·.1))))
theorem Calls.ofM{P:Ge}{n:Nat}{f:FuncId}{c:Code}{vs:List BU}{w:GD}{X:Ending->GD->Prop}(e:P.funcs[f]?=Ac fn)(d:fn.body=Ac c)(g:fn.ntmps=n)(b:Nat.ble vs.length n=Br)
  (h:∀a,Fr a n (Ib 0 vs)->c.wp P (bodyPostM Fence.wide 0 P fn X) a w):Calls P f vs.toArray w X:=by
 subst g;exact(callsIn_wide (n:=0)).1 (callsIn_of_wp_marks e d trivial ((wpIn_wide (n:=0)).2 (h _ (Fr.enter vs _ b))) rfl)
theorem Qa{CR:List (SR N.T)}{g:Nat×RP->SR N.T} :∀ {l:List (Nat×RP)} {i:Nat},(l.map (·.1)).Nodup->(∀j p,l[j]?=Ac p->CR[i+j]?=Ac (g p))->∀p∈l,∃j,Ax (JH l i:List (Nat×SR N.T)) p.1=Ac (.Cr j)/\CR[j]?=Ac (g p)
 | [],_,_,_,p,h=>by grind
 |q::l,i,b,hc,p,h=>by
  simp only[Aap,Abl]at b;simp only[JH,Ax];cases c:Nat.beq q.1 p.1 with
  |true=>
   have e:=AI c;rcases Aay.1 h with rfl|h;· exact⟨i,rfl,by simpa using hc 0 _ rfl⟩
   grind
  |false=>
   rcases Aay.1 h with rfl|h;· simp at c
   ·exact Qa b.2 (λj p d=>by have:=hc (j+1) p (by grind);grind) p h
theorem HZ:∀ {l:List (Nat×RP)} {i:Nat},keys (JH l i:List (Nat×SR N.T))=l.map (·.1)
 | [],_=>rfl
 |p::l,i=>by show p.1::keys (JH l (i+1):List (Nat×SR N.T))=_;rw[HZ];rfl
theorem bf:∀ {l:List (Nat×RP)} {i k:Nat} {s:SR N.T},Ax (JH l i) k=Ac s->∃p∈l,p.1=k
 |l,i,k,s,h=>by have:=Dd h;grind[HZ]
theorem T1{O:List (Nat×SR N.T)}{CR:List (SR N.T)}{g:Nat×RP->SR N.T} :∀ {l:List (Nat×RP)} {i:Nat},vD O l i=Br->(∀j p,l[j]?=Ac p->CR[i+j]?=Ac (g p))->∀p∈l,Al CR O p.1=Ac (g p)
 | [],_,_,_,p,h=>by grind
 |q::l,i,b,hc,p,h=>by
  simp only[vD,AS]at b;rcases Aay.1 h with rfl|h
  ·have a:=b.1;unfold Al;split at a;· rename_i j e;have:=AI a;have:=hc 0 p rfl;grind[C2]
   grind
  ·exact T1 b.2 (λj p c=>by have:=hc (j+1) p (by simpa using c);grind) p h
def itG{R:Type}(a:Hp->List Av->R->Prop):Hp->Fm->R->Prop:=λH b r=> ∃M O,b=PB O M/\a H O r
theorem aN{cx:Cx N} [mp:CC N cx.P](hΦ:∀f q,cx.Φ f=Ac q->Bm cx.P f q)(hm:cx.P.follows .mixedOrders=Br){fu f:Nat}{d:A9}{R:Nat}{ts:List Ty}(he:QF cx.P f)(K:cx.P.funcs[f]?=Ac fn)(hn:fn.ntmps=cx.n)(hc:ia cx d R=Br):IX cx.P f ⟨d,R,ts,VT cx fu fn d R ts⟩:=by
 unfold ia at hc;simp only[AS]at hc;obtain⟨⟨c1,c2,c3⟩,c4,V,c6⟩:=hc;have c6:=BF c6
 have c4:∀p∈d.sl,p.1<d.sl.length/\∀k∈p.2.ks,k<d.nk:=λp n=>by have:=OF.1 c4 p n;simp_all
 have V:∀p∈d.ro,p.1<d.nk/\∀k∈p.2.ks,k<d.nk:=λp n=>by have:=OF.1 V p n;rw[AS]at this;exact⟨by simpa using this.1,λk m=>by simpa using OF.1 this.2 k m⟩
 refine⟨he,λx ys E G2 yv hone mono2 no2 W η H O Y U w hnd i1 i2 hyi i3 i4 hg hiv hsh=>?_⟩;have E:VT cx fu fn d R ts x=Ac ys:=E;unfold VT at E;split at E;case h_2=>grind
 rename_i c Z hrs;generalize hCR:(d.ro.map λp=>instR N d.hs x p.2)=CR at E;have hcr:∀j p,d.ro[j]?=Ac p->CR[0+j]?=Ac (instR N d.hs x p.2):=λj p hj=>by rw[<-hCR,Abi,Abx,hj];rfl
 obtain⟨o,F,ηy⟩:∃o:Nat->BU,(∀k,k<d.nk->o k=η k)/\o d.nk=yv:=⟨λk=>match Nat.beq k d.nk with
  |true=>yv
  |false=>η k,λk m=>by
   cases Z:Nat.beq k d.nk with
   |true=>grind[Nat.eq_of_beq_eq_true]
   |false=>simp only[Z],by simp only[Agz]⟩;obtain⟨bs,hbs,hbm⟩:∃bs:List (Nat×BU),(∀p∈bs,p.1<d.nk+1/\o p.1=p.2)/\∀k,k<d.nk+1->(k,o k)∈bs:=⟨(List.range (d.nk+1)).map λk=>(k,o k),λp n=>by
  obtain⟨k,m,rfl⟩:=By.1 n;exact⟨Abb.1 m,rfl⟩,λk m=>By.2 ⟨k,Abb.2 m,rfl⟩⟩;obtain⟨G,J⟩:∃G:Hp->Fm->List (Bc N ts)×Bool->Prop,G=itG G2:=⟨_,rfl⟩;have hG:∀H B Of r,H.le B->G H Of r->G B Of r:=by subst J;exact λH B Of r hle ⟨M,O,e,g⟩=>⟨M,O,e,mono2 _ _ _ _ hle g⟩
 have hY:O4 cx.P bs (yI d.nk ts) yv G:=by
  subst J;refine⟨λC As k r _=>?_,λC As k r Of H gi ⟨M,O,e,g⟩ K η A U w Q h2 I=>?_⟩;· have:=hbm d.nk (Afy _);rw[ηy]at this;exact this
  ·subst e;have K:(match Lq N C ts As with
    |some y=>match k Ap with
     |some ([],Br)=>match k Br with
      |some l=>Ac (y::l.1,l.2)
      |none=>Ac ([y],Ap)
     |_=>C7
    |none=>C7)=Ac r:=K;split at K
   ·rename_i y hy;split at K
    ·rename_i hk0;split at K
     ·rename_i l hk1;cases K;have I:SH w H ((A++M.map BB)++O):=by rw[Aam];exact I
      refine(W H O y l.1 l.2 gi g (A++M.map BB) U w (H5 ts As U y hy Q h2) I).mono λb w' ⟨B,P,k1,k2,k3⟩=>⟨B,PB P M,KI l b,k1,rfl,by rw[Aam]at k2;exact k2,⟨M,P,rfl,k3⟩,?_⟩;cases b with
      |true=>exact hk1
      |false=>exact hk0
     ·cases K;have I:SH w H ((A++M.map BB)++O):=by rw[Aam];exact I
      refine(W H O y [] Ap gi g (A++M.map BB) U w (H5 ts As U y hy Q h2) I).mono λb w' ⟨B,P,k1,k2,k3⟩=>?_;cases b with
      |true=>exact absurd k3 (no2 _ _)
      |false=>exact⟨B,PB P M,([],Br),k1,rfl,by rw[Aam]at k2;exact k2,⟨M,P,rfl,k3⟩,hk0⟩
    ·cases K
   ·cases K
 refine Calls.ofM K Z hn (by rw[i1];exact c1) λa T=>?_;have fin:Kn [] CR cx.n G bs H (yW d ts) (bodyPostM Fence.wide 0 cx.P fn (λe w'=> ∃v B P Y',e= .returned v/\H.le B/\SH w' B (Y'.map (·.2)++P)/\keys Y'=d.ro.map (·.1)/\(∀p∈d.ro,∃X,Ax Y' p.1=Ac X/\(instR N d.hs x p.2).is [] η B p.1 X)/\G2 B P ([],Br)) .ret):=λOf r st η1 B a' w' hl hgg Q _ I=>by
  rw[J]at hgg;obtain⟨M,P,e,g⟩:=hgg;subst e;show LeavesInM _ _ _ _ _ _ a'.defers _ _;rw[Q.defers];refine Hb Q λw' Q=>?_;unfold yW at I;split at I;case h_2=>cases I
  rename_i hio;cases I;obtain⟨Y1,y1,y2,y3,y4⟩:=Q.own;have rr:=T1 (CR:=CR) (g:=λp=>instR N d.hs x p.2) hio hcr;have hx:∀p∈d.ro,∃X,Ax Y1 p.1=Ac X/\(instR N d.hs x p.2).is [] η B p.1 X:=λp n=>by
   rcases y4 p.1 _ (rr p n)with e|⟨X,x1,x2⟩;· obtain⟨X,_,hX⟩:=i4 p n;rw[e]at hX;exact hX.elim
   ·have bb:∀k,k<d.nk->η k=η1 k:=λk m=>by
     have:=Q.base (k,o k) (hbm k (by omega));rw[this,F k m]
    exact⟨X,x1,SR.is.env (bb p.1 (V p n).1) (λk m=>by cases m) (λk m=>bb k ((V p n).2 k (instR_ment _ _ _ k m))) x2⟩
  refine⟨.tuple #[],?_, .tuple #[],B,P,d.ro.map (λp=>(p.1,(Ax Y1 p.1).getD .emp)),rf,hl,?_,?_,λp n=>?_,g⟩
  ·rw[IB];have:fn.results= #[]:=by simpa using hrs
   rw[this];simp
  ·refine SH.Tm (by simpa [PB]using y2) ?_ λp n=>?_;· unfold keys;rw[Aao];exact c6
   ·obtain⟨z,hz,rfl⟩:=By.1 n;obtain⟨X,x1,_⟩:=hx z hz;simp only[x1,Acm]
  ·unfold keys;rw[Aao];rfl
  ·obtain⟨X,x1,x2⟩:=hx p n;refine⟨X,?_,x2⟩;have nd:(keys (d.ro.map (λp=>(p.1,(Ax Y1 p.1).getD .emp)))).Nodup:=by unfold keys;rw[Aao];exact c6
   rw[CF nd (By.2 ⟨p,n,rfl⟩),x1];rfl
 have key:∀(us:List BU) (i t:Nat) (v:BU),us[t-i]?=Ac v->i<=t->lk (Ib i us) t=Ac v:=by
  intro us;induction us with
  |nil=>intro i t v h;simp at h
  |cons u us ih=>
   intro i t v h hle;simp only[Ib,lk];cases Z:Nat.beq i t with
   |true=>
    have:=AI Z;subst this;simp at h;simp[h]
   |false=>
    have ne:=Abe Z;refine ih (i+1) t v ?_ (by omega);rw[show t-i=(t-(i+1))+1 by omega]at h;simpa using h
 refine wpIn_wide.1 (Ci (bs:=bs) (G:=G) (Of:=PB O []) (r:=ys) (ro:=C7) (yv:=yv) (η:=o) (H:=H) hΦ hm c (λ_=>⟨rfl,by subst J;exact λ_ _ _ D ⟨M,O,e,g⟩=>⟨D::M,O,by subst e;rfl,g⟩⟩) (λq hq=>(hbs q hq).1) hG hY (by subst J;exact⟨[],O,rfl,hg⟩) (st:=⟨(R, .mp d.nk)::(Fl N d x).L,JH d.ro 0,d.nk+1⟩) ⟨hiv,T.defers,T.size,λt sv ht=>?_,λp n=>(hbs p n).2,Y,hnd,by simpa [PB]using hsh,λk m=>?_,λk sr m=>?_⟩ ⟨λp n=>(hbs p n).1,λj hj=>?_,⟨λ_=>0,λt=>?_⟩,λk m=>(by cases m),λs hs=>(by cases hs)⟩ E fin (λi Of r st η B a' w' _ _ _ _ I=>by cases I) fin);· simp only[Ax]at ht;cases S:Nat.beq R t with
  |true=>
   rw[S]at ht;cases ht;have:=AI S;subst this;rw[T.get R yv (key U 0 R yv hyi (Abh _))];exact⟨ηy.symm,hone⟩
  |false=>
   rw[S]at ht;obtain⟨q,hq,rfl,rfl⟩:=Du ht;obtain⟨v,Q,h2⟩:=i2 q hq;rw[T.get q.1 v (key U 0 q.1 v Q (Abh _))];have:(inst N d.hs x q.2).is [] o H v:=h2.env (λk m=>by cases m) (λk m=>F k ((c4 q hq).2 k (by rw[<-inst_ment];exact m)));exact SV.BN.imp (λj v ⟨s,e,h⟩=>by simp at e) this
 ·rw[i3]at m;obtain⟨p,n,rfl⟩:=By.1 m;show p.1<d.nk+1;have:=(V p n).1;omega
 ·unfold Al at m;split at m;· rename_i s hs;cases m;obtain⟨p,n,rfl⟩:=bf hs;obtain⟨j,e1,e2⟩:=Qa (CR:=CR) (g:=λp=>instR N d.hs x p.2) c6 hcr p n;have hs:Ax (JH d.ro 0) p.1=Ac s:=hs;rw[e1]at hs;cases hs;obtain⟨X,x1,x2⟩:=i4 p n;refine .inr ⟨X,x1,?_⟩;simp only[C2,IS,e2,Acm];exact SR.is.env (F p.1 (V p n).1) (λk m=>by cases m) (λk m=>F k ((V p n).2 k (instR_ment _ _ _ k m))) x2
  ·cases m
 ·refine Cy λhm=>?_;have hm:j∈keys (JH d.ro 0:List (Nat×SR N.T)):=hm;rw[HZ]at hm;obtain⟨p,n,rfl⟩:=By.1 hm;have:=(V p n).1;have hj:d.nk+1<=p.1:=hj;omega
 ·unfold Ck;simp only[Ax];cases S:Nat.beq R t with
  |true=>trivial
  |false=>
   simp only;cases ht:Ax (Fl N d x).L t with
   |none=>trivial
   |some sv=>
    simp only;obtain⟨q,hq,rfl,rfl⟩:=Du ht;have hpl:=OF.1 c3 q hq;exact inst_pl hpl
end
end
section
variable {N : C6}
def yJ(ky:Nat)(ts:List Ty):YL N (List (Bc N ts)×Option Bool):= {ky:=ky,f:=λC b k=>match Lq N C ts b with
 |some y=>match k Ap with
  |some ([],Ac Ap)=>match k Br with
   |some r=>Ac (y::r.1,r.2)
   |none=>Ac ([y],C7)
  |_=>C7
 |none=>C7}
def yV(P:Ge)(CR:List (SR N.T))(l:List ResultVar)(c:Bool)(a:A9)(ts:List Ty)(st:St N.T):Option (List (Bc N ts)×Option Bool):=match vD st.O a.ro 0 with
 |true=>match c with
  |true=>match WZ P [] CR st [.bool] l with
   |some b=>Ac ([],Ac b)
   |none=>C7
  |false=>match WZ P [] CR st [] l with
   |some _=>Ac ([],Ac Ap)
   |none=>C7
 |false=>C7
def VS(cx:Cx N)(fu:Nat)(f:Func)(a:A9)(d:Nat)(ts:List Ty)(b:Bool)(x:BV N a.hs):Option (List (Bc N ts)×Option Bool):=match f.body with
 |some c=>den cx (yJ d ts) fu c a.nk Ap [] (a.ro.map λp=>instR N a.hs x p.2) ⟨(Fl N a x).L,JH a.ro 0,a.nk⟩ (yV cx.P (a.ro.map λp=>instR N a.hs x p.2) f.results.toList b a ts) (λ_ _=>C7) (yV cx.P (a.ro.map λp=>instR N a.hs x p.2) f.results.toList b a ts)
 |none=>C7
def h'(cx:Cx N)(a:A9)(c:Nat):Bool:=(Nat.ble a.sl.length cx.n&&(Nat.blt c a.nk&&(a.sl.all λp=>p.2.pl)))&&((a.sl.all λp=>Nat.blt p.1 a.sl.length&&p.2.ks.all λk=>Nat.blt k a.nk)&&((a.ro.all λp=>Nat.blt p.1 a.nk&&p.2.ks.all λk=>Nat.blt k a.nk)&&Cf (a.ro.map (·.1))))
theorem aM{cx:Cx N} [mp:CC N cx.P](hΦ:∀f q,cx.Φ f=Ac q->Bm cx.P f q)(hm:cx.P.follows .mixedOrders=Br){fu f:Nat}{fn:Func}{d:A9}{P:Nat}{ts:List Ty}{rb:Bool}(he:QF cx.P f)(J:cx.P.funcs[f]?=Ac fn)(hn:fn.ntmps=cx.n)(hc:h' cx d P=Br):IW cx.P f ⟨d,P,ts,rb,VS cx fu fn d P ts rb⟩:=by
 unfold h' at hc;simp only[AS]at hc;obtain⟨⟨c1,c2,c3⟩,c4,c5,c6⟩:=hc;have c6:=BF c6;have c2:P<d.nk:=by simp_all
 have c5:∀p∈d.ro,p.1<d.nk/\∀k∈p.2.ks,k<d.nk:=λp m=>by have:=OF.1 c5 p m;rw[AS]at this;exact⟨by simpa using this.1,λk n=>by simpa using OF.1 this.2 k n⟩
 refine⟨he,λx ys E η G2 mono2 no2 U H O Y S w hnd i1 i2 i3 i4 hg hiv hsh=>?_⟩;have E:VS cx fu fn d P ts rb x=Ac ys:=E;unfold VS at E;split at E;case h_2=>grind
 rename_i c Q;generalize hCR:(d.ro.map λp=>instR N d.hs x p.2)=CR at E;have hcr:∀j p,d.ro[j]?=Ac p->CR[0+j]?=Ac (instR N d.hs x p.2):=λj p hj=>by rw[<-hCR,Abi,Abx,hj];rfl
 obtain⟨bs,V,hbm⟩:∃bs:List (Nat×BU),(∀p∈bs,p.1<d.nk/\η p.1=p.2)/\∀k,k<d.nk->(k,η k)∈bs:=⟨(List.range d.nk).map λk=>(k,η k),λp m=>by grind,λk n=>By.2 ⟨k,Abb.2 n,rfl⟩⟩;obtain⟨G,I⟩:∃G:Hp->Fm->List (Bc N ts)×Option Bool->Prop,G=itG G2:=⟨_,rfl⟩;have hG:∀H B Of r,H.le B->G H Of r->G B Of r:=by subst I;exact λH B Of r hle ⟨M,O,e,g⟩=>⟨M,O,e,mono2 _ _ _ _ hle g⟩
 have hY:O4 cx.P bs (yJ P ts) (η P) G:=by
  subst I;refine⟨λC As k r _=>hbm P c2,λC As k r Of H gi ⟨M,O,e,g⟩ J η A S w F h2 o=>?_⟩;subst e;have J:(match Lq N C ts As with
   |some y=>match k Ap with
    |some ([],Ac Ap)=>match k Br with
     |some r=>Ac (y::r.1,r.2)
     |none=>Ac ([y],C7)
    |_=>C7
   |none=>C7)=Ac r:=J;split at J
  ·rename_i y hy;split at J
   ·rename_i hk0;split at J
    ·rename_i l hk1;cases J;have o:SH w H ((A++M.map BB)++O):=by rw[Aam];exact o
     refine(U H O y l.1 l.2 gi g (A++M.map BB) S w (H5 ts As S y hy F h2) o).mono λb T ⟨B,K,k1,R,k3⟩=>⟨B,PB K M,wz l.1 l.2 b,k1,rfl,by rw[Aam]at R;exact R,⟨M,K,rfl,k3⟩,?_⟩;cases b with
     |true=>exact hk1
     |false=>exact hk0
    ·cases J;have o:SH w H ((A++M.map BB)++O):=by rw[Aam];exact o
     refine(U H O y [] C7 gi g (A++M.map BB) S w (H5 ts As S y hy F h2) o).mono λb T ⟨B,K,k1,R,k3⟩=>?_;cases b with
     |true=>exact absurd k3 (no2 _ _)
     |false=>exact⟨B,PB K M,([],Ac Ap),k1,rfl,by rw[Aam]at R;exact R,⟨M,K,rfl,k3⟩,hk0⟩
   ·cases J
  ·cases J
 refine Calls.ofM J Q hn (by rw[i1];exact c1) λa W=>?_;have fin:Kn [] CR cx.n G bs H (yV cx.P CR fn.results.toList rb d ts) (bodyPostM Fence.wide 0 cx.P fn (λe T=> ∃v B K Y' b,e= .returned v/\H.le B/\SH T B (Y'.map (·.2)++K)/\keys Y'=d.ro.map (·.1)/\(∀p∈d.ro,∃X,Ax Y' p.1=Ac X/\(instR N d.hs x p.2).is [] η B p.1 X)/\G2 B K ([],Ac b)/\(rb=Br->v= .bool b)) .ret):=λOf r st η1 B a' T hl hgg F _ o=>by
  rw[I]at hgg;obtain⟨M,K,e,g⟩:=hgg;subst e;show LeavesInM _ _ _ _ _ _ a'.defers _ _;rw[F.defers];refine Hb F λT F=>?_;unfold yV at o;split at o;case h_2=>cases o
  rename_i hio;obtain⟨b,v,rfl,hv,hrun⟩:∃b v,r=([],Ac b)/\(rb=Br->v= .bool b)/\(results fn a'.tmps).run cx.P T= .ok v T:=by
   split at o
   ·split at o;· rename_i b Q;cases o;obtain⟨v,k1,R⟩:=Mm F Q;obtain⟨cs,e1,e2⟩:=R;subst e1;cases e2;exact⟨b,_,rfl,λ_=>rfl,k1⟩
    ·cases o
   ·split at o;· rename_i b Q;cases o;obtain⟨v,k1,R⟩:=Mm F Q;exact⟨Ap,v,rfl,(λe=>by cases e),k1⟩
    ·cases o
  obtain⟨Y1,y1,y2,y3,y4⟩:=F.own;have rr:=T1 (CR:=CR) (g:=λp=>instR N d.hs x p.2) hio hcr;have hx:∀p∈d.ro,∃X,Ax Y1 p.1=Ac X/\(instR N d.hs x p.2).is [] η B p.1 X:=λp m=>by
   rcases y4 p.1 _ (rr p m)with e|⟨X,x1,x2⟩;· obtain⟨X,_,hX⟩:=i4 p m;rw[e]at hX;exact hX.elim
   ·have bb:∀k,k<d.nk->η k=η1 k:=λk n=>by
     have:=F.base (k,η k) (hbm k n);exact this.symm
    exact⟨X,x1,SR.is.env (bb p.1 (c5 p m).1) (λk n=>by cases n) (λk n=>bb k ((c5 p m).2 k (instR_ment _ _ _ k n))) x2⟩
  refine⟨v,hrun,v,B,K,d.ro.map (λp=>(p.1,(Ax Y1 p.1).getD .emp)),b,rf,hl,?_,?_,λp m=>?_,g,hv⟩
  ·refine SH.Tm (by simpa [PB]using y2) ?_ λp m=>?_;· unfold keys;rw[Aao];exact c6
   ·obtain⟨z,hz,rfl⟩:=By.1 m;obtain⟨X,x1,_⟩:=hx z hz;simp only[x1,Acm]
  ·unfold keys;rw[Aao];rfl
  ·obtain⟨X,x1,x2⟩:=hx p m;refine⟨X,?_,x2⟩;have nd:(keys (d.ro.map (λp=>(p.1,(Ax Y1 p.1).getD .emp)))).Nodup:=by unfold keys;rw[Aao];exact c6
   rw[CF nd (By.2 ⟨p,m,rfl⟩),x1];rfl
 have key:∀(us:List BU) (i t:Nat) (v:BU),us[t-i]?=Ac v->i<=t->lk (Ib i us) t=Ac v:=by
  intro us;induction us with
  |nil=>intro i t v h;simp at h
  |cons u us ih=>
   intro i t v h hle;simp only[Ib,lk];cases Q:Nat.beq i t with
   |true=>
    have:=AI Q;subst this;simp at h;simp[h]
   |false=>
    have ne:=Abe Q;refine ih (i+1) t v ?_ (by omega);rw[show t-i=(t-(i+1))+1 by omega]at h;simpa using h
 refine wpIn_wide.1 (Ci (bs:=bs) (G:=G) (Of:=PB O []) (r:=ys) (ro:=C7) (yv:=η P) (η:=η) (H:=H) hΦ hm c (λ_=>⟨rfl,by subst I;exact λ_ _ _ D ⟨M,O,e,g⟩=>⟨D::M,O,by subst e;rfl,g⟩⟩) (λq hq=>(V q hq).1) hG hY (by subst I;exact⟨[],O,rfl,hg⟩) (st:=⟨(Fl N d x).L,JH d.ro 0,d.nk⟩) ⟨hiv,W.defers,W.size,λt sv ht=>?_,λp m=>(V p m).2,Y,hnd,by simpa [PB]using hsh,λk n=>?_,λk sr n=>?_⟩ ⟨λp m=>(V p m).1,λj hj=>?_,⟨λ_=>0,λt=>?_⟩,λk n=>(by cases n),λs Z=>(by cases Z)⟩ E fin (λi Of r st η H a' T _ _ _ _ o=>by cases o) fin);· obtain⟨q,hq,rfl,rfl⟩:=Du ht;obtain⟨v,F,h2⟩:=i2 q hq;rw[W.get q.1 v (key S 0 q.1 v F (Abh _))];exact SV.BN.imp (λj v ⟨s,e,h⟩=>by simp at e) h2
 ·rw[i3]at n;obtain⟨p,m,rfl⟩:=By.1 n;exact(c5 p m).1
 ·unfold Al at n;split at n;· rename_i s Z;cases n;obtain⟨p,m,rfl⟩:=bf Z;obtain⟨j,e1,e2⟩:=Qa (CR:=CR) (g:=λp=>instR N d.hs x p.2) c6 hcr p m;have Z:Ax (JH d.ro 0) p.1=Ac s:=Z;rw[e1]at Z;cases Z;obtain⟨X,x1,x2⟩:=i4 p m;refine .inr ⟨X,x1,?_⟩;simp only[C2,IS,e2,Acm];exact x2
  ·cases n
 ·refine Cy λhm=>?_;have hm:j∈keys (JH d.ro 0:List (Nat×SR N.T)):=hm;rw[HZ]at hm;obtain⟨p,m,rfl⟩:=By.1 hm;have:=(c5 p m).1;have hj:d.nk<=p.1:=hj;omega
 ·unfold Ck;cases ht:Ax (Fl N d x).L t with
  |none=>simp only[ht];trivial
  |some sv=>
   simp only[ht];obtain⟨q,hq,rfl,rfl⟩:=Du ht;have hpl:=OF.1 c3 q hq;exact inst_pl hpl
end
def cE(n:Nat):Cd Empty where
 sz:=n
 BI _ x _:=x.elim
 len {_ x _} _:=x.elim
 mono {_ _ x _} _ _:=x.elim
 one {_ x _} _:=x.elim
def idE:List (Nat×Nat)->Nat->Option Nat
 | [],_=>C7
 |(t,i)::l,u=>match Nat.beq u t with
  |true=>Ac i
  |false=>idE l u
section
variable {X : Type} {s : Nat}
section
variable{H:Hp}{α:Type}{d:Cd α}
abbrev JP(c:Cd X)(t:Ty):Cd (t.den λ_=>X):=SA (T:=λ_=>X) (λ_=>c) t
def Yk(s:Nat):Ty->Nat
 | .st t=>Yk s t
 | .pr a b=>Yk s a+Yk s b
 | .un=>0
 | .bs=>4
 | .nm _=>s
 | .ar n t=>n*Yk s t
 |_=>1
theorem Fq{c:Cd X}(h:c.sz=s):∀t,(JP c t).sz=Yk s t
 | .int k=>by cases k<;>rfl
 | .bool=>rfl
 | .str=>rfl
 | .sl _=>rfl
 | .st t=>Fq h t
 | .pr a b=>by show(JP c a).sz+(JP c b).sz=_;rw[Fq h a,Fq h b];rfl
 | .un=>rfl
 | .bs=>rfl
 | .nm i=>h
 | .ar n t=>by show n*(JP c t).sz=_;rw[Fq h t];rfl
theorem Jn{α:Type}{c d:Cd α}{H:Hp}(h:∀a cs,c.BI H a cs->d.BI H a cs):∀ {l:List α} {xs:List BU},AZ c H l xs->AZ d H l xs
 | [],_,k=>k
 |_::_,_,⟨cs,g,e,b,f⟩=>⟨cs,g,e,h _ _ b,Jn h f⟩
theorem eA{c:Cd α}(b:c.sz=d.sz)(h:∀a cs,c.BI H a cs->d.BI H a cs){l:List α}{v:BU}(k:GI c H l v):GI d H l v:=by obtain⟨⟨i,e,f⟩,g⟩:=k;exact⟨⟨i,b▸e,Jn h f⟩,g⟩
theorem Fb{c d:Cd X}(b:c.sz=d.sz){H:Hp}(h:∀a cs,c.BI H a cs->d.BI H a cs):∀(t:Ty) (a:t.den λ_=>X) (cs:List BU),(JP c t).BI H a cs->(JP d t).BI H a cs
 | .int _,_,_,k=>k
 | .bool,_,_,k=>k
 | .str,_,_,k=>k
 | .sl t,_,_,⟨v,e,k⟩=>⟨v,e,eA (by rw[Fq b t,Fq rfl t]) (Fb b h t) k⟩
 | .st t,a,cs,k=>Fb b h t a cs k
 | .pr t u,_,_,⟨g,i,e,j,l⟩=>⟨g,i,e,Fb b h t _ _ j,Fb b h u _ _ l⟩
 | .un,_,_,k=>k
 | .bs,_,_,k=>k
 | .nm _,a,cs,k=>h a cs k
 | .ar _ t,_,_,k=>⟨k.1,Jn (Fb b h t) k.2⟩
end
variable (B : Ty) (out : X -> B.den λ_ => X) (hB : Yk s B = s)
section
variable{H:Hp}{n m:Nat}{a:X}{cs:List BU}
def cF:Nat-> {c:Cd X//c.sz=s}
 |0=>⟨⟨s,λ_ _ _=>False,λh=>h.elim,λ_ h=>h,λh=>h.elim⟩,rfl⟩
 |n+1=>⟨⟨s,λH a d=>(JP (cF n).1 B).BI H (out a) d,λh=>by rw[<-hB,<-Fq (cF n).2 B];exact(JP _ B).len h,λe h=>(JP _ B).mono e h,λh=>(JP _ B).one h⟩,rfl⟩
theorem We{H:Hp} :∀ {n:Nat} {a:X} {cs:List BU},(cF B out hB n).1.BI H a cs->(cF B out hB (n+1)).1.BI H a cs
 |0,_,_,h=>h.elim
 |n+1,_,_,h=>Fb ((cF B out hB n).2.trans (cF B out hB (n+1)).2.symm) (λ_ _=>We) B _ _ h
theorem wc(h:n<=m)(k:(cF B out hB n).1.BI H a cs):(cF B out hB m).1.BI H a cs:=by
 induction h with
 |refl=>omega
 |step _ c=>grind[We]
def XP:Cd X where
 sz:=s
 BI H a c:= ∃n,(cF B out hB n).1.BI H a c
 len h:=by obtain⟨n,h⟩:=h;rw[(cF B out hB n).1.len h];grind
 mono d h:=by obtain⟨n,h⟩:=h;exact⟨n,(cF B out hB n).1.mono d h⟩
 one h:=by obtain⟨n,h⟩:=h;exact(cF B out hB n).1.one h
theorem MK{α:Type}{H:Hp}{c:Nat->Cd α}{d:Cd α}(up:∀ {n m:Nat},n<=m->∀a cs,(c n).BI H a cs->(c m).BI H a cs)(h:∀a cs,d.BI H a cs->∃n,(c n).BI H a cs):∀ {l:List α} {xs:List BU},AZ d H l xs->∃n,AZ (c n) H l xs
 | [],_,k=>⟨0,k⟩
 |_::_,_,⟨cs,i,e,f,g⟩=>by obtain⟨n,f⟩:=h _ _ f;obtain⟨m,g⟩:=MK up h g;exact⟨max n m,cs,i,e,up (Alo ..) _ _ f,Jn (up (Ajz ..)) g⟩
theorem UT(t:Ty)(h:n<=m)(a:t.den λ_=>X)(cs:List BU)(k:(JP (cF B out hB n).1 t).BI H a cs):(JP (cF B out hB m).1 t).BI H a cs:=Fb ((cF B out hB n).2.trans (cF B out hB m).2.symm) (λ_ _=>wc B out hB h) t a cs k
theorem H0{H:Hp} :∀(t:Ty) (a:t.den λ_=>X) (cs:List BU),(JP (XP B out hB) t).BI H a cs->∃n,(JP (cF B out hB n).1 t).BI H a cs
 | .int _,_,_,k=>⟨0,k⟩
 | .bool,_,_,k=>⟨0,k⟩
 | .str,_,_,k=>⟨0,k⟩
 | .sl t,_,_,⟨v,e,⟨j,d,b⟩,i⟩=>by obtain⟨n,b⟩:=MK (c:=λn=>JP (cF B out hB n).1 t) (UT B out hB t) (H0 t) b;refine⟨n,v,e,⟨j,?_,b⟩,i⟩;rw[Fq (cF B out hB n).2 t];rw[Fq (s:=s) (c:=XP B out hB) rfl t]at d;omega
 | .st t,a,cs,k=>H0 t a cs k
 | .pr t u,_,_,⟨g,h,e,d,b⟩=>by obtain⟨n,d⟩:=H0 t _ _ d;obtain⟨m,b⟩:=H0 u _ _ b;exact⟨max n m,g,h,e,UT B out hB t (Alo ..) _ _ d,UT B out hB u (Ajz ..) _ _ b⟩
 | .un,_,_,k=>⟨0,k⟩
 | .bs,_,_,k=>⟨0,k⟩
 | .nm _,_,_,k=>k
 | .ar _ t,_,_,⟨d,b⟩=>by obtain⟨n,b⟩:=MK (c:=λn=>JP (cF B out hB n).1 t) (UT B out hB t) (H0 t) b;exact⟨n,d,b⟩
theorem bH:(XP B out hB).BI H a cs↔(JP (XP B out hB) B).BI H (out a) cs:=by
 constructor;· rintro⟨n,h⟩;cases n with
  |zero=>trivial
  |succ n=>exact Fb (c:=(cF B out hB n).1) (d:=XP B out hB) (cF B out hB n).2 (λ_ _ k=>⟨n,k⟩) B _ _ h
 ·intro h;obtain⟨n,h⟩:=H0 B out hB B _ _ h;exact⟨n+1,h⟩
end
end
abbrev A4:=List (Bool×List (Int×Int×Int))
abbrev Ba:=List (Int×Int)×List (Int×Int)
abbrev HD:=Bool×Bool×Bool×Ba×A4
inductive Vl where
 |mk (any:Bool) (sc:HD) (lists:List (List (Vl×Vl)×List (Vl×Vl))) (structs:List (List (Au×Int×Vl×Vl)×List (A4×Vl×Vl)))
def Vl.any:Vl->Bool| .mk a _ _ _=>a
def Vl.sc:Vl->HD| .mk _ s _ _=>s
def Vl.lists:Vl->List (List (Vl×Vl)×List (Vl×Vl))| .mk _ _ l _=>l
def Vl.structs:Vl->List (List (Au×Int×Vl×Vl)×List (A4×Vl×Vl))| .mk _ _ _ l=>l
abbrev spB:Ty:= .st (.pr (.int .i64) (.int .i64))
abbrev vd:Ty:= .st (.pr (.sl spB) (.sl spB))
abbrev Z9:Ty:= .st (.sl (.st (.pr .bool (.sl (.st (.pr (.int .u8) (.pr (.int .u8) (.int .i64))))))))
abbrev scB:Ty:= .st (.pr .bool (.pr .bool (.pr .bool (.pr vd Z9))))
abbrev WC:Ty:= .st (.pr (.nm 0) (.nm 0))
abbrev lcB:Ty:= .st (.pr (.sl WC) (.sl WC))
abbrev vfB:Ty:= .st (.pr .str (.pr (.int .i64) WC))
abbrev clsB:Ty:= .st (.pr Z9 WC)
abbrev nR:Ty:= .st (.pr (.sl vfB) (.sl clsB))
abbrev tW:Ty:= .st (.pr .bool (.pr scB (.pr (.sl lcB) (.sl nR))))
def uC(x:Vl):Bool×HD×List (List (Vl×Vl)×List (Vl×Vl))×List (List (Au×Int×Vl×Vl)×List (A4×Vl×Vl)):=(x.any,x.sc,x.lists,x.structs)
def vlI(p:Bool×HD×List (List (Vl×Vl)×List (Vl×Vl))×List (List (Au×Int×Vl×Vl)×List (A4×Vl×Vl))):Vl:= .mk p.1 p.2.1 p.2.2.1 p.2.2.2
def QI:Cd Vl:=XP (s:=9) tW uC rfl
theorem YB{H:Hp}{a:Vl}{cs:List BU} :QI.BI H a cs↔(JP QI tW).BI H (uC a) cs:=bH tW uC rfl
abbrev tV:Nat->Type
 |0=>Vl
 |_=>Empty
def nV(d:List (Nat×Nat))(f:Nat):C6 where
 T:=tV
 body|0=>tW|i+1=> .nm (i+1)
 out|0,x=>uC x|_+1,x=>x
 vE|0,p=>vlI p|_+1,p=>p
 size|0=>9|_+1=>f
 id u:=idE d u
 cd|0=>QI|_+1=>cE f
 size_eq|0=>rfl|_+1=>rfl
 LF|0,_=>rfl|_+1,_=>rfl
 lay {i H a k} :=match i,a with
  |0,a=>YB
  |i+1,a=>a.elim
end Go.GV
namespace Go.Proofs
open Go.Shelf Go.RowKit Go.Sort Go.Lib
variable {P : Ge} {ρ : Ren}
section
variable{w:GD}{o:J5}{a:Act}{Q:Exit->Act->GD->Prop}
def cy(w:GD)(v v':BU):Prop:=v'.ownBlock=v.ownBlock\/∀b,v'.ownBlock=Ac b->w.heap.size<=b
theorem MQ{d e:GD}{row:Option Nat}(h:w.grownBy d C7)(k:d.grownBy e row):w.grownBy e row:=by obtain⟨f,g,i,a,j⟩:=h;obtain⟨l,m,n,o,p⟩:=k;exact⟨l.trans f,m.trans g,n.trans i,Aar a o,λb c q=>(p b (Abs c a) q).trans (j b c (by simp))⟩
theorem I1{D:Array J5}{q:List J5}(I:o.guard=C7)(s x:Dc)(t:Ee)
  (T:o.op= .call {callee:= .builtin .append,args:= #[s,x],argTypes:= #[t,t]})
  (e:Ee) (ii:TypeInfo) (z:BU) (ht:P.underlying t=Ac (.slice e)) (p:P.info? e=Ac ii) (g3:ii.zero=Ac z)
  (g1:ii.size=1) (g2:ii.bytes=1) (C:z.cells.size=1)
  (v:BU) (m:Nat) (xs:List BU) (U:a.eval s=v) (k:w.ownsRow 0 e 1 v m xs)
  (y:Addr) (n c:Nat) (d:List BU) (V:a.eval x= .slice (Ac y) n c) (M:d.length=n) (f:∀j u,d[j]?=Ac u->w.cell? (y.add j)=Ac u) (h1:∀u∈d,u.oneCell'=Br)
  (Z:m+n<=140737488355328)
  (h:∀v' w',w'.ownsRow 0 e 1 v' (m+n) (xs++d)->w.grownBy w' v.ownBlock->cy w v v'->wpList P D Q q (a.put o.dst v') w'):wpList P D Q (o::q) a w:=by
 refine wpList_plain I λK N=>?_;have i:d.length=n*1:=by omega
 obtain⟨v',w',F,W,X,k3⟩:=run_append_own (P:=P) w 0 t o.type e ii z 1 1 ht p g3 g1 g2 C (by decide) v m xs k y n c d i f h1 (by simp only[maxLen];omega) (by omega) (Abh _);unfold J5.wp;simp[ID,T,resolve,invoke,builtin,U,V,F,Result.andThen];refine N _ _ (h v' w' W X ?_);rcases k.2 with⟨rfl,rfl⟩|⟨g,cap,G,rfl,_,R,S,_,O,J⟩;· right;have L:xs=[]:=Abc (by simpa using k.1);subst L;obtain⟨v2,w2,l,Y,_,_⟩:=run_append_own (P:=P) w w.heap.size t o.type e ii z 1 1 ht p g3 g1 g2 C (by decide) (.slice C7 0 0) 0 [] (GD.ownsRow_nil w _ e _) y n c d i f h1 (by simp only[maxLen];omega) (by omega) (Aad _);rw[F]at l;injection l with B H;subst B;subst H;exact λb E=>(GD.ownsRow.lt Y b E).1
 ·by_cases r:m+n<=cap;· left;have l:=run_append_room (P:=P) w t o.type e ii ht p g m cap G R y n c d (by rw[g1];exact i) f h1 r (by rw[g1];omega);rw[F]at l;injection l with B H;rw[B];rfl
  ·right;have l:=run_append_grow (P:=P) w t o.type e ii z ht p g3 ⟨g,0,C7⟩ m cap xs (by rw[g1];exact k.1) (k.cells (g:=g) rfl) y n c d (by rw[g1];exact i) f (by omega) (by omega) (growslice_fits (by omega) (by rw[g2];omega));rw[F]at l;injection l with B H;intro b E;rw[B]at E;simp[BU.ownBlock]at E;omega
theorem Nz{p:Array J5}{i:List J5}(C:o.guard=C7)(s x:Dc)(t u:Ee)
  (L:o.op= .call {callee:= .builtin .append,args:= #[s,x],argTypes:= #[t,u]})
  (e:Ee) (ii:TypeInfo) (ht:P.underlying t=Ac (.slice e)) (y:P.underlying u=Ac .string) (f:P.info? e=Ac ii) (g3:ii.zero=Ac (.int .u8 0))
  (g1:ii.size=1) (g2:ii.bytes=1)
  (v:BU) (m:Nat) (xs:List BU) (M:a.eval s=v) (c:w.ownsRow 0 e 1 v m xs) (str:ByteArray) (N:a.eval x= .string str)
  (I:m+str.size<=140737488355328)
  (h:∀v' w',w'.ownsRow 0 e 1 v' (m+str.size) (xs++strCells str)->w.grownBy w' v.ownBlock->cy w v v'->wpList P p Q i (a.put o.dst v') w'):wpList P p Q (o::i) a w:=by
 refine wpList_plain C λK F=>?_;obtain⟨v',w',r,O,R,T⟩:=Lib.run_append_own_string (P:=P) w 0 t u o.type e ii ht y f g3 g1 g2 v m xs c str (by simp only[maxLen];omega) I (Abh _);unfold J5.wp;simp[ID,L,resolve,invoke,builtin,M,N,r,Result.andThen];refine F _ _ (h v' w' O R ?_);rcases c.2 with⟨rfl,rfl⟩|⟨g,cap,z,rfl,_,H,J,G,B,D⟩;· right;have E:xs=[]:=Abc (by simpa using c.1);subst E;obtain⟨U,V,d,S,_,_⟩:=Lib.run_append_own_string (P:=P) w w.heap.size t u o.type e ii ht y f g3 g1 g2 (.slice C7 0 0) 0 [] (GD.ownsRow_nil w _ e _) str (by simp only[maxLen];omega) (by omega) (Aad _);rw[r]at d;injection d with n A;subst n;subst A;exact λb q=>(GD.ownsRow.lt S b q).1
 ·by_cases k:m+str.size<=cap;· left;have d:=Lib.run_append_room_string (P:=P) w t u o.type e ii ht y f g1 g m cap z H str k (by simp at B;omega);rw[r]at d;injection d with n A;rw[n];rfl
  ·right;have d:=Lib.run_append_grow_string (P:=P) w t u o.type e ii (.int .u8 0) ht y f g3 ⟨g,0,C7⟩ m cap xs (by rw[c.1,g1]) (c.cells (g:=g) rfl) str (by omega) (by omega) (by rw[g2];exact growslice_fits (by omega) (by omega));rw[r]at d;injection d with n A;intro b q;rw[n]at q;simp[BU.ownBlock]at q;omega
def NT(P:Ge)(ρ:Ren)(f:FuncId)(c:BU)(n:Nat)(a:BU)(xs:List BU)(w:GD)(l:List UInt8):Prop:=Calls P f #[a,c, .int .i64 10] w λe w'=> ∃v',e= .returned v'/\w'.ownsRow 0 (ρ.t 5) 1 v' (n+l.length) (xs++Lib.byteCells l)/\w.grownBy w' a.ownBlock/\cy w a v'
theorem Uo(L:LaysM.n288 P ρ)(n u:Nat)(I:u<100)(y:BU)(xs:List BU)(w:GD)(k:w.ownsRow 0 (ρ.t 5) 1 y n xs)(x:n+20<=140737488355328):NT P ρ (ρ.f 288) (.int .u64 u) n y xs w (Lib.decDigits u):=by
 have q:=L.mixed;have t5:=L.t5;have X:=L.a5;have z5:=L.z5;have v5:=L.v5;have K:=L.t37;have N:=run_underlying L.t37;have F:=L.a37;have S:=L.z37;have Q:=L.v37;have M:=L.t53;have G:=L.a53;have T:=L.z53;have R:=L.v53;have t3:=L.t3;have V:=L.a3;have z3:=L.z3;have v3:=L.v3;have t4:=L.t4;have W:=L.a4;have z4:=L.z4;have v4:=L.v4;have t9:=L.t9;have Y:=L.a9;have z9:=L.z9;have v9:=L.v9;have z:=L.t171;have r:=L.a171;have D:=L.z171;have B:=L.v171;have Z:=L.t0;have U:=L.a0;have z0:=L.z0;have v0:=L.v0;have A:=L.t173;have s:=L.a173;have E:=L.z173;have C:=L.v173;have t:∀args w,(callFunc (ρ.f 283) args).run P w= .ok (.enter (ρ.f 283) args) w:=enters_of L.f283 (by kernel_rfl) rfl;obtain⟨J,H,m,o,p⟩:=info_parts L.i5;have v:(Lib.decDigits u).length<=20:=by
  rw[Lib.decDigits_length];by_cases i:u<10;· rw[Lib.nDigits_small i];omega
  ·rw[Lib.nDigits_big i,Lib.nDigits_small (show u/10<10 by omega)];omega
 have l:(⟨(Lib.decDigits u).toArray⟩:ByteArray).size=(Lib.decDigits u).length:=by simp[ByteArray.size]
 unfold NT;go_enter L.f288,Body.n288_ntmps ρ;go_wp2_with (first
  |(go_at_fn (ρ.f 283);refine(Any.internal_strconv_small {L with} u I _).mono ?_;rintro e w' ⟨rfl,rfl⟩)
  |(at_builtin;refine Nz rfl _ _ (ρ.t 37) (ρ.t 9) rfl (ρ.t 5) J L.t37 L.t9 H m o p _ _ _ rfl k ⟨(Lib.decDigits u).toArray⟩ rfl (by rw[l];omega) ?_));intro O w1 b h j;go_wp2;go_ret;refine⟨O,rfl,?_,h,j⟩;first|exact b|(rw[l]at b;exact b)
theorem b6(L:LaysM.n288 P ρ)(n u:Nat)(hu:100<=u)(i:u<18446744073709551616)(U:BU)(xs:List BU)(w:GD)(A:w.ownsRow 0 (ρ.t 5) 1 U n xs)(hlim:n+20<=140737488355328)
  (B:Lib.TabIs P w "internal/strconv.uint64pow10" .u64 Lib.pow10Tab):NT P ρ (ρ.f 288) (.int .u64 u) n U xs w (Lib.decDigits u):=by
 have S:=L.mixed;have t5:=L.t5;have a5:=L.a5;have z5:=L.z5;have v5:=L.v5;have t37:=L.t37;have u37:=run_underlying L.t37;have a37:=L.a37;have z37:=L.z37;have v37:=L.v37;have t53:=L.t53;have a53:=L.a53;have z53:=L.z53;have v53:=L.v53;have t3:=L.t3;have a3:=L.a3;have z3:=L.z3;have v3:=L.v3;have t4:=L.t4;have a4:=L.a4;have z4:=L.z4;have v4:=L.v4;have t9:=L.t9;have a9:=L.a9;have z9:=L.z9;have v9:=L.v9;have t171:=L.t171;have V:=L.a171;have z171:=L.z171;have v171:=L.v171;have t0:=L.t0;have a0:=L.a0;have z0:=L.z0;have v0:=L.v0;have t173:=L.t173;have X:=L.a173;have z173:=L.z173;have v173:=L.v173;have Y:∀args w,(callFunc (ρ.f 284) args).run P w= .ok (.enter (ρ.f 284) args) w:=enters_of L.f284 (by kernel_rfl) rfl;have Z:∀args w,(callFunc (ρ.f 285) args).run P w= .ok (.enter (ρ.f 285) args) w:=enters_of L.f285 (by kernel_rfl) rfl;obtain⟨i0,hi,O,Q,R⟩:=info_parts L.i5;have D:1<=u:=by omega
 have N:Lib.nDigits u<=20:=by have:=Lib.numDigits_eq u D i;split at this<;>omega
 have y:P.arrayLen (ρ.t 171)=24:=by simp[Ge.arrayLen,L.t171]
 have hsl:∀W,(Instr.sliceAt (ρ.t 171) (.pointer (Ac ⟨w.heap.size,0,C7⟩)) C7 (Ac (.int .i64 (Lib.nDigits u:Int))) C7).run P W= .ok (.slice (Ac ⟨w.heap.size,0,C7⟩) (Lib.nDigits u) 24) W:=λW=>by rw[run_sliceAt_array_h W (ρ.t 171) ⟨w.heap.size,0,C7⟩ (by simp[Ge.arrayLen,Ge.elem,L.t171]) .i64 (Lib.nDigits u:Int) (by omega) (by rw[y];omega)];go_simp
 have s:=Lib.holds_zero0 w (ρ.t 171) (Lib.nDigits u) (by omega);have f:=Any.internal_strconv_formatBase10 {L with} w.heap.size 0 24 u (Array.replicate (Lib.nDigits u) 0) (w.alloc (.cells Lib.zeros24 (ρ.t 171))) s (by rw[Agc];exact Lib.lt_pow_nDigits u) i (by rw[Agc];omega);rw[Agc]at f;have x:=Lib.hid s;have iu:(100:Int)<=(u:Int):=by omega
 clear s y;unfold NT;go_enter L.f288,Body.n288_ntmps ρ;go_wp2_with (first
  |(go_at_fn (ρ.f 284);refine(Any.internal_strconv_numDigits {L with} u D i _ (Lib.tabIs_alloc B _)).mono ?_;rintro e w' ⟨rfl,rfl⟩));go_at_fn (ρ.f 285);refine f.mono ?_;rintro e w' ⟨rfl,k,v',r,rfl,K⟩;have d:∀j H,(Lib.byteCells (Lib.decDigits u))[j]?=Ac H->((putRow (λ(b:UInt8)=>BU.int .u8 (b.toNat:Int)) (w.alloc (.cells Lib.zeros24 (ρ.t 171))) w.heap.size 0 r).drewN k).cell? ((⟨w.heap.size,0,C7⟩:Addr).add j)=Ac H:=by
  intro j H M;have m:j<(Lib.decDigits u).length:=by have h5:=(No.1 M).1;rwa [Lib.byteCells_length]at h5
  have e5:(Lib.byteCells (Lib.decDigits u))[j]?=Ac (BU.int .u8 ((Lib.decDigits u)[j].toNat:Int)):=by simp[Lib.byteCells,m]
  rw[e5]at M;cases M;rw[Lib.row_is_numeral K j m,Lib.add_plain,GD.cell?_drewN];exact cell?_putRow (λ(b:UInt8)=>BU.int .u8 (b.toNat:Int)) _ w.heap.size 0 _ r x.out (by rw[K.size,Agc]) j (by rw[K.size];rw[Lib.decDigits_length]at m;exact m)
 obtain⟨T,F⟩:=Lib.fin_at w (.cells Lib.zeros24 (ρ.t 171)) r k 0;have g:((putRow (λ(b:UInt8)=>BU.int .u8 (b.toNat:Int)) (w.alloc (.cells Lib.zeros24 (ρ.t 171))) w.heap.size 0 r).drewN k).ownsRow 0 (ρ.t 5) 1 U n xs:=by rw[F];exact Lib.ownsRow_grow A k T
 have p:w.grownBy ((putRow (λ(b:UInt8)=>BU.int .u8 (b.toNat:Int)) (w.alloc (.cells Lib.zeros24 (ρ.t 171))) w.heap.size 0 r).drewN k) C7:=by rw[F];exact Go.GK.OH w k T
 have q:w.heap.size<=((putRow (λ(b:UInt8)=>BU.int .u8 (b.toNat:Int)) (w.alloc (.cells Lib.zeros24 (ρ.t 171))) w.heap.size 0 r).drewN k).heap.size:=by rw[F];exact Lib.size_grow w k T
 generalize(putRow (λ(b:UInt8)=>BU.int .u8 (b.toNat:Int)) (w.alloc (.cells Lib.zeros24 (ρ.t 171))) w.heap.size 0 r).drewN k=W2 at d g p q⊢;clear F x f;go_wp2_with (at_builtin;refine I1 rfl _ _ (ρ.t 37) rfl (ρ.t 5) i0 (.int .u8 0) L.t37 hi O Q R rfl _ _ _ rfl g ⟨w.heap.size,0,C7⟩ (Lib.nDigits u) 24 (Lib.byteCells (Lib.decDigits u)) rfl ?c0 d ?c2 ?c3 ?_);case c0=>rw[Lib.byteCells_length,Lib.decDigits_length]
 case c2=>intro H C;simp only[Lib.byteCells,By]at C;obtain⟨b,_,rfl⟩:=C;rfl
 case c3=>omega
 intro v2 w3 v t z;go_wp2;go_ret;refine⟨v2,rfl,?_,MQ p t,z.imp id λh b hb=>Aar q (h b hb)⟩;rw[Lib.decDigits_length];exact v
theorem wo(L:LaysM.n288 P ρ)(n u:Nat)(e:u<18446744073709551616)(f:BU)(xs:List BU)(w:GD)(b:w.ownsRow 0 (ρ.t 5) 1 f n xs)(a:n+20<=140737488355328)
  (d:Lib.TabIs P w "internal/strconv.uint64pow10" .u64 Lib.pow10Tab):NT P ρ (ρ.f 288) (.int .u64 u) n f xs w (Lib.decDigits u):=by
 by_cases h:u<100;· exact Uo L n u h f xs w b a
 ·exact b6 L n u (by omega) e f xs w b a d
theorem grownBy_alloc(w:GD)(o:Obj):w.grownBy (w.alloc o) C7:=
 ⟨rfl,rfl,rfl,by show w.heap.size<=(w.heap.push o).size;rw[Array.size_push];omega,λb a _=>by show(w.heap.push o)[b]?=w.heap[b]?;rw[Array.getElem?_push_lt a,Array.getElem?_eq_getElem a]⟩
theorem appI(L:LaysM.n249 P ρ)(n:Nat)(i:Int)(h0: -9223372036854775808<=i)(h1:i<=9223372036854775807)(C:BU)(xs:List BU)(w:GD)(r:w.ownsRow 0 (ρ.t 5) 1 C n xs)(T:n+21<=140737488355328)
  (s:∀w',w.grownBy w' C.ownBlock->Lib.TabIs P w' "internal/strconv.uint64pow10" .u64 Lib.pow10Tab):NT P ρ (ρ.f 249) (.int .i64 i) n C xs w (Lib.itoa i):=by
 have N:=L.mixed;have t5:=L.t5;have R:=L.a5;have z5:=L.z5;have v5:=L.v5;have t37:=L.t37;have u37:=run_underlying L.t37;have X:=L.a37;have z37:=L.z37;have v37:=L.v37;have t2:=L.t2;have O:=L.a2;have z2:=L.z2;have E:=L.v2;have t3:=L.t3;have Q:=L.a3;have z3:=L.z3;have v3:=L.v3;have t53:=L.t53;have Y:=L.a53;have z53:=L.z53;have v53:=L.v53;have t4:=L.t4;have G:=L.a4;have z4:=L.z4;have v4:=L.v4;have S:∀args w,(callFunc (ρ.f 288) args).run P w= .ok (.enter (ρ.f 288) args) w:=enters_of L.f288 (by kernel_rfl) rfl;obtain⟨i0,hi,J,K,M⟩:=info_parts L.i5;by_cases U:i<0
 ·obtain⟨u,rfl⟩:∃u:Nat,i= -(u:Int):=⟨i.natAbs,by omega⟩;have H:1<=u:=by omega
  have g:u<18446744073709551616:=by omega
  have hwr:Kj.u64.wrap (-Kj.u64.wrap (-(u:Int)))=(u:Int):=by rw[Kj.wrap_u64,Kj.wrap_u64];omega
  rw[Lib.itoa_neg u H];unfold NT;go_enter L.f249,Body.n249_ntmps ρ;go_wp2_with (at_builtin;refine I1 rfl _ _ (ρ.t 37) rfl (ρ.t 5) i0 (.int .u8 0) L.t37 hi J K M rfl _ _ _ rfl (r.alloc _) ⟨w.heap.size,0,C7⟩ 1 1 [BU.int .u8 45] rfl rfl (by intro j u' D;match j,D with|0,D=>simp at D;subst D;simp[Addr.add]) (by intro u' B;simp at B;subst B;rfl) (by omega) ?_);intro v1 F x v A;have t:=MQ (grownBy_alloc w _) v;have y:Lib.TabIs P F "internal/strconv.uint64pow10" .u64 Lib.pow10Tab:=s F t;have I:w.heap.size<=F.heap.size:=by obtain⟨_,_,_,q,_⟩:=t;exact q
  go_wp2_with (go_at_fn (ρ.f 288);refine(wo {L with} (n+1) u g v1 _ F x (by omega) y).mono ?_;rintro e w2 ⟨E,rfl,f,c,d⟩);go_wp2;go_ret;have z:cy w C v1:=A.imp id λh b p=>by refine Aar ?_ (h b p);obtain⟨_,_,_,q,_⟩:=grownBy_alloc w _;exact q
  refine⟨E,rf,?_,?_,?_⟩
  ·have e1:n+((Lib.decDigits u).length+1)=n+1+(Lib.decDigits u).length:=by omega
   have e2:xs++Lib.byteCells (45::Lib.decDigits u)=xs++[BU.int .u8 45]++Lib.byteCells (Lib.decDigits u):=by simp[Lib.byteCells]
   rw[e1,e2];exact f
  ·obtain⟨W,O,Q,G,R⟩:=t;obtain⟨Z,b2,b3,b4,b5⟩:=c;refine⟨Z.trans W,b2.trans O,b3.trans Q,Aar G b4,λb p V=>(b5 b (Abs p G) λe=>?_).trans (R b p V)⟩;rcases z with h|h;· exact V (e.trans h)
   ·exact absurd (h b e.symm) (by omega)
  ·rcases d with h|h
   ·rcases z with k|k;· exact .inl (h.trans k)
    ·exact .inr λb p=>k b (by rw[<-h];exact p)
   ·exact .inr λb p=>Aar I (h b p)
 ·obtain⟨u,rfl⟩:∃u:Nat,i=u:=⟨i.toNat,by omega⟩;have g:u<18446744073709551616:=by omega
  rw[Lib.itoa_nonneg];unfold NT;go_enter L.f249,Body.n249_ntmps ρ;go_wp2_with (go_at_fn (ρ.f 288);refine(wo {L with} n u g C xs w r (by omega) (s w (GD.grownBy.refl _ _))).mono ?_;rintro e w2 ⟨E,rfl,f,c,d⟩);go_wp2;first|go_ret|go_ret2
  exact⟨E,rf,f,c,d⟩
theorem appP(L:LaysM.n176 P ρ)(n:Nat)(i:Int)(h0: -9223372036854775808<=i)(h1:i<=9223372036854775807)(k:BU)(xs:List BU)(w:GD)(h:w.ownsRow 0 (ρ.t 5) 1 k n xs)(g:n+21<=140737488355328)
  (j:∀w',w.grownBy w' k.ownBlock->Lib.TabIs P w' "internal/strconv.uint64pow10" .u64 Lib.pow10Tab):NT P ρ (ρ.f 176) (.int .i64 i) n k xs w (Lib.itoa i):=by
 have l:=L.mixed;have A:=L.t5;have x:=L.a5;have G:=L.z5;have C:=L.v5;have q:=L.t37;have r:=run_underlying L.t37;have p:=L.a37;have t:=L.z37;have s:=L.v37;have y:=L.t2;have u:=L.a2;have E:=L.z2;have o:=L.v2;have z:=L.t3;have v:=L.a3;have F:=L.z3;have B:=L.v3;have m:∀args w,(callFunc (ρ.f 249) args).run P w= .ok (.enter (ρ.f 249) args) w:=enters_of L.f249 (by kernel_rfl) rfl;unfold NT;go_enter L.f176,Body.n176_ntmps ρ;go_wp2_with (go_at_fn (ρ.f 249);refine(appI {L with} n i h0 h1 k xs w h g j).mono ?_;rintro e D ⟨o,rfl,d,a,c⟩);go_wp2;go_ret;exact⟨o,rfl,d,a,c⟩
end
end Go.Proofs
namespace Go.GV
open Go Go.GK Go.Proofs
section
variable {N : C6} {P : Ge}
def wq(g:Ee):A9:=⟨[.Ae (.int .i64), .Ae (.int .i64), .Ae (.sl (.int .u8))],[(0, .AG 0),(1, .v 0 (.int .i64)),(2, .v 1 (.int .i64))],[(0, .row g 2)],1⟩
def apo(g:Ee):A9:=⟨[.Ae (.sl (.int .u8))],[(0, .AG 1)],[(1, .row g 0)],2⟩
def XX(x:Int×Int×List Int):Option (List Int):=Af (x.2.1=10/\x.2.2.length+21<=140737488355328) (Aa .i64 x.1 (Ac (x.2.2++(Lib.itoa x.1).map λb=>((b.toNat:Nat):Int))))
def JU(N:C6)(g:Ee):PQ N:=⟨wq g,apo g,1,[0],λx=>XX x⟩
theorem Z6{H:Hp} :∀(l:List UInt8),AZ (N.c (.int .u8)) H (l.map λb=>((b.toNat:Nat):Int)) (Lib.byteCells l)
 | []=>rfl
 |b::l=>⟨[.int .u8 (b.toNat:Int)],Lib.byteCells l,rfl,DL.2 ⟨rfl,by have:=b.toNat_lt;show 0<=((b.toNat:Nat):Int)/\((b.toNat:Nat):Int)<=255;omega⟩,Z6 l⟩
theorem YQ{f:Nat}{g:Ee}(hi:∀H,N.inv H->HE P H)(F:QF P f)
  (hc:∀(n:Nat) (i:Int), -9223372036854775808<=i->i<=9223372036854775807->∀(sv:BU) (xs:List BU) (w:GD),w.ownsRow 0 g 1 sv n xs->n+21<=140737488355328->(∀w',w.grownBy w' sv.ownBlock->Lib.TabIs P w' "internal/strconv.uint64pow10" .u64 Lib.pow10Tab)->
   Calls P f #[sv, .int .i64 i, .int .i64 10] w λe w'=> ∃v',e= .returned v'/\w'.ownsRow 0 g 1 v' (n+(Lib.itoa i).length) (xs++Lib.byteCells (Lib.itoa i))/\w.grownBy w' sv.ownBlock/\cy w sv v'):
  Dx P f (JU N g):=⟨F,λx y V η H W Y T hnd L=>by
 obtain⟨(i:Int),(b:Int),(l:List Int)⟩:=x;have j:XX (i,b,l)=Ac y:=V;clear V;unfold XX Af at j;dsimp only at j;split at j
 ·rename_i C;obtain⟨o,hl⟩:=C;subst o;obtain⟨U,_,j⟩:=BR j;cases j;obtain⟨O,Q,s,i4,i5⟩:=L;have O:T.length=3:=O;obtain⟨v0,v1,v2,rfl⟩:∃a b c,T=[a,b,c]:=by
   match T,O with
   | [a,b,c],_=>exact⟨a,b,c,rfl⟩
  obtain⟨u0,Z,J⟩:=Q (0, .AG 0) (by simp[JU,wq]);obtain⟨u1,e1,h1⟩:=Q (1, .v 0 (.int .i64)) (by simp[JU,wq]);obtain⟨u2,e2,h2⟩:=Q (2, .v 1 (.int .i64)) (by simp[JU,wq]);cases Z;cases e1;cases e2;have J:v0=η 0/\v0.oneCell'=Br:=J;obtain⟨c1,G,I⟩:=h1;obtain⟨G,_⟩:=DL.1 G;subst G;have I:[BU.int .i64 i]=[v1]:=I;cases I;obtain⟨c2,R,S⟩:=h2;obtain⟨R,_⟩:=DL.1 R;subst R;have S:[BU.int .i64 10]=[v2]:=S;cases S;have s:keys Y=[0]:=s;obtain⟨p0,rfl⟩:∃p,Y=[p]:=Aew.1 (by simpa [keys]using congrArg List.length s);obtain⟨k0,X0⟩:=p0
  ·have s:[k0]=[0]:=s;cases s;obtain⟨X,e,hX⟩:=i4 (0, .row g 2) (by simp[JU,wq]);cases e;obtain⟨xs,rfl,t⟩:=hX;obtain⟨rfl,h0'⟩:=J;have hsz:(Ty.int .u8).sz N=1:=rfl;intro w M;have B:w.ownsRow 0 g 1 (η 0) l.length xs:=M.ok 0 _ rfl;have E:∀w',w.grownBy w' (η 0).ownBlock->Lib.TabIs P w' "internal/strconv.uint64pow10" .u64 Lib.pow10Tab:=λw' hg=>
    hi H i5 w' _ (M.set (i:=0) (r':= .emp) rfl hg trivial λb o=>o.elim);refine(hc l.length i U.1 U.2 (η 0) xs w B hl E).mono ?_;rintro e w' ⟨v',rfl,q,K,z⟩;have u:(l++(Lib.itoa i).map λb=>((b.toNat:Nat):Int)).length=l.length+(Lib.itoa i).length:=by simp
   have D:SH w' H (.row v' g 1 (l++(Lib.itoa i).map λb=>((b.toNat:Nat):Int)).length (xs++Lib.byteCells (Lib.itoa i))::W):=
    M.set (i:=0) (r':= .row v' g 1 (l++(Lib.itoa i).map λb=>((b.toNat:Nat):Int)).length (xs++Lib.byteCells (Lib.itoa i))) rfl K (by rw[u];exact q) λb o=>by
     rcases z with h|h;· left;have o:v'.ownBlock=Ac b:=o;show(η 0).ownBlock=Ac b;rw[<-h];exact o
     ·exact .inr (h b o)
   have A:v'.oneCell'=Br:=D.Za (i:=0) rfl;refine⟨v',H,_,rfl,Hp.le.refl H,D,λk=>if k=1 then v' else η k,[(1, .row v' g 1 (l++(Lib.itoa i).map λb=>((b.toNat:Nat):Int)).length (xs++Lib.byteCells (Lib.itoa i)))],rfl,λk r=>?_,by simp[keys],λk r=>?_,λp C=>?_,λk r h4 h5=>?_,?_⟩
   ·have r:k<1:=r;have:k≠1:=by omega
    simp[this]
   ·have:k=1:=by simpa [keys]using r
    subst this;right;simp[JU,apo]
   ·have C:p=(1, .row g 0):=by simpa [JU,apo]using C
    subst C;exact⟨_,rfl,xs++Lib.byteCells (Lib.itoa i),rfl,t.app (Z6 _)⟩
   ·have:k=0:=by simpa [keys]using r
    subst this;exact absurd (by simp[JU]) h5
   ·exact⟨rf,A⟩
 ·cases j⟩
end
noncomputable abbrev NL:C6:= {nV [(32,0),(33,0),(156,1),(157,1)] 5 with prog:=Ac Tryz.prog,inv:=HE Tryz.prog,Cz:=λhl h=>h.mono hl}
theorem fI:CC NL Tryz.prog:=⟨λh=>by cases h;rfl,by kernel_rfl⟩
theorem uG{P:Ge}{f:FuncId}{vs:List BU}{H:Hp}{O:List Av}{v:BU}{R:BU->Hp->List Av->Prop}(h:iJ P f vs H O v)(k:R v H O):O5 P f vs H O R:=λw hs=>(h w hs).mono λe w' ⟨h1,h2⟩=>⟨v,H,O,h1,Hp.le.refl H,h2,k⟩
noncomputable def cD:FQ NL:=⟨[.int .i64],[.str],λx=>Aa .i64 (show Int from x) (Ac (show Au from Lib.itoa x))⟩
theorem gn:Dw Tryz.prog 340 cD:=⟨⟨Tryz.f340,Tryz.func340,by kernel_rfl,rfl⟩,λa y hy H O vs hv0 hv=>by
 obtain⟨v1,rfl,cs,h1,h2⟩:=hv
 obtain⟨h1,_⟩:=DL.1 h1
 subst h1
 have h2:[BU.int .i64 a]=[v1]:=h2
 cases h2
 have hy:Aa .i64 a (Ac (Lib.itoa a))=Ac y:=hy
 obtain⟨hc,_,hy⟩:=BR hy
 cases hy
 exact uG (iJ.itoa (λn h0 h1 w ht=>Go.Proofs.Tryz.strconv_Itoa n h0 h1 w ht) hv0 hc) ⟨rf,[_],rf,rf⟩⟩
def za:A9:=⟨[.Ae (.sl (.int .u8))],[(0, .loc 0 0)],[(0, .Ah 340 [(1, .px [0] .sf),(1, .AG 1)]),(1, .row 5 0)],2⟩
def cpo:A9:=⟨[.Ae (.sl (.int .u8))],[],[(0, .Ah 340 [(1, .px [0] .sf),(1, .AG 1)]),(1, .row 5 0)],2⟩
noncomputable def Nq:PQ NL:=⟨za,cpo,0,[],λx=>Ac x⟩
theorem gp:Dx Tryz.prog 351 Nq:=⟨Go.Proofs.YtbeogcbmdbnkiaaGreatDoor.qG,λx y hy η H Of Y vs hnd hin=>by
 cases hy
 obtain⟨i1,i2,i3,i4,hiv⟩:=hin
 obtain⟨v,rfl⟩:∃v,vs=[v]:=Aew.1 i1
 obtain⟨v',e,hv⟩:=i2 (0, .loc 0 0) (by simp[Nq,za])
 cases e
 obtain⟨B,b1,rfl⟩:=hv
 have i3:keys Y=[0,1]:=i3
 match Y,i3 with
 | [(
   k0,X0),(k1,X1)],i3=>
  have i3:[k0,k1]=[0,1]:=i3
  cases i3
  obtain⟨X,e,hX⟩:=i4 (0, .Ah 340 [(1, .px [0] .sf),(1, .AG 1)]) (by simp[Nq,za])
  cases e
  obtain⟨B',cs,c1,rfl,hl⟩:=hX
  have:B=B':=by rw[b1]at c1;simpa [ptr]using c1
  subst this
  obtain⟨d1,d2,u,e1,e2,e3,e4,e5,hl2⟩:=hl
  obtain⟨d3,d4,u2,f1,f2,f3,f4,f5,hl3⟩:=hl2
  have hl3:BU.agg d4.toArray= .agg #[]:=hl3
  have ha:u= .pointer C7\/u=ptr B 0:=by
   rcases e3 with e|⟨B2,q1,q2⟩
   ·exact .inl e
   ·right
    rw[q2]
    have:η 0=ptr B2 0:=by simpa using q1
    rw[<-this];exact b1
  have u1:d1=[u]:=by rw[<-e4];rcases ha with e|e<;>subst e<;>rfl
  obtain⟨g1,g2⟩:=f3
  have u3:d3=[u2]:=by rw[<-f4];exact A' g2
  have hd4:d4=[]:=by simpa using hl3
  have hd2:d2=d3++d4:=by simpa using f1
  subst hd4;subst hd2;subst u1;subst u3
  have hcs:cs= #[u,u2]:=by
   have:cs=([u]++([u2]++[])).toArray:=by simpa using e1
   simpa using this
  subst hcs
  refine λw hs=>((Go.Proofs.YtbeogcbmdbnkiaaGreatDoor.bldC (B:=B) (a:=u) (v:=u2) (O:=X1::Of) ha) w hs).mono ?_
  rintro e w' ⟨r,H',O',rfl,h2,h3,rfl,rfl⟩
  refine⟨_,H',_,rf,h2,h3,η,[(0, .Ah B (.cells #[ptr B 0,u2] 340 (0,0))),(1,X1)],rf,λ_ _=>rfl,by simp[keys],λk hk=> .inr hk,λp hp=>?_,λk hk h4=>?_,rf⟩
  ·have hp:p=(0, .Ah 340 [(1, .px [0] .sf),(1, .AG 1)])\/p=(1, .row 5 0):=by simpa [Nq,cpo]using hp
   rcases hp with rfl|rfl
   ·refine⟨_,rfl,B,_,b1,rfl,[ptr B 0],[u2],ptr B 0,rfl,rfl, .inr ⟨B,by simp[b1],rfl⟩,rfl,(λx hx=>by simp at hx;subst hx;rfl),[u2],[],u2,rfl,rfl,⟨g1,g2⟩,A' g2,(λx hx=>by simp at hx;subst hx;exact g2),rfl⟩
   ·obtain⟨X,e,hX⟩:=i4 (1, .row 5 0) (by simp[Nq,za])
    cases e
    exact⟨_,rf,SR.is.mono h2 hX⟩
  ·exact absurd hk h4⟩
theorem qh:Dx Tryz.prog 321 (JU NL 5):=YQ (λ_ h=>h) ⟨Tryz.f321,Tryz.func321,by kernel_rfl,rfl⟩ (λn i h0 h1 sv xs w ho hl ht=>appP Go.Proofs.Tryz.Z4 n i h0 h1 sv xs w ho hl ht)
end Go.GV
namespace Go.GV
open Go Go.GK Go.Proofs
noncomputable section
section
variable{f:Nat}{fn:Func}{pi:A9}{R α:Type}{rs:List Ty}{y:Nat}{ts:List Ty}{A B:Type}{ps:List Ty}{po:A9}{gone:List Nat}{rb:Bool}{C:Type}
noncomputable abbrev TP:Ge:=Tryz.prog
theorem follows:TP.follows .mixedOrders=Br:=by kernel_rfl
abbrev y0:Ty:=(.pr (.int .u8) (.int .i64))
abbrev y1:Ty:=(.pr (.int .u8) y0)
abbrev y2:Ty:=(.pr .bool (.sl (.st y1)))
abbrev y3:Ty:=(.st (.sl (.st y2)))
abbrev y4:Ty:=(.pr (.int .i64) (.int .i64))
abbrev y5:Ty:=(.pr (.sl (.st y4)) (.sl (.st y4)))
abbrev y6:Ty:=(.pr (.st y5) y3)
abbrev y7:Ty:=(.pr .bool (.pr .bool y6))
abbrev y8:Ty:=(.st (.pr .bool y7))
abbrev y9:Ty:=(.pr (.nm 0) (.nm 0))
abbrev Fx:Ty:=(.sl (.int .i64))
abbrev yz:Ty:=(.pr (.st y4) .bool)
abbrev y12:Ty:=(.pr (.int .i64) (.st y9))
abbrev Es:Ty:=(.st (.pr .str y12))
abbrev y14:Ty:=(.pr (.sl .bool) Fx)
abbrev y15:Ty:=(.pr (.sl Fx) y14)
abbrev tT:Ty:=(.st (.pr Fx y15))
abbrev y17:Ty:=(.pr .str (.int .i64))
abbrev y18:Ty:=(.pr y3 (.st y9))
abbrev y19:Ty:=(.pr (.sl Es) (.sl (.st y18)))
abbrev y20:Ty:=(.st (.pr .str .bool))
abbrev y21:Ty:=(.sl (.sl (.st y9)))
abbrev y22:Ty:=(.pr (.sl (.st y9)) (.sl (.st y9)))
abbrev y23:Ty:=(.sl (.sl (.st y4)))
abbrev y24:Ty:=(.sl (.sl .bool))
abbrev y25:Ty:=(.pr .str (.nm 1))
abbrev y26:Ty:=(.pr (.nm 0) .bool)
abbrev Aj:Ty:= .int .i64
abbrev BE:Ty:= .sl (.st y4)
abbrev BH:Ty:= .st y9
abbrev Cp:Ty:= .st y19
abbrev Cs:Ty:= .st y22
abbrev BP:Ty:= .nm 0
abbrev I5:Ty:= .sl (.st y2)
abbrev Ea:Ty:= .st y4
abbrev Fy:Ty:= .st y18
abbrev EU:Ty:= .st y5
abbrev Df:Ty:= .sl BH
abbrev EO:Ty:= .sl .bool
abbrev D1:Ty:= .sl Cs
abbrev D0:Ty:= .sl Cp
abbrev DZ:Ty:= .sl Aj
abbrev J7:Ty:= .sl (.st y1)
abbrev Gf:Ty:= .sl Fy
abbrev Pg:Ty:= .sl (.int .u8)
abbrev J6:Ty:= .sl Fx
abbrev Th:Ty:= .sl (.st y17)
abbrev NC:Ty:= .int .u8
abbrev L3:Ty:= .sl Es
abbrev Lh:Ty:= .st y2
abbrev Tg:Ty:= .sl .str
abbrev Pf:Ty:= .st y1
structure Bd where
 f:Nat
 c:CQ NL
 ok:Bm TP f c
def mgC:CQ NL->Option (CQ NL)->CQ NL
 | .Ro x,Ac (.Ro y)=> .Ro (x++y)
 | .its x,Ac (.its y)=> .its (x++y)
 | .pY x,Ac (.pY y)=> .pY (x++y)
 |c,_=>c
def vp:List Bd->Nat->Option (CQ NL)
 | [],_=>C7
 |b::l,f=>match Nat.beq b.f f with
  |true=>Ac (mgC b.c (vp l f))
  |false=>vp l f
theorem pC{c:CQ NL}{d:Option (CQ NL)}(h:Bm TP f c)(k:∀q,d=Ac q->Bm TP f q):Bm TP f (mgC c d):=by
 unfold mgC
 split
 all_goals first
  |exact h
  |exact λq hq=>(AT.1 hq).elim (h q) (k _ rfl q)
theorem WV:∀(l:List Bd) f q,vp l f=Ac q->Bm TP f q
 | [],_,_,e=>by cases e
 |b::l,f,q,e=>by
  unfold vp at e
  split at e
  ·rename_i hb
   cases e
   exact pC (AI hb▸b.ok) (WV l f)
  ·exact WV l f q e
def yL{β:Type}(d:β):List (Nat×β)->Nat->β
 | [],_=>d
 |p::l,i=>match Nat.beq p.1 i with
  |true=>p.2
  |false=>yL d l i
abbrev lk(l:List (Nat×A9))(i:Nat):Option A9:=yL C7 (l.map λp=>(p.1,Ac p.2)) i
abbrev lg(l:List (Nat×List Gh))(i:Nat):List Gh:=yL [] l i
abbrev lz(l:List (Nat×Nat))(i:Nat):Nat:=yL 0 l i
abbrev u2(f:A->B->R)(x:A×B):R:=f x.1 x.2
abbrev u3(f:A->B->C->R)(x:A×B×C):R:=f x.1 x.2.1 x.2.2
abbrev u4{E:Type}(f:A->B->C->E->R)(x:A×B×C×E):R:=f x.1 x.2.1 x.2.2.1 x.2.2.2
def IH(cmp:α->α->Option Int)(fu:Nat)(x0:Int)(x1:Int)(x2:List α):Option (List α):=Aa (Kj.i64) (x0+(1:Int))<|Ad fu (λ(z1:List α×Int) nx2=>bif decide (z1.2<x1)then Ad fu (λ(z3:List α×Int) nx4=>bif decide (x0<z3.2)then Ab (idx z3.1 z3.2) λr5=>Aa (Kj.i64) (z3.2-(1:Int))<|Ab (idx z3.1 (z3.2-(1:Int))) λr6=>Ab (cmp r5 r6) λr7=>bif decide (r7<(0:Int))then Aa (Kj.i64) (z3.2-(1:Int))<|Aa (Kj.i64) (z3.2-(1:Int))<|Ab (idx z3.1 (z3.2-(1:Int))) λr8=>Ab (idx z3.1 z3.2) λr9=>Ab (idx z3.1 z3.2) λ_=>Ab (idx (List.set z3.1 (Int.toNat z3.2) r8) (z3.2-(1:Int))) λ_=>Aa (Kj.i64) (z3.2-(1:Int))<|nx4 ((((List.set z3.1 (Int.toNat z3.2) r8).set (Int.toNat (z3.2-(1:Int))) r9),(z3.2-(1:Int))))else Aa (Kj.i64) (z1.2+(1:Int))<|nx2 ((z3.1,(z1.2+(1:Int))))else Aa (Kj.i64) (z1.2+(1:Int))<|nx2 ((z3.1,(z1.2+(1:Int))))) ((z1.1,z1.2))else Ac (z1.1)) ((x2,(x0+(1:Int))))
def kp(l:List Nat)(r:List (Nat×SP)):List (Nat×SP):=l.map (λi=>(i, .Ak))++r
def bs(l:List (Nat->Bd))(fu:Nat):List Bd:=l.map (· fu)
def n0:Nat->Option A9:=λ_=>C7
def g0:Nat->List Gh:=λ_=>[]
def z0:Nat->Nat:=λ_=>0
theorem bA{a b:Bool}(h:(a&&b)=Br):a=Br/\b=Br:=by simpa using h
abbrev VY(l:List Bd)(la:Nat->Option A9)(pr po:Nat->List Gh)(ct:Nat->Nat)(kb:Nat)(fn:Func):Cx NL:=⟨TP,vp l,la,λ_=>C7,pr,po,kb,fn.ntmps,ct⟩
def Lm(fn:Func):Bool:= !(fn.name== "runtime.NumGoroutine")&& !fn.body.isNone
theorem Ub(hf:TP.funcs[f]?=Ac fn)(h:Lm fn=Br):QF TP f:=⟨fn,hf,by have:=(bA h).1;simpa using this,by have:=(bA h).2;simpa using this⟩
theorem uZ{F G:Bc NL ps->Option (Bc NL rs)}(h:Dw TP f (⟨ps,rs,F⟩:FQ NL))(e:∀x,F x=G x):Dw TP f (⟨ps,rs,G⟩:FQ NL):=(funext e:F=G)▸h
theorem okwP{rk:Nat}{F G:BV NL pi.hs->Option (BV NL po.hs)}(h:Dx TP f (⟨pi,po,rk,gone,F⟩:PQ NL))(e:∀x,F x=G x):Dx TP f (⟨pi,po,rk,gone,G⟩:PQ NL):=(funext e:F=G)▸h
theorem okwI{F G:BV NL pi.hs->Option (List (Bc NL ts)×Bool)}(h:IX TP f (⟨pi,y,ts,F⟩:IQ NL))(e:∀x,F x=G x):IX TP f (⟨pi,y,ts,G⟩:IQ NL):=(funext e:F=G)▸h
theorem okwJ{F G:BV NL pi.hs->Option (List (Bc NL ts)×Option Bool)}(h:IW TP f (⟨pi,y,ts,rb,F⟩:JQ NL))(e:∀x,F x=G x):IW TP f (⟨pi,y,ts,rb,G⟩:JQ NL):=(funext e:F=G)▸h
def zc{q:FQ NL}(h:Dw TP f q):Bd:=⟨f, .Ae q,h⟩
def zb{q:PQ NL}(h:Dx TP f q):Bd:=⟨f, .Ro [q],λ_ hq=>Aaf.1 hq▸h⟩
def bdI{q:IQ NL}(h:IX TP f q):Bd:=⟨f, .its [q],λ_ hq=>Aaf.1 hq▸h⟩
def bdJ{q:JQ NL}(h:IW TP f q):Bd:=⟨f, .pY [q],λ_ hq=>Aaf.1 hq▸h⟩
theorem exQ{F:Bc NL []->Option (Bc NL rs)}{v:Bc NL rs}(h:Dw TP f (⟨[],rs,F⟩:FQ NL))(e:F () =Ac v):Dw TP f (⟨[],rs,λ_=>Ac v⟩:FQ NL):=⟨h.Uc,λ_ y hy=>h.ok () y (by cases hy;exact e)⟩
abbrev IY(f:Nat)(ps rs:List Ty):Type:= {F:Bc NL ps->Option (Bc NL rs)//Dw TP f (⟨ps,rs,F⟩:FQ NL)}
def sQ(l:List Bd)(fu:Nat)(hf:TP.funcs[f]?=Ac fn)(ps rs:List Ty)(la:Nat->Option A9:=n0)(pr pt:Nat->List Gh:=g0)(ct:Nat->Nat:=z0)(h:(Lm fn&&Nat.ble ps.length fn.ntmps)=Br:=by kernel_rfl):IY f ps rs:=⟨qu (VY l la pr pt ct 0 fn) fu fn ps rs,gD (cx:=VY l la pr pt ct 0 fn) (mp:=fI) (WV l) follows (Ub hf (bA h).1) hf rfl (bA h).2⟩
def tQ(hf:TP.funcs[f]?=Ac fn)(h:Lm fn=Br:=by kernel_rfl):IY f ps rs:=⟨λ_=>C7,Ub hf h,λ_ _ h=>by cases h⟩
def EL(x:IY f ps rs):Bd:=zc x.2
def bQ(l:List (Nat->Bd))(hf:TP.funcs[f]?=Ac fn)(ps rs:List Ty)(G:Nat->Bc NL ps->Option (Bc NL rs))(la:Nat->Option A9:=n0)(pr pt:Nat->List Gh:=g0)(ct:Nat->Nat:=z0)(h:∀fu,(Lm fn&&Nat.ble ps.length fn.ntmps)=Br:=by intro fu;kernel_rfl)(e:∀fu x,(sQ (bs l fu) fu hf ps rs la pr pt ct (h fu)).1 x=G fu x:=by intro fu x;kernel_rfl)(fu:Nat):Bd:=zc (uZ (sQ (bs l fu) fu hf ps rs la pr pt ct (h fu)).2 (e fu))
abbrev HF(f:Nat)(pi po:A9)(rk:Nat)(gone:List Nat):Type:= {F:BV NL pi.hs->Option (BV NL po.hs)//Dx TP f (⟨pi,po,rk,gone,F⟩:PQ NL)}
def sP(l:List Bd)(fu:Nat)(hf:TP.funcs[f]?=Ac fn)(pi po:A9)(rk:Nat)(gone:List Nat)(la:Nat->Option A9:=n0)(pr pt:Nat->List Gh:=g0)(ct:Nat->Nat:=z0)(h:(Lm fn&&h_ (VY l la pr pt ct pi.nk fn) pi po gone)=Br:=by kernel_rfl):HF f pi po rk gone:=⟨Sb (VY l la pr pt ct pi.nk fn) fu fn pi po rk,aL (cx:=VY l la pr pt ct pi.nk fn) (mp:=fI) (WV l) follows (Ub hf (bA h).1) hf rfl (bA h).2⟩
def tP(hf:TP.funcs[f]?=Ac fn){rk:Nat}(h:Lm fn=Br:=by kernel_rfl):HF f pi po rk gone:=⟨λ_=>C7,Ub hf h,λ_ _ h=>by cases h⟩
def C4{rk:Nat}(x:HF f pi po rk gone):Bd:=zb x.2
def bP(l:List (Nat->Bd))(hf:TP.funcs[f]?=Ac fn)(pi po:A9)(rk:Nat)(gone:List Nat)(G:Nat->BV NL pi.hs->Option (BV NL po.hs))(la:Nat->Option A9:=n0)(pr pt:Nat->List Gh:=g0)(ct:Nat->Nat:=z0)(h:∀fu,(Lm fn&&h_ (VY (bs l fu) la pr pt ct pi.nk fn) pi po gone)=Br:=by intro fu;kernel_rfl)(e:∀fu x,(sP (bs l fu) fu hf pi po rk gone la pr pt ct (h fu)).1 x=G fu x:=by intro fu x;kernel_rfl)(fu:Nat):Bd:=zb (okwP (sP (bs l fu) fu hf pi po rk gone la pr pt ct (h fu)).2 (e fu))
abbrev GrI(f:Nat)(pi:A9)(y:Nat)(ts:List Ty):Type:= {F:BV NL pi.hs->Option (List (Bc NL ts)×Bool)//IX TP f (⟨pi,y,ts,F⟩:IQ NL)}
def sI(l:List Bd)(fu:Nat)(hf:TP.funcs[f]?=Ac fn)(pi:A9)(y:Nat)(ts:List Ty)(la:Nat->Option A9:=n0)(pr pt:Nat->List Gh:=g0)(ct:Nat->Nat:=z0)(h:(Lm fn&&ia (VY l la pr pt ct pi.nk fn) pi y)=Br:=by kernel_rfl):GrI f pi y ts:=⟨VT (VY l la pr pt ct pi.nk fn) fu fn pi y ts,aN (cx:=VY l la pr pt ct pi.nk fn) (mp:=fI) (WV l) follows (Ub hf (bA h).1) hf rfl (bA h).2⟩
def bI(l:List (Nat->Bd))(hf:TP.funcs[f]?=Ac fn)(pi:A9)(y:Nat)(ts:List Ty)(G:Nat->BV NL pi.hs->Option (List (Bc NL ts)×Bool))(la:Nat->Option A9:=n0)(pr pt:Nat->List Gh:=g0)(ct:Nat->Nat:=z0)(h:∀fu,(Lm fn&&ia (VY (bs l fu) la pr pt ct pi.nk fn) pi y)=Br:=by intro fu;kernel_rfl)(e:∀fu x,(sI (bs l fu) fu hf pi y ts la pr pt ct (h fu)).1 x=G fu x:=by intro fu x;kernel_rfl)(fu:Nat):Bd:=bdI (okwI (sI (bs l fu) fu hf pi y ts la pr pt ct (h fu)).2 (e fu))
abbrev zl(f:Nat)(pi:A9)(y:Nat)(ts:List Ty)(rb:Bool):Type:= {F:BV NL pi.hs->Option (List (Bc NL ts)×Option Bool)//IW TP f (⟨pi,y,ts,rb,F⟩:JQ NL)}
def sJ(l:List Bd)(fu:Nat)(hf:TP.funcs[f]?=Ac fn)(pi:A9)(y:Nat)(ts:List Ty)(rb:Bool)(la:Nat->Option A9:=n0)(pr pt:Nat->List Gh:=g0)(ct:Nat->Nat:=z0)(h:(Lm fn&&h' (VY l la pr pt ct pi.nk fn) pi y)=Br:=by kernel_rfl):zl f pi y ts rb:=⟨VS (VY l la pr pt ct pi.nk fn) fu fn pi y ts rb,aM (cx:=VY l la pr pt ct pi.nk fn) (mp:=fI) (WV l) follows (Ub hf (bA h).1) hf rfl (bA h).2⟩
def tJ(hf:TP.funcs[f]?=Ac fn)(h:Lm fn=Br:=by kernel_rfl):zl f pi y ts rb:=⟨λ_=>C7,Ub hf h,λ_ _ h=>by cases h⟩
def wm(x:zl f pi y ts rb):Bd:=bdJ x.2
def bJ(l:List (Nat->Bd))(hf:TP.funcs[f]?=Ac fn)(pi:A9)(y:Nat)(ts:List Ty)(rb:Bool)(G:Nat->BV NL pi.hs->Option (List (Bc NL ts)×Option Bool))(la:Nat->Option A9:=n0)(pr pt:Nat->List Gh:=g0)(ct:Nat->Nat:=z0)(h:∀fu,(Lm fn&&h' (VY (bs l fu) la pr pt ct pi.nk fn) pi y)=Br:=by intro fu;kernel_rfl)(e:∀fu x,(sJ (bs l fu) fu hf pi y ts rb la pr pt ct (h fu)).1 x=G fu x:=by intro fu x;kernel_rfl)(fu:Nat):Bd:=bdJ (okwJ (sJ (bs l fu) fu hf pi y ts rb la pr pt ct (h fu)).2 (e fu))
abbrev Lt0:=Bool×List (Int×Int×Int)
abbrev AF:=Vl×Vl
abbrev BK:=List (Au×Int×AF)×List (A4×AF)
abbrev Cb:=List AF×List AF
def Iu(y:α)(a b:Option (List α×Bool)):Option (List α×Bool):=match a with
 |some ([],Br)=>match b with
  |some l=>Ac (y::l.1,l.2)
  |none=>Ac ([y],Ap)
 |_=>C7
def vX{α:Type}(kb:Bool->Option (List α×Option Bool)):List α->Option Bool->Option (List α×Option Bool)
 | [],Ac b=>kb b
 | [],C7=>C7
 |y::l,b=>match vX kb l b with
  |some r=>Ac (y::r.1,r.2)
  |none=>Ac ([y],C7)
def gK{α:Type}(kb:Bool->Option (List α×Bool)):List α->Option Bool->Option (List α×Bool)
 | [],Ac b=>kb b
 | [],C7=>C7
 |y::l,b=>match gK kb l b with
  |some r=>Ac (y::r.1,r.2)
  |none=>Ac ([y],Ap)
def fC(n:Nat)(z:Option R)(s:Nat->Option R):Option R:=match n with
 |0=>z
 |n+1=>s n
def F0(fu:Nat)(x0:A4):Option Bool:=Ad fu (λ(z1:Nat) nx2=>bif decide ((z1:Int)<x0.length)then Ab (idx x0 z1) λr3=>bif decide ((12:Int)<r3.2.length)then Ac Ap else nx2 (z1+1)else Ac (decide ((x0.length:Int)<=8))) (0)
def B0:=bQ [] Tryz.func38 [y3] [.bool] F0 (la:=lk [(2,⟨[.nat],[(1, .Ak),(3, .AH 0 200)],[(0, .c 0)],1⟩)])
def F1(fu:Nat)(x0:HD):Option Bool:=bif decide ((x0.2.2.2.1.1.length:Int)<=5)then bif decide ((x0.2.2.2.1.2.length:Int)<=5)then Ab (F0 fu x0.2.2.2.2) λr1=>Ac r1 else Ac Ap else Ac Ap
def B1:=bQ [B0] Tryz.func37 [y8] [.bool] F1
abbrev FT2:Type:=IY 24 [BP,Aj,Aj] [Aj]×IY 9 [Df,Aj,Aj] [Aj]
def G2(n:Nat):FT2:=Nat.rec (motive:=λ_=>FT2) (tQ Tryz.func24,tQ Tryz.func9) (λfu ⟨g0,g1⟩=>(sQ (EL g1::bs [B1,B0] fu) fu Tryz.func24 [BP,Aj,Aj] [Aj] (la:=lk [(5,⟨[.Ae Aj, .nat],(kp [1,2,3] [(7, .v 0 Aj),(8, .AH 1 501)]),[(0, .c 0)],1⟩),(12,⟨[.Ae Aj, .nat],(kp [1,2,3] [(7, .v 0 Aj),(10, .AH 1 1201)]),[(0, .c 0)],1⟩),(19,⟨[.Ae Df, .nat],(kp [1,2,3,7,10,11] [(12, .AG 2),(13, .AH 1 1901)]),[(1, .c 0),(0, .c 0),(2, .row 35 0)],3⟩),(25,⟨[.Ae Df, .nat],(kp [1,2,3,7,10,11] [(12, .AG 2),(14, .AH 1 2501)]),[(2, .row 35 0),(1, .c 0),(0, .c 0)],3⟩)]) (pt:=lg [(18,[.own 12 35 BH])]),sQ [EL g0] fu Tryz.func9 [Df,Aj,Aj] [Aj] (la:=lk [(3,⟨[.Ae Aj, .nat],(kp [0,1,2] [(7, .v 0 Aj),(8, .AH 1 301)]),[],0⟩)]))) n
abbrev F3(fu:Nat)(x:(Vl)×(Int)×(Int)):Option Int:=(G2 fu).1.1 x
def B3(fu:Nat):=EL (G2 fu).2
abbrev F2(fu:Nat)(x:(List AF)×(Int)×(Int)):Option Int:=(G2 fu).2.1 x
def D3(fu:Nat)(x0:Vl)(x1:Int)(x2:Int):Option Int:=bif decide (x1<1)then Aa .i64 (x2+1)<|some ((x2+1))else bif decide (x2<1)then Aa .i64 (x2+1)<|some ((x2+1))else Ab (F1 fu (Vl.sc x0)) λr1=>bif !r1 then Aa .i64 (x2+1)<|some ((x2+1))else bif decide ((3:Int)<(Vl.lists x0).length)then Aa .i64 (x2+1)<|some ((x2+1))else bif decide ((3:Int)<(Vl.structs x0).length)then Aa .i64 (x2+1)<|some ((x2+1))else Ad fu (λ(z2:Int×Nat) nx3=>bif decide ((z2.2:Int)<(Vl.lists x0).length)then Ab (idx (Vl.lists x0) (z2.2:Int)) λr4=>bif decide ((3:Int)<r4.1.length)then Aa .i64 (x2+1)<|some ((x2+1))else Ab (idx (Vl.lists x0) (z2.2:Int)) λr5=>bif decide ((2:Int)<r5.2.length)then Aa .i64 (x2+1)<|some ((x2+1))else Ab (idx (Vl.lists x0) (z2.2:Int)) λr6=>Af (0+List.length r6.1<=4294967296)<|Ab (idx (Vl.lists x0) (z2.2:Int)) λr7=>Af (List.length ([]++r6.1)+List.length r7.2<=4294967296)<|Aa .i64 (x1-1)<|Aa .i64 (x2-z2.1)<|Ab (F2 fu ((([]++r6.1)++r7.2),(x1-1),(x2-z2.1))) λr8=>Aa .i64 (z2.1+r8)<|nx3 ((z2.1+r8),z2.2+1)else Ad fu (λ(z9:Int×Nat) nx10=>bif decide ((z9.2:Int)<(Vl.structs x0).length)then bif decide (z9.1<=x2)then Ab (idx (Vl.structs x0) (z9.2:Int)) λr11=>bif decide ((4:Int)<r11.1.length)then Aa .i64 (x2+1)<|some ((x2+1))else bif decide ((4:Int)<r11.2.length)then Aa .i64 (x2+1)<|some ((x2+1))else Ad fu (λ(z12:List AF×Nat) nx13=>bif decide ((z12.2:Int)<r11.1.length)then Ab (idx r11.1 z12.2) λr14=>bif decide ((60:Int)<r14.1.length)then Aa .i64 (x2+1)<|some ((x2+1))else Ab (idx r11.1 z12.2) λr15=>Af (List.length z12.1+1<=4294967296)<|nx13 ((z12.1++[r15.2.2]),z12.2+1)else Ad fu (λ(z16:List AF×Nat) nx17=>bif decide ((z16.2:Int)<r11.2.length)then Ab (idx r11.2 z16.2) λr18=>Ab (F0 fu r18.1) λr19=>bif !r19 then Aa .i64 (x2+1)<|some ((x2+1))else Ab (idx r11.2 z16.2) λr20=>Af (List.length z16.1+1<=4294967296)<|nx17 ((z16.1++[r20.2]),z16.2+1)else Aa .i64 (x1-1)<|Aa .i64 (x2-z9.1)<|Ab (F2 fu (z16.1,(x1-1),(x2-z9.1))) λr21=>Aa .i64 (z9.1+r21)<|nx10 (((z9.1+r21),z9.2+1))) ((z12.1,0))) (([],0))else Ac z9.1 else Ac z9.1) ((z2.1,0))) ((1,0))
theorem d3(fu x0 x1 x2):F3 (fu+1) (x0,x1,x2)=D3 fu x0 x1 x2:=by kernel_rfl
def D2(fu:Nat)(x0:List AF)(x1:Int)(x2:Int):Option Int:=Ad fu (λ(z1:Int×Nat) nx2=>bif decide ((z1.2:Int)<x0.length)then bif decide (z1.1<=x2)then Ab (idx x0 z1.2) λr3=>Aa .i64 (x2-z1.1)<|Ab (F3 fu (r3.1,x1,(x2-z1.1))) λr4=>Aa .i64 (z1.1+r4)<|bif decide (z1.1+r4<=x2)then Ab (idx x0 z1.2) λr5=>Aa .i64 (x2-(z1.1+r4))<|Ab (F3 fu (r5.2,x1,(x2-(z1.1+r4)))) λr6=>Aa .i64 (z1.1+r4+r6)<|nx2 (((z1.1+r4)+r6),z1.2+1)else nx2 ((z1.1+r4),z1.2+1)else Ac z1.1 else Ac z1.1) ((0,0))
theorem d2(fu x0 x1 x2):F2 (fu+1) (x0,x1,x2)=D2 fu x0 x1 x2:=by kernel_rfl
def zq(fu:Nat)(x0:AF):Option Bool:=Ab (F2 fu ([x0],3,60)) λr1=>Ac (decide (r1<=60))
def B4:=bQ [B3] Tryz.func4 [BH] [.bool] zq
def F5(fu:Nat):Int×Int->Option Vl|(x0,x1)=>Ac (Vl.mk Ap (Ap,Ap,Ap,([(x0,x1)],[]),[]) [] [])
def B5:=bQ [] Tryz.func11 [Aj,Aj] [BP] F5 (pt:=lg [(1,[.PZ 4 4])])
def F6(fu:Nat)(x0:Vl):Option AF:=Ac ((x0,x0))
def B6:=bQ [] Tryz.func10 [BP] [BH] F6
def F7(fu:Nat)(x0:Au):Option A4:=Ad fu (λ(z1:A4×Int) nx2=>bif decide (z1.2<(x0.length:Int))then Ab (ER x0 z1.2) λr3=>Ab (ER x0 z1.2) λr4=>Aa .i64 (z1.2+1)<|Af (List.length z1.1+1<=Ag)<|Aa .i64 (z1.2+1)<|nx2 ((z1.1++[(Ap,[(r3,r4,(z1.2+1))])]),(z1.2+1))else Af (List.length z1.1+1<=Ag)<|some ((z1.1++[(Br,[])]))) (([],0))
def B7:=bQ [] Tryz.func26 [.str] [y3] F7 (la:=lk [(3,⟨[.Ae I5, .Ae Aj],(kp [0,2,3] [(4, .v 1 Aj)]),[(1, .Ah 27 [(1, .AG 2)]),(0, .c 0),(2, .row 95 0)],3⟩)]) (pt:=lg [(2,[.Ed 3 0 95 Lh]),(7,[.PZ 2 0])])
def F8(fu:Nat)(_:Unit):Option A4:=Ac ([(Br,[(0,255,0)])])
def B8:=bQ [] Tryz.func40 [] [y3] F8 (pt:=lg [(1,[.PZ 0 0])])
def F9(fu:Nat)(x0:A4):Option Bool:=Ad fu (λ(z1:Nat) nx2=>bif decide ((z1:Int)<x0.length)then Ab (idx x0 z1) λr3=>Ad fu (λ(z4:Nat) nx5=>bif decide ((z4:Int)<r3.2.length)then Ab (idx r3.2 z4) λr6=>bif decide (r6.2.1<r6.1)then Ac Ap else bif decide (r6.2.2<0)then Ac Ap else bif decide ((x0.length:Int)<=r6.2.2)then Ac Ap else bif decide ((0:Int)<z4)then Aa .i64 ((z4:Int)-1)<|Ab (idx r3.2 ((z4:Int)-1)) λr7=>bif decide (r6.1<=r7.2.1)then Ac Ap else nx5 (z4+1)else nx5 (z4+1)else nx2 (z1+1)) (0)else Ac Br) (0)
def B9:=bQ [] Tryz.func140 [I5] [.bool] F9 (la:=lk [(2,⟨[.nat],(kp [0,7,8] [(9, .AH 0 200)]),[],0⟩),(5,⟨[.nat],(kp [0,4,7,8,9,14,15] [(16, .AH 0 500)]),[(0, .c 0)],1⟩)])
def w8(fu:Nat)(x0:A4):Option (List Bool):=Af (List.length x0<=Ag)<|Ad fu (λ(z1:List Bool×Nat) nx2=>bif decide ((z1.2:Int)<x0.length)then Ad fu (λ(z3:List Bool×Nat) nx4=>bif decide ((z3.2:Int)<x0.length)then Ab (idx x0 z3.2) λr5=>Ab (idx z3.1 z3.2) λr6=>bif r6 then Ab (idx z3.1 z3.2) λr7=>Ad fu (λ(z8:List Bool×Nat) nx9=>bif decide ((z8.2:Int)<r5.2.length)then Ab (idx r5.2 z8.2) λr10=>Ab (idx z8.1 z3.2) λr11=>bif r11 then Ab (idx z8.1 z3.2) λr12=>nx9 ((z8.1.set z3.2 Br),z8.2+1)else Ab (idx z8.1 r10.2.2) λr13=>Ab (idx z8.1 z3.2) λr14=>nx9 ((z8.1.set z3.2 r13),z8.2+1)else nx4 ((z8.1,z3.2+1))) (((z3.1.set z3.2 Br),0))else Ab (idx z3.1 z3.2) λr15=>Ad fu (λ(z16:List Bool×Nat) nx17=>bif decide ((z16.2:Int)<r5.2.length)then Ab (idx r5.2 z16.2) λr18=>Ab (idx z16.1 z3.2) λr19=>bif r19 then Ab (idx z16.1 z3.2) λr20=>nx17 ((z16.1.set z3.2 Br),z16.2+1)else Ab (idx z16.1 r18.2.2) λr21=>Ab (idx z16.1 z3.2) λr22=>nx17 ((z16.1.set z3.2 r21),z16.2+1)else nx4 ((z16.1,z3.2+1))) (((z3.1.set z3.2 r5.1),0))else nx2 ((z3.1,z1.2+1))) ((z1.1,0))else Ac z1.1) (((List.replicate (List.length x0) Ap),0))
def B10:=bQ [] Tryz.func141 [I5] [EO] w8 (la:=lk [(3,⟨[.Ae EO, .nat],(kp [0,3,12] [(13, .AH 1 301)]),[(0, .row 4 0)],1⟩),(5,⟨[.Ae EO, .nat],(kp [0,3,12,13,15,16] [(17, .AH 1 501)]),[(0, .row 4 0)],1⟩),(9,⟨[.Ae EO, .nat],(kp [0,3,4,12,13,15,16,17,34,35] [(36, .AH 1 901)]),[(0, .row 4 0)],2⟩)]) (pt:=lg [(15,[.fz 2])])
def F11(fu:Nat)(x0:A4):Option A4:=Ad fu (λ(z1:List Int×A4×Nat) nx2=>bif decide ((z1.2.2:Int)<z1.1.length)then Ab (idx z1.1 z1.2.2) λr3=>Ab (idx x0 r3) λr4=>Ab (idx z1.1 z1.2.2) λr5=>Ab (idx x0 r5) λr6=>Ad fu (λ(z7:List Int×List (Int×Int×Int)×Nat) nx8=>bif decide ((z7.2.2:Int)<r6.2.length)then Ab (idx r6.2 z7.2.2) λr9=>Ad fu (λ(z10:Int) nx11=>bif decide (z10<(z7.1.length:Int))then Ab (idx z7.1 z10) λr12=>bif decide (r12≠r9.2.2)then Aa .i64 (z10+1)<|nx11 (z10+1)else bif decide (z10=(z7.1.length:Int))then Af (List.length z7.1+1<=Ag)<|Af (List.length z7.2.1+1<=Ag)<|nx8 ((z7.1++[r9.2.2]),(z7.2.1++[(r9.1,r9.2.1,z10)]),z7.2.2+1)else Af (List.length z7.2.1+1<=Ag)<|nx8 (z7.1,(z7.2.1++[(r9.1,r9.2.1,z10)]),z7.2.2+1)else bif decide (z10=(z7.1.length:Int))then Af (List.length z7.1+1<=Ag)<|Af (List.length z7.2.1+1<=Ag)<|nx8 ((z7.1++[r9.2.2]),(z7.2.1++[(r9.1,r9.2.1,z10)]),z7.2.2+1)else Af (List.length z7.2.1+1<=Ag)<|nx8 ((z7.1,(z7.2.1++[(r9.1,r9.2.1,z10)]),z7.2.2+1))) ((0:Int))else Af (List.length z1.2.1+1<=Ag)<|nx2 ((z7.1,(z1.2.1++[(r4.1,z7.2.1)]),z1.2.2+1))) ((z1.1,[],0))else Ac z1.2.1) (([(0:Int)],[],0))
def B11:=bQ [] Tryz.func143 [I5] [I5] F11 (la:=lk [(4,⟨[.Ae DZ, .Ae I5, .nat],[(0, .Ak),(3, .AG 0),(4, .AG 1),(5, .AH 2 402)],[(0, .row 3 0),(1, .row 95 1)],2⟩),(8,⟨[.Ae DZ, .Ae J7, .nat],[(0, .Ak),(3, .AG 0),(4, .Ak),(5, .Ak),(6, .Ak),(33, .Ak),(34, .Ak),(35, .AH 2 802)],[(2, .Ah 95 [(1, .Ak),(1, .AG 3)]),(1, .c 0),(0, .row 3 0),(3, .row 92 1)],4⟩),(11,⟨[.Ae Aj],(kp [0,3,4,5,6,8] [(9, .v 0 Aj),(33, .Ak),(34, .Ak),(35, .Ak)]),[(4, .c 0),(2, .c 0),(3, .c 0),(1, .c 0),(0, .c 0)],5⟩)]) (pt:=lg [(3,[.own 4 95 Lh]),(7,[.Ed 6 1 92 Pf]),(18,[.fz 2])])
def F12(fu:Nat)(x0:A4):Option A4:=Ab (w8 fu x0) λr1=>Ad fu (λ(z2:A4×Nat) nx3=>bif decide ((z2.2:Int)<x0.length)then Ab (idx x0 z2.2) λr4=>Ad fu (λ(z5:List (Int×Int×Int)×Nat) nx6=>bif decide ((z5.2:Int)<r4.2.length)then Ab (idx r4.2 z5.2) λr7=>Ab (idx r1 r7.2.2) λr8=>bif r8 then Af (List.length z5.1+1<=Ag)<|nx6 ((z5.1++[r7]),z5.2+1)else nx6 (z5.1,z5.2+1)else Af (List.length z2.1+1<=Ag)<|nx3 (((z2.1++[(r4.1,z5.1)]),z2.2+1))) (([],0))else Ac z2.1) (([],0))
def B12:=bQ [B10] Tryz.func142 [I5] [I5] F12 (la:=lk [(4,⟨[.Ae I5, .nat],[(3, .Ak),(4, .AG 0),(12, .Ak),(13, .Ak),(14, .AH 1 401)],[(0, .row 95 0)],1⟩),(8,⟨[.Ae J7, .nat],(kp [3,4,7,12,13,14,22,23] [(24, .AH 1 801)]),[(2, .Ah 95 [(1, .Ak),(1, .AG 3)]),(0, .c 0),(3, .row 92 0)],4⟩)]) (pt:=lg [(3,[.own 4 95 Lh]),(7,[.Ed 7 1 92 Pf]),(15,[.fz 2])])
def F13(fu:Nat)(x0:A4):Option (List Int):=Af ((0:Int)<=0/\(0:Int)< ↑257)<|Af (0+Int.toNat (0:Int)*1<257)<|Ad fu (λ(z1:List Bool×Nat) nx2=>bif decide ((z1.2:Int)<x0.length)then Ab (idx x0 z1.2) λr3=>Ad fu (λ(z4:List Bool×Nat) nx5=>bif decide ((z4.2:Int)<r3.2.length)then Ab (idx r3.2 z4.2) λr6=>Af ((0:Int)<=r6.1/\r6.1<(↑257:Int))<|Af (0+Int.toNat r6.1*1<257)<|Aa .i64 (r6.2.1+1)<|Af ((0:Int)<=r6.2.1+1/\r6.2.1+1< ↑257)<|Af (0+Int.toNat (r6.2.1+1)*1<257)<|nx5 (((List.set z4.1 (0+Int.toNat r6.1*1) Br).set (0+Int.toNat (r6.2.1+1)*1) Br),z4.2+1)else nx2 ((z4.1,z1.2+1))) ((z1.1,0))else Ad fu (λ(z7:List Int×Int) nx8=>bif decide (z7.2<256)then Af ((0:Int)<=z7.2/\z7.2<(↑257:Int))<|Ab (idx z1.1 (↑(0+Int.toNat z7.2*1):Int)) λr9=>bif r9 then Af (List.length z7.1+1<=Ag)<|Aa .i64 (z7.2+1)<|nx8 ((z7.1++[z7.2]),(z7.2+1))else Aa .i64 (z7.2+1)<|nx8 (z7.1,(z7.2+1))else Ac z7.1) (([],(0:Int)))) (((List.set (List.replicate 257 Ap) 0 Br),0))
def B13:=bQ [] Tryz.func144 [I5] [Fx] F13 (la:=lk [(4,⟨[.Ae (.ar 257 .bool), .nat],(kp [3,11,12] [(13, .AH 1 401)]),[(0, .Ah 230 [(257, .v 0 (.ar 257 .bool))])],1⟩),(7,⟨[.Ae (.ar 257 .bool), .nat],(kp [3,11,12,13,18,19] [(20, .AH 1 701)]),[(0, .Ah 230 [(257, .v 0 (.ar 257 .bool))])],2⟩),(15,⟨[.Ae DZ, .Ae Aj],[(3, .Ak),(8, .AG 1),(9, .v 1 Aj)],[(0, .c 0),(1, .row 3 0)],2⟩)]) (pt:=lg [(14,[.own 8 3 Aj]),(19,[.fz 2])])
def tj(fu:Nat):A4×Int×Int->Option Int|(x0,x1,x2)=>bif decide (x1<0)then Ac ((-1:Int))else Ab (idx x0 x1) λr1=>Ad fu (λ(z2:Nat) nx3=>bif decide ((z2:Int)<r1.2.length)then Ab (idx r1.2 z2) λr4=>bif decide (r4.1<=x2)then bif decide (x2<=r4.2.1)then Ac r4.2.2 else nx3 (z2+1)else nx3 (z2+1)else Ac ((-1:Int))) (0)
def B14:=bQ [] Tryz.func146 [I5,Aj,NC] [Aj] tj (la:=lk [(4,⟨[.nat],(kp [2,15,16] [(17, .AH 0 400)]),[],0⟩)])
def F15(fu:Nat):List Int×List Int->Option Bool|(x0,x1)=>bif decide ((x0.length:Int)≠x1.length)then Ac Ap else Ad fu (λ(z1:Nat) nx2=>bif decide ((z1:Int)<x0.length)then Ab (idx x0 z1) λr3=>Ab (idx x1 z1) λr4=>bif decide (r3≠r4)then Ac Ap else nx2 (z1+1)else Ac Br) (0)
def B15:=bQ [] Tryz.func265 [Fx,Fx] [.bool] F15 (la:=lk [(4,⟨[.nat],(kp [0,1,12] [(13, .AH 0 400)]),[],0⟩)])
def F16(fu:Nat):List (List Int)×List Int->Option Int|(x0,x1)=>Ad fu (λ(z1:Nat) nx2=>bif decide ((z1:Int)<x0.length)then Ab (idx x0 z1) λr3=>Ab (F15 fu (r3,x1)) λr4=>bif r4 then Ac ((z1:Int))else nx2 (z1+1)else Ac ((-1:Int))) (0)
def B16:=bQ [B15] Tryz.func195 [J6,Fx] [Aj] F16 (la:=lk [(2,⟨[.nat],(kp [0,1,7] [(8, .AH 0 200)]),[],0⟩)])
def F17(fu:Nat):A4×List Int->Option (List Int)|(x0,x1)=>Af (List.length x0<=Ag)<|Ad fu (λ(z1:List Int×Nat) nx2=>bif decide ((z1.2:Int)<x0.length)then Ab (idx x0 z1.2) λr3=>bif r3.1 then Ab (idx z1.1 z1.2) λr4=>nx2 ((z1.1.set z1.2 ((1:Int))),z1.2+1)else nx2 (z1.1,z1.2+1)else Ad fu (λ(z5:List Int×Nat×Nat) nx6=>bif decide ((z5.2.2:Int)<x0.length)then Af (List.length x0<=Ag)<|Ad fu (λ(z7:List Int×List (List Int)×Nat) nx8=>bif decide ((z7.2.2:Int)<x0.length)then Ab (idx z5.1 z7.2.2) λr9=>Ad fu (λ(z10:List Int×Nat) nx11=>bif decide ((z10.2:Int)<x1.length)then Ab (idx x1 z10.2) λr12=>Aa .u8 (r12)<|Ab (tj fu (x0,(z7.2.2:Int),r12)) λr13=>bif decide ((0:Int)<=r13)then Ab (idx z5.1 r13) λr14=>Af (List.length z10.1+1<=Ag)<|nx11 ((z10.1++[r14]),z10.2+1)else Af (List.length z10.1+1<=Ag)<|nx11 ((z10.1++[r13]),z10.2+1)else Ab (F16 fu (z7.2.1,z10.1)) λr15=>bif decide (r15<0)then Af (List.length z7.2.1+1<=Ag)<|Ab (idx z7.1 z7.2.2) λr16=>nx8 ((z7.1.set z7.2.2 ((z7.2.1.length:Int))),(z7.2.1++[z10.1]),z7.2.2+1)else Ab (idx z7.1 z7.2.2) λr17=>nx8 (((z7.1.set z7.2.2 r15),z7.2.1,z7.2.2+1))) (([r9],0))else bif decide ((z7.2.1.length:Int)=z5.2.1)then Ac z7.1 else nx6 ((z7.1,List.length z7.2.1,z5.2.2+1))) (((List.replicate (List.length x0) (0:Int)),[],0))else Ac z5.1) ((z1.1,0,0))) (((List.replicate (List.length x0) (0:Int)),0))
def B17:=bQ [B14,B16] Tryz.func145 [I5,Fx] [Fx] F17 (la:=lk [(3,⟨[.Ae DZ, .nat],(kp [0,1,5,20,21] [(22, .AH 1 301)]),[(0, .row 3 0)],1⟩),(10,⟨[.Ae DZ, .nat, .nat],(kp [0,1] [(5, .AG 0),(8, .AH 1 1001),(34, .Ak),(35, .AH 2 1002)]),[(0, .row 3 0)],1⟩),(14,⟨[.Ae DZ, .Ae J6, .nat],(kp [0,1,5,8] [(9, .AG 2),(10, .Ak),(34, .Ak),(35, .Ak),(41, .Ak),(42, .AH 2 1402)]),[(1, .row 3 0),(0, .c 0),(2, .row 140 1)],3⟩),(18,⟨[.Ae DZ, .nat],(kp [0,1,5,8,9,10,11] [(12, .AG 3),(34, .Ak),(35, .Ak),(41, .Ak),(42, .Ak),(50, .Ak),(51, .Ak),(52, .AH 1 1801)]),[(3, .row 3 0),(1, .c 0),(2, .c 0),(0, .c 0)],4⟩)]) (pr:=lg [(28,[.fz 12])]) (pt:=lg [(13,[.own 9 140 Fx]),(35,[.fz 4])])
def uw(fu:Nat):List Int×List Int×Int->Option Int|(x0,x1,x2)=>Ad fu (λ(z1:Nat) nx2=>bif decide ((z1:Int)<x0.length)then Ab (idx x0 z1) λr3=>Ab (idx x1 r3) λr4=>Ab (idx x1 x2) λr5=>bif decide (r4=r5)then Ac ((z1:Int))else nx2 (z1+1)else Ac ((x0.length:Int))) (0)
def B18:=bQ [] Tryz.func147 [Fx,Fx,Aj] [Aj] uw (la:=lk [(2,⟨[.nat],(kp [0,1,2,9,10] [(11, .AH 0 200)]),[],0⟩)])
def uv(fu:Nat)(x0:A4):Option (A4×Int):=Ab (F9 fu x0) λr1=>bif !r1 then Ac (([],11))else bif decide ((x0.length:Int)=0)then Ac (([],0))else Ab (w8 fu x0) λr2=>Ab (idx r2 (0:Int)) λr3=>bif !r3 then Ac (([],0))else Ab (F11 fu x0) λr4=>Ab (F12 fu r4) λr5=>Ab (F13 fu r5) λr6=>Ab (F17 fu (r5,r6)) λr7=>Ad fu (λ(z8:List Int×A4×Nat) nx9=>bif decide ((z8.2.2:Int)<z8.1.length)then Ab (idx z8.1 z8.2.2) λr10=>Ab (idx r5 r10) λr11=>Ad fu (λ(z12:List Int×List (Int×Int×Int)×Nat) nx13=>bif decide ((z12.2.2:Int)<r6.length)then Ab (idx r6 z12.2.2) λr14=>Ab (idx z12.1 z8.2.2) λr15=>Aa .u8 (r14)<|Ab (tj fu (r5,r15,r14)) λr16=>bif decide (r16<0)then nx13 (z12.1,z12.2.1,z12.2.2+1)else bif decide ((↑(z12.2.2+1):Int)<(r6.length:Int))then Ab (idx r6 (↑(z12.2.2+1):Int)) λr17=>Aa .i64 (r17-1)<|Ab (uw fu (z12.1,r7,r16)) λr18=>bif decide (r18=(z12.1.length:Int))then Af (List.length z12.1+1<=Ag)<|Aa .i64 ((z12.2.1.length:Int)-1)<|bif decide ((0:Int)<=z12.2.1.length-1)then Ab (idx z12.2.1 ((z12.2.1.length:Int)-1)) λr19=>bif decide (r19.2.2=r18)then Ab (idx z12.2.1 ((z12.2.1.length:Int)-1)) λr20=>Aa .i64 (r20.2.1+1)<|bif decide (r20.2.1+1=r14)then Aa .u8 (r17-1)<|Ab (idx z12.2.1 ((z12.2.1.length:Int)-1)) λr21=>nx13 ((z12.1++[r16]),(z12.2.1.set (Int.toNat ((z12.2.1.length:Int)-1)) (r21.1,(r17-1),r21.2.2)),z12.2.2+1)else Aa .u8 (r14)<|Aa .u8 (r17-1)<|Af (List.length z12.2.1+1<=Ag)<|nx13 ((z12.1++[r16]),(z12.2.1++[(r14,(r17-1),r18)]),z12.2.2+1)else Aa .u8 (r14)<|Aa .u8 (r17-1)<|Af (List.length z12.2.1+1<=Ag)<|nx13 ((z12.1++[r16]),(z12.2.1++[(r14,(r17-1),r18)]),z12.2.2+1)else Aa .u8 (r14)<|Aa .u8 (r17-1)<|Af (List.length z12.2.1+1<=Ag)<|nx13 ((z12.1++[r16]),(z12.2.1++[(r14,(r17-1),r18)]),z12.2.2+1)else Aa .i64 ((z12.2.1.length:Int)-1)<|bif decide ((0:Int)<=z12.2.1.length-1)then Ab (idx z12.2.1 ((z12.2.1.length:Int)-1)) λr22=>bif decide (r22.2.2=r18)then Ab (idx z12.2.1 ((z12.2.1.length:Int)-1)) λr23=>Aa .i64 (r23.2.1+1)<|bif decide (r23.2.1+1=r14)then Aa .u8 (r17-1)<|Ab (idx z12.2.1 ((z12.2.1.length:Int)-1)) λr24=>nx13 (z12.1,(z12.2.1.set (Int.toNat ((z12.2.1.length:Int)-1)) (r24.1,(r17-1),r24.2.2)),z12.2.2+1)else Aa .u8 (r14)<|Aa .u8 (r17-1)<|Af (List.length z12.2.1+1<=Ag)<|nx13 (z12.1,(z12.2.1++[(r14,(r17-1),r18)]),z12.2.2+1)else Aa .u8 (r14)<|Aa .u8 (r17-1)<|Af (List.length z12.2.1+1<=Ag)<|nx13 (z12.1,(z12.2.1++[(r14,(r17-1),r18)]),z12.2.2+1)else Aa .u8 (r14)<|Aa .u8 (r17-1)<|Af (List.length z12.2.1+1<=Ag)<|nx13 (z12.1,(z12.2.1++[(r14,(r17-1),r18)]),z12.2.2+1)else Ab (uw fu (z12.1,r7,r16)) λr25=>bif decide (r25=(z12.1.length:Int))then Af (List.length z12.1+1<=Ag)<|Aa .i64 ((z12.2.1.length:Int)-1)<|bif decide ((0:Int)<=z12.2.1.length-1)then Ab (idx z12.2.1 ((z12.2.1.length:Int)-1)) λr26=>bif decide (r26.2.2=r25)then Ab (idx z12.2.1 ((z12.2.1.length:Int)-1)) λr27=>Aa .i64 (r27.2.1+1)<|bif decide (r27.2.1+1=r14)then Aa .u8 ((255:Int))<|Ab (idx z12.2.1 ((z12.2.1.length:Int)-1)) λr28=>nx13 ((z12.1++[r16]),(z12.2.1.set (Int.toNat ((z12.2.1.length:Int)-1)) (r28.1,255,r28.2.2)),z12.2.2+1)else Aa .u8 (r14)<|Aa .u8 ((255:Int))<|Af (List.length z12.2.1+1<=Ag)<|nx13 ((z12.1++[r16]),(z12.2.1++[(r14,255,r25)]),z12.2.2+1)else Aa .u8 (r14)<|Aa .u8 ((255:Int))<|Af (List.length z12.2.1+1<=Ag)<|nx13 ((z12.1++[r16]),(z12.2.1++[(r14,255,r25)]),z12.2.2+1)else Aa .u8 (r14)<|Aa .u8 ((255:Int))<|Af (List.length z12.2.1+1<=Ag)<|nx13 ((z12.1++[r16]),(z12.2.1++[(r14,255,r25)]),z12.2.2+1)else Aa .i64 ((z12.2.1.length:Int)-1)<|bif decide ((0:Int)<=z12.2.1.length-1)then Ab (idx z12.2.1 ((z12.2.1.length:Int)-1)) λr29=>bif decide (r29.2.2=r25)then Ab (idx z12.2.1 ((z12.2.1.length:Int)-1)) λr30=>Aa .i64 (r30.2.1+1)<|bif decide (r30.2.1+1=r14)then Aa .u8 ((255:Int))<|Ab (idx z12.2.1 ((z12.2.1.length:Int)-1)) λr31=>nx13 (z12.1,(z12.2.1.set (Int.toNat ((z12.2.1.length:Int)-1)) (r31.1,255,r31.2.2)),z12.2.2+1)else Aa .u8 (r14)<|Aa .u8 ((255:Int))<|Af (List.length z12.2.1+1<=Ag)<|nx13 (z12.1,(z12.2.1++[(r14,255,r25)]),z12.2.2+1)else Aa .u8 (r14)<|Aa .u8 ((255:Int))<|Af (List.length z12.2.1+1<=Ag)<|nx13 (z12.1,(z12.2.1++[(r14,255,r25)]),z12.2.2+1)else Aa .u8 (r14)<|Aa .u8 ((255:Int))<|Af (List.length z12.2.1+1<=Ag)<|nx13 (z12.1,(z12.2.1++[(r14,255,r25)]),z12.2.2+1)else Af (List.length z8.2.1+1<=Ag)<|nx9 ((z12.1,(z8.2.1++[(r11.1,z12.2.1)]),z8.2.2+1))) ((z8.1,[],0))else Ac ((z8.2.1,0))) (([(0:Int)],[],0))
def B19:=bQ [B9,B10,B12,B11,B13,B17,B14,B18] Tryz.func92 [I5] [y3,Aj] uv (la:=lk [(11,⟨[.Ae DZ, .Ae I5, .nat],(kp [2,4,5,6] [(7, .AG 1),(8, .Ak),(9, .AH 2 1102)]),[(2, .Ah 27 [(1, .AG 3)]),(1, .row 3 0),(0, .c 0),(3, .row 95 1)],4⟩),(15,⟨[.Ae DZ, .Ae J7, .nat],(kp [2,4,5,6] [(7, .AG 1),(8, .Ak),(9, .Ak),(10, .Ak),(56, .Ak),(57, .Ak),(58, .AH 2 1502)]),[(4, .Ah 95 [(1, .Ak),(1, .AG 5)]),(2, .c 0),(3, .c 0),(1, .row 3 0),(0, .c 0),(5, .row 92 1)],6⟩)]) (pt:=lg [(10,[.Ed 8 0 95 Lh]),(14,[.Ed 10 1 92 Pf]),(31,[.PZ 2 0])])
def z_(fu:Nat):A4×A4->Option Bool|(x0,x1)=>bif decide ((x0.length:Int)≠x1.length)then Ac Ap else Ad fu (λ(z1:Nat) nx2=>bif decide ((z1:Int)<x0.length)then Ab (idx x0 z1) λr3=>Ab (idx x1 z1) λr4=>bif !r3.1==r4.1 then Ac Ap else bif decide ((r3.2.length:Int)≠r4.2.length)then Ac Ap else Ad fu (λ(z5:Nat) nx6=>bif decide ((z5:Int)<r3.2.length)then Ab (idx r3.2 z5) λr7=>Ab (idx r4.2 z5) λr8=>bif !decide (r7.1::(r7.2.1::[r7.2.2])=r8.1::(r8.2.1::[r8.2.2]))then Ac Ap else nx6 (z5+1)else nx2 (z1+1)) (0)else Ac Br) (0)
def B20:=bQ [] Tryz.func187 [y3,y3] [.bool] z_ (la:=lk [(4,⟨[.nat],(kp [2,3,18] [(19, .AH 0 400)]),[(1, .c 0),(0, .c 0)],2⟩),(10,⟨[.nat],(kp [2,3,6,7,18,19,48] [(49, .AH 0 1000)]),[(3, .c 0),(2, .c 0),(1, .c 0),(0, .c 0)],4⟩)])
def uu(fu:Nat)(x0:A4):Option Bool:=Ab (uv fu x0) λr1=>bif decide (r1.2=0)then Ab (z_ fu (x0,r1.1)) λr2=>Ac r2 else Ac Ap
def B21:=bQ [B19,B20] Tryz.func129 [y3] [.bool] uu
def nF(fu:Nat)(x0:A4):Option A4:=Ab (uu fu x0) λr1=>bif !r1 then Ac []else Ac x0
def B22:=bQ [B21] Tryz.func85 [y3] [y3] nF
def sA(fu:Nat)(x0:A4):Option Int:=bif decide ((x0.length:Int)=0)then Ac ((-1:Int))else Ac 0
def B23:=bQ [] Tryz.func86 [y3] [Aj] sA
def si(fu:Nat):A4×Int->Option Bool|(x0,x1)=>bif decide ((0:Int)<=x1)then Ab (idx x0 x1) λr1=>Ac r1.1 else Ac Ap
def B24:=bQ [] Tryz.func88 [y3,Aj] [.bool] si
def wX(fu:Nat):Int×Bool×Bool->Option Bool|(x0,x1,x2)=>bif decide (x0=38)then bif x1 then Ac x2 else Ac Ap else bif decide (x0=124)then bif x1 then Ac Br else Ac x2 else bif x1 then Ac ((!x2))else Ac Ap
def B25:=bQ [] Tryz.func87 [NC, .bool, .bool] [.bool] wX
def jh(fu:Nat):List A4×List Int×Int->Option Int|(x0,x1,x2)=>Ad fu (λ(z1:Int×Nat) nx2=>bif decide ((z1.2:Int)<x0.length)then Ab (idx x1 z1.2) λr3=>bif decide (r3<0)then nx2 (z1.1,z1.2+1)else Ab (idx x0 z1.2) λr4=>Ab (idx x1 z1.2) λr5=>Ab (idx r4 r5) λr6=>Ad fu (λ(z7:Int×Nat) nx8=>bif decide ((z7.2:Int)<r6.2.length)then Ab (idx r6.2 z7.2) λr9=>bif decide (x2<r9.1)then Ab (idx r6.2 z7.2) λr10=>Aa .i64 (if r10.1<z7.1 then r10.1 else z7.1)<|Ab (idx r6.2 z7.2) λr11=>bif decide (x2<=r11.2.1)then Ab (idx r6.2 z7.2) λr12=>Aa .i64 (r12.2.1+1)<|Aa .i64 (if r12.2.1+1<if r10.1<z7.1 then r10.1 else z7.1 then r12.2.1+1 else if r10.1<z7.1 then r10.1 else z7.1)<|nx8 ((if(r12.2.1+1)<(if r10.1<z7.1 then r10.1 else z7.1)then r12.2.1+1 else if r10.1<z7.1 then r10.1 else z7.1),z7.2+1)else nx8 ((if r10.1<z7.1 then r10.1 else z7.1),z7.2+1)else Ab (idx r6.2 z7.2) λr13=>bif decide (x2<=r13.2.1)then Ab (idx r6.2 z7.2) λr14=>Aa .i64 (r14.2.1+1)<|Aa .i64 (if r14.2.1+1<z7.1 then r14.2.1+1 else z7.1)<|nx8 ((if(r14.2.1+1)<z7.1 then r14.2.1+1 else z7.1),z7.2+1)else nx8 (z7.1,z7.2+1)else nx2 ((z7.1,z1.2+1))) ((z1.1,0))else Ac z1.1) ((256,0))
def B26:=bQ [] Tryz.func89 [(.sl y3),Fx,Aj] [Aj] jh (la:=lk [(3,⟨[.Ae Aj, .nat],(kp [0,1,2] [(7, .v 0 Aj),(8, .AH 1 301)]),[],0⟩),(8,⟨[.Ae Aj, .nat],(kp [0,1,2] [(7, .v 0 Aj),(8, .Ak),(9, .Ak),(10, .AH 1 801)]),[],0⟩)])
def se(fu:Nat):A4×Int×Int->Option Int|(x0,x1,x2)=>bif decide (x1<0)then Ac ((-1:Int))else Ad fu (λ(z1:Nat) nx2=>Ab (idx x0 x1) λr3=>bif decide ((z1:Int)<r3.2.length)then Ab (idx x0 x1) λr4=>Ab (idx r4.2 z1) λr5=>bif decide (r5.1<=x2)then bif decide (x2<=r5.2.1)then Ac r5.2.2 else nx2 (z1+1)else nx2 (z1+1)else Ac ((-1:Int))) (0)
def B27:=bQ [] Tryz.func90 [y3,Aj,Aj] [Aj] se (la:=lk [(4,⟨[.nat],(kp [1,2,3] [(7, .AH 0 400)]),[(0, .c 0)],1⟩)])
def wS(fu:Nat):(List (Int×Int))×Int×Int->Option Int|(x0,x1)=>Ad fu (λ(z1:Nat) nx2=>bif decide ((z1:Int)<x0.length)then Ab (idx x0 z1) λr3=>bif decide ((r3.1::[r3.2])=(x1.1::[x1.2]))then Ac ((z1:Int))else nx2 (z1+1)else Ac ((-1:Int))) (0)
def B28:=bQ [] Tryz.func91 [BE,Ea] [Aj] wS (la:=lk [(2,⟨[.nat],(kp [0,3] [(5, .AH 0 200)]),[(0, .c 0)],1⟩)])
def zZ(fu:Nat):A4×A4×Int->Option A4|(x0,x1,x2)=>Ab (nF fu x0) λr1=>Ab (nF fu x1) λr2=>Ab (sA fu r1) λr3=>Ab (sA fu r2) λr4=>Ad fu (λ(z5:List (Int×Int)×A4×Nat) nx6=>bif decide ((z5.2.2:Int)<z5.1.length)then Ab (idx z5.1 z5.2.2) λr7=>Af ((0:Int)<=0/\(0:Int)< ↑2)<|Ab (si fu (r1,r7.1)) λr8=>Af ((0:Int)<=1/\(1:Int)< ↑2)<|Ab (si fu (r2,r7.2)) λr9=>Ab (wX fu (x2,r8,r9)) λr10=>Ad fu (λ(z11:List (Int×Int)×List (Int×Int×Int)×Int) nx12=>bif decide (z11.2.2<256)then Af ((0:Int)<=0/\(0:Int)< ↑2)<|Af ((0:Int)<=1/\(1:Int)< ↑2)<|Ab (jh fu ([r1,r2],[r7.1,r7.2],z11.2.2)) λr13=>Af ((0:Int)<=0/\(0:Int)< ↑2)<|Ab (se fu (r1,r7.1,z11.2.2)) λr14=>Af ((0:Int)<=1/\(1:Int)< ↑2)<|Ab (se fu (r2,r7.2,z11.2.2)) λr15=>Ab (wS fu (z11.1,r14,r15)) λr16=>bif decide (r16<0)then Af (List.length z11.1+1<=Ag)<|Aa .u8 (z11.2.2)<|Aa .i64 (r13-1)<|Aa .u8 (r13-1)<|Af (List.length z11.2.1+1<=Ag)<|nx12 ((z11.1++[(r14,r15)]),(z11.2.1++[(z11.2.2,(r13-1),(z11.1.length:Int))]),r13)else Aa .u8 (z11.2.2)<|Aa .i64 (r13-1)<|Aa .u8 (r13-1)<|Af (List.length z11.2.1+1<=Ag)<|nx12 (z11.1,(z11.2.1++[(z11.2.2,(r13-1),r16)]),r13)else Af (List.length z5.2.1+1<=Ag)<|nx6 ((z11.1,(z5.2.1++[(r10,z11.2.1)]),z5.2.2+1))) ((z5.1,[],0))else Ab (uv fu z5.2.1) λr17=>Ac r17.1) (([(r3,r4)],[],0))
def B29:=bQ [B22,B23,B25,B24,B26,B27,B28,B19] Tryz.func52 [y3,y3,NC] [y3] zZ (la:=lk [(5,⟨[.Ae BE, .Ae I5, .nat],(kp [2,6,7,8] [(9, .AG 5),(10, .AG 6),(11, .AH 2 502)]),[(5, .row 144 0),(4, .c 0),(3, .c 0),(2, .c 0),(6, .row 95 1)],7⟩),(10,⟨[.Ae BE, .Ae J7, .Ae Aj],(kp [2,6,7,8] [(9, .AG 5),(10, .Ak),(11, .Ak),(12, .Ak),(13, .Ak),(14, .v 2 Aj)]),[(8, .Ah 95 [(1, .Ak),(1, .AG 9)]),(7, .c 0),(6, .c 0),(5, .row 144 0),(4, .c 0),(3, .c 0),(2, .c 0),(9, .row 92 1)],10⟩)]) (pr:=lg [(20,[.fz 10])]) (pt:=lg [(4,[.own 10 95 Lh]),(9,[.Ed 13 1 92 Pf])])
def r_(fu:Nat):A4×A4->Option A4|(x0,x1)=>Ab (zZ fu (x0,x1,45)) λr1=>Ac r1
def B30:=bQ [B29] Tryz.func39 [y3,y3] [y3] r_
def F31(fu:Nat)(x0:A4):Option A4:=Ab (F8 fu ()) λr1=>Ab (r_ fu (r1,x0)) λr2=>Ac r2
def B31:=bQ [B30,B8] Tryz.func25 [y3] [y3] F31
def F32(fu:Nat)(_:Unit):Option AF:=Ab (F6 fu (Vl.mk Br (Ap,Ap,Ap,([],[]),[]) [] [])) λr1=>Ac r1
def B32:=bQ [B6] Tryz.func17 [] [BH] F32
def F33(fu:Nat):Au×AF->Option Vl|(x0,x1)=>Ab (F7 fu x0) λr1=>Ab (F31 fu r1) λr2=>Ab (F32 fu ()) λr3=>Ac (Vl.mk Ap (Ap,Ap,Ap,([],[]),[]) [] [([(x0,1,x1)],[(r2,r3)])])
def B33:=bQ [B32,B31,B7] Tryz.func12 [.str,BH] [BP] F33 (pt:=lg [(2,[.PZ 4 8])])
def zY(fu:Nat):Int×(Int×Int)×Bool->Option (Int×Int×Bool)|(x0,x1)=>Aa .i64 (x1.1.1+1)<|Aa .i64 (if x0>x1.1.2 then x0 else x1.1.2)<|some (((x1.1.1+1),(if x1.1.2<x0 then x0 else x1.1.2),x1.2))
def B34:=bP [] Tryz.func155 ⟨[.Ae Aj, .Ae (.st yz)],[(0, .loc 0 0),(1, .v 0 Aj)],[(0, .Ah 119 [(3, .v 1 (.st yz))])],1⟩ ⟨[.Ae Aj, .Ae Aj, .Ae .bool],[],[(0, .Ah 119 [(1, .v 0 Aj),(1, .v 1 Aj),(1, .v 2 .bool)])],1⟩ 0 [] zY
def wR(fu:Nat)(x0:HD):Option Bool:=bif !x0.1 then bif !x0.2.1 then bif !x0.2.2.1 then Aa .i64 ((x0.2.2.2.1.1.length:Int)+(x0.2.2.2.1.2.length:Int))<|Aa .i64 ((x0.2.2.2.1.1.length:Int)+(x0.2.2.2.1.2.length:Int)+(x0.2.2.2.2.length:Int))<|some (decide (((x0.2.2.2.1.1.length:Int)+(x0.2.2.2.1.2.length:Int)+(x0.2.2.2.2.length:Int))=0))else Ac Ap else Ac Ap else Ac Ap
def B35:=bQ [] Tryz.func93 [y8] [.bool] wR
def zX(fu:Nat)(x0:List (Au×Int×AF)):Option Bool:=Ad fu (λ(z1:Nat) nx2=>bif decide ((z1:Int)<x0.length)then Ab (idx x0 z1) λr3=>bif decide (r3.2.1≠1)then bif decide (r3.2.1≠2)then Ac Ap else bif decide ((0:Int)<z1)then Aa .i64 ((z1:Int)-1)<|Ab (idx x0 ((z1:Int)-1)) λr4=>bif !Go.Op.bytesLess r4.1 r3.1 then Ac Ap else nx2 (z1+1)else nx2 (z1+1)else bif decide ((0:Int)<z1)then Aa .i64 ((z1:Int)-1)<|Ab (idx x0 ((z1:Int)-1)) λr5=>bif !Go.Op.bytesLess r5.1 r3.1 then Ac Ap else nx2 (z1+1)else nx2 (z1+1)else Ac Br) (0)
def B36:=bQ [] Tryz.func201 [L3] [.bool] zX (la:=lk [(2,⟨[.nat],(kp [0,5,6] [(7, .AH 0 200)]),[],0⟩)])
def uq(fu:Nat)(x0:A4):Option Bool:=Ad fu (λ(z1:Nat) nx2=>bif decide ((z1:Int)<x0.length)then Ab (idx x0 z1) λr3=>Ad fu (λ(z4:Nat) nx5=>bif decide ((z4:Int)<r3.2.length)then Ab (idx r3.2 z4) λr6=>bif decide (r6.2.1<r6.1)then Ac Ap else bif decide (r6.2.2<0)then Ac Ap else bif decide ((x0.length:Int)<=r6.2.2)then Ac Ap else bif decide ((0:Int)<z4)then Aa .i64 ((z4:Int)-1)<|Ab (idx r3.2 ((z4:Int)-1)) λr7=>bif decide (r6.1<=r7.2.1)then Ac Ap else nx5 (z4+1)else nx5 (z4+1)else nx2 (z1+1)) (0)else Ac Br) (0)
def B37:=bQ [] Tryz.func252 [I5] [.bool] uq (la:=lk [(2,⟨[.nat],(kp [0,7,8] [(9, .AH 0 200)]),[],0⟩),(5,⟨[.nat],(kp [0,4,7,8,9,14,15] [(16, .AH 0 500)]),[(0, .c 0)],1⟩)])
def wQ(fu:Nat)(x0:A4):Option (List Int):=Af ((0:Int)<=0/\(0:Int)< ↑257)<|Af (0+Int.toNat (0:Int)*1<257)<|Ad fu (λ(z1:List Bool×Nat) nx2=>bif decide ((z1.2:Int)<x0.length)then Ab (idx x0 z1.2) λr3=>Ad fu (λ(z4:List Bool×Nat) nx5=>bif decide ((z4.2:Int)<r3.2.length)then Ab (idx r3.2 z4.2) λr6=>Af ((0:Int)<=r6.1/\r6.1<(↑257:Int))<|Af (0+Int.toNat r6.1*1<257)<|Aa .i64 (r6.2.1+1)<|Af ((0:Int)<=r6.2.1+1/\r6.2.1+1< ↑257)<|Af (0+Int.toNat (r6.2.1+1)*1<257)<|nx5 (((List.set z4.1 (0+Int.toNat r6.1*1) Br).set (0+Int.toNat (r6.2.1+1)*1) Br),z4.2+1)else nx2 ((z4.1,z1.2+1))) ((z1.1,0))else Ad fu (λ(z7:List Int×Int) nx8=>bif decide (z7.2<256)then Af ((0:Int)<=z7.2/\z7.2<(↑257:Int))<|Ab (idx z1.1 (↑(0+Int.toNat z7.2*1):Int)) λr9=>bif r9 then Af (List.length z7.1+1<=Ag)<|Aa .i64 (z7.2+1)<|nx8 ((z7.1++[z7.2]),(z7.2+1))else Aa .i64 (z7.2+1)<|nx8 (z7.1,(z7.2+1))else Ac z7.1) (([],(0:Int)))) (((List.set (List.replicate 257 Ap) 0 Br),0))
def B38:=bQ [] Tryz.func322 [I5] [Fx] wQ (la:=lk [(4,⟨[.Ae (.ar 257 .bool), .nat],(kp [3,11,12] [(13, .AH 1 401)]),[(0, .Ah 230 [(257, .v 0 (.ar 257 .bool))])],1⟩),(7,⟨[.Ae (.ar 257 .bool), .nat],(kp [3,11,12,13,18,19] [(20, .AH 1 701)]),[(0, .Ah 230 [(257, .v 0 (.ar 257 .bool))])],2⟩),(15,⟨[.Ae DZ, .Ae Aj],[(3, .Ak),(8, .AG 1),(34, .v 1 Aj)],[(0, .c 0),(1, .row 3 0)],2⟩)]) (pt:=lg [(14,[.own 8 3 Aj]),(20,[.fz 2])])
def zW(fu:Nat)(x0:A4):Option (List Int×List Int×List (List Int)×List Bool):=Ab (wQ fu x0) λr1=>Ad fu (λ(z2:List (List Int)×List Bool×Nat) nx3=>bif decide ((z2.2.2:Int)<x0.length)then Ab (idx x0 z2.2.2) λr4=>Af (List.length r1<=Ag)<|Ad fu (λ(z5:List Int×Nat) nx6=>bif decide ((z5.2:Int)<r1.length)then Ab (idx r1 z5.2) λr7=>Ab (idx z5.1 z5.2) λr8=>Ad fu (λ(z9:List Int×Nat) nx10=>bif decide ((z9.2:Int)<r4.2.length)then Ab (idx r4.2 z9.2) λr11=>bif decide (r11.1<=r7)then bif decide (r7<=r11.2.1)then Ab (idx z9.1 z5.2) λr12=>nx10 ((z9.1.set z5.2 r11.2.2),z9.2+1)else nx10 (z9.1,z9.2+1)else nx10 (z9.1,z9.2+1)else nx6 ((z9.1,z5.2+1))) (((z5.1.set z5.2 ((x0.length:Int))),0))else Af (List.length z2.1+1<=Ag)<|Af (List.length z2.2.1+1<=Ag)<|nx3 (((z2.1++[z5.1]),(z2.2.1++[r4.1]),z2.2.2+1))) (((List.replicate (List.length r1) (0:Int)),0))else Af (List.length r1<=Ag)<|Ad fu (λ(z13:List Int×Nat) nx14=>bif decide ((z13.2:Int)<((List.replicate (List.length r1) (0:Int)).length:Int))then Ab (idx z13.1 z13.2) λr15=>nx14 ((z13.1.set z13.2 ((x0.length:Int))),z13.2+1)else Af (List.length z2.1+1<=Ag)<|Af (List.length z2.2.1+1<=Ag)<|some ((r1,[],(z2.1++[z13.1]),(z2.2.1++[Ap])))) (((List.replicate (List.length r1) (0:Int)),0))) (([],[],0))
def B39:=bP [B38] Tryz.func275 ⟨[.Ae I5],[(0, .v 0 I5)],[],0⟩ ⟨[.Ae Fx, .Ae Fx, .Ae J6, .Ae EO],[(0, .loc 0 0)],[(0, .Ah 321 [(1, .v 0 Fx),(1, .AG 1),(1, .AG 2),(1, .v 1 Fx)]),(1, .row 140 2),(2, .row 4 3)],3⟩ 1 [] zW (la:=lk [(4,⟨[.Ae J6, .Ae EO, .nat],(kp [3,4,20,21] [(22, .AH 2 402)]),[(0, .Ah 321 [(1, .Ak),(1, .AG 1),(1, .AG 2),(1, .Ak)]),(1, .row 140 0),(2, .row 4 1)],3⟩),(8,⟨[.Ae DZ, .nat],(kp [3,4,6,7,20,21,22,35,36] [(37, .AH 1 801)]),[(4, .row 3 0),(3, .c 0),(0, .c 0),(2, .c 0),(1, .c 0)],5⟩),(12,⟨[.Ae DZ, .nat],(kp [3,4,6,7,8,9,20,21,22,35,36,37,47,48] [(49, .AH 1 1201)]),[(4, .row 3 0),(3, .c 0),(0, .c 0),(2, .c 0),(1, .c 0)],5⟩),(23,⟨[.Ae DZ, .nat],(kp [3,4,12,101] [(102, .AH 1 2301)]),[(3, .row 3 0),(0, .c 0),(2, .c 0),(1, .c 0)],4⟩)]) (pr:=lg [(18,[.fz 7]),(27,[.fz 12])]) (pt:=lg [(3,[.Ed 17 1 140 Fx, .Ed 17 2 4 .bool])])
def B40(_:Nat):Bd:=zc gn
abbrev zV(_:Nat)(x:Int):Option Au:=cD.F x
theorem d40(fu:Nat)(x:Int):zV fu x=Aa Kj.i64 x (Ac (Lib.itoa x)):=rfl
def B41(_:Nat):Bd:=zb gp
abbrev F41(_:Nat)(x:List Int):Option (List Int):=Ac x
theorem d41(fu:Nat)(x:List Int):F41 fu x=Ac x:=rfl
def wP(fu:Nat):Au×List Int->Option (Int×List Int)|(x0,x1)=>Ab (F41 fu x1) λr1=>Af (List.length r1+List.length x0<=1099511627776)<|some (((x0.length:Int),(r1++((List.map (λb=>(↑(UInt8.toNat b):Int)) x0)))))
def B42:=bP [B41] Tryz.func339 ⟨[.Ae .str, .Ae Pg],[(0, .loc 0 0),(1, .v 0 .str)],[(0, .Ah 340 [(1, .px [0] .sf),(1, .AG 1)]),(1, .row 5 1)],2⟩ ⟨[.Ae Aj, .Ae Pg],[(0, .v 0 Aj),(1, .Ak)],[(0, .Ah 340 [(1, .px [0] .sf),(1, .AG 2)]),(2, .row 5 1)],3⟩ 2 [1] wP
def zU(fu:Nat)(x0:List Int):Option Au:=Af ((x0.length:Int)=x0.length/\List.length x0=List.length x0)<|some ((List.map (λn=>UInt8.ofNat (Int.toNat n)) x0))
def B43:=bP [] Tryz.func341 ⟨[.Ae Pg],[(0, .loc 0 0)],[(0, .Ah 340 [(1, .px [0] .sf),(1, .AG 1)]),(1, .row 5 0)],2⟩ ⟨[.Ae .str],[(0, .v 0 .str)],[(0, .Ah 340 [(1, .px [0] .sf),(1, .AG 1)])],2⟩ 1 [1] zU
def zT(fu:Nat):(List Int×List (List Int)×List Bool×List Int)×Int->Option Au|(x0,x1)=>Ab (idx x0.2.2.2 x1) λr1=>Ab (zV fu r1) λr2=>Ab (wP fu (r2,[])) λr3=>Ab (idx x0.2.1 x1) λr4=>Ad fu (λ(z5:List Int×Nat) nx6=>bif decide ((z5.2:Int)<r4.length)then Ab (idx r4 z5.2) λr7=>Ab (idx x0.2.2.2 r7) λr8=>Ab (zV fu r8) λr9=>Af (List.length ([44]:Au)+List.length r9<=1099511627776)<|Ab (wP fu ((44:UInt8)::r9,z5.1)) λr10=>nx6 (r10.2,z5.2+1)else Ab (zU fu z5.1) λr11=>Ac r11) ((r3.2,0))
def B44:=bP [B42,B40,B43] Tryz.func323 ⟨[.Ae tT, .Ae Aj],[(0, .pd 0 tT 0),(1, .v 1 Aj)],[],0⟩ ⟨[.Ae .str],[(0, .v 0 .str)],[],0⟩ 1 [] zT (la:=lk [(4,⟨[.Ae Pg, .nat],(kp [0,5,23,24] [(25, .AH 1 401)]),[(0, .Ah 340 [(1, .px [0] .sf),(1, .AG 2)]),(2, .row 5 0)],3⟩)]) (pr:=lg [(2,[.Ed 5 1 5 NC])])
def zS(fu:Nat):List Int×List Int×List (List Int)×List Bool->Option (List Int×List (List Int)×List Bool×List Int)|(x0,x1,x2,x3)=>Af (List.length x2<=Ag)<|Ad fu (λ(z1:List Int×Nat) nx2=>bif decide ((z1.2:Int)<x3.length)then Ab (idx x3 z1.2) λr3=>bif r3 then Ab (idx z1.1 z1.2) λr4=>nx2 ((z1.1.set z1.2 ((1:Int))),z1.2+1)else nx2 (z1.1,z1.2+1)else Ad fu (λ(z5:List Int×Int) nx6=>Af (List.length x2<=Ag)<|Ad fu (λ(z7:List Int×List (Au×Int)×Nat) nx8=>bif decide ((z7.2.2:Int)<x2.length)then Ab (zT fu ((x0,x2,x3,z5.1),(z7.2.2:Int))) λr9=>Af (List.length r9<=1099511627776)<|bif !(Option.isSome (AA z7.2.1 r9))then Af (List.length r9<=1099511627776/\List.length z7.2.1<=1099511627776)<|Ab (idx z7.1 z7.2.2) λr10=>nx8 ((z7.1.set z7.2.2 ((z7.2.1.length:Int))),Bs z7.2.1 r9 ((z7.2.1.length:Int)),z7.2.2+1)else Ab (idx z7.1 z7.2.2) λr11=>nx8 ((z7.1.set z7.2.2 (Option.getD (AA z7.2.1 r9) (0:Int))),z7.2.1,z7.2.2+1)else bif decide ((z7.2.1.length:Int)=z5.2)then Ac ((x0,x2,x3,z7.1))else nx6 ((z7.1,(z7.2.1.length:Int)))) (((List.replicate (List.length x2) (0:Int)),[],0))) ((z1.1,(0:Int)))) (((List.replicate (List.length x2) (0:Int)),0))
def B45:=bP [B44] Tryz.func276 ⟨[.Ae Fx, .Ae Fx, .Ae J6, .Ae EO],[(0, .loc 0 0)],[(0, .Ah 321 [(1, .v 0 Fx),(1, .AG 1),(1, .AG 2),(1, .v 1 Fx)]),(1, .row 140 2),(2, .row 4 3)],3⟩ ⟨[.Ae Fx, .Ae J6, .Ae EO, .Ae Fx],[],[(0, .Ah 321 [(1, .v 0 Fx),(1, .AG 1),(1, .AG 2),(1, .AG 3)]),(1, .row 140 1),(2, .row 4 2),(3, .row 3 3)],4⟩ 0 [] zS (la:=lk [(2,⟨[.Ae DZ, .nat],(kp [0,24,25] [(26, .AH 1 201)]),[(2, .c 0),(0, .c 0),(3, .row 3 0),(1, .c 0)],4⟩),(9,⟨[.Ae DZ, .Ae Aj],[(0, .Ak),(4, .v 1 Aj),(5, .Ak)],[(0, .Ah 321 (kp [1,1,1] [(1, .AG 3)])),(3, .row 3 0),(2, .c 0),(1, .c 0)],4⟩),(12,⟨[.Ae DZ, .Ae Th, .nat],(kp [0,4,5,6,7,52] [(53, .AH 2 1202)]),[(5, .row 3 0),(4, .map 9 1),(0, .c 0),(3, .c 0),(2, .c 0),(1, .c 0)],6⟩)])
def zR(fu:Nat)(x0:List Int×List (List Int)×List Bool×List Int):Option (List Bool):=Af (List.length x0.2.1<=Ag)<|Ad fu (λ(z1:List Bool×Bool) nx2=>bif z1.2 then Ad fu (λ(z3:List Bool×Bool×Nat) nx4=>bif decide ((z3.2.2:Int)<x0.2.1.length)then Ab (idx x0.2.2.1 z3.2.2) λr5=>Ab (idx x0.2.1 z3.2.2) λr6=>Ad fu (λ(z7:Bool×Nat) nx8=>bif decide ((z7.2:Int)<r6.length)then Ab (idx r6 z7.2) λr9=>bif z7.1 then nx8 (Br,z7.2+1)else Ab (idx x0.2.2.2 r9) λr10=>Ab (idx z3.1 r10) λr11=>nx8 (r11,z7.2+1)else bif z7.1 then Ab (idx x0.2.2.2 z3.2.2) λr12=>Ab (idx z3.1 r12) λr13=>bif !r13 then Ab (idx x0.2.2.2 z3.2.2) λr14=>Ab (idx z3.1 r14) λr15=>nx4 ((z3.1.set (Int.toNat r14) Br),Br,z3.2.2+1)else nx4 (z3.1,z3.2.1,z3.2.2+1)else nx4 ((z3.1,z3.2.1,z3.2.2+1))) ((r5,0))else nx2 ((z3.1,z3.2.1))) ((z1.1,Ap,0))else Ac z1.1) (((List.replicate (List.length x0.2.1) Ap),Br))
def B46:=bP [] Tryz.func324 ⟨[.Ae tT],[(0, .pd 0 tT 0)],[],0⟩ ⟨[.Ae EO],[(0, .AG 0)],[(0, .row 4 0)],1⟩ 1 [] zR (la:=lk [(3,⟨[.Ae EO, .Ae .bool],(kp [0,3] [(4, .v 1 .bool)]),[(0, .row 4 0)],1⟩),(6,⟨[.Ae EO, .Ae .bool, .nat],(kp [0,3] [(4, .v 1 .bool),(20, .Ak),(21, .AH 2 602)]),[(0, .row 4 0)],1⟩),(10,⟨[.Ae .bool, .nat],(kp [0,3,4,5] [(6, .v 0 .bool),(20, .Ak),(21, .Ak),(37, .Ak),(38, .Ak),(39, .AH 1 1001)]),[(0, .c 0)],1⟩)])
def X2(fu:Nat):(List Int×List (List Int)×List Bool×List Int)×Int->Option Int|(x0,x1)=>Aa .i64 (x1+1)<|bif decide (x1+1<x0.1.length)then Aa .i64 (x1+1)<|Ab (idx x0.1 (x1+1)) λr1=>Aa .i64 (r1-1)<|Aa .u8 (r1-1)<|some ((r1-1))else Ac 255
def B47:=bP [] Tryz.func325 ⟨[.Ae tT, .Ae Aj],[(0, .pd 0 tT 0),(1, .v 1 Aj)],[],0⟩ ⟨[.Ae NC],[(0, .v 0 NC)],[],0⟩ 1 [] X2
def zQ(fu:Nat):List Int×List (List Int)×List Bool×List Int->Option (A4×List Int×List (List Int)×List Bool×List Int)|(x0,x1,x2,x3)=>Ab (zR fu (x0,x1,x2,x3)) λr1=>Ab (idx x3 (0:Int)) λr2=>Ab (idx r1 r2) λr3=>bif !r3 then Ac (([],x0,x1,x2,x3))else Ab (idx x3 (0:Int)) λr4=>Aa .i64 (r4)<|Af (0<=1099511627776)<|Ad fu (λ(z5:List (Int×Int)×List Int×A4×Nat) nx6=>bif decide ((z5.2.2.2:Int)<z5.2.1.length)then Ab (idx z5.2.1 z5.2.2.2) λr7=>Ab (idx x2 r7) λr8=>Ab (idx z5.2.1 z5.2.2.2) λr9=>Ab (idx x1 r9) λr10=>Ad fu (λ(z11:List (Int×Int)×List Int×List (Int×Int×Int)×Nat) nx12=>bif decide ((z11.2.2.2:Int)<r10.length)then Ab (idx r10 z11.2.2.2) λr13=>Ab (idx x3 r13) λr14=>Ab (idx r1 r14) λr15=>bif !r15 then nx12 (z11.1,z11.2.1,z11.2.2.1,z11.2.2.2+1)else Aa .i64 (r14)<|bif !(Option.isSome (AA z11.1 r14))then Aa .i64 (r14)<|Af (List.length z11.1<=1099511627776)<|Af (List.length z11.2.1+1<=Ag)<|bif decide ((0:Int)<z11.2.2.1.length)then Aa .i64 ((z11.2.2.1.length:Int)-1)<|Ab (idx z11.2.2.1 ((z11.2.2.1.length:Int)-1)) λr16=>Aa .i64 (r14)<|bif decide (r16.2.2=Option.getD (AA (Bs z11.1 r14 (z11.2.1.length:Int)) r14) (0:Int))then Aa .i64 ((z11.2.2.1.length:Int)-1)<|Ab (idx z11.2.2.1 ((z11.2.2.1.length:Int)-1)) λr17=>Aa .i64 (r17.2.1+1)<|Ab (idx x0 z11.2.2.2) λr18=>bif decide (r17.2.1+1=r18)then Aa .i64 ((z11.2.2.1.length:Int)-1)<|Ab (X2 fu ((x0,x1,x2,x3),(z11.2.2.2:Int))) λr19=>Ab (idx z11.2.2.1 ((z11.2.2.1.length:Int)-1)) λr20=>nx12 (Bs z11.1 r14 (z11.2.1.length:Int),(z11.2.1++[r13]),(z11.2.2.1.set (Int.toNat ((z11.2.2.1.length:Int)-1)) (r20.1,r19,r20.2.2)),z11.2.2.2+1)else Ab (idx x0 z11.2.2.2) λr21=>Aa .u8 (r21)<|Ab (X2 fu ((x0,x1,x2,x3),(z11.2.2.2:Int))) λr22=>Aa .i64 (r14)<|Af (List.length z11.2.2.1+1<=Ag)<|nx12 (Bs z11.1 r14 (z11.2.1.length:Int),(z11.2.1++[r13]),(z11.2.2.1++[(r21,r22,Option.getD (AA (Bs z11.1 r14 (z11.2.1.length:Int)) r14) (0:Int))]),z11.2.2.2+1)else Ab (idx x0 z11.2.2.2) λr23=>Aa .u8 (r23)<|Ab (X2 fu ((x0,x1,x2,x3),(z11.2.2.2:Int))) λr24=>Aa .i64 (r14)<|Af (List.length z11.2.2.1+1<=Ag)<|nx12 (Bs z11.1 r14 (z11.2.1.length:Int),(z11.2.1++[r13]),(z11.2.2.1++[(r23,r24,Option.getD (AA (Bs z11.1 r14 (z11.2.1.length:Int)) r14) (0:Int))]),z11.2.2.2+1)else Ab (idx x0 z11.2.2.2) λr25=>Aa .u8 (r25)<|Ab (X2 fu ((x0,x1,x2,x3),(z11.2.2.2:Int))) λr26=>Aa .i64 (r14)<|Af (List.length z11.2.2.1+1<=Ag)<|nx12 (Bs z11.1 r14 (z11.2.1.length:Int),(z11.2.1++[r13]),(z11.2.2.1++[(r25,r26,Option.getD (AA (Bs z11.1 r14 (z11.2.1.length:Int)) r14) (0:Int))]),z11.2.2.2+1)else bif decide ((0:Int)<z11.2.2.1.length)then Aa .i64 ((z11.2.2.1.length:Int)-1)<|Ab (idx z11.2.2.1 ((z11.2.2.1.length:Int)-1)) λr27=>Aa .i64 (r14)<|bif decide (r27.2.2=Option.getD (AA z11.1 r14) (0:Int))then Aa .i64 ((z11.2.2.1.length:Int)-1)<|Ab (idx z11.2.2.1 ((z11.2.2.1.length:Int)-1)) λr28=>Aa .i64 (r28.2.1+1)<|Ab (idx x0 z11.2.2.2) λr29=>bif decide (r28.2.1+1=r29)then Aa .i64 ((z11.2.2.1.length:Int)-1)<|Ab (X2 fu ((x0,x1,x2,x3),(z11.2.2.2:Int))) λr30=>Ab (idx z11.2.2.1 ((z11.2.2.1.length:Int)-1)) λr31=>nx12 (z11.1,z11.2.1,(z11.2.2.1.set (Int.toNat ((z11.2.2.1.length:Int)-1)) (r31.1,r30,r31.2.2)),z11.2.2.2+1)else Ab (idx x0 z11.2.2.2) λr32=>Aa .u8 (r32)<|Ab (X2 fu ((x0,x1,x2,x3),(z11.2.2.2:Int))) λr33=>Aa .i64 (r14)<|Af (List.length z11.2.2.1+1<=Ag)<|nx12 (z11.1,z11.2.1,(z11.2.2.1++[(r32,r33,Option.getD (AA z11.1 r14) (0:Int))]),z11.2.2.2+1)else Ab (idx x0 z11.2.2.2) λr34=>Aa .u8 (r34)<|Ab (X2 fu ((x0,x1,x2,x3),(z11.2.2.2:Int))) λr35=>Aa .i64 (r14)<|Af (List.length z11.2.2.1+1<=Ag)<|nx12 (z11.1,z11.2.1,(z11.2.2.1++[(r34,r35,Option.getD (AA z11.1 r14) (0:Int))]),z11.2.2.2+1)else Ab (idx x0 z11.2.2.2) λr36=>Aa .u8 (r36)<|Ab (X2 fu ((x0,x1,x2,x3),(z11.2.2.2:Int))) λr37=>Aa .i64 (r14)<|Af (List.length z11.2.2.1+1<=Ag)<|nx12 (z11.1,z11.2.1,(z11.2.2.1++[(r36,r37,Option.getD (AA z11.1 r14) (0:Int))]),z11.2.2.2+1)else Af (List.length z5.2.2.1+1<=Ag)<|nx6 ((z11.1,z11.2.1,(z5.2.2.1++[(r8,z11.2.2.1)]),z5.2.2.2+1))) ((z5.1,z5.2.1,[],0))else Ac ((z5.2.2.1,x0,x1,x2,x3))) ((Bs [] r4 (0:Int),[(0:Int)],[],0))
def B48:=bP [B46,B47] Tryz.func277 ⟨[.Ae Fx, .Ae J6, .Ae EO, .Ae Fx],[(0, .loc 0 0)],[(0, .Ah 321 [(1, .v 0 Fx),(1, .AG 1),(1, .AG 2),(1, .AG 3)]),(1, .row 140 1),(2, .row 4 2),(3, .row 3 3)],4⟩ ⟨[.Ae y3, .Ae Fx, .Ae J6, .Ae EO, .Ae Fx],[(0, .v 0 y3)],[(0, .Ah 321 [(1, .v 1 Fx),(1, .AG 1),(1, .AG 2),(1, .AG 3)]),(1, .row 140 2),(2, .row 4 3),(3, .row 3 4)],4⟩ 1 [] zQ (la:=lk [(8,⟨[.Ae BE, .Ae DZ, .Ae I5, .nat],(kp [0,2,3] [(4, .AG 6),(5, .Ak),(6, .Ak),(7, .AH 3 803)]),[(8, .Ah 27 [(1, .AG 9)]),(7, .map 3 0),(6, .row 3 1),(5, .c 0),(4, .c 0),(0, .c 0),(3, .c 0),(2, .c 0),(1, .c 0),(9, .row 95 2)],10⟩),(12,⟨[.Ae BE, .Ae DZ, .Ae J7, .nat],(kp [0,2,3] [(4, .AG 6),(5, .Ak),(6, .Ak),(7, .Ak),(8, .Ak),(63, .Ak),(64, .Ak),(65, .AH 3 1203)]),[(10, .Ah 95 [(1, .Ak),(1, .AG 11)]),(8, .c 0),(9, .c 0),(7, .map 3 0),(6, .row 3 1),(5, .c 0),(4, .c 0),(0, .c 0),(3, .c 0),(2, .c 0),(1, .c 0),(11, .row 92 2)],12⟩)]) (pt:=lg [(7,[.Ed 6 0 95 Lh]),(11,[.Ed 8 1 92 Pf]),(26,[.PZ 2 0])])
def nE(fu:Nat)(x0:A4):Option (A4×Int):=Ab (uq fu x0) λr1=>bif !r1 then Ac (([],11))else bif decide ((x0.length:Int)=0)then Ac (([],0))else Ab (zW fu x0) λr2=>Ab (zS fu (r2.1,r2.2.1,r2.2.2.1,r2.2.2.2)) λr3=>Ab (zQ fu (r3.1,r3.2.1,r3.2.2.1,r3.2.2.2)) λr4=>Ac ((r4.1,0))
def B49:=bQ [B37,B39,B45,B48] Tryz.func212 [I5] [y3,Aj] nE
def zP(fu:Nat):(List (Int×Int×Int))×List (Int×Int×Int)->Option Bool|(x0,x1)=>bif decide ((x0.length:Int)≠x1.length)then Ac Ap else Ad fu (λ(z1:Nat) nx2=>bif decide ((z1:Int)<x0.length)then Ab (idx x0 z1) λr3=>Ab (idx x1 z1) λr4=>bif !decide (r3.1::(r3.2.1::[r3.2.2])=r4.1::(r4.2.1::[r4.2.2]))then Ac Ap else nx2 (z1+1)else Ac Br) (0)
def B50:=bQ [] Tryz.func153 [J7,J7] [.bool] zP (la:=lk [(4,⟨[.nat],(kp [0,1,12] [(13, .AH 0 400)]),[],0⟩)])
def zO(fu:Nat):Lt0×Lt0->Option Bool|(x0,x1)=>bif x0.1==x1.1 then Ab (zP fu (x0.2,x1.2)) λr1=>Ac r1 else Ac Ap
def B51:=bQ [B50] Tryz.func152 [Lh,Lh] [.bool] zO
def F52(fu:Nat):A4×A4->Option Bool|(x0,x1)=>bif decide ((x0.length:Int)≠x1.length)then Ac Ap else Ad fu (λ(z1:Nat) nx2=>bif decide ((z1:Int)<x0.length)then Ab (idx x0 z1) λr3=>Ab (idx x1 z1) λr4=>Ab (zO fu (r3,r4)) λr5=>bif !r5 then Ac Ap else nx2 (z1+1)else Ac Br) (0)
def B52:=bP [B51] Tryz.func151 ⟨[.Ae I5, .Ae I5],[(0, .v 0 I5),(1, .v 1 I5),(2, .AK 152 [] [])],[],0⟩ ⟨[.Ae .bool],[(0, .v 0 .bool)],[],0⟩ 1 [] F52 (la:=lk [(4,⟨[.nat],(kp [1,2,15,16] [(17, .AH 0 400)]),[],0⟩)])
def uo(fu:Nat):A4×A4->Option Bool|(x0,x1)=>Ab (F52 fu (x0,x1)) λr1=>Ac r1
def B53:=bQ [B52] Tryz.func96 [y3,y3] [.bool] uo
def um(fu:Nat)(x0:A4):Option Bool:=Ab (nE fu x0) λr1=>bif decide (r1.2=0)then Ab (uo fu (x0,r1.1)) λr2=>Ac r2 else Ac Ap
def B54:=bQ [B53,B49] Tryz.func206 [y3] [.bool] um
def B55(_:Nat):Bd:=zb qh
abbrev F58(_:Nat)(x:Int×Int×List Int):Option (List Int):=XX x
theorem d58i(fu:Nat)(x:Int)(l:List Int):F58 fu (x,10,l)=Af (l.length+21<=140737488355328) (Aa Kj.i64 x (Ac (l++(Lib.itoa x).map λb=>((b.toNat:Nat):Int)))):=by
 show XX (x,10,l)=_
 unfold XX Af;simp
def uk(fu:Nat)(x0:List Int):Option Au:=Ad fu (λ(z1:List Int×Nat) nx2=>bif decide ((z1.2:Int)<x0.length)then Ab (idx x0 z1.2) λr3=>Af (List.length z1.1+1<=Ag)<|Ab (F58 fu (r3,10,(z1.1++[(44:Int)]))) λr4=>nx2 (r4,z1.2+1)else Ac ((List.map (λn=>UInt8.ofNat (Int.toNat n)) z1.1))) (([],0))
def B56:=bQ [B55] Tryz.func270 [Fx] [.str] uk (la:=lk [(3,⟨[.Ae Pg, .nat],[(3, .AG 0),(6, .Ak),(7, .Ak),(8, .AH 1 301)],[(0, .row 5 0)],1⟩)]) (pr:=lg [(7,[.fz 3])]) (pt:=lg [(2,[.own 3 5 NC])])
def zN(fu:Nat):BK×List Int->Option Int|(x0,x1)=>Ad fu (λ(z1:Int×Nat) nx2=>bif decide ((z1.2:Int)<x0.2.length)then Ab (idx x0.2 z1.2) λr3=>Ab (idx x1 z1.2) λr4=>bif decide ((0:Int)<=r4)then Ab (idx x1 z1.2) λr5=>Ab (idx r3.1 r5) λr6=>bif r6.1 then Aa .i64 (z1.1+1)<|nx2 ((z1.1+1),z1.2+1)else nx2 (z1.1,z1.2+1)else nx2 (z1.1,z1.2+1)else Ad fu (λ(z7:Int×Nat) nx8=>bif decide ((z7.2:Int)<x0.1.length)then Ab (idx x0.1 z7.2) λr9=>Aa .i64 ((x0.2.length:Int)+(z7.2:Int))<|Ab (idx x1 ((x0.2.length:Int)+(z7.2:Int))) λr10=>bif decide (r10=(r9.1.length:Int))then Aa .i64 (z7.1+1)<|nx8 ((z7.1+1),z7.2+1)else nx8 (z7.1,z7.2+1)else Ac z7.1) ((z1.1,0))) ((0,0))
def B57:=bQ [] Tryz.func271 [Cp,Fx] [Aj] zN (la:=lk [(3,⟨[.Ae Aj, .nat],(kp [1,2] [(5, .v 0 Aj),(11, .Ak),(12, .Ak),(13, .AH 1 301)]),[(0, .c 0)],1⟩),(9,⟨[.Ae Aj, .nat],(kp [1,2] [(5, .v 0 Aj),(39, .Ak),(40, .Ak),(41, .AH 1 901)]),[(0, .c 0)],1⟩)])
def zM(fu:Nat):BK×List Int->Option (List Int)|(x0,x1)=>Ad fu (λ(z1:List Bool×Nat) nx2=>bif decide ((z1.2:Int)<x0.2.length)then Ab (idx x0.2 z1.2) λr3=>Ab (idx x1 z1.2) λr4=>bif decide (r4<0)then nx2 (z1.1,z1.2+1)else Ab (idx x1 z1.2) λr5=>Ab (idx r3.1 r5) λr6=>Ad fu (λ(z7:List Bool×Nat) nx8=>bif decide ((z7.2:Int)<r6.2.length)then Ab (idx r6.2 z7.2) λr9=>Aa .i64 (r9.2.1+1)<|Af ((0:Int)<=r9.1/\r9.1<(↑257:Int))<|Af (0+Int.toNat r9.1*1<257)<|Af ((0:Int)<=r9.2.1+1/\r9.2.1+1< ↑257)<|Af (0+Int.toNat (r9.2.1+1)*1<257)<|nx8 (((List.set z7.1 (0+Int.toNat r9.1*1) Br).set (0+Int.toNat (r9.2.1+1)*1) Br),z7.2+1)else nx2 ((z7.1,z1.2+1))) ((z1.1,0))else Ad fu (λ(z10:List Bool×Nat) nx11=>bif decide ((z10.2:Int)<x0.1.length)then Ab (idx x0.1 z10.2) λr12=>Aa .i64 ((x0.2.length:Int)+(z10.2:Int))<|Ab (idx x1 ((x0.2.length:Int)+(z10.2:Int))) λr13=>bif decide ((0:Int)<=r13)then bif decide (r13<(r12.1.length:Int))then Ab (ER r12.1 r13) λr14=>Ab (ER r12.1 r13) λr15=>Aa .i64 (r15+1)<|Af ((0:Int)<=r14/\r14<(↑257:Int))<|Af (0+Int.toNat r14*1<257)<|Af ((0:Int)<=r15+1/\r15+1< ↑257)<|Af (0+Int.toNat (r15+1)*1<257)<|nx11 (((List.set z10.1 (0+Int.toNat r14*1) Br).set (0+Int.toNat (r15+1)*1) Br),z10.2+1)else nx11 (z10.1,z10.2+1)else nx11 (z10.1,z10.2+1)else Ad fu (λ(z16:List Int×Int) nx17=>bif decide (z16.2<256)then Af ((0:Int)<=z16.2/\z16.2<(↑257:Int))<|Ab (idx z10.1 (↑(0+Int.toNat z16.2*1):Int)) λr18=>bif r18 then Aa .u8 (z16.2)<|Af (List.length z16.1+1<=Ag)<|Aa .i64 (z16.2+1)<|nx17 ((z16.1++[z16.2]),(z16.2+1))else Aa .i64 (z16.2+1)<|nx17 (z16.1,(z16.2+1))else Ac z16.1) (([],(0:Int)))) ((z1.1,0))) (((List.set (List.replicate 257 Ap) 0 Br),0))
def B58:=bQ [] Tryz.func272 [Cp,Fx] [Pg] zM (la:=lk [(3,⟨[.Ae (.ar 257 .bool), .nat],(kp [1,2,5,17,18] [(19, .AH 1 301)]),[(1, .Ah 230 [(257, .v 0 (.ar 257 .bool))]),(0, .c 0)],2⟩),(7,⟨[.Ae (.ar 257 .bool), .nat],(kp [1,2,5,17,18,19,38,39] [(40, .AH 1 701)]),[(1, .Ah 230 [(257, .v 0 (.ar 257 .bool))]),(0, .c 0)],3⟩),(13,⟨[.Ae (.ar 257 .bool), .nat],(kp [1,2,5,55,56] [(57, .AH 1 1301)]),[(1, .Ah 230 [(257, .v 0 (.ar 257 .bool))]),(0, .c 0)],2⟩),(21,⟨[.Ae Pg, .Ae Aj],[(5, .Ak),(13, .AG 2),(92, .v 1 Aj)],[(1, .c 0),(2, .row 5 0)],3⟩)]) (pt:=lg [(20,[.own 13 5 NC]),(26,[.fz 4])])
def zL(fu:Nat):BK×List Int×Int->Option (List Int)|(x0,x1,x2)=>Af (List.length x1<=Ag)<|Ad fu (λ(z1:List Int×Nat) nx2=>bif decide ((z1.2:Int)<((List.replicate (List.length x1) (0:Int)).length:Int))then Ab (idx z1.1 z1.2) λr3=>nx2 ((z1.1.set z1.2 (Int.negSucc (0))),z1.2+1)else Ad fu (λ(z4:List Int×Nat) nx5=>bif decide ((z4.2:Int)<x0.2.length)then Ab (idx x0.2 z4.2) λr6=>Ab (idx x1 z4.2) λr7=>bif decide (r7<0)then nx5 (z4.1,z4.2+1)else Ab (idx x1 z4.2) λr8=>Ab (idx r6.1 r8) λr9=>Ad fu (λ(z10:List Int×Nat) nx11=>bif decide ((z10.2:Int)<r9.2.length)then Ab (idx r9.2 z10.2) λr12=>bif decide (r12.1<=x2)then bif decide (x2<=r12.2.1)then Ab (idx z10.1 z4.2) λr13=>nx11 ((z10.1.set z4.2 r12.2.2),z10.2+1)else nx11 (z10.1,z10.2+1)else nx11 (z10.1,z10.2+1)else nx5 ((z10.1,z4.2+1))) ((z4.1,0))else Ad fu (λ(z14:List Int×Nat) nx15=>bif decide ((z14.2:Int)<x0.1.length)then Ab (idx x0.1 z14.2) λr16=>Aa .i64 ((x0.2.length:Int)+(z14.2:Int))<|Ab (idx x1 ((x0.2.length:Int)+(z14.2:Int))) λr17=>bif decide ((0:Int)<=r17)then bif decide (r17<(r16.1.length:Int))then Ab (ER r16.1 r17) λr18=>bif decide (r18=x2)then Aa .i64 (r17+1)<|Ab (idx z14.1 ((x0.2.length:Int)+(z14.2:Int))) λr19=>nx15 ((z14.1.set (Int.toNat ((x0.2.length:Int)+(z14.2:Int))) ((r17+1))),z14.2+1)else nx15 (z14.1,z14.2+1)else nx15 (z14.1,z14.2+1)else nx15 (z14.1,z14.2+1)else Ac z14.1) ((z4.1,0))) ((z1.1,0))) (((List.replicate (List.length x1) (0:Int)),0))
def B59:=bQ [] Tryz.func273 [Cp,Fx,NC] [Fx] zL (la:=lk [(3,⟨[.Ae DZ, .nat],(kp [1,2,3,7,21] [(22, .AH 1 301)]),[(1, .row 3 0),(0, .c 0)],2⟩),(8,⟨[.Ae DZ, .nat],(kp [1,2,3,7,30,31] [(32, .AH 1 801)]),[(1, .row 3 0),(0, .c 0)],2⟩),(12,⟨[.Ae DZ, .nat],(kp [1,2,3,7,9,30,31,32,51,52] [(53, .AH 1 1201)]),[(1, .row 3 0),(0, .c 0)],3⟩),(19,⟨[.Ae DZ, .nat],(kp [1,2,3,7,75,76] [(77, .AH 1 1901)]),[(1, .row 3 0),(0, .c 0)],2⟩)]) (pt:=lg [(26,[.fz 6])])
def zK(fu:Nat)(x0:BK):Option Bool:=Ad fu (λ(z1:Nat) nx2=>bif decide ((z1:Int)<x0.2.length)then Ab (idx x0.2 z1) λr3=>bif decide ((r3.1.length:Int)=0)then Ac Ap else Ab (um fu r3.1) λr4=>bif !r4 then Ac Ap else nx2 (z1+1)else Aa .i64 ((x0.2.length:Int)+(x0.1.length:Int))<|Af ((0:Int)<=x0.2.length+(x0.1.length:Int))<|Af (Int.toNat ((x0.2.length:Int)+(x0.1.length:Int))<=Ag)<|Ab (idx [(List.replicate (Int.toNat ((x0.2.length:Int)+(x0.1.length:Int))) (0:Int))] (0:Int)) λr5=>Ab (uk fu r5) λr6=>Af (List.length r6<=1099511627776/\0<=1099511627776)<|Ad fu (λ(z7:List (Au×Bool)×List (List Int)) nx8=>bif decide ((0:Int)<z7.2.length)then Aa .i64 ((z7.2.length:Int)-1)<|Ab (idx z7.2 ((z7.2.length:Int)-1)) λr9=>Aa .i64 ((z7.2.length:Int)-1)<|Af ((0:Int)<=z7.2.length-1/\(z7.2.length:Int)-1<=z7.2.length)<|Ab (zN fu (x0,r9)) λr10=>bif decide (r10≠1)then Ac Ap else Ab (zM fu (x0,r9)) λr11=>Ad fu (λ(z12:List (Au×Bool)×List (List Int)×Nat) nx13=>bif decide ((z12.2.2:Int)<r11.length)then Ab (idx r11 z12.2.2) λr14=>Ab (zL fu (x0,r9,r14)) λr15=>Ab (uk fu r15) λr16=>Af (List.length r16<=1099511627776)<|bif !Option.getD (AA z12.1 r16) Ap then Af (List.length r16<=1099511627776/\List.length z12.1<=1099511627776)<|Af (List.length z12.2.1+1<=Ag)<|nx13 (Bs z12.1 r16 Br,(z12.2.1++[r15]),z12.2.2+1)else nx13 (z12.1,z12.2.1,z12.2.2+1)else nx8 ((z12.1,z12.2.1))) ((z7.1,(List.take (Int.toNat ((z7.2.length:Int)-1)) z7.2),0))else Ac Br) ((Bs [] r6 Br,[(List.replicate (Int.toNat ((x0.2.length:Int)+(x0.1.length:Int))) (0:Int))]))) (0)
def B60:=bQ [B54,B56,B57,B58,B59] Tryz.func202 [Cp] [.bool] zK (la:=lk [(2,⟨[.nat],(kp [1,13,14] [(15, .AH 0 200)]),[(0, .c 0)],1⟩),(9,⟨[.Ae (.sl y20), .Ae J6],[(1, .Ak),(5, .AG 2),(6, .Ak)],[(3, .map 9 0),(2, .row 283 1),(0, .c 0)],4⟩),(15,⟨[.Ae (.sl y20), .Ae J6, .nat],[(1, .Ak),(5, .AG 4),(6, .Ak),(7, .Ak),(66, .Ak),(67, .Ak),(68, .AH 2 1502)],[(3, .map 9 0),(4, .row 283 1),(0, .c 0)],5⟩)])
def R61(fu:Nat):=sQ (bs [] fu) fu Tryz.func222 [(.int .u64)] [Aj]
def B61(fu:Nat):=EL (R61 fu)
abbrev Dn(fu:Nat)(x:(Int)):Option Int:=(R61 fu).1 x
def rW(fu:Nat)(x0:Int):Option Int:=Ab (Dn fu x0) λr1=>Ac r1
def B62:=bQ [B61] Tryz.func166 [(.int .u64)] [Aj] rW
def zJ(fu:Nat)(x0:Int):Option Bool:=Ac (decide (x0≠x0))
def B63:=bQ [] Tryz.func335 [Aj] [.bool] zJ
def zI(fu:Nat):Int×Int->Option Int|(x0,x1)=>Ab (zJ fu x0) λr1=>Ab (zJ fu x1) λr2=>bif r1 then bif r2 then Ac 0 else Ac ((-1:Int))else bif r2 then Ac 1 else bif decide (x0<x1)then Ac ((-1:Int))else bif decide (x1<x0)then Ac 1 else Ac 0
def B64:=bQ [B63] Tryz.func316 [Aj,Aj] [Aj] zI
def zH(fu:Nat):(Int×Int)×Int×Int->Option Int|(x0,x1)=>Ab (zI fu (x0.1,x1.1)) λr1=>Ac r1
def B65:=bQ [B64] Tryz.func315 [Ea,Ea] [Aj] zH
def D69(fu:Nat)(x0 x1:Int)(x2:List (Int×Int)):=IH (λx y=>zH fu (x,y)) fu x0 x1 x2
abbrev zG fu:=u3 (D69 fu)
theorem d69(fu x0 x1 x2):zG fu (x0,x1,x2)=D69 fu x0 x1 x2:=rfl
def B66:=bP [B65] Tryz.func342 ⟨[.Ae Aj, .Ae Aj, .Ae BE],[(0, .AG 0),(1, .v 0 Aj),(2, .v 1 Aj),(3, .AK 315 [] [])],[(0, .row 63 2)],1⟩ ⟨[.Ae BE],[],[(0, .row 63 0)],1⟩ 0 [] zG (la:=lk [(1,⟨[.Ae BE, .Ae Aj],(kp [0,1,2,3] [(8, .v 1 Aj)]),[(0, .row 63 0)],1⟩),(4,⟨[.Ae BE, .Ae Aj],(kp [0,1,2,3,8] [(9, .v 1 Aj)]),[(0, .row 63 0)],1⟩)])
def F70(fu:Nat):Int×Int×Int×List (Int×Int)->Option (List (Int×Int))|(x0,x1,x2,x3)=>Ad fu (λ(z1:PUnit) nx2=>Aa .i64 (x1-x0)<|bif decide (x1-x0<=12)then Ab (zG fu (x0,x1,x3)) λr3=>Ac r3 else bif decide (x2=0)then C7 else C7) (())
def B67:=bP [B66] Tryz.func334 ⟨[.Ae Aj, .Ae Aj, .Ae Aj, .Ae BE],[(0, .AG 0),(1, .v 0 Aj),(2, .v 1 Aj),(3, .v 2 Aj),(4, .AK 315 [] [])],[(0, .row 63 3)],1⟩ ⟨[.Ae BE],[],[(0, .row 63 0)],1⟩ 0 [] F70 (la:=lk [(2,⟨[],(kp [0,1,2,3,4,10,11] []),[(0, .c 0)],1⟩)])
def wO(fu:Nat)(x0:List (Int×Int)):Option (List (Int×Int)):=Ab (rW fu (Int.ofNat (List.length x0 %Int.natAbs (18446744073709551616:Int)))) λr1=>Ab (F70 fu (0,(x0.length:Int),r1,x0)) λr2=>Ac r2
def B68:=bP [B62,B67] Tryz.func314 ⟨[.Ae BE],[(0, .AG 0),(1, .AK 315 [] [])],[(0, .row 63 0)],1⟩ ⟨[.Ae BE],[],[(0, .row 63 0)],1⟩ 0 [] wO
def nD(fu:Nat)(x0:Int):Option Int:=Aa .i64 (x0+1)<|some ((x0+1))
def B69:=bQ [] Tryz.func267 [Aj] [Aj] nD
def zF(fu:Nat)(x0:List (Int×Int)):Option (List (Int×Int)):=Af (List.length x0<=Ag)<|Af (min (List.length x0) (List.length (List.replicate (List.length x0) ((0:Int),(0:Int))))<=1099511627776)<|Ab (wO fu (((List.take (min (List.length x0) (List.length (List.replicate (List.length x0) ((0:Int),(0:Int))))) x0)++(List.drop (min (List.length x0) (List.length (List.replicate (List.length x0) ((0:Int),(0:Int))))) (List.replicate (List.length x0) ((0:Int),(0:Int))))))) λr1=>Ad fu (λ(z2:List (Int×Int)×Nat) nx3=>bif decide ((z2.2:Int)<r1.length)then Ab (idx r1 z2.2) λr4=>bif decide ((0:Int)<z2.1.length)then Aa .i64 ((z2.1.length:Int)-1)<|Ab (idx z2.1 ((z2.1.length:Int)-1)) λr5=>Ab (nD fu r5.2) λr6=>bif decide (r4.1<=r6)then Aa .i64 ((z2.1.length:Int)-1)<|Aa .i64 ((z2.1.length:Int)-1)<|Ab (idx z2.1 ((z2.1.length:Int)-1)) λr7=>Aa .i64 (if r4.2>r7.2 then r4.2 else r7.2)<|Ab (idx z2.1 ((z2.1.length:Int)-1)) λr8=>nx3 ((z2.1.set (Int.toNat ((z2.1.length:Int)-1)) (r8.1,(if r7.2<r4.2 then r4.2 else r7.2))),z2.2+1)else Af (List.length z2.1+1<=Ag)<|nx3 ((z2.1++[r4]),z2.2+1)else Af (List.length z2.1+1<=Ag)<|nx3 ((z2.1++[r4]),z2.2+1)else Ac z2.1) (([],0))
def B70:=bP [B69,B68] Tryz.func266 ⟨[.Ae BE],[(0, .v 0 BE),(1, .AK 267 [] [])],[],0⟩ ⟨[.Ae BE],[(0, .v 0 BE)],[],0⟩ 1 [] zF (la:=lk [(6,⟨[.Ae BE, .nat],[(1, .Ak),(6, .AG 1),(18, .Ak),(19, .Ak),(20, .AH 1 601)],[(0, .c 0),(1, .row 63 0)],2⟩)]) (pt:=lg [(5,[.own 6 63 Ea]),(13,[.fz 4])])
def nC(fu:Nat)(x0:Int):Option Int:=Aa .i64 (x0+1)<|Af ((10000:Int)≠0)<|Aa .i64 (Int.tmod (x0+1) (10000:Int))<|bif decide (Int.tmod (x0+1) (10000:Int)=0)then Aa .i64 (x0+2)<|some ((x0+2))else Aa .i64 (x0+1)<|some ((x0+1))
def B71:=bQ [] Tryz.func268 [Aj] [Aj] nC
def zE(fu:Nat)(x0:List (Int×Int)):Option (List (Int×Int)):=Af (List.length x0<=Ag)<|Af (min (List.length x0) (List.length (List.replicate (List.length x0) ((0:Int),(0:Int))))<=1099511627776)<|Ab (wO fu (((List.take (min (List.length x0) (List.length (List.replicate (List.length x0) ((0:Int),(0:Int))))) x0)++(List.drop (min (List.length x0) (List.length (List.replicate (List.length x0) ((0:Int),(0:Int))))) (List.replicate (List.length x0) ((0:Int),(0:Int))))))) λr1=>Ad fu (λ(z2:List (Int×Int)×Nat) nx3=>bif decide ((z2.2:Int)<r1.length)then Ab (idx r1 z2.2) λr4=>bif decide ((0:Int)<z2.1.length)then Aa .i64 ((z2.1.length:Int)-1)<|Ab (idx z2.1 ((z2.1.length:Int)-1)) λr5=>Ab (nC fu r5.2) λr6=>bif decide (r4.1<=r6)then Aa .i64 ((z2.1.length:Int)-1)<|Aa .i64 ((z2.1.length:Int)-1)<|Ab (idx z2.1 ((z2.1.length:Int)-1)) λr7=>Aa .i64 (if r4.2>r7.2 then r4.2 else r7.2)<|Ab (idx z2.1 ((z2.1.length:Int)-1)) λr8=>nx3 ((z2.1.set (Int.toNat ((z2.1.length:Int)-1)) (r8.1,(if r7.2<r4.2 then r4.2 else r7.2))),z2.2+1)else Af (List.length z2.1+1<=Ag)<|nx3 ((z2.1++[r4]),z2.2+1)else Af (List.length z2.1+1<=Ag)<|nx3 ((z2.1++[r4]),z2.2+1)else Ac z2.1) (([],0))
def B72:=bP [B71,B68] Tryz.func266 ⟨[.Ae BE],[(0, .v 0 BE),(1, .AK 268 [] [])],[],0⟩ ⟨[.Ae BE],[(0, .v 0 BE)],[],0⟩ 1 [] zE (la:=lk [(6,⟨[.Ae BE, .nat],[(1, .Ak),(6, .AG 1),(18, .Ak),(19, .Ak),(20, .AH 1 601)],[(0, .c 0),(1, .row 63 0)],2⟩)]) (pt:=lg [(5,[.own 6 63 Ea]),(13,[.fz 4])])
def UA(fu:Nat)(x0:Ba):Option Ba:=Ad fu (λ(z1:List (Int×Int)×Nat) nx2=>bif decide ((z1.2:Int)<x0.1.length)then Ab (idx x0.1 z1.2) λr3=>Aa .i64 (if(-100000000000:Int)>r3.1 then(-100000000000:Int)else r3.1)<|Aa .i64 (if(100000000000:Int)<r3.2 then(100000000000:Int)else r3.2)<|bif decide ((if r3.1<(-100000000000:Int)then(-100000000000:Int)else r3.1)<=(if(100000000000:Int)<r3.2 then(100000000000:Int)else r3.2))then Af (List.length z1.1+1<=Ag)<|nx2 ((z1.1++[((if r3.1<(-100000000000:Int)then(-100000000000:Int)else r3.1),(if(100000000000:Int)<r3.2 then(100000000000:Int)else r3.2))]),z1.2+1)else nx2 (z1.1,z1.2+1)else Ad fu (λ(z4:List (Int×Int)×Nat) nx5=>bif decide ((z4.2:Int)<x0.2.length)then Ab (idx x0.2 z4.2) λr6=>Aa .i64 (if(-1000000000000000:Int)>r6.1 then(-1000000000000000:Int)else r6.1)<|Aa .i64 (if(1000000000000000:Int)<r6.2 then(1000000000000000:Int)else r6.2)<|Af ((10000:Int)≠0)<|Aa .i64 (Int.tmod ((if r6.1<(-1000000000000000:Int)then(-1000000000000000:Int)else r6.1)) (10000:Int))<|bif decide (Int.tmod ((if r6.1<(-1000000000000000:Int)then(-1000000000000000:Int)else r6.1)) (10000:Int)=0)then Aa .i64 ((if r6.1<(-1000000000000000:Int)then(-1000000000000000:Int)else r6.1)+1)<|Af ((10000:Int)≠0)<|Aa .i64 (Int.tmod ((if(1000000000000000:Int)<r6.2 then(1000000000000000:Int)else r6.2)) (10000:Int))<|bif decide (Int.tmod ((if(1000000000000000:Int)<r6.2 then(1000000000000000:Int)else r6.2)) (10000:Int)=0)then Aa .i64 ((if(1000000000000000:Int)<r6.2 then(1000000000000000:Int)else r6.2)-1)<|bif decide ((((if r6.1<(-1000000000000000:Int)then(-1000000000000000:Int)else r6.1))+1)<=(((if(1000000000000000:Int)<r6.2 then(1000000000000000:Int)else r6.2))-1))then Af (List.length z4.1+1<=Ag)<|nx5 ((z4.1++[((((if r6.1<(-1000000000000000:Int)then(-1000000000000000:Int)else r6.1))+1),(((if(1000000000000000:Int)<r6.2 then(1000000000000000:Int)else r6.2))-1))]),z4.2+1)else nx5 (z4.1,z4.2+1)else bif decide ((((if r6.1<(-1000000000000000:Int)then(-1000000000000000:Int)else r6.1))+1)<=(if(1000000000000000:Int)<r6.2 then(1000000000000000:Int)else r6.2))then Af (List.length z4.1+1<=Ag)<|nx5 ((z4.1++[((((if r6.1<(-1000000000000000:Int)then(-1000000000000000:Int)else r6.1))+1),(if(1000000000000000:Int)<r6.2 then(1000000000000000:Int)else r6.2))]),z4.2+1)else nx5 (z4.1,z4.2+1)else Af ((10000:Int)≠0)<|Aa .i64 (Int.tmod ((if(1000000000000000:Int)<r6.2 then(1000000000000000:Int)else r6.2)) (10000:Int))<|bif decide (Int.tmod ((if(1000000000000000:Int)<r6.2 then(1000000000000000:Int)else r6.2)) (10000:Int)=0)then Aa .i64 ((if(1000000000000000:Int)<r6.2 then(1000000000000000:Int)else r6.2)-1)<|bif decide ((if r6.1<(-1000000000000000:Int)then(-1000000000000000:Int)else r6.1)<=(((if(1000000000000000:Int)<r6.2 then(1000000000000000:Int)else r6.2))-1))then Af (List.length z4.1+1<=Ag)<|nx5 ((z4.1++[((if r6.1<(-1000000000000000:Int)then(-1000000000000000:Int)else r6.1),(((if(1000000000000000:Int)<r6.2 then(1000000000000000:Int)else r6.2))-1))]),z4.2+1)else nx5 (z4.1,z4.2+1)else bif decide ((if r6.1<(-1000000000000000:Int)then(-1000000000000000:Int)else r6.1)<=(if(1000000000000000:Int)<r6.2 then(1000000000000000:Int)else r6.2))then Af (List.length z4.1+1<=Ag)<|nx5 ((z4.1++[((if r6.1<(-1000000000000000:Int)then(-1000000000000000:Int)else r6.1),(if(1000000000000000:Int)<r6.2 then(1000000000000000:Int)else r6.2))]),z4.2+1)else nx5 (z4.1,z4.2+1)else Ab (zF fu z1.1) λr7=>Ab (zE fu z4.1) λr8=>Ac ((r7,r8))) (([],0))) (([],0))
def x5:=bQ [B70,B72] Tryz.func196 [EU] [EU] UA (la:=lk [(3,⟨[.Ae BE, .nat],(kp [1,2] [(3, .AG 2),(4, .Ak),(10, .Ak),(11, .Ak),(12, .AH 1 301)]),[(1, .c 0),(0, .c 0),(2, .row 63 0)],3⟩),(10,⟨[.Ae BE, .nat],(kp [2,3] [(4, .AG 3),(34, .Ak),(35, .Ak),(36, .AH 1 1001)]),[(2, .c 0),(1, .c 0),(3, .row 63 0)],4⟩)]) (pr:=lg [(20,[.fz 3, .fz 4])]) (pt:=lg [(2,[.own 3 63 Ea]),(9,[.own 4 63 Ea])])
def nB(fu:Nat):(List (Int×Int))×List (Int×Int)->Option Bool|(x0,x1)=>bif decide ((x0.length:Int)≠x1.length)then Ac Ap else Ad fu (λ(z1:Nat) nx2=>bif decide ((z1:Int)<x0.length)then Ab (idx x0 z1) λr3=>Ab (idx x1 z1) λr4=>bif !decide (r3.1::[r3.2]=r4.1::[r4.2])then Ac Ap else nx2 (z1+1)else Ac Br) (0)
def B74:=bQ [] Tryz.func95 [BE,BE] [.bool] nB (la:=lk [(4,⟨[.nat],(kp [0,1,12] [(13, .AH 0 400)]),[],0⟩)])
def zD(fu:Nat):Ba×Ba->Option Bool|(x0,x1)=>Ab (nB fu (x0.1,x1.1)) λr1=>bif r1 then Ab (nB fu (x0.2,x1.2)) λr2=>Ac r2 else Ac Ap
def B75:=bQ [B74] Tryz.func305 [EU,EU] [.bool] zD
def zC(fu:Nat)(x0:Ba):Option Bool:=Ab (UA fu x0) λr1=>Ab (zD fu (x0,r1)) λr2=>Ac r2
def B76:=bQ [x5,B75] Tryz.func253 [EU] [.bool] zC
def Ys(fu:Nat)(x0:HD):Option Bool:=Ab (zC fu x0.2.2.2.1) λr1=>bif r1 then Ab (um fu x0.2.2.2.2) λr2=>Ac r2 else Ac Ap
def B77:=bQ [B54,B76] Tryz.func176 [y8] [.bool] Ys
def wN(fu:Nat)(x0:Vl):Option Bool:=bif Vl.any x0 then Ab (wR fu (Vl.sc x0)) λr1=>bif r1 then Aa .i64 (((Vl.lists x0).length:Int)+((Vl.structs x0).length:Int))<|some (decide ((((Vl.lists x0).length:Int)+((Vl.structs x0).length:Int))=0))else Ac Ap else Ad fu (λ(z2:Nat) nx3=>bif decide ((z2:Int)<(Vl.lists x0).length)then Ab (idx (Vl.lists x0) (z2:Int)) λr4=>bif decide ((1:Int)<r4.2.length)then Ac Ap else nx3 (z2+1)else Ad fu (λ(z5:Nat) nx6=>bif decide ((z5:Int)<(Vl.structs x0).length)then Ab (idx (Vl.structs x0) (z5:Int)) λr7=>Ab (zX fu r7.1) λr8=>bif !r8 then Ac Ap else Ab (zK fu r7) λr9=>bif !r9 then Ac Ap else nx6 (z5+1)else Ab (Ys fu (Vl.sc x0)) λr10=>Ac r10) (0)) (0)
def B78:=bQ [B35,B77,B36,B60] Tryz.func156 [BP] [.bool] wN (la:=lk [(4,⟨[.nat],(kp [1,23,24] [(25, .AH 0 400)]),[(0, .c 0)],1⟩),(10,⟨[.nat],(kp [1,35,36] [(37, .AH 0 1000)]),[(0, .c 0)],1⟩)])
def zB(fu:Nat)(x0:Int):Option (List AF):=bif decide (x0<0)then C7 else Aa .i64 ((↑0:Int)-(↑0:Int))<|Aa .i64 (x0-((↑0:Int)-(↑0:Int)))<|bif decide ((0:Int)<x0-((↑0:Int)-(↑0:Int)))then Af ((0:Int)<=x0-((↑0:Int)-(↑0:Int)))<|fC (Int.toNat (x0-((↑0:Int)-(↑0:Int)))) (C7) λn1=>Af (n1+1<=4294967296)<|Af ((0:Int)<= ↑0/\(↑0:Int)<=((List.replicate (n1+1) (Vl.mk Ap (Ap,Ap,Ap,([],[]),[]) [] [],Vl.mk Ap (Ap,Ap,Ap,([],[]),[]) [] [])).length:Int))<|some []else Ac []
def B79:=bP [] Tryz.func154 ⟨[.Ae Aj],[(0, .nl),(1, .v 0 Aj)],[],0⟩ ⟨[.Ae Df],[(0, .AG 0)],[(0, .row 35 0)],1⟩ 1 [] zB (pt:=lg [(6,[.own 4 35 BH])])
def wM(fu:Nat)(x0:List (List AF)):Option (List AF):=Ad fu (λ(z1:Int×Nat) nx2=>bif decide ((z1.2:Int)<x0.length)then Ab (idx x0 z1.2) λr3=>Aa .i64 (z1.1+(r3.length:Int))<|bif decide (z1.1+(r3.length:Int)<0)then C7 else nx2 ((z1.1+(r3.length:Int)),z1.2+1)else Ab (zB fu z1.1) λr4=>Ad fu (λ(z5:List AF×Nat) nx6=>bif decide ((z5.2:Int)<x0.length)then Ab (idx x0 z5.2) λr7=>Af (List.length z5.1+List.length r7<=4294967296)<|nx6 ((z5.1++r7),z5.2+1)else Ac z5.1) ((r4,0))) ((0,0))
def B80:=bQ [B79] Tryz.func97 [y21] [Df] wM (la:=lk [(3,⟨[.Ae Aj, .nat],[(0, .Ak),(3, .v 0 Aj),(9, .Ak),(10, .Ak),(11, .AH 1 301)],[],0⟩),(11,⟨[.Ae Df, .nat],[(6, .AG 0),(25, .Ak),(26, .Ak),(27, .AH 1 1101)],[(0, .row 35 0)],1⟩)]) (pt:=lg [(15,[.fz 2])])
def cO(fu:Nat)(x0:Cb):Option (List AF):=Ab (wM fu [x0.1,x0.2]) λr1=>Ac r1
def B81:=bQ [B80] Tryz.func59 [Cs] [Df] cO
def wL(fu:Nat)(x0:BK):Option (List AF):=Ad fu (λ(z1:List AF×Nat) nx2=>bif decide ((z1.2:Int)<x0.1.length)then Ab (idx x0.1 z1.2) λr3=>Af (List.length z1.1+1<=4294967296)<|nx2 ((z1.1++[r3.2.2]),z1.2+1)else Ad fu (λ(z4:List AF×Nat) nx5=>bif decide ((z4.2:Int)<x0.2.length)then Ab (idx x0.2 z4.2) λr6=>Af (List.length z4.1+1<=4294967296)<|nx5 ((z4.1++[r6.2]),z4.2+1)else Ac z4.1) ((z1.1,0))) (([],0))
def B82:=bQ [] Tryz.func203 [Cp] [Df] wL (la:=lk [(3,⟨[.Ae Df, .nat],[(1, .Ak),(3, .AG 1),(9, .Ak),(10, .Ak),(11, .AH 1 301)],[(0, .c 0),(1, .row 35 0)],2⟩),(8,⟨[.Ae Df, .nat],[(3, .AG 1),(22, .Ak),(23, .Ak),(24, .AH 1 801)],[(1, .row 35 0)],2⟩)]) (pt:=lg [(2,[.own 3 35 BH]),(12,[.fz 2])])
def wK(fu:Nat)(x0:Vl):Option (List AF):=Ad fu (λ(z1:List AF×Nat) nx2=>bif decide ((z1.2:Int)<(Vl.lists x0).length)then Ab (idx (Vl.lists x0) (z1.2:Int)) λr3=>Ab (cO fu r3) λr4=>Af (List.length z1.1+List.length r4<=4294967296)<|nx2 ((z1.1++r4),z1.2+1)else Ad fu (λ(z5:List AF×Nat) nx6=>bif decide ((z5.2:Int)<(Vl.structs x0).length)then Ab (idx (Vl.structs x0) (z5.2:Int)) λr7=>Ab (wL fu r7) λr8=>Af (List.length z5.1+List.length r8<=4294967296)<|nx6 ((z5.1++r8),z5.2+1)else Ac z5.1) ((z1.1,0))) (([],0))
def B83:=bQ [B81,B82] Tryz.func157 [BP] [Df] wK (la:=lk [(3,⟨[.Ae Df, .nat],[(1, .Ak),(3, .AG 1),(9, .Ak),(10, .Ak),(11, .AH 1 301)],[(0, .c 0),(1, .row 35 0)],2⟩),(8,⟨[.Ae Df, .nat],[(3, .AG 1),(21, .Ak),(22, .Ak),(23, .AH 1 801)],[(1, .row 35 0)],2⟩)]) (pt:=lg [(2,[.own 3 35 BH]),(12,[.fz 2])])
def zA(fu:Nat):Int×Int×Int×Bool->Option (Int×Int×Bool)|(x0,x1,x2,x3)=>Aa .i64 (x1+1)<|Aa .i64 (if x0>x2 then x0 else x2)<|some (((x1+1),(if x2<x0 then x0 else x2),x3))
def B84:=bP [] Tryz.func155 ⟨[.Ae Aj, .Ae Aj, .Ae Aj, .Ae .bool],[(0, .loc 0 0),(1, .v 0 Aj)],[(0, .Ah 119 [(1, .v 1 Aj),(1, .v 2 Aj),(1, .v 3 .bool)])],1⟩ ⟨[.Ae Aj, .Ae Aj, .Ae .bool],[],[(0, .Ah 119 [(1, .v 0 Aj),(1, .v 1 Aj),(1, .v 2 .bool)])],1⟩ 0 [] zA
def uW:A9:=⟨[.Ae BP, .Ae Aj, .Ae Aj, .Ae Aj, .Ae .bool],[(0, .loc 0 0),(1, .v 0 BP),(2, .v 1 Aj)],[(0, .Ah 119 [(1, .v 2 Aj),(1, .v 3 Aj),(1, .v 4 .bool)])],1⟩
def uS:A9:=⟨[.Ae Aj, .Ae Aj, .Ae .bool],[],[(0, .Ah 119 [(1, .v 0 Aj),(1, .v 1 Aj),(1, .v 2 .bool)])],1⟩
abbrev wH:Type:=HF 102 uW uS 0 []
def G85(n:Nat):wH:=Nat.rec (motive:=λ_=>wH) (tP Tryz.func102) (λfu g0=>sP (C4 g0::bs [B84,B78,B83] fu) fu Tryz.func102 uW uS 0 [] (la:=lk [(5,⟨[.Ae Aj, .Ae Aj, .Ae .bool, .nat],(kp [0,2,24,25] [(26, .AH 3 503)]),[(0, .Ah 119 [(1, .v 0 Aj),(1, .v 1 Aj),(1, .v 2 .bool)])],2⟩)])) n
def B85(fu:Nat):=C4 (G85 fu)
abbrev rV(fu:Nat)(x:(Vl)×(Int)×(Int)×(Int)×(Bool)):Option (Int×Int×Bool):=(G85 fu).1 x
def D88(fu:Nat)(x0:Vl)(x1:Int)(x2:Int)(x3:Int)(x4:Bool):Option (Int×Int×Bool):=Ab (zA fu (x1,x2,x3,x4)) λr1=>bif decide ((16:Int)<x1)then Ac ((r1.1,r1.2.1,Br))else Ab (wN fu x0) λr2=>bif !r2 then Ac ((r1.1,r1.2.1,Br))else Ab (wK fu x0) λr3=>Ad fu (λ(z4:Int×Int×Bool×Nat) nx5=>bif decide ((z4.2.2.2:Int)<r3.length)then Ab (idx r3 z4.2.2.2) λr6=>Aa .i64 (x1+1)<|Ab (rV fu (r6.1,(x1+1),z4.1,z4.2.1,z4.2.2.1)) λr7=>Aa .i64 (x1+1)<|Ab (rV fu (r6.2,(x1+1),r7.1,r7.2.1,r7.2.2)) λr8=>nx5 (r8.1,r8.2.1,r8.2.2,z4.2.2.2+1)else Ac ((z4.1,z4.2.1,z4.2.2.1))) ((r1.1,r1.2.1,r1.2.2,0))
theorem d88(fu x0 x1 x2 x3 x4):rV (fu+1) (x0,x1,x2,x3,x4)=D88 fu x0 x1 x2 x3 x4:=by kernel_rfl
def zy(fu:Nat):Vl×Int×(Int×Int)×Bool->Option (Int×Int×Bool)|(x0,x1,x2)=>Ab (zY fu (x1,x2)) λr1=>bif decide ((16:Int)<x1)then Ac ((r1.1,r1.2.1,Br))else Ab (wN fu x0) λr2=>bif !r2 then Ac ((r1.1,r1.2.1,Br))else Ab (wK fu x0) λr3=>Ad fu (λ(z4:Int×Int×Bool×Nat) nx5=>bif decide ((z4.2.2.2:Int)<r3.length)then Ab (idx r3 z4.2.2.2) λr6=>Aa .i64 (x1+1)<|Ab (rV fu (r6.1,(x1+1),z4.1,z4.2.1,z4.2.2.1)) λr7=>Aa .i64 (x1+1)<|Ab (rV fu (r6.2,(x1+1),r7.1,r7.2.1,r7.2.2)) λr8=>nx5 (r8.1,r8.2.1,r8.2.2,z4.2.2.2+1)else Ac ((z4.1,z4.2.1,z4.2.2.1))) ((r1.1,r1.2.1,r1.2.2,0))
def B86:=bP [B85,B34,B78,B83] Tryz.func102 ⟨[.Ae BP, .Ae Aj, .Ae (.st yz)],[(0, .loc 0 0),(1, .v 0 BP),(2, .v 1 Aj)],[(0, .Ah 119 [(3, .v 2 (.st yz))])],1⟩ ⟨[.Ae Aj, .Ae Aj, .Ae .bool],[],[(0, .Ah 119 [(1, .v 0 Aj),(1, .v 1 Aj),(1, .v 2 .bool)])],1⟩ 0 [] zy (la:=lk [(5,⟨[.Ae Aj, .Ae Aj, .Ae .bool, .nat],(kp [0,2,24,25] [(26, .AH 3 503)]),[(0, .Ah 119 [(1, .v 0 Aj),(1, .v 1 Aj),(1, .v 2 .bool)])],2⟩)])
def zx(fu:Nat)(x0:Vl):Option (Int×Int×Bool):=Ab (zy fu (x0,1,(0,0),Ap)) λr1=>Ac ((r1.1,r1.2.1,r1.2.2))
def B87:=bP [B86] Tryz.func61 ⟨[.Ae BP],[(0, .v 0 BP)],[],0⟩ ⟨[.Ae Aj, .Ae Aj, .Ae .bool],[(0, .loc 0 0)],[(0, .Ah 119 [(1, .v 0 Aj),(1, .v 1 Aj),(1, .v 2 .bool)])],1⟩ 1 [] zx
def rU(fu:Nat)(x0:Vl):Option Bool:=Ab (zx fu x0) λr1=>Ac ((!r1.2.2))
def B88:=bQ [B87] Tryz.func44 [BP] [.bool] rU
def wJ(fu:Nat)(x0:AF):Option Bool:=Ab (rU fu x0.1) λr1=>bif r1 then Ab (rU fu x0.2) λr2=>Ac r2 else Ac Ap
def B89:=bQ [B88] Tryz.func30 [BH] [.bool] wJ
def iP(fu:Nat)(x0:HD):Option HD:=Ab (Ys fu x0) λr1=>bif !r1 then Ac ((Ap,Ap,Ap,([],[]),[]))else Ac x0
def B90:=bQ [B77] Tryz.func148 [y8] [y8] iP
def uj(fu:Nat):Bool×Bool->Option Bool|(x0,x1)=>bif x0 then Ac Br else Ac x1
def B91:=bQ [] Tryz.func159 [.bool, .bool] [.bool] uj
def zw(fu:Nat)(x0:Int):Option (List (Int×Int)):=bif decide (x0<0)then C7 else Aa .i64 ((↑0:Int)-(↑0:Int))<|Aa .i64 (x0-((↑0:Int)-(↑0:Int)))<|bif decide ((0:Int)<x0-((↑0:Int)-(↑0:Int)))then Af ((0:Int)<=x0-((↑0:Int)-(↑0:Int)))<|fC (Int.toNat (x0-((↑0:Int)-(↑0:Int)))) (C7) λn1=>Af (n1+1<=Ag)<|Af ((0:Int)<= ↑0/\(↑0:Int)<=((List.replicate (n1+1) ((0:Int),(0:Int))).length:Int))<|some []else Ac []
def B92:=bP [] Tryz.func274 ⟨[.Ae Aj],[(0, .nl),(1, .v 0 Aj)],[],0⟩ ⟨[.Ae BE],[(0, .AG 0)],[(0, .row 63 0)],1⟩ 1 [] zw (pt:=lg [(6,[.own 4 63 Ea])])
def rT(fu:Nat)(x0:List (List (Int×Int))):Option (List (Int×Int)):=Ad fu (λ(z1:Int×Nat) nx2=>bif decide ((z1.2:Int)<x0.length)then Ab (idx x0 z1.2) λr3=>Aa .i64 (z1.1+(r3.length:Int))<|bif decide (z1.1+(r3.length:Int)<0)then C7 else nx2 ((z1.1+(r3.length:Int)),z1.2+1)else Ab (zw fu z1.1) λr4=>Ad fu (λ(z5:List (Int×Int)×Nat) nx6=>bif decide ((z5.2:Int)<x0.length)then Ab (idx x0 z5.2) λr7=>Af (List.length z5.1+List.length r7<=Ag)<|nx6 ((z5.1++r7),z5.2+1)else Ac z5.1) ((r4,0))) ((0,0))
def B93:=bQ [B92] Tryz.func204 [y23] [BE] rT (la:=lk [(3,⟨[.Ae Aj, .nat],[(0, .Ak),(3, .v 0 Aj),(9, .Ak),(10, .Ak),(11, .AH 1 301)],[],0⟩),(11,⟨[.Ae BE, .nat],[(6, .AG 0),(25, .Ak),(26, .Ak),(27, .AH 1 1101)],[(0, .row 63 0)],1⟩)]) (pt:=lg [(15,[.fz 2])])
def zu(fu:Nat):Ba×Ba->Option Ba|(x0,x1)=>Ab (rT fu [x0.1,x1.1]) λr1=>Ab (rT fu [x0.2,x1.2]) λr2=>Ab (UA fu (r1,r2)) λr3=>Ac r3
def B94:=bQ [x5,B93] Tryz.func160 [EU,EU] [EU] zu
def Lt(fu:Nat)(x0:A4):Option A4:=Ab (um fu x0) λr1=>bif !r1 then Ac []else Ac x0
def tG:=bQ [B54] Tryz.func162 [y3] [y3] Lt
def R96(fu:Nat):=sP (bs [] fu) fu Tryz.func205 ⟨[.Ae J7],[(0, .v 0 J7)],[],0⟩ ⟨[.Ae J7],[(0, .AG 0)],[(0, .row 92 0)],1⟩ 1 [] (pt:=lg [(2,[.own 2 92 Pf])])
def B96(fu:Nat):=C4 (R96 fu)
abbrev zt(fu:Nat)(x:List (Int×Int×Int)):Option (List (Int×Int×Int)):=(R96 fu).1 x
theorem d99n(fu:Nat):zt fu []=Ac []:=by kernel_rfl
theorem d99c(fu:Nat)(x:Int×Int×Int)(l:List (Int×Int×Int)):zt fu (x::l)=Af (0+(x::l).length<=Ag) (Ac (x::l)):=by kernel_rfl
def UN(fu:Nat)(x0:A4):Option A4:=Ad fu (λ(z1:A4×Nat) nx2=>bif decide ((z1.2:Int)<x0.length)then Ab (idx x0 z1.2) λr3=>Ab (zt fu r3.2) λr4=>Af (List.length z1.1+1<=Ag)<|nx2 ((z1.1++[(r3.1,r4)]),z1.2+1)else Ac z1.1) (([],0))
def B97:=bQ [B96] Tryz.func161 [y3] [y3] UN (la:=lk [(3,⟨[.Ae I5, .nat],(kp [2,3,7,8] [(9, .AH 1 301)]),[(2, .Ah 27 [(1, .AG 3)]),(1, .c 0),(3, .row 95 0)],4⟩)]) (pt:=lg [(2,[.Ed 3 0 95 Lh]),(7,[.PZ 2 0])])
def Nv(fu:Nat):A4×Int->Option Bool|(x0,x1)=>bif decide ((0:Int)<=x1)then bif decide (x1<(x0.length:Int))then Ab (idx x0 x1) λr1=>Ac r1.1 else Ac Ap else Ac Ap
def B98:=bQ [] Tryz.func209 [y3,Aj] [.bool] Nv
def kA(fu:Nat):Bool×Bool->Option Bool|(x0,x1)=>bif x0 then Ac Br else Ac x1
def B99:=bQ [] Tryz.func164 [.bool, .bool] [.bool] kA
def Nu(fu:Nat):A4×Int×List Bool->Option (List Bool)|(x0,x1,x2)=>bif decide (x1<0)then Ac x2 else bif decide ((x0.length:Int)<=x1)then Ac x2 else Ab (idx x0 x1) λr1=>Ad fu (λ(z2:List Bool×Nat) nx3=>bif decide ((z2.2:Int)<r1.2.length)then Ab (idx r1.2 z2.2) λr4=>Af ((0:Int)<=r4.1/\r4.1<(↑256:Int))<|Af (0+Int.toNat r4.1*1<256)<|bif decide (r4.2.1<255)then Aa .u8 (r4.2.1+1)<|Af ((0:Int)<=r4.2.1+1/\r4.2.1+1< ↑256)<|Af (0+Int.toNat (r4.2.1+1)*1<256)<|nx3 (((List.set z2.1 (0+Int.toNat r4.1*1) Br).set (0+Int.toNat (r4.2.1+1)*1) Br),z2.2+1)else nx3 ((z2.1.set (0+Int.toNat r4.1*1) Br),z2.2+1)else Ac z2.1) ((x2,0))
def tS:=bP [] Tryz.func210 ⟨[.Ae y3, .Ae Aj, .Ae (.ar 256 .bool)],[(0, .v 0 y3),(1, .v 1 Aj),(2, .loc 0 0)],[(0, .Ah 242 [(256, .v 2 (.ar 256 .bool))])],1⟩ ⟨[.Ae (.ar 256 .bool)],[],[(0, .Ah 242 [(256, .v 0 (.ar 256 .bool))])],1⟩ 0 [] Nu (la:=lk [(3,⟨[.Ae (.ar 256 .bool), .nat],(kp [2,22,23] [(24, .AH 1 301)]),[(0, .Ah 242 [(256, .v 0 (.ar 256 .bool))])],2⟩)])
def Nt(fu:Nat):A4×Int×Int->Option Int|(x0,x1,x2)=>bif decide (x1<0)then Ac ((-1:Int))else bif decide ((x0.length:Int)<=x1)then Ac ((-1:Int))else Ab (idx x0 x1) λr1=>Ad fu (λ(z2:Nat) nx3=>bif decide ((z2:Int)<r1.2.length)then Ab (idx r1.2 z2) λr4=>bif decide (r4.1<=x2)then bif decide (x2<=r4.2.1)then Ac r4.2.2 else nx3 (z2+1)else nx3 (z2+1)else Ac ((-1:Int))) (0)
def tR:=bQ [] Tryz.func211 [y3,Aj,NC] [Aj] Nt (la:=lk [(4,⟨[.nat],(kp [2,23,24] [(25, .AH 0 400)]),[],1⟩)])
def kx(fu:Nat):(List (Int×Int))×Int×Int->Option Int|(x0,x1)=>Ad fu (λ(z1:Nat) nx2=>bif decide ((z1:Int)<x0.length)then Ab (idx x0 z1) λr3=>bif decide (x1.1::[x1.2]=r3.1::[r3.2])then Ac ((z1:Int))else nx2 (z1+1)else Ac ((-1:Int))) (0)
def B102:=bQ [] Tryz.func208 [BE,Ea] [Aj] kx (la:=lk [(2,⟨[.nat],(kp [0,3,7] [(8, .AH 0 200)]),[(0, .c 0)],1⟩)])
def UM(fu:Nat):(Int×Int)×List (Int×Int)->Option (Int×List (Int×Int))|(x0,x1)=>Ab (kx fu (x1,x0)) λr1=>bif decide (r1<0)then Af (List.length x1+1<=Ag)<|some (((x1.length:Int),(x1++[x0])))else Ac ((r1,x1))
def tO:=bP [B102] Tryz.func207 ⟨[.Ae Ea, .Ae BE],[(0, .v 0 Ea),(1, .loc 0 0)],[(0, .Ah 239 [(1, .AG 1)]),(1, .row 238 1)],2⟩ ⟨[.Ae Aj, .Ae BE],[(0, .v 0 Aj)],[(0, .Ah 239 [(1, .AG 2)]),(2, .row 238 1)],3⟩ 1 [1] UM
def tx(fu:Nat):A4×A4->Option A4|(x0,x1)=>Ab (Lt fu x0) λr1=>Ab (Lt fu x1) λr2=>Ad fu (λ(z3:List (Int×Int)×A4×Nat) nx4=>bif decide ((z3.2.2:Int)<z3.1.length)then Ab (idx z3.1 z3.2.2) λr5=>Ab (Nv fu (r1,r5.1)) λr6=>Ab (Nv fu (r2,r5.2)) λr7=>Ab (kA fu (r6,r7)) λr8=>Ab (Nu fu (r1,r5.1,(List.set (List.replicate 256 Ap) 0 Br))) λr9=>Ab (Nu fu (r2,r5.2,r9)) λr10=>Ad fu (λ(z11:List (Int×Int)×List (Int×Int×Int)×Int) nx12=>bif decide (z11.2.2<256)then Af ((0:Int)<=z11.2.2/\z11.2.2<(↑256:Int))<|Ab (idx r10 (↑(0+Int.toNat z11.2.2*1):Int)) λr13=>bif r13 then Aa .u8 (z11.2.2)<|Aa .u8 (z11.2.2)<|Ab (Nt fu (r1,r5.1,z11.2.2)) λr14=>Aa .u8 (z11.2.2)<|Ab (Nt fu (r2,r5.2,z11.2.2)) λr15=>Ab (UM fu ((r14,r15),z11.1)) λr16=>Af (List.length z11.2.1+1<=Ag)<|Aa .i64 (((z11.2.1++[(z11.2.2,0,r16.1)]).length:Int)-1)<|Aa .u8 (z11.2.2)<|Ab (idx (z11.2.1++[(z11.2.2,0,r16.1)]) (((z11.2.1++[(z11.2.2,0,r16.1)]).length:Int)-1)) λr17=>Aa .i64 (z11.2.2+1)<|nx12 (r16.2,((z11.2.1++[(z11.2.2,0,r16.1)]).set (Int.toNat (((z11.2.1++[(z11.2.2,0,r16.1)]).length:Int)-1)) (r17.1,z11.2.2,r17.2.2)),(z11.2.2+1))else Aa .i64 ((z11.2.1.length:Int)-1)<|Aa .u8 (z11.2.2)<|Ab (idx z11.2.1 ((z11.2.1.length:Int)-1)) λr18=>Aa .i64 (z11.2.2+1)<|nx12 (z11.1,(z11.2.1.set (Int.toNat ((z11.2.1.length:Int)-1)) (r18.1,z11.2.2,r18.2.2)),(z11.2.2+1))else Af (List.length z3.2.1+1<=Ag)<|nx4 ((z11.1,(z3.2.1++[(r8,z11.2.1)]),z3.2.2+1))) ((z3.1,[],0))else Ab (nE fu z3.2.1) λr19=>Ac r19.1) (([(0,0)],[],0))
def B104:=bP [tG,B99,tO,B98,tS,tR,B49] Tryz.func163 ⟨[.Ae y3, .Ae y3],[(0, .v 0 y3),(1, .v 1 y3),(2, .AK 164 [] [])],[],0⟩ ⟨[.Ae y3],[(0, .v 0 y3)],[],0⟩ 1 [] tx (la:=lk [(6,⟨[.Ae BE, .Ae I5, .nat],(kp [2,3,4,6,7,8] [(9, .AG 5),(10, .AH 2 602)]),[(4, .Ah 239 [(1, .AG 3)]),(3, .row 238 0),(2, .c 0),(1, .c 0),(0, .c 0),(5, .row 95 1)],6⟩),(14,⟨[.Ae BE, .Ae J7, .Ae Aj],(kp [2,3,4,6,7,8,9,10,11,12,13] [(54, .v 2 Aj)]),[(8, .c 0),(7, .Ah 95 [(1, .Ak),(1, .AG 9)]),(6, .c 0),(5, .c 0),(4, .Ah 239 [(1, .AG 3)]),(3, .row 238 0),(2, .c 0),(1, .c 0),(0, .c 0),(9, .row 92 1)],10⟩)]) (pr:=lg [(21,[.fz 9])]) (pt:=lg [(5,[.own 9 95 Lh]),(13,[.Ed 12 1 92 Pf])])
def S7(fu:Nat):A4×A4->Option A4|(x0,x1)=>bif decide ((x0.length:Int)=0)then Ab (Lt fu x1) λr1=>Ab (UN fu r1) λr2=>Ac r2 else bif decide ((x1.length:Int)=0)then Ab (Lt fu x0) λr3=>Ab (UN fu r3) λr4=>Ac r4 else Ab (tx fu (x0,x1)) λr5=>Ac r5
def yy:=bQ [B97,tG,B104] Tryz.func106 [y3,y3] [y3] S7
def kv(fu:Nat):HD×HD->Option HD|(x0,x1)=>Ab (iP fu x0) λr1=>Ab (iP fu x1) λr2=>Ab (uj fu (r1.1,r2.1)) λr3=>Ab (uj fu (r1.2.1,r2.2.1)) λr4=>Ab (uj fu (r1.2.2.1,r2.2.2.1)) λr5=>Ab (zu fu (r1.2.2.2.1,r2.2.2.2.1)) λr6=>Ab (S7 fu (r1.2.2.2.2,r2.2.2.2.2)) λr7=>Ac ((r3,r4,r5,r6,r7))
def B106:=bP [yy,B90,B91,B94] Tryz.func158 ⟨[.Ae y8, .Ae y8],[(0, .v 0 y8),(1, .v 1 y8),(2, .AK 159 [] []),(3, .AK 160 [] []),(4, .AK 106 [] [])],[],0⟩ ⟨[.Ae y8],[(0, .v 0 y8)],[],0⟩ 1 [] kv
def ku(fu:Nat):HD×HD->Option HD|(x0,x1)=>Ab (kv fu (x0,x1)) λr1=>Ac r1
def B107:=bQ [B106] Tryz.func103 [y8,y8] [y8] ku
def kq(fu:Nat)(x0:HD):Option HD:=Ab (ku fu (x0,Ap,Ap,Ap,([],[]),[])) λr1=>Ac r1
def B108:=bQ [B107] Tryz.func62 [y8] [y8] kq
def dG(fu:Nat):(Int×Int)×Int->Option Int|(x0,x1)=>bif decide ((0:Int)<x0.1)then Ac x0.1 else bif decide (x0.2<0)then Ac x0.2 else Ac x1
def B109:=bQ [] Tryz.func199 [Ea,Aj] [Aj] dG
def UL(fu:Nat):Int×Int->Option Bool|(x0,x1)=>Aa .i64 ((0:Int)-x0)<|Aa .i64 (if(0:Int)-x0>x0 then(0:Int)-x0 else x0)<|Aa .i64 ((0:Int)-x1)<|Aa .i64 (if(0:Int)-x1>x1 then(0:Int)-x1 else x1)<|bif decide ((if(0:Int)-x0>x0 then(0:Int)-x0 else x0)<if(0:Int)-x1>x1 then(0:Int)-x1 else x1)then Ac Br else bif decide ((if(0:Int)-x0>x0 then(0:Int)-x0 else x0)=if(0:Int)-x1>x1 then(0:Int)-x1 else x1)then Ac (decide (x1<x0))else Ac Ap
def yx:=bQ [] Tryz.func198 [Aj,Aj] [.bool] UL
def dE(fu:Nat):Int×Bool×Int->Option (Bool×Int)|(x0,x1,x2)=>bif !x1 then Ac ((Br,x0))else Ab (UL fu (x0,x2)) λr1=>bif r1 then Ac ((Br,x0))else Ac ((x1,x2))
def B111:=bP [yx] Tryz.func197 ⟨[.Ae Aj, .Ae .bool, .Ae Aj],[(0, .v 0 Aj),(1, .loc 0 0),(2, .loc 1 0)],[(0, .Ah 4 [(1, .v 1 .bool)]),(1, .Ah 2 [(1, .v 2 Aj)])],2⟩ ⟨[.Ae .bool, .Ae Aj],[],[(0, .Ah 4 [(1, .v 0 .bool)]),(1, .Ah 2 [(1, .v 1 Aj)])],2⟩ 0 [] dE
def S6(fu:Nat)(x0:Ba):Option (Int×Bool):=Ab (UA fu x0) λr1=>Ad fu (λ(z2:Int×Bool×Nat) nx3=>bif decide ((z2.2.2:Int)<r1.1.length)then Ab (idx r1.1 z2.2.2) λr4=>Ab (dG fu (r4,0)) λr5=>Aa .i64 (r5*10000)<|Ab (dE fu ((r5*10000),z2.2.1,z2.1)) λr6=>nx3 (r6.2,r6.1,z2.2.2+1)else Ad fu (λ(z7:Int×Bool×Nat) nx8=>bif decide ((z7.2.2:Int)<r1.2.length)then Ab (idx r1.2 z7.2.2) λr9=>Ab (dG fu (r9,1)) λr10=>Ab (dE fu (r10,z7.2.1,z7.1)) λr11=>nx8 (r11.2,r11.1,z7.2.2+1)else Ac ((z7.1,z7.2.1))) ((z2.1,z2.2.1,0))) ((0,Ap,0))
def yw:=bQ [x5,B111,B109] Tryz.func149 [EU] [Aj, .bool] S6 (la:=lk [(5,⟨[.Ae Aj, .Ae .bool, .nat],(kp [4,5,6,7,16,17] [(18, .AH 2 502)]),[(2, .Ah 2 [(1, .v 0 Aj)]),(3, .Ah 4 [(1, .v 1 .bool)]),(1, .c 0)],4⟩),(10,⟨[.Ae Aj, .Ae .bool, .nat],(kp [5,6,7,29,30] [(31, .AH 2 1002)]),[(2, .Ah 2 [(1, .v 0 Aj)]),(3, .Ah 4 [(1, .v 1 .bool)])],4⟩)])
def w7(fu:Nat)(x0:A4):Option A4:=Ac x0
def B113:=bP [] Tryz.func269 ⟨[.Ae y3],[(0, .v 0 y3)],[],0⟩ ⟨[.Ae y3],[(0, .AK 317 [] [0])],[(0, .Ah 27 [(1, .v 0 y3)])],1⟩ 1 [] w7
def ko(fu:Nat):A4×List Bool->Option (List Bool)|(x0,x1)=>Af (List.length x0<=Ag)<|Ad fu (λ(z1:List Bool×Nat) nx2=>bif decide ((z1.2:Int)<x0.length)then Ab (idx x0 z1.2) λr3=>Ad fu (λ(z4:List Bool×Nat) nx5=>bif decide ((z4.2:Int)<r3.2.length)then Ab (idx r3.2 z4.2) λr6=>Ab (idx z4.1 z1.2) λr7=>bif r7 then Ab (idx z4.1 z1.2) λr8=>nx5 ((z4.1.set z1.2 Br),z4.2+1)else Ab (idx x1 r6.2.2) λr9=>Ab (idx z4.1 z1.2) λr10=>nx5 ((z4.1.set z1.2 r9),z4.2+1)else nx2 ((z4.1,z1.2+1))) ((z1.1,0))else Ac z1.1) (((List.replicate (List.length x0) Ap),0))
def B114:=bQ [] Tryz.func318 [y3,EO] [EO] ko (la:=lk [(3,⟨[.Ae EO, .nat],(kp [1,2,5,15] [(16, .AH 1 301)]),[(1, .row 4 0),(0, .c 0)],2⟩),(6,⟨[.Ae EO, .nat],(kp [1,2,5,6,15,16,24,25] [(26, .AH 1 601)]),[(1, .row 4 0),(0, .c 0)],2⟩)]) (pt:=lg [(11,[.fz 4])])
def kj(fu:Nat):List Bool×Bool->Option Int|(x0,x1)=>Ad fu (λ(z1:Nat) nx2=>bif decide ((z1:Int)<x0.length)then Ab (idx x0 z1) λr3=>bif x1==r3 then Ac ((z1:Int))else nx2 (z1+1)else Ac ((-1:Int))) (0)
def B115:=bQ [] Tryz.func336 [EO, .bool] [Aj] kj (la:=lk [(2,⟨[.nat],(kp [0,1,7] [(8, .AH 0 200)]),[],0⟩)])
def dD(fu:Nat):List Bool×Bool->Option Bool|(x0,x1)=>Ab (kj fu (x0,x1)) λr1=>Ac (decide ((0:Int)<=r1))
def B116:=bQ [B115] Tryz.func319 [EO, .bool] [.bool] dD
def mv:A9:=⟨[.Ae Aj, .Ae Aj, .Ae Pg, .Ae y3, .Ae y24],[(0, .v 0 Aj),(1, .v 1 Aj),(2, .v 2 Pg),(3, .loc 0 0),(4, .loc 1 0),(5, .loc 2 0),(6, .loc 3 0)],[(0, .Ah 81 [(1, .mp 4)]),(1, .Ah 27 [(1, .v 3 y3)]),(2, .Ah 276 [(1, .AG 5)]),(3, .Ah 337 [(1, .AK 337 [] [0,1,2,3])]),(5, .row 193 4)],6⟩
abbrev nz:Type:=zl 337 mv 4 [.str] Br
def wG(n:Nat):nz:=Nat.rec (motive:=λ_=>nz) (tJ Tryz.func337) (λfu g0=>sJ [wm g0] fu Tryz.func337 mv 4 [.str] Br (la:=lk [(4,⟨[.nat],(kp [1,2,5,6,25,26] [(27, .AH 0 400)]),[(3, .c 0),(2, .c 0),(5, .c 0),(1, .c 0),(0, .c 0)],6⟩),(7,⟨[.Ae Aj],(kp [1,2,5,6,12] [(13, .v 0 Aj),(25, .Ak),(26, .Ak),(27, .Ak)]),[(6, .c 0),(3, .c 0),(2, .c 0),(5, .c 0),(1, .c 0),(0, .c 0)],7⟩)]) (ct:=lz [(9,15)])) n
def B117(fu:Nat):=wm (wG fu)
abbrev Yj(fu:Nat)(x:(Int)×(Int)×(List Int)×A4×(List (List Bool))):Option (List Au×Option Bool):=(wG fu).1 x
def tD(fu:Nat)(x0:Int)(x1:Int)(x2:List Int)(x3:A4)(x4:List (List Bool)):Option (List Au×Option Bool):=bif decide (x1=0)then Ac (([(List.map (λn=>UInt8.ofNat (Int.toNat n)) x2)],Ac Br))else Ab (idx x3 x0) λr1=>Ad fu (λ(z2:Nat) nx3=>bif decide ((z2:Int)<r1.2.length)then Ab (idx r1.2 z2) λr4=>Ad fu (λ(z5:Int) nx6=>bif decide (z5<=r4.2.1)then Aa .i64 (x1-1)<|Ab (idx x4 (x1-1)) λr7=>Ab (idx r7 r4.2.2) λr8=>bif r8 then Aa .i64 (x1-1)<|Af ((x2.length:Int)=x2.length/\(x2.length:Int)=x2.length)<|Aa .u8 (z5)<|Af (List.length x2+1<=Ag/\0<1)<|Ab (Yj fu (r4.2.2,(x1-1),(x2++[z5]),x3,x4)) λr9=>vX (λb10=>bif !b10 then Ac (([],Ac Ap))else Aa .i64 (z5+1)<|nx6 ((z5+1))) (r9.1) (r9.2)else nx3 (z2+1)else nx3 (z2+1)) (r4.1)else Ac (([],Ac Br))) (0)
theorem d120(fu x0 x1 x2 x3 x4):Yj (fu+1) (x0,x1,x2,x3,x4)=tD fu x0 x1 x2 x3 x4:=by kernel_rfl
def UK(fu:Nat):A4×Nat×Nat×Int×List (List Bool)->Option (List Au×Option Bool)|(x0,x1,x2,x3,x4)=>Af ((0:Int)<=0/\(0:Int)<x2)<|Ab (idx x4 ((x1:Int)+0)) λr1=>Ab (idx r1 (0:Int)) λr2=>bif !r2 then Ac (([],Ac Br))else Ab (Yj fu (0,x3,[],x0,x4)) λr3=>vX (λb4=>Ac (([],Ac b4))) (r3.1) (r3.2)
def B118:=bJ [B117] Tryz.func320 ⟨[.Ae y3, .nat, .nat, .Ae Aj, .Ae y24],[(0, .v 0 y3),(1, .px [0] (.sub 1 2 EO)),(2, .v 3 Aj),(3, .mp 1),(4, .AG 0)],[(0, .row 193 4)],2⟩ 1 [.str] Br UK
def NS(fu:Nat)(x0:A4):Option (List Au×Bool):=Ad fu (λ(z1:List Bool×Nat) nx2=>bif decide ((z1.2:Int)<x0.length)then Ab (idx x0 z1.2) λr3=>Af (List.length z1.1+1<=Ag)<|nx2 ((z1.1++[r3.1]),z1.2+1)else Af (0+1<=Ag)<|Ad fu (λ(z4:List (List Bool)×Int) nx5=>bif decide ((0:Int)<x0.length)then bif decide ((0:Int)<z4.2)then Aa .i64 (z4.2-1)<|Ab (idx z4.1 (z4.2-1)) λr6=>Ab (ko fu (x0,r6)) λr7=>Af (List.length z4.1+1<=Ag)<|Ab (idx (z4.1++[r7]) z4.2) λr8=>Ab (dD fu (r8,Br)) λr9=>bif !r9 then Ac (([],Br))else Aa .i64 (z4.2+1)<|Aa .i64 (z4.2+1)<|Af (((0:Int)<=z4.2/\z4.2<z4.2+1)/\z4.2+1=z4.2+1/\z4.2+1<=(z4.1++[r7]).length)<|Ab (UK fu (x0,Int.toNat z4.2,Int.toNat (z4.2+1-z4.2),z4.2,(z4.1++[r7]))) λr10=>gK (λb11=>bif !b11 then Ac (([],Br))else Aa .i64 (z4.2+1)<|nx5 (((z4.1++[r7]),(z4.2+1)))) (r10.1) (r10.2)else Ab (idx z4.1 z4.2) λr12=>Ab (dD fu (r12,Br)) λr13=>bif !r13 then Ac (([],Br))else Aa .i64 (z4.2+1)<|Aa .i64 (z4.2+1)<|Af (((0:Int)<=z4.2/\z4.2<z4.2+1)/\z4.2+1=z4.2+1/\z4.2+1<=z4.1.length)<|Ab (UK fu (x0,Int.toNat z4.2,Int.toNat (z4.2+1-z4.2),z4.2,z4.1)) λr14=>gK (λb15=>bif !b15 then Ac (([],Br))else Aa .i64 (z4.2+1)<|nx5 ((z4.1,(z4.2+1)))) (r14.1) (r14.2)else Ac (([],Br))) (([z1.1],0))) (([],0))
def B119:=bI [B114,B116,B118] Tryz.func317 ⟨[.Ae y3],[(0, .Ak),(1, .loc 0 0)],[(0, .Ah 27 [(1, .v 0 y3)])],1⟩ 0 [.str] NS (la:=lk [(3,⟨[.Ae EO, .nat],(kp [0,1,3] [(4, .AG 2),(9, .Ak),(10, .AH 1 301)]),[(0, .c 0),(2, .row 4 0)],3⟩),(9,⟨[.Ae (.sl EO), .Ae Aj],(kp [0,1] [(3, .AG 4),(6, .v 1 Aj)]),[(4, .row 193 0),(0, .c 0)],5⟩)]) (pr:=lg [(7,[.fz 4])]) (pt:=lg [(2,[.own 4 4 .bool])]) (ct:=lz [(13,18)])
def Yi(fu:Nat):A4×Int->Option (List Au)|(x0,x1)=>bif decide (x1<1)then Ac []else Ab (Lt fu x0) λr1=>Ab (w7 fu r1) λr2=>Ab (NS fu r2) λr3=>E_ (λ(y4:Au) (z5:List Au) nx6=>Af (List.length z5+1<=Ag)<|Aa .i64 (if(1000:Int)<x1 then(1000:Int)else x1)<|bif decide (((z5++[y4]).length:Int)=if(1000:Int)<x1 then(1000:Int)else x1)then Ac ((z5++[y4]))else nx6 ((z5++[y4]))) (λz7=>ND (r3.2)<|some z7) (r3.1) ([])
def B120:=bQ [tG,B113,B119] Tryz.func200 [y3,Aj] [Tg] Yi (la:=lk [(5,⟨[.Ae Tg],(kp [3,4,5,12] []),[(0, .c 0),(1, .c 0),(2, .Ah 54 [(1, .AG 5)]),(5, .row 9 0)],6⟩)]) (pt:=lg [(4,[.Ed 5 0 9 .str]),(8,[.fz 4])])
def S5(fu:Nat)(x0:A4):Option (Au×Bool):=Ab (Yi fu (x0,1)) λr1=>bif decide ((r1.length:Int)=0)then Ac (([],Ap))else Ab (idx r1 (0:Int)) λr2=>Ac ((r2,Br))
def yu:=bQ [B120] Tryz.func150 [y3] [.str, .bool] S5
def kg(fu:Nat)(x0:HD):Option (Int×Int×Au×List Empty×List (Au×Empty)×Bool):=Ab (iP fu x0) λr1=>Ab (S6 fu r1.2.2.2.1) λr2=>Ab (S5 fu r1.2.2.2.2) λr3=>bif r1.1 then Ac ((1,0,[],[],[],Br))else bif r1.2.1 then Ac ((2,0,[],[],[],Br))else bif r1.2.2.1 then Ac ((2,1,[],[],[],Br))else bif r2.2 then Ac ((3,r2.1,[],[],[],Br))else bif r3.2 then Ac ((4,0,r3.1,[],[],Br))else Ac ((0,0,[],[],[],Ap))
def B122:=bP [B90,yw,yu] Tryz.func94 ⟨[.Ae y8],[(0, .v 0 y8)],[],0⟩ ⟨[.Ae Aj, .Ae Aj, .Ae .str, .Ae (.sl (.nm 1)), .Ae (.sl (.st y25)), .Ae .bool],[(0, .sv [(1,0,Aj),(1,1,Aj),(1,2, .str),(1,3,(.sl (.nm 1))),(1,4,(.sl (.st y25)))]),(1, .v 5 .bool)],[],0⟩ 2 [] kg
def Yh(fu:Nat)(x0:HD):Option Bool:=Ab (kg fu x0) λr1=>Ac ((!r1.2.2.2.2.2))
def tN:=bQ [B122] Tryz.func55 [y8] [.bool] Yh
def S4(fu:Nat)(x0:Vl):Option Bool:=bif !Vl.any x0 then Aa .i64 (((Vl.lists x0).length:Int)+((Vl.structs x0).length:Int))<|bif decide (((Vl.lists x0).length:Int)+((Vl.structs x0).length:Int)=0)then Ab (wR fu (Vl.sc x0)) λr1=>bif r1 then Ac Br else Ab (Yh fu (Vl.sc x0)) λr2=>Ac r2 else Ac Ap else Ac Ap
def kD:=bQ [tN,B35] Tryz.func53 [BP] [.bool] S4
def kf(fu:Nat):HD×HD->Option Bool|(x0,x1)=>bif x0.1==x1.1 then bif x0.2.1==x1.2.1 then bif x0.2.2.1==x1.2.2.1 then Ab (nB fu (x0.2.2.2.1.1,x1.2.2.2.1.1)) λr1=>bif r1 then Ab (nB fu (x0.2.2.2.1.2,x1.2.2.2.1.2)) λr2=>bif r2 then Ab (uo fu (x0.2.2.2.2,x1.2.2.2.2)) λr3=>Ac r3 else Ac Ap else Ac Ap else Ac Ap else Ac Ap else Ac Ap
def B125:=bQ [B74,B53] Tryz.func57 [y8,y8] [.bool] kf
def mu:A9:=⟨[.Ae Df, .Ae Df],[(0, .v 0 Df),(1, .v 1 Df),(2, .AK 29 [] [])],[],0⟩
def lK:A9:=⟨[.Ae .bool],[(0, .v 0 .bool)],[],0⟩
def mr:A9:=⟨[.Ae L3, .Ae L3],[(0, .v 0 L3),(1, .v 1 L3),(2, .AK 99 [] [])],[],0⟩
def lJ:A9:=⟨[.Ae .bool],[(0, .v 0 .bool)],[],0⟩
def mq:A9:=⟨[.Ae Gf, .Ae Gf],[(0, .v 0 Gf),(1, .v 1 Gf),(2, .AK 101 [] [])],[],0⟩
def lI:A9:=⟨[.Ae .bool],[(0, .v 0 .bool)],[],0⟩
abbrev ny:Type:=HF 58 mu lK 1 []×IY 99 [Es,Es] [.bool]×HF 98 mr lJ 1 []×IY 101 [Fy,Fy] [.bool]×HF 100 mq lI 1 []×IY 60 [Cp,Cp] [.bool]×IY 43 [BP,BP] [.bool]×IY 29 [BH,BH] [.bool]
def Qx(n:Nat):ny:=Nat.rec (motive:=λ_=>ny) (tP Tryz.func58,tQ Tryz.func99,tP Tryz.func98,tQ Tryz.func101,tP Tryz.func100,tQ Tryz.func60,tQ Tryz.func43,tQ Tryz.func29) (λfu ⟨g0,g1,g2,g3,g4,g5,g6,g7⟩=>(sP [EL g7] fu Tryz.func58 mu lK 1 [] (la:=lk [(4,⟨[.nat],(kp [1,2,15,16] [(17, .AH 0 400)]),[],0⟩)]),sQ [EL g7] fu Tryz.func99 [Es,Es] [.bool],sP [EL g1] fu Tryz.func98 mr lJ 1 [] (la:=lk [(4,⟨[.nat],(kp [1,2,15,16] [(17, .AH 0 400)]),[],0⟩)]),sQ (EL g7::bs [B53] fu) fu Tryz.func101 [Fy,Fy] [.bool],sP [EL g3] fu Tryz.func100 mq lI 1 [] (la:=lk [(4,⟨[.nat],(kp [1,2,15,16] [(17, .AH 0 400)]),[],0⟩)]),sQ [C4 g2,C4 g4] fu Tryz.func60 [Cp,Cp] [.bool],sQ (C4 g0::EL g5::bs [B125,B81] fu) fu Tryz.func43 [BP,BP] [.bool] (la:=lk [(4,⟨[.nat],(kp [2,3,42] [(43, .AH 0 400)]),[(1, .c 0),(0, .c 0)],2⟩),(11,⟨[.nat],(kp [2,3,74] [(75, .AH 0 1100)]),[(1, .c 0),(0, .c 0)],2⟩)]),sQ [EL g6] fu Tryz.func29 [BH,BH] [.bool])) n
abbrev tv(fu:Nat)(x:(List AF)×(List AF)):Option Bool:=(Qx fu).1.1 x
abbrev kd(fu:Nat)(x:(Au×Int×AF)×(Au×Int×AF)):Option Bool:=(Qx fu).2.1.1 x
abbrev tu(fu:Nat)(x:(List (Au×Int×AF))×(List (Au×Int×AF))):Option Bool:=(Qx fu).2.2.1.1 x
abbrev kc(fu:Nat)(x:(A4×AF)×(A4×AF)):Option Bool:=(Qx fu).2.2.2.1.1 x
abbrev tt(fu:Nat)(x:(List (A4×AF))×(List (A4×AF))):Option Bool:=(Qx fu).2.2.2.2.1.1 x
abbrev tq(fu:Nat)(x:BK×BK):Option Bool:=(Qx fu).2.2.2.2.2.1.1 x
abbrev dC(fu:Nat)(x:(Vl)×(Vl)):Option Bool:=(Qx fu).2.2.2.2.2.2.1.1 x
def yt(fu:Nat):=EL (Qx fu).2.2.2.2.2.2.2
abbrev Ns(fu:Nat)(x:AF×AF):Option Bool:=(Qx fu).2.2.2.2.2.2.2.1 x
def xY(fu:Nat)(x0:List AF)(x1:List AF):Option Bool:=bif decide ((x0.length:Int)≠x1.length)then Ac Ap else Ad fu (λ(z1:Nat) nx2=>bif decide ((z1:Int)<x0.length)then Ab (idx x0 z1) λr3=>Ab (idx x1 z1) λr4=>Ab (Ns fu (r3,r4)) λr5=>bif !r5 then Ac Ap else nx2 (z1+1)else Ac Br) (0)
theorem d129(fu x0 x1):tv (fu+1) (x0,x1)=xY fu x0 x1:=by kernel_rfl
def xX(fu:Nat)(x0:Au×Int×AF)(x1:Au×Int×AF):Option Bool:=bif decide (x0.1=x1.1)then bif decide (x0.2.1=x1.2.1)then Ab (Ns fu (x0.2.2,x1.2.2)) λr1=>Ac r1 else Ac Ap else Ac Ap
theorem d130(fu x0 x1):kd (fu+1) (x0,x1)=xX fu x0 x1:=by kernel_rfl
def xW(fu:Nat)(x0:List (Au×Int×AF))(x1:List (Au×Int×AF)):Option Bool:=bif decide ((x0.length:Int)≠x1.length)then Ac Ap else Ad fu (λ(z1:Nat) nx2=>bif decide ((z1:Int)<x0.length)then Ab (idx x0 z1) λr3=>Ab (idx x1 z1) λr4=>Ab (kd fu (r3,r4)) λr5=>bif !r5 then Ac Ap else nx2 (z1+1)else Ac Br) (0)
theorem d131(fu x0 x1):tu (fu+1) (x0,x1)=xW fu x0 x1:=by kernel_rfl
def xV(fu:Nat)(x0:A4×AF)(x1:A4×AF):Option Bool:=Ab (uo fu (x0.1,x1.1)) λr1=>bif r1 then Ab (Ns fu (x0.2,x1.2)) λr2=>Ac r2 else Ac Ap
theorem d132(fu x0 x1):kc (fu+1) (x0,x1)=xV fu x0 x1:=by kernel_rfl
def xU(fu:Nat)(x0:List (A4×AF))(x1:List (A4×AF)):Option Bool:=bif decide ((x0.length:Int)≠x1.length)then Ac Ap else Ad fu (λ(z1:Nat) nx2=>bif decide ((z1:Int)<x0.length)then Ab (idx x0 z1) λr3=>Ab (idx x1 z1) λr4=>Ab (kc fu (r3,r4)) λr5=>bif !r5 then Ac Ap else nx2 (z1+1)else Ac Br) (0)
theorem d133(fu x0 x1):tt (fu+1) (x0,x1)=xU fu x0 x1:=by kernel_rfl
def xT(fu:Nat)(x0:BK)(x1:BK):Option Bool:=Ab (tu fu (x0.1,x1.1)) λr1=>bif r1 then Ab (tt fu (x0.2,x1.2)) λr2=>Ac r2 else Ac Ap
theorem d134(fu x0 x1):tq (fu+1) (x0,x1)=xT fu x0 x1:=by kernel_rfl
def xS(fu:Nat)(x0:Vl)(x1:Vl):Option Bool:=bif !Vl.any x0==Vl.any x1 then Ac Ap else Ab (kf fu (Vl.sc x0,Vl.sc x1)) λr1=>bif !r1 then Ac Ap else bif decide (((Vl.lists x0).length:Int)≠((Vl.lists x1).length:Int))then Ac Ap else bif decide (((Vl.structs x0).length:Int)≠((Vl.structs x1).length:Int))then Ac Ap else Ad fu (λ(z2:Nat) nx3=>bif decide ((z2:Int)<(Vl.lists x0).length)then Ab (idx (Vl.lists x0) (z2:Int)) λr4=>Ab (idx (Vl.lists x1) (z2:Int)) λr5=>bif decide ((r4.1.length:Int)≠r5.1.length)then Ac Ap else Ab (cO fu r4) λr6=>Ab (cO fu r5) λr7=>Ab (tv fu (r6,r7)) λr8=>bif !r8 then Ac Ap else nx3 (z2+1)else Ad fu (λ(z9:Nat) nx10=>bif decide ((z9:Int)<(Vl.structs x0).length)then Ab (idx (Vl.structs x0) (z9:Int)) λr11=>Ab (idx (Vl.structs x1) (z9:Int)) λr12=>Ab (tq fu (r11,r12)) λr13=>bif !r13 then Ac Ap else nx10 (z9+1)else Ac Br) (0)) (0)
theorem d135(fu x0 x1):dC (fu+1) (x0,x1)=xS fu x0 x1:=by kernel_rfl
def tC(fu:Nat)(x0:AF)(x1:AF):Option Bool:=Ab (dC fu (x0.1,x1.1)) λr1=>bif r1 then Ab (dC fu (x0.2,x1.2)) λr2=>Ac r2 else Ac Ap
theorem d136(fu x0 x1):Ns (fu+1) (x0,x1)=tC fu x0 x1:=by kernel_rfl
def Yg(fu:Nat):AF×AF->Option Bool|(x0,x1)=>Ab (Ns fu (x0,x1)) λr1=>Ac r1
def tM:=bQ [yt] Tryz.func33 [BH,BH] [.bool] Yg
def j_(fu:Nat):(A4×AF)×AF->Option (Bool×AF)|(x0,x1)=>Ab (Yg fu (x0.2,x1)) λr1=>Ac ((r1,x1))
def B135:=bP [tM] Tryz.func105 ⟨[.Ae Fy, .Ae BH],[(0, .v 0 Fy),(1, .loc 0 0)],[(0, .Ah 35 [(18, .v 1 BH)])],1⟩ ⟨[.Ae .bool, .Ae BH],[(0, .v 0 .bool)],[(0, .Ah 35 [(18, .v 1 BH)])],1⟩ 1 [] j_
def j9(fu:Nat):(List (A4×AF))×AF->Option (Int×List (A4×AF)×AF)|(x0,x1)=>Ad fu (λ(z1:AF×Nat) nx2=>bif decide ((z1.2:Int)<x0.length)then Ab (idx x0 z1.2) λr3=>Ab (j_ fu (r3,z1.1)) λr4=>bif r4.1 then Ac (((z1.2:Int),x0,r4.2))else nx2 (r4.2,z1.2+1)else Ac (((-1:Int),x0,z1.1))) ((x1,0))
def B136:=bP [B135] Tryz.func104 ⟨[.Ae Gf, .Ae BH],[(0, .AG 0),(1, .AK 105 [] [1])],[(0, .row 70 0),(1, .Ah 35 [(18, .v 1 BH)])],2⟩ ⟨[.Ae Aj, .Ae Gf, .Ae BH],[(0, .v 0 Aj)],[(0, .row 70 1),(1, .Ah 35 [(18, .v 2 BH)])],2⟩ 1 [] j9 (la:=lk [(2,⟨[.Ae BH, .nat],(kp [0,1,7] [(8, .AH 1 201)]),[(1, .Ah 35 [(18, .v 0 BH)]),(0, .c 0)],2⟩)])
def j8(fu:Nat):Bool×Bool->Option Bool|(x0,x1)=>bif x0 then Ac ((!x1))else Ac Ap
def B137:=bQ [] Tryz.func223 [.bool, .bool] [.bool] j8
def ti(fu:Nat):A4×A4->Option A4|(x0,x1)=>Ab (Lt fu x0) λr1=>Ab (Lt fu x1) λr2=>Ad fu (λ(z3:List (Int×Int)×A4×Nat) nx4=>bif decide ((z3.2.2:Int)<z3.1.length)then Ab (idx z3.1 z3.2.2) λr5=>Ab (Nv fu (r1,r5.1)) λr6=>Ab (Nv fu (r2,r5.2)) λr7=>Ab (j8 fu (r6,r7)) λr8=>Ab (Nu fu (r1,r5.1,(List.set (List.replicate 256 Ap) 0 Br))) λr9=>Ab (Nu fu (r2,r5.2,r9)) λr10=>Ad fu (λ(z11:List (Int×Int)×List (Int×Int×Int)×Int) nx12=>bif decide (z11.2.2<256)then Af ((0:Int)<=z11.2.2/\z11.2.2<(↑256:Int))<|Ab (idx r10 (↑(0+Int.toNat z11.2.2*1):Int)) λr13=>bif r13 then Aa .u8 (z11.2.2)<|Aa .u8 (z11.2.2)<|Ab (Nt fu (r1,r5.1,z11.2.2)) λr14=>Aa .u8 (z11.2.2)<|Ab (Nt fu (r2,r5.2,z11.2.2)) λr15=>Ab (UM fu ((r14,r15),z11.1)) λr16=>Af (List.length z11.2.1+1<=Ag)<|Aa .i64 (((z11.2.1++[(z11.2.2,0,r16.1)]).length:Int)-1)<|Aa .u8 (z11.2.2)<|Ab (idx (z11.2.1++[(z11.2.2,0,r16.1)]) (((z11.2.1++[(z11.2.2,0,r16.1)]).length:Int)-1)) λr17=>Aa .i64 (z11.2.2+1)<|nx12 (r16.2,((z11.2.1++[(z11.2.2,0,r16.1)]).set (Int.toNat (((z11.2.1++[(z11.2.2,0,r16.1)]).length:Int)-1)) (r17.1,z11.2.2,r17.2.2)),(z11.2.2+1))else Aa .i64 ((z11.2.1.length:Int)-1)<|Aa .u8 (z11.2.2)<|Ab (idx z11.2.1 ((z11.2.1.length:Int)-1)) λr18=>Aa .i64 (z11.2.2+1)<|nx12 (z11.1,(z11.2.1.set (Int.toNat ((z11.2.1.length:Int)-1)) (r18.1,z11.2.2,r18.2.2)),(z11.2.2+1))else Af (List.length z3.2.1+1<=Ag)<|nx4 ((z11.1,(z3.2.1++[(r8,z11.2.1)]),z3.2.2+1))) ((z3.1,[],0))else Ab (nE fu z3.2.1) λr19=>Ac r19.1) (([(0,0)],[],0))
def B138:=bP [tG,tO,B98,tS,tR,B49,B137] Tryz.func163 ⟨[.Ae y3, .Ae y3],[(0, .v 0 y3),(1, .v 1 y3),(2, .AK 223 [] [])],[],0⟩ ⟨[.Ae y3],[(0, .v 0 y3)],[],0⟩ 1 [] ti (la:=lk [(6,⟨[.Ae BE, .Ae I5, .nat],(kp [2,3,4,6,7,8] [(9, .AG 5),(10, .AH 2 602)]),[(4, .Ah 239 [(1, .AG 3)]),(3, .row 238 0),(2, .c 0),(1, .c 0),(0, .c 0),(5, .row 95 1)],6⟩),(14,⟨[.Ae BE, .Ae J7, .Ae Aj],(kp [2,3,4,6,7,8,9,10,11,12,13] [(54, .v 2 Aj)]),[(8, .c 0),(7, .Ah 95 [(1, .Ak),(1, .AG 9)]),(6, .c 0),(5, .c 0),(4, .Ah 239 [(1, .AG 3)]),(3, .row 238 0),(2, .c 0),(1, .c 0),(0, .c 0),(9, .row 92 1)],10⟩)]) (pr:=lg [(21,[.fz 9])]) (pt:=lg [(5,[.own 9 95 Lh]),(13,[.Ed 12 1 92 Pf])])
def UJ(fu:Nat):A4×A4->Option A4|(x0,x1)=>bif decide ((x0.length:Int)=0)then Ac []else bif decide ((x1.length:Int)=0)then Ab (Lt fu x0) λr1=>Ab (UN fu r1) λr2=>Ac r2 else Ab (ti fu (x0,x1)) λr3=>Ac r3
def yr:=bQ [B97,tG,B138] Tryz.func167 [y3,y3] [y3] UJ
def dB(fu:Nat)(x0:Int):Option Bool:=Ac (decide (x0≠x0))
def B140:=bQ [] Tryz.func224 [Aj] [.bool] dB
def UI(fu:Nat):Int×Int->Option Int|(x0,x1)=>Ab (dB fu x0) λr1=>Ab (dB fu x1) λr2=>bif r1 then bif r2 then Ac 0 else Ac ((-1:Int))else bif r2 then Ac 1 else bif decide (x0<x1)then Ac ((-1:Int))else bif decide (x1<x0)then Ac 1 else Ac 0
def tL:=bQ [B140] Tryz.func169 [Aj,Aj] [Aj] UI
def tg(fu:Nat)(x0:Au):Option Bool:=Ac (Bool.rec Br Ap (decide (x0=x0)))
def B142:=bQ [] Tryz.func225 [.str] [.bool] tg
def Yf(fu:Nat):Au×Au->Option Int|(x0,x1)=>Ab (tg fu x0) λr1=>Ab (tg fu x1) λr2=>bif r1 then bif r2 then Ac 0 else Ac ((-1:Int))else bif r2 then Ac 1 else bif Go.Op.bytesLess x0 x1 then Ac ((-1:Int))else bif !(Go.Op.bytesLess x0 x1||decide (x0=x1))then Ac 1 else Ac 0
def yq:=bQ [B142] Tryz.func170 [.str, .str] [Aj] Yf
def dA(fu:Nat)(x0:List Int):Option Int:=Ad fu (λ(z1:Nat) nx2=>bif decide ((z1:Int)<x0.length)then Ab (idx x0 z1) λr3=>bif decide (r3≠0)then Ac r3 else nx2 (z1+1)else Ac 0) (0)
def B144:=bQ [] Tryz.func168 [Fx] [Aj] dA (la:=lk [(3,⟨[.nat],(kp [3,6,7] [(8, .AH 0 300)]),[],0⟩)])
def UH(fu:Nat):A4×A4->Option Int|(x0,x1)=>Ab (Lt fu x0) λr1=>Ab (Lt fu x1) λr2=>Ab (UJ fu (r1,r2)) λr3=>Ab (S5 fu r3) λr4=>Ab (UJ fu (r2,r1)) λr5=>Ab (S5 fu r5) λr6=>bif !r4.2 then bif !r6.2 then Ac 0 else bif !r6.2 then Ac ((-1:Int))else bif !r4.2 then Ac 1 else Ab (UI fu ((r4.1.length:Int),(r6.1.length:Int))) λr7=>Ab (Yf fu (r4.1,r6.1)) λr8=>Ab (dA fu [r7,r8]) λr9=>Ac r9 else bif !r6.2 then Ac ((-1:Int))else bif !r4.2 then Ac 1 else Ab (UI fu ((r4.1.length:Int),(r6.1.length:Int))) λr10=>Ab (Yf fu (r4.1,r6.1)) λr11=>Ab (dA fu [r10,r11]) λr12=>Ac r12
def tK:=bQ [yu,tG,yr,B144,tL,yq] Tryz.func109 [y3,y3] [Aj] UH
def dz(fu:Nat):(A4×AF)×A4×AF->Option Int|(x0,x1)=>Ab (UH fu (x0.1,x1.1)) λr1=>Ac r1
def B146:=bQ [tK] Tryz.func108 [Fy,Fy] [Aj] dz
def tB(fu:Nat)(x0 x1:Int)(x2:List (A4×AF)):=IH (λx y=>dz fu (x,y)) fu x0 x1 x2
abbrev j7 fu:=u3 (tB fu)
theorem d150(fu x0 x1 x2):j7 fu (x0,x1,x2)=tB fu x0 x1 x2:=rfl
def B147:=bP [B146] Tryz.func213 ⟨[.Ae Aj, .Ae Aj, .Ae Gf],[(0, .AG 0),(1, .v 0 Aj),(2, .v 1 Aj),(3, .AK 108 [] [])],[(0, .row 70 2)],1⟩ ⟨[.Ae Gf],[],[(0, .row 70 0)],1⟩ 0 [] j7 (la:=lk [(1,⟨[.Ae Gf, .Ae Aj],(kp [0,1,2,3] [(8, .v 1 Aj)]),[(0, .row 70 0)],1⟩),(4,⟨[.Ae Gf, .Ae Aj],(kp [0,1,2,3,8] [(9, .v 1 Aj)]),[(0, .row 70 0)],1⟩)])
def tf(fu:Nat):Int×Int×Int×List (A4×AF)->Option (List (A4×AF))|(x0,x1,x2,x3)=>Ad fu (λ(z1:PUnit) nx2=>Aa .i64 (x1-x0)<|bif decide (x1-x0<=12)then Ab (j7 fu (x0,x1,x3)) λr3=>Ac r3 else bif decide (x2=0)then C7 else C7) (())
def B148:=bP [B147] Tryz.func165 ⟨[.Ae Aj, .Ae Aj, .Ae Aj, .Ae Gf],[(0, .AG 0),(1, .v 0 Aj),(2, .v 1 Aj),(3, .v 2 Aj),(4, .AK 108 [] [])],[(0, .row 70 3)],1⟩ ⟨[.Ae Gf],[],[(0, .row 70 0)],1⟩ 0 [] tf (la:=lk [(2,⟨[],(kp [0,1,2,3,4,10,11] []),[(0, .c 0)],1⟩)])
def j6(fu:Nat)(x0:List (A4×AF)):Option (List (A4×AF)):=Ab (rW fu (Int.ofNat (List.length x0 %Int.natAbs (18446744073709551616:Int)))) λr1=>Ab (tf fu (0,(x0.length:Int),r1,x0)) λr2=>Ac r2
def B149:=bP [B148,B62] Tryz.func107 ⟨[.Ae Gf],[(0, .AG 0),(1, .AK 108 [] [])],[(0, .row 70 0)],1⟩ ⟨[.Ae Gf],[],[(0, .row 70 0)],1⟩ 0 [] j6
def Ye(fu:Nat):Cb×Int->Option (AF×Bool)|(x0,x1)=>bif decide ((0:Int)<=x1)then bif decide (x1<(x0.1.length:Int))then Ab (idx x0.1 x1) λr1=>Ac ((r1,Br))else bif decide ((0:Int)<=x1)then bif decide ((0:Int)<x0.2.length)then Ab (idx x0.2 (0:Int)) λr2=>Ac ((r2,Br))else Ac (((Vl.mk Ap (Ap,Ap,Ap,([],[]),[]) [] [],Vl.mk Ap (Ap,Ap,Ap,([],[]),[]) [] []),Ap))else Ac (((Vl.mk Ap (Ap,Ap,Ap,([],[]),[]) [] [],Vl.mk Ap (Ap,Ap,Ap,([],[]),[]) [] []),Ap))else bif decide ((0:Int)<=x1)then bif decide ((0:Int)<x0.2.length)then Ab (idx x0.2 (0:Int)) λr3=>Ac ((r3,Br))else Ac (((Vl.mk Ap (Ap,Ap,Ap,([],[]),[]) [] [],Vl.mk Ap (Ap,Ap,Ap,([],[]),[]) [] []),Ap))else Ac (((Vl.mk Ap (Ap,Ap,Ap,([],[]),[]) [] [],Vl.mk Ap (Ap,Ap,Ap,([],[]),[]) [] []),Ap))
def B150:=bQ [] Tryz.func113 [Cs,Aj] [BH, .bool] Ye
end
end
end Go.GV
