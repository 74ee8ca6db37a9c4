/- Part 4 of the texts of this claim: what its theorem leans on. -/
import Derived.Test.YtimbbibpghnipaaGreatDoorZLookupLabels3
import Derived.TacticsIn
import Derived.Scope
import Derived.Test.YtimbbibpghnipaaGreatDoorZLookupLabels1
import Derived.Shelf.Strconv.AppendUint10
import Derived.Shelf.Strconv.AppendIntPublic10
import Derived.KernelRfl
set_option linter.all false
open Option renaming some→Ac,none→C7
open Bool renaming false→Aj,true→Bp
open Go renaming Value→BZ,Operand→DQ,TypeId→Gq,Program→GN,World→IU,execOp→Kt,Oper→K7,IntKind→Lo
open Decidable renaming decide→Dl
set_option maxRecDepth 100000
set_option maxHeartbeats 4000000
open List renaming length→FD,replicate→T8,range→aT,set→lj
open Nat renaming beq→Hh,blt→aX,ble→iT
open Int renaming toNat→ao,tmod→kX,natAbs→wL
open Go.Op renaming bytesLess→gh
open Go.Result renaming andThen→je
open Option renaming getD→pT
open Go.Fence renaming wide→qZ
namespace Go.GV
open Go Go.GK
section
variable{w:IU}{H:Hp}{A O B D:List Aw}{b:Nat}{o:Obj}
theorem Agh(h:SH w H (A++(B++(D++O)))):SH w H (D++(B++(A++O))):=by grind[Ahc,List.append_assoc]
theorem Aix(h:SH w H (A++(B++(D++O)))):SH w H (A++(D++(B++O))):=Ahc (Agh (Ahc h))
theorem Ahd(h:SH w H (A++ .Ai b o::O))(o':Obj):SH (w.putObj b o') H (A++ .Ai b o'::O):=by
 have f:(A++ .Ai b o::O)[A.length]?=Ac (.Ai b o):=by simp
 have g:w.heap[b]?=Ac o:=h.ok _ _ f;have a:b<w.heap.size:=(Acw.1 g).1;have d:=h.set f (r':= .Ai b o') (Jn w b o') (IU.putObj_heap_same a) (λc hc=> .inl hc);grind
theorem SH.at_(h:SH w H (A++ .Ai b o::O)):w.heap[b]?=Ac o:=h.ok A.length (.Ai b o) (by simp)
end
section
variable {N : C9} {R : Type}
def GX(X:List Aw)(ds:List Deferred)(G:Hp->Fm->R->Prop):Hp->Fm->R->Prop:=λH Of r=> ∃a,Of=⟨X++a.O,[]⟩/\G H a r/\a.ds=ds
variable {C : List (SV N.T)} {CR : List (SR N.T)} {n : Nat} {Of : Fm} {bs : List (Nat × BZ)} {st : St N.T} {η : Nat -> BZ} {H : Hp} {a : Act} {w : IU} {Y : List (Nat × Aw)} {P : GN} [C4 N P] {G : Hp -> Fm -> R -> Prop} {yl : YL N R} {yv : BZ}
section
variable{nk:Nat}
theorem QO.frame{f:List (Nat×BZ)}{X:List Aw}{ds:List Deferred}(l:QO P bs yl yv G)(x:∀p∈bs,p∈f):QO P f yl yv (GX X ds G):=by
 refine⟨λC i k r h=>x _ (l.mem C i k r h),λC i k r Of H s ⟨d,e,g,q⟩ v η A F w t u j=>?_⟩;subst e;have j:SH w H ((A++X)++d.O):=by grind
 refine(l.ok C i k r d H s g v η (A++X) F w t u j).mono λb J ⟨o,c,E,y,z,m,B,D⟩=>⟨o,⟨X++c.O,[]⟩,E,y,rf,by grind,⟨c,rf,B,z.trans q⟩,D⟩
def yc(P:GN)(n:Nat)(yl:YL N R)(yv:BZ)(c:Code)(d:eR N R):Prop:= ∀(l:Nat) {C:List (SV N.T)} {CR:List (SR N.T)} {kb:Nat} {bs:List (Nat×BZ)} {G:Hp->Fm->R->Prop} {Of:Fm} {r:R} {st:St N.T} {kn:St N.T->Option R} {ke:Nat->St N.T->Option R} {kr:St N.T->Option R} {η:Nat->BZ} {H:Hp} {a:Act} {w:IU} {Q:Exit->Act->IU->Prop},(∀q∈bs,q.1<kb)->(∀H b Of r,H.le b->G H Of r->G b Of r)->QO P bs yl yv G->G H Of r->Sat C CR n Of bs st η H a w->WF C CR bs st->d kb C CR st kn ke kr=Ac r->Kn C CR n G bs H kn (Q .normal)->(∀i,Kn C CR n G bs H (ke i) (Q (.exit i)))->Kn C CR n G bs H kr (Q .ret)->c.wpIn (FR (Ac l)) 0 P Q a w
theorem mY(b:WF C CR (FN η nk) st):nk<=st.nk:=by
 cases nk with
 |zero=>omega
 |succ k=>exact b.lo _ (Nq (Afk k))
theorem QK{η' f:Nat->BZ}{m g:Hp}{u:Array BZ}{L:List (Nat×SV N.T)}{o:List (Nat×SR N.T)}{e:Nat}{b:St N.T}{O:List Aw}{v:Act}(hc:∀t sv,Ay L t=Ac sv->∃j,sv= .Cw j)(q:∀k∈CW C,k<nk)(i:m.le g)
  (s:Sa C CR n (FN η nk) ⟨L,o,e⟩ η' m u Y) (r:WF C CR (FN η nk) ⟨L,o,e⟩) (h1:Sat C CR n ⟨O,[]⟩ (FN η nk) b f g v w) (c:WF C CR (FN η nk) b):
  WF C CR (FN η nk) ⟨L,b.O,b.nk⟩/\∃h,Sa C CR n (FN η nk) ⟨L,b.O,b.nk⟩ f g u h/\SH w g (h.map (·.2)++O):=by
 obtain⟨h,d,x⟩:=h1.sa;obtain⟨τ,l⟩:=r.wf;refine⟨⟨c.lo,c.ok,⟨τ,cv hc r.cP l⟩,c.mC,c.cP⟩,h,⟨d.inv,s.size,?_,d.base,d.nd,d.lt,d.res⟩,x⟩;exact X' hc (λk p=>(LY d.base (q k p)).trans (LY s.base (q k p)).symm) i s.Bo
theorem fR{q:IQ N}{f:Nat}{l:SV N.T}{cs:List Nat}{asg body:Code}{da db:eR N R}{ps:Array Tmp}{g:DQ}{pp:Option A_}{kn:St N.T->Option R}{ke:Nat->St N.T->Option R}{kr:St N.T->Option R}{r:R}{Q:Exit->Act->IU->Prop}(hsp:I8 P f q)(hda:yc P n yl yv asg da)(hdb:yc P n yl yv body db)
  (hG:∀H H' Of r,H.le H'->G H Of r->G H' Of r) (hpush:∀H Of r D,G H Of r->G H (K6 D Of) r) (hY:QO P bs yl yv G) (hg:G H Of r) (h:Sat C CR n Of bs st η H a w) (hw:WF C CR bs st) {us:List BZ} (he:a.eval g= .func (.func f) us.toArray (cs.map η).toArray) (hl:l.is C η H (.tuple us.toArray)) (hb:u_ l=Bp)
  (hcs:∀c∈cs,∃g b,An CR st.O c=Ac (.Ai g b)) (hd:oD C CR n ps pp st q l cs da db kn ke kr=Ac (Ac r)) (hn:Kn C CR n G bs H kn (Q .normal)) (hke:∀i,Kn C CR n G bs H (ke i) (Q (.exit i))) (hkr:Kn C CR n G bs H kr (Q .ret)):(Code.rangeFunc g ps asg body).wp P Q a w:=by
 unfold oD at hd;split at hd;· grind
 rename_i hck;simp only[AT]at hck;obtain⟨⟨ck1,ck2⟩,ck3,ck4⟩:=hck;split at hd;· grind
 rename_i x hx;replace hd:=Abp hd;generalize hm:Hi C (An CR st.O) (λi=>(FC l cs).getD i .no) q.pi=m at hx hd;split at hd;· grind
 rename_i p;split at hd;· grind
 rename_i z hz;split at hd;· grind
 rename_i hck2;simp only[AT]at hck2;obtain⟨⟨cz1,cz2⟩,cz3,cz4⟩:=hck2;obtain⟨ys,hys,hd⟩:=Bi hd;obtain⟨x0,hx0,hd⟩:=Bi hd;obtain⟨g1,g2⟩:=Nd hb hl;obtain⟨Y,sa,hsh⟩:=h.sa;refine W5 (us:=us) (caps:=cs.map η) he hsp.b8 λfn=>?_;generalize hD:w.heap.size=D;generalize K:Bj fn a.tmps ps asg body D=d;have hlen:(us++[BZ.func (.yield (D+1)) #[] #[]]++cs.map η).length=q.pi.sl.length:=by simp_all[FC]
 have hargs:∀(i:Nat) (s:SV N.T),(FC l cs)[i]?=Ac s->∃v,(us++[BZ.func (.yield (D+1)) #[] #[]]++cs.map η)[i]?=Ac v/\s.is C η H v:=λi s hi=>by
  unfold FC at hi;rw[Aaj]at hi⊢;by_cases c1':i<(S8 l).length;· grind
  · rw[Aab (by omega)]at hi;rw[Aab (by omega),g1];generalize hj:i-(S8 l).length=j at hi⊢;cases j with
    |zero=>
     simp at hi;subst hi;exact⟨_,rfl,trivial⟩
    |succ j=>
     simp only[Aer,Acd,Acq,Abz]at hi⊢;obtain⟨c,hc,rfl⟩:=Pd.1 hi;have hcm:=Aai hc;obtain⟨g',b,hR⟩:=hcs c hcm;refine⟨η c,by grind,?_⟩;rcases sa.res c _ hR with e|⟨X,_,B,_,b1,_⟩;· cases e
     ·exact⟨B,b1,b1⟩
 have hsl:∀p∈q.pi.sl,∃v,(us++[BZ.func (.yield (D+1)) #[] #[]]++cs.map η)[p.1]?=Ac v/\((FC l cs).getD p.1 .no).is C η H v:=λp U=>by
  have hlt:p.1<(FC l cs).length:=by simpa using No.1 ck2 p U
  obtain⟨v,e1,e2⟩:=hargs p.1 (FC l cs)[p.1] (GB hlt);refine⟨v,e1,?_⟩;rw[Aaa,GB hlt];exact e2
 obtain⟨l1,l2,l3,l4,Yc,Yr,l5,l6,l7,l8⟩:=gM (A:=λi=>(FC l cs).getD i .no) hx ck3 hlen hsl sa hw;generalize hks:(q.pi.ro.map λp=>AZ m p.1)=ks at l1 l4 l7 hz;have hw1:SH ((w.alloc (.deferred (Ac []))).alloc (.loop d)) H (.Ai (D+1) (.loop d)::BF D::(Y.map (·.2)++Of.O)):=by have:=(hsh.alloc (.deferred (Ac []))).alloc (.loop d);rw[<-hD];simpa using this
 generalize hW1:(w.alloc (.deferred (Ac []))).alloc (.loop d)=w1 at hw1;have hw2:SH w1 H (Yr.map (·.2)++(([.Ai (D+1) (.loop d),BF D]:List Aw)++(Yc.map (·.2)++Of.O))):=Aix (B:=Yc.map (·.2)) (Ahc (l8 w1 _ (Ahk hw1)));have l7':Sa C CR n (FN η st.nk) (R5 ks st) η H a.tmps Yr:=⟨l7.inv,l7.size,l7.Bo,λp U=>(Ih U).2.symm,l7.nd,l7.lt,l7.res⟩;have l4':WF C CR (FN η st.nk) (R5 ks st):=⟨λp U=>(Ih U).1,l4.ok,l4.wf,l4.mC,l4.cP⟩;obtain⟨c1,c2,c3,c4,c5⟩:=Ut (l7'.sat (ds:=[]) hw2) l4' hz;obtain⟨η0,e1,e2⟩:=M7 c4 c5 (λp U=>(Ih U).1) hx0;obtain⟨Y0,s0,hsh0⟩:=e1.sa;have hnkz:=AI cz2;have hmz:∀k∈CW z.C,k<st.nk:=λk hk=>by rw[<-hnkz];exact c5.mC k hk
 have W:∀J:BJ N (GP p z).hs,∀t sv,Ay (FG N (GP p z) J).L t=Ac sv->∃j,sv= .Cw j:=λJ=>iH (show(GP p z).sl.all zR=Bp from cz1);let G2:Hp->List Aw->List (DP N q.ts)×Bool->Prop:=λH' O ys'=>H.le H'/\∃I r',G H' I r'/\I.ds=Of.ds/\
  (
   (∃J E Z,O= .Ai (D+1) (.loop d)::BF D::(Z.map (·.2)++I.O)/\Sa z.C z.CR n (FN η st.nk) (FG N (GP p z) J) E H' a.tmps Z/\WF z.C z.CR (FN η st.nk) (FG N (GP p z) J)/\IB (fT C CR st.nk ps q x m p z da db ke kr) (λJ=>Ra ys'.2 (kn (D0 z.C z.CR C.length CR.length (WM q x m (FG N (GP p z) J))))) ys'.1 J=Ac r')\/
   (
    ys'=([],Bp)/\∃c s E Z,O= .Ai (D+1) (.loop {d with state:= .done,pending:=Ac c})::BF D::(Z.map (·.2)++I.O)/\(∀t sv,Ay s.L t=Ac sv->∃j,sv= .Cw j)/\Sa z.C z.CR n (FN η st.nk) s E H' a.tmps Z/\WF z.C z.CR (FN η st.nk) s/\
    ((c= .ret/\kr (D0 z.C z.CR C.length CR.length (WM q x m s))=Ac r')\/∃i,c= .exit i/\ke i (D0 z.C z.CR C.length CR.length (WM q x m s))=Ac r')));have mono2:∀S H2 O r,S.le H2->G2 S O r->G2 H2 O r:=λS H2 O r' hle ⟨k0,I,r1,k1,k2,k3⟩=>by
  refine⟨k0.trans hle,I,r1,hG _ _ _ _ hle k1,k2,?_⟩;rcases k3 with⟨J,E,Z,q1,q2,q3,q4⟩|⟨q0,c,s,E,Z,q1,q2,q3,q4,q5⟩;· exact .inl ⟨J,E,Z,q1,q2.mono hle,q3,q4⟩
  · exact .inr ⟨q0,c,s,E,Z,q1,q2,q3.mono hle,q4,q5⟩
 have no2:∀S O,¬G2 S O ([],Aj):=λS O ⟨_,_,_,_,_,k3⟩=>by
  rcases k3 with⟨_,_,_,_,_,_,e⟩|⟨e,_⟩;· cases e
  · cases e
 have yld2:∀S O y r ce,N.inv S->G2 S O (y::r,ce)->∀A vs w,YV S q.ts y vs->SH w S (A++O)->I6 P (.func (.yield (D+1)) #[] #[]) vs w λb w'=> ∃H' O',S.le H'/\SH w' H' (A++O')/\G2 H' O' (Ll (r,ce) b):=λS O y rest ce _ ⟨k0,I,r',k1,k2,k3⟩ A vs w' hArg hSH=>by
  rcases k3 with⟨J,E,Z,rfl,s1,f1,M⟩|⟨e,_⟩;case inr=>cases e
  have M:fT C CR st.nk ps q x m p z da db ke kr y J (IB (fT C CR st.nk ps q x m p z da db ke kr) (λJ=>Ra ce (kn (D0 z.C z.CR C.length CR.length (WM q x m (FG N (GP p z) J))))) rest)=Ac r':=M;obtain⟨p1,p2,p3⟩:=UH (C:=z.C) (η:=E) q.ts y vs hArg;have hps:ps.size=q.ts.length:=AI cz3;obtain⟨q1,q2⟩:=Z3 (C:=z.C) ps.toList (QY q.ts y) vs (FG N (GP p z) J).L a.tmps p1 (by rw[p2,<-hps];simp) (λt ht=>by rw[h.size];simpa using No.1 cz4 t ht) p3 s1.Bo;have hhp:w'.heap[D+1]?=Ac (.loop d):=SH.at_ hSH;have hrp:d.params=ps:=by rw[<-K]
  have hrt:d.tmps=a.tmps:=by rw[<-K]
  have hra:d.assign=asg:=by rw[<-K]
  have hrb:d.body=body:=by rw[<-K]
  have hrs:d.state= .ready:=by rw[<-K]
  have hry:=run_yield (P:=P) (args:=vs.toArray) hhp (by rw[hrp];simp[p1,p2,hps]);rw[hrp,hrt,hra,hrb,<-Array.foldl_toList,Array.toList_zip]at hry;refine⟨D+1,d.fn,_,asg,body,rfl,hry,?_⟩;generalize htm:(ps.toList.zip vs.toArray.toList).foldl (λtm (p:Tmp×BZ)=>tm.setIfInBounds p.1 p.2) a.tmps=tm' at*;have q1':tm'.size=n:=q1.trans h.size;have q2':∀t sv,Ay (T' ps.toList (QY q.ts y) (FG N (GP p z) J).L) t=Ac sv->sv.is z.C E S (tm'.getD t undef):=q2;have hX:SH w' S (Z.map (·.2)++((.Ai (D+1) (.loop d)::BF D::A)++I.O)):=Agh (A:=A) (B:=[.Ai (D+1) (.loop d),BF D]) (D:=Z.map (·.2)) (O:=I.O) hSH;have hYm:∀p∈bs,p∈FN η st.nk:=λp U=>by have e:=h.base p U;obtain⟨k,v⟩:=p;have e:η k=v:=e;rw[<-e];exact Nq (hw.lo _ U)
  have gm:∀X:List Aw,∀H H' Of3 r,H.le H'->GX X Of.ds G H Of3 r->GX X Of.ds G H' Of3 r:=λX H H' Of3 r hle ⟨O2,e,g,gd⟩=>⟨O2,e,hG _ _ _ _ hle g,gd⟩;refine roundIn_of_wpIn (F:=qZ) trivial ?_;refine hda (D+1) (G:=GX (.Ai (D+1) (.loop d)::BF D::A) Of.ds G) (r:=r') (a:=⟨tm',[]⟩) (st:=⟨T' ps.toList (QY q.ts y) (FG N (GP p z) J).L,(FG N (GP p z) J).O,(FG N (GP p z) J).nk⟩) (ke:=λ_ _=>C7) (kr:=λ_=>C7) (λp U=>(Ih U).1) (gm _) (hY.frame hYm) ⟨I,rfl,k1,k2⟩ (Sa.sat (st:=⟨T' ps.toList (QY q.ts y) (FG N (GP p z) J).L,(FG N (GP p z) J).O,(FG N (GP p z) J).nk⟩) (ds:=[]) ⟨s1.inv,q1',q2',s1.base,s1.nd,s1.lt,s1.res⟩ hX) (f1.Gw λτ hτ=>VK _ _ _ (OW _ _) hτ) M ?_ (λi Of1 r1 st1 η1 H2 a1 w1 _ _ _ _ hd1=>by cases hd1) (λOf1 r1 st1 η1 H2 a1 w1 _ _ _ _ hd1=>by cases hd1);intro Of1 r1 st1 η1 H2 a1 w1 hl1 ⟨Of2,e,g,gd⟩ h1 hw1 hd1;subst e;obtain⟨Y5,y1,y2,y3,y4⟩:=h1.own;refine⟨_,run_beginRound (SH.at_ (A:=Y5.map (·.2)) y2) hrs,?_⟩;refine hdb (D+1) (G:=GX (.Ai (D+1) (.loop {d with state:= .busy})::BF D::A) Of.ds G) (r:=r1) (Of:=⟨(.Ai (D+1) (.loop {d with state:= .busy})::BF D::A)++Of2.O,[]⟩) (λp U=>(Ih U).1) (gm _) (hY.frame hYm) ⟨Of2,rfl,g,gd⟩ ⟨h1.inv,h1.defers,h1.size,h1.Bo,h1.base,Y5,y1,Ahd y2 _,y3,y4⟩ hw1 hd1 ?_ (λi=>?_) ?_
  · intro Of3 r3 st3 η3 H3 a3 w3 T ⟨Of4,e,g4,gd4⟩ V hw3 hd3;subst e;obtain⟨Y6,z1,z2,z3,z4⟩:=V.own;have hend:(Instr.endRound (D+1) C7).run P w3= .ok (.bool Bp) (w3.putObj (D+1) (.loop d)):=by
     have:=run_endRound (P:=P) C7 (SH.at_ (A:=Y6.map (·.2)) z2);rw[<-K]at this⊢;exact this
    obtain⟨b1,Y7,b2,b3⟩:=QK (w:=w3.putObj (D+1) (.loop d)) (O:=(.Ai (D+1) (.loop d)::BF D::A)++Of4.O) (W J) hmz (hl1.trans T) s1 f1 ⟨V.inv,V.defers,V.size,V.Bo,V.base,Y6,z1,Ahd z2 _,z3,z4⟩ hw3;obtain⟨z',e3,e4⟩:=Bi hd3;obtain⟨η4,e5,e6⟩:=M7 (b2.sat (ds:=[]) b3) b1 (λp U=>(Ih U).1) e3;obtain⟨Y8,s8,g8⟩:=e5.sa;exact⟨_,_,hend,Bp,rfl,H3,_,hl1.trans T,Agh (B:=[.Ai (D+1) (.loop d),BF D]) g8,(k0.trans hl1).trans T,Of4,r3,g4,gd4, .inl ⟨z',η4,Y8,rfl,s8,e6,e4⟩⟩
  · intro Of3 r3 st3 η3 H3 a3 w3 T ⟨Of4,e,g4,gd4⟩ V hw3 hd3;subst e;obtain⟨Y6,z1,z2,z3,z4⟩:=V.own;have hend:(Instr.endRound (D+1) (Ac (.exit i))).run P w3= .ok (.bool Aj) (w3.putObj (D+1) (.loop {d with state:= .done,pending:=Ac (.exit i)})):=by
     have:=run_endRound (P:=P) (Ac (.exit i)) (SH.at_ (A:=Y6.map (·.2)) z2);exact this
    obtain⟨b1,Y7,b2,b3⟩:=QK (w:=w3.putObj (D+1) (.loop {d with state:= .done,pending:=Ac (.exit i)})) (O:=(.Ai (D+1) (.loop {d with state:= .done,pending:=Ac (.exit i)})::BF D::A)++Of4.O) (W J) hmz (hl1.trans T) s1 f1 ⟨V.inv,V.defers,V.size,V.Bo,V.base,Y6,z1,Ahd z2 _,z3,z4⟩ hw3;exact⟨_,_,hend,Aj,rfl,H3,_,hl1.trans T,Agh (B:=[.Ai (D+1) (.loop {d with state:= .done,pending:=Ac (.exit i)}),BF D]) b3,(k0.trans hl1).trans T,Of4,r3,g4,gd4, .inr ⟨rfl, .exit i,⟨(FG N (GP p z) J).L,st3.O,st3.nk⟩,η3,Y7,rfl,W J,b2,b1, .inr ⟨i,rfl,hd3⟩⟩⟩
  · intro Of3 r3 st3 η3 H3 a3 w3 T ⟨Of4,e,g4,gd4⟩ V hw3 hd3;subst e;obtain⟨Y6,z1,z2,z3,z4⟩:=V.own;have hend:(Instr.endRound (D+1) (Ac .ret)).run P w3= .ok (.bool Aj) (w3.putObj (D+1) (.loop {d with state:= .done,pending:=Ac .ret})):=by
     have:=run_endRound (P:=P) (Ac .ret) (SH.at_ (A:=Y6.map (·.2)) z2);exact this
    obtain⟨b1,Y7,b2,b3⟩:=QK (w:=w3.putObj (D+1) (.loop {d with state:= .done,pending:=Ac .ret})) (O:=(.Ai (D+1) (.loop {d with state:= .done,pending:=Ac .ret})::BF D::A)++Of4.O) (W J) hmz (hl1.trans T) s1 f1 ⟨V.inv,V.defers,V.size,V.Bo,V.base,Y6,z1,Ahd z2 _,z3,z4⟩ hw3;exact⟨_,_,hend,Aj,rfl,H3,_,hl1.trans T,Agh (B:=[.Ai (D+1) (.loop {d with state:= .done,pending:=Ac .ret}),BF D]) b3,(k0.trans hl1).trans T,Of4,r3,g4,gd4, .inr ⟨rfl, .ret,⟨(FG N (GP p z) J).L,st3.O,st3.nk⟩,η3,Y7,rfl,W J,b2,b1, .inl ⟨rfl,hd3⟩⟩⟩
 have nd:(keys Yc).Nodup:=by rw[l5];have:=ck3;unfold u7 at this;simp only[AT]at this;exact BK this.2.1
 have hyi:(us++[BZ.func (.yield (D+1)) #[] #[]]++cs.map η)[q.yi]?=Ac (BZ.func (.yield (D+1)) #[] #[]):=by rw[AI ck4,<-g1];simp
 refine(hsp.ok x ys hys G2 (.func (.yield (D+1)) #[] #[]) rfl mono2 no2 yld2 (λc=>η (AZ m c)) H (.Ai (D+1) (.loop d)::BF D::(Y0.map (·.2)++Of.O)) Yc _ w1 nd hlen l3 hyi l5 l6 ⟨Hp.le.refl H,Of,r,hg,rfl, .inl ⟨x0,η0,Y0,rfl,s0,e2,hd⟩⟩ h.inv (Agh (B:=[.Ai (D+1) (.loop d),BF D]) hsh0)).mono ?_;rintro e w' ⟨v,S,O1,Y1,rfl,hle1,hsh1,hk1,hr1,k0,I,r',k1,k2,k3⟩;have endS:∀ {s:St N.T} {E:Nat->BZ} {Z:List (Nat×Aw)} {o:Obj} (o':Obj),(∀t sv,Ay s.L t=Ac sv->∃j,sv= .Cw j)->Sa z.C z.CR n (FN η st.nk) s E S a.tmps Z->WF z.C z.CR (FN η st.nk) s->SH w' S (Y1.map (·.2)++ .Ai (D+1) o::BF D::(Z.map (·.2)++I.O))->
    Sat C CR n (K6 D I) bs (D0 z.C z.CR C.length CR.length (WM q x m s)) E S {a with defers:=EB D::a.defers} (w'.putObj (D+1) o')/\WF C CR bs (D0 z.C z.CR C.length CR.length (WM q x m s)):=λ{s} {E} {Z} {o} o' hc s2 f2 hs=>by
  have hs:=Agk hs o';have hs:SH (w'.putObj (D+1) o') S (Y1.map (·.2)++(([BF D]:List Aw)++(Z.map (·.2)++I.O))):=hs;have hs:=Aix hs;obtain⟨u1,Y3,u2,u3⟩:=ir (η:=η) (nk:=st.nk) ck3 (by rw[hks];exact l1) l2 (mY f2) (λk hk=>LY s2.base hk) hc hk1 hr1 s2 f2;have hs:=u3 _ _ hs;have u2':Sa z.C z.CR n bs (WM q x m s) E S a.tmps Y3:=⟨u2.inv,u2.size,u2.Bo,λp U=>(LY s2.base (hw.lo p U)).trans (h.base p U),u2.nd,u2.lt,u2.res⟩;have u1':WF z.C z.CR bs (WM q x m s):=⟨λp U=>Abr (hw.lo p U) (show st.nk<=s.nk from mY f2),u1.ok,u1.wf,u1.mC,u1.cP⟩;have hst:=u2'.sat (ds:=EB D::a.defers) hs;have hst:Sat z.C z.CR n (K6 D I) bs (WM q x m s) E S {a with defers:=EB D::a.defers} (w'.putObj (D+1) o'):=by
    have e:K6 D I=⟨([BF D]:List Aw)++I.O,EB D::a.defers⟩:=by rw[h.defers,<-k2];rfl
    rw[e];exact hst
  exact ZO c1 c2 c3 hst u1'
 rcases k3 with⟨J,E,Z,rfl,s1,f1,M⟩|⟨_,c,s,E,Z,rfl,hc,s1,f1,hj⟩
 ·have hrs:d.state= .ready:=by rw[<-K]
  have hrn:d.pending=C7:=by rw[<-K]
  refine⟨v,d,rfl,SH.at_ hsh1,by rw[hrs];simp,?_⟩;rw[hrn];obtain⟨t1,t2⟩:=endS (.loop {d with state:= .exhausted,pending:=C7}) (W J) s1 f1 hsh1;exact hn _ r' _ E S _ _ k0 (hpush _ _ _ _ k1) t1 t2 M
 ·refine⟨v,{d with state:= .done,pending:=Ac c},rfl,SH.at_ hsh1,by simp,?_⟩;obtain⟨t1,t2⟩:=endS (.loop {d with state:= .exhausted,pending:=Ac c}) hc s1 f1 hsh1;rcases hj with⟨rfl,hj⟩|⟨i,rfl,hj⟩;· exact wp_ret (hkr _ r' _ E S _ _ k0 (hpush _ _ _ _ k1) t1 t2 hj)
  · exact wp_exit (hke i _ r' _ E S _ _ k0 (hpush _ _ _ _ k1) t1 t2 hj)
end
end
section
variable {N : C9} {R : Type}
def gY(f:IQ N->Option (Option R)):List (IQ N)->Option R
 | []=>C7
 |q::l=>match f q with
  |some z=>z
  |none=>gY f l
def vO(Φ:Nat->Option (CQ N))(C:List (SV N.T))(CR:List (SR N.T))(n:Nat)(g:DQ)(ps:Array Tmp)(e:Option A_)(st:St N.T)(b d:eR N R)(kn:St N.T->Option R)(ke:Nat->St N.T->Option R)(kr:St N.T->Option R):Option R:=match Ax (Cv C st.L) g with
 | .AK f l a=>match Φ f with
  |some (.its h)=>match u_ l&&a.all λc=>match An CR st.O c with|some (.Ai _ _)=>Bp|_=>Aj with
   |true=>gY (λq=>oD C CR n ps e st q l a b d kn ke kr) h
   |false=>C7
  |_=>oE Φ C CR n g st kn
 |_=>C7
def unK{T:Nat->Type} :Nat->(St T->(St T->Option R)->Option R)->St T->Option R
 |0,_,_=>C7
 |n+1,f,st=>f st (λa=>unK n f a)
def den(cx:Cx N)(n:YL N R)(fu:Nat):Code->Nat->Bool->List (SV N.T)->List (SR N.T)->St N.T->(St N.T->Option R)->(Nat->St N.T->Option R)->(St N.T->Option R)->Option R
 | .skip,_,_,_,_,st,f,_,_=>f st
 | .label _,_,_,_,_,st,f,_,_=>f st
 | .region i o d,_,l,C,e,st,f,_,_=>Qe C e (cx.pre i) st λst=>match d with
  |true=>match l with
   |true=>C7
   |false=>match cx.ct i with
    |0=>wZ cx.P cx.Φ C e cx.n o st λst=>Qe C e (cx.post i) st f
    |m+1=>cm n cx.P cx.Φ C e cx.n o (m+1) st λst=>Qe C e (cx.post i) st f
  |false=>ca n cx.P cx.Φ C e cx.n o o.toList st λst=>Qe C e (cx.post i) st f
 | .seq a b,kb,l,C,e,st,f,h,k=>match(Ls b).bind cx.jn with
  |none=>den cx n fu a kb l C e st (λst=>den cx n fu b kb l C e st f h k) h k
  |some p=>match wy C e st p with
   |none=>C7
   |some q=>den cx n fu a kb l q.C q.CR q.st
     (λu=>Ab (SI N q.C q.CR kb (GP p q) u) λx=>den cx n fu b kb l q.C q.CR (FG N (GP p q) x)
      (λs=>f (D0 q.C q.CR C.length e.length s)) (λi s=>h i (D0 q.C q.CR C.length e.length s)) (λs=>k (D0 q.C q.CR C.length e.length s)))
     (λi s=>h i (D0 q.C q.CR C.length e.length s)) (λs=>k (D0 q.C q.CR C.length e.length s))
 | .cond c a b,kb,l,C,e,st,f,h,k=>match c with
  | .tmp t=>match Cv C st.L t with
   | .px _ .ub=>match den cx n fu a kb l C e st f h k,den cx n fu b kb l C e st f h k with
    |some x,Ac y=>n.ag x y
    |_,_=>C7
   |s=>xf s st (λst=>den cx n fu a kb l C e st f h k) (λst=>den cx n fu b kb l C e st f h k)
  | .const (.bool Bp)=>den cx n fu a kb l C e st f h k
  | .const (.bool Aj)=>den cx n fu b kb l C e st f h k
  |_=>C7
 | .block i a,kb,l,C,e,st,f,h,k=>den cx n fu a kb l C e st f (λj st=>match Hh i j with
  |true=>f st
  |false=>h j st) k
 | .loop a,kb,l,C,e,st,f,h,k=>match(Ls a).bind cx.la with
  |none=>unK 9 (λst nx=>den cx n fu a kb l C e st nx h k) st
  |some p=>match wy C e st p with
   |none=>C7
   |some q=>Ab (SI N q.C q.CR kb (GP p q) q.st) λz=>
    Ad fu (λx nx=>den cx n fu a kb l q.C q.CR (FG N (GP p q) x)
     (λu=>Ab (SI N q.C q.CR kb (GP p q) u) nx)
     (λi s=>h i (D0 q.C q.CR C.length e.length s)) (λs=>k (D0 q.C q.CR C.length e.length s))) z
 | .scope a,kb,l,C,e,st,f,h,k=>match l with
  |true=>C7
  |false=>den cx n fu a kb l C e st f h k
 | .exit i,_,_,_,_,st,_,h,_=>h i st
 | .ret,_,_,_,_,st,_,_,k=>k st
 | .rangeFunc g w v r,_,l,C,e,st,f,h,k=>match l with
  |true=>C7
  |false=>vO cx.Φ C e cx.n g w ((Ls (.seq v r)).bind cx.la) st (λkb C e st f h k=>den cx n fu v kb Bp C e st f h k) (λkb C e st f h k=>den cx n fu r kb Bp C e st f h k) f h k
 |_,_,_,_,_,_,_,_,_=>C7
theorem L4{F:Fence}{n:Nat}{P:GN}{Q:Exit->Act->IU->Prop}{X:Type}{c:Code}(I:X->Act->IU->Prop)(μ:X->Nat){x:X}{a:Act}{w:IU}(t:I x a w)
  (round:∀x a w,I x a w->c.wpIn F n P (Exit.then (λa' w'=> ∃D,I D a' w'/\μ D<μ x) Q) a w):(Code.loop c).wpIn F n P Q a w:=by
 intro b k v B y A;have key:∀j x a w,μ x=j->I x a w->
   ∃e a' w',Q e a' w'/\ArrivesIn (Machine.fenced P F) P (lone (b.atR a (.code c:: .inLoop c::k)) v w) b k v e a' w':=by
  intro j;induction j using Nat.strongRecOn with
  |_ j H=>
   intro x a w G E;obtain⟨e,f,g,m,d⟩:=round x a w E b (.inLoop c::k) v B y A;cases e with
   |normal=>
    obtain⟨o,p,z⟩:=m;obtain⟨s,r,u,q,i⟩:=H (μ o) (G▸z) o f g rfl p;exact⟨s,r,u,q, .of_steps (StepsIn.trans d (.one (fenced_calm y A rfl) stepR_inLoop)) i⟩
   |exit id=>exact⟨_,f,g,m, .pass (x:= .inLoop c) rfl (λ_ _=> .inl (by simp)) d⟩
   |goto l=>exact⟨_,f,g,m, .pass (x:= .inLoop c) rfl (λ_ _=> .inl (by simp)) d⟩
   |ret=>exact⟨_,f,g,m, .pass (x:= .inLoop c) rfl (λ_ _=> .inl (by simp)) d⟩
   |panic J=>exact⟨_,f,g,m, .pass (x:= .inLoop c) rfl (λ_ _=> .inl (by simp)) d⟩
   |outgrown=>exact⟨_,f,g,m, .pass (x:= .inLoop c) rfl (λ_ _=> .inl (by simp)) d⟩
 obtain⟨e,a',w',m,d⟩:=key _ x a w rfl t;exact⟨e,a',w',m, .of_steps (.one (fenced_calm y A rfl) stepR_loop) d⟩
theorem OM{f:IQ N->Option (Option R)}{r:R} :∀ {l:List (IQ N)},gY f l=Ac r->∃q∈l,f q=Ac (Ac r)
 | [],h=>by cases h
 |q::l,h=>by
  unfold gY at h;split at h;· grind
  ·obtain⟨d,a,b⟩:=OM h;grind
variable {P : GN} [C4 N P] {yv : BZ}
theorem Cq{cx:Cx N} [C4 N cx.P](u:∀f q,cx.Φ f=Ac q->Bt cx.P f q)(M:cx.P.follows .mixedOrders=Bp){yl:YL N R}{fu:Nat} :∀(c:Code) {kb:Nat} {Z:Bool} {ro:Option Nat} {bs:List (Nat×BZ)} {G:Hp->Fm->R->Prop} {Of:Fm} {r:R} {C:List (SV N.T)} {CR:List (SR N.T)} {st:St N.T} {kn:St N.T->Option R} {ke:Nat->St N.T->Option R} {kr:St N.T->Option R} {η:Nat->BZ} {H:Hp} {a:Act} {w:IU} {Q:Exit->Act->IU->Prop},
  (Z=Aj->ro=C7/\∀H Of r D,G H Of r->G H (K6 D Of) r)->(∀q∈bs,q.1<kb)->(∀H H' Of r,H.le H'->G H Of r->G H' Of r)->QO cx.P bs yl yv G->G H Of r->
  Sat C CR cx.n Of bs st η H a w->WF C CR bs st->den cx yl fu c kb Z C CR st kn ke kr=Ac r->
  Kn C CR cx.n G bs H kn (Q .normal)->(∀i,Kn C CR cx.n G bs H (ke i) (Q (.exit i)))->Kn C CR cx.n G bs H kr (Q .ret)->c.wpIn (FR ro) 0 cx.P Q a w
 | .skip,_,_,_,_,_,Of,r,C,CR,st,kn,ke,kr,η,H,a,w,Q,_,_,_,_,v,h,A,k,F,E,I=>wpIn_skip (F Of r st η H a w (Hp.le.refl H) v h A k)
 | .label _,_,_,_,_,_,Of,r,C,CR,st,kn,ke,kr,η,H,a,w,Q,_,_,_,_,v,h,A,k,F,E,I=>wpIn_label (F Of r st η H a w (Hp.le.refl H) v h A k)
 | .ret,_,_,_,_,_,Of,r,C,CR,st,kn,ke,kr,η,H,a,w,Q,_,_,_,_,v,h,A,k,F,E,I=>wpIn_ret (I Of r st η H a w (Hp.le.refl H) v h A k)
 | .exit i,_,_,_,_,_,Of,r,C,CR,st,kn,ke,kr,η,H,a,w,Q,_,_,_,_,v,h,A,k,F,E,I=>wpIn_exit (E i Of r st η H a w (Hp.le.refl H) v h A k)
 | .region i ops d,kb,Z,ro,bs,G,Of,r,C,CR,st,kn,ke,kr,η,H,a,w,Q,o,n,B,J,v,h,A,k,F,E,I=>by
  simp only[den]at k;refine FF h A k λT U H1 hl1 h1 hw1 hd1=>?_;have fin:∀Of' r' L η' H' a' w',H1.le H'->G H' Of' r'->Sat C CR cx.n Of' bs L η' H' a' w'->WF C CR bs L->Qe C CR (cx.post i) L kn=Ac r'->Q .normal a' w':=λOf' r' L η' H' a' w' K g0 V W S=>
   FF V W S λst2 η2 H2 hl2 k1 k2 k3=>F Of' r' st2 η2 H2 a' w' (hl1.trans (K.trans hl2)) (B _ _ _ _ hl2 g0) k1 k2 k3;have hg1:=B _ _ _ _ hl1 v;cases d with
  |true=>
   cases Z with
   |true=>grind
   |false=>
    obtain⟨rfl,_⟩:=o rfl;simp only at hd1;split at hd1;case h_2=>grind[wpIn_wide,cg]
    grind[wpIn_wide,rl]
  |false=>
   obtain⟨l,rfl⟩:∃l:List K7,ops=l.toArray:=⟨ops.toList,by simp⟩;grind[wpIn_region_lit,SL]
 | .seq x y,kb,Z,ro,bs,G,Of,r,C,CR,st,kn,ke,kr,η,H,a,w,Q,o,n,B,J,v,h,A,k,F,E,I=>by
  simp only[den]at k;split at k;· exact wpIn_seq (Cq u M x o n B J v h A k (λO r1 T U H1 a1 w1 K g0 V W S=>Cq u M y o n B J g0 V W S (F.le K) (λi=>(E i).le K) (I.le K)) E I)
  ·rename_i p hp;split at k;· grind
   ·rename_i q hb;obtain⟨c1,c2,c3,c4,c5⟩:=Ut h A hb;refine wpIn_seq (Cq u M x o n B J v c4 c5 k (λO r1 T U H1 a1 w1 K g0 V W S=>?_) (λi=>Kn.rs c1 c2 c3 (E i)) (Kn.rs c1 c2 c3 I));obtain⟨z,e1,e2⟩:=Bi S;obtain⟨η2,k1,k2⟩:=M7 V W n e1;exact Cq u M y o n B J g0 k1 k2 e2 (Kn.rs c1 c2 c3 (F.le K)) (λi=>Kn.rs c1 c2 c3 ((E i).le K)) (Kn.rs c1 c2 c3 (I.le K))
 | .cond c x y,kb,Z,ro,bs,G,Of,r,C,CR,st,kn,ke,kr,η,H,a,w,Q,o,n,B,J,v,h,A,k,F,E,I=>by
  simp only[den]at k;split at k
  ·rename_i t;split at k
   ·rename_i ks hub;split at k;case h_2=>grind
    rename_i x1 y1 hx1 hy1;obtain⟨rfl,rfl⟩:=yl.nI _ _ _ k;have hv:=h.lk t;rw[hub]at hv;obtain⟨b,hv⟩:=hv;cases b with
    |true=>exact wpIn_cond_true hv (Cq u M x o n B J v h A hx1 F E I)
    |false=>exact wpIn_cond_false hv (Cq u M y o n B J v h A hy1 F E I)
   obtain⟨b,L,h1,h2,h3,h4⟩:=UM h A k;cases b with
   |true=>exact wpIn_cond_true h1 (Cq u M x o n B J v h2 h3 h4 F E I)
   |false=>exact wpIn_cond_false h1 (Cq u M y o n B J v h2 h3 (by simpa using h4) F E I)
  ·exact wpIn_cond_true rf (Cq u M x o n B J v h A k F E I)
  ·exact wpIn_cond_false rf (Cq u M y o n B J v h A k F E I)
  grind
 | .block i x,kb,Z,ro,bs,G,Of,r,C,CR,st,kn,ke,kr,η,H,a,w,Q,o,n,B,J,v,h,A,k,F,E,I=>by
  simp only[den]at k;refine wpIn_block (Cq u M x o n B J v h A k F (λj O r1 T U H1 a1 w1 K g0 V W S=>?_) I);simp only[Exit.inBlock];split at S;· rename_i hb;rw[if_pos (AI hb).symm];exact F O r1 T U H1 a1 w1 K g0 V W S
  ·rename_i hb;rw[if_neg (λe=>Abf hb e.symm)];exact E j O r1 T U H1 a1 w1 K g0 V W S
 | .loop x,kb,Z,ro,bs,G,Of,r,C,CR,st,kn,ke,kr,η,H,a,w,Q,o,n,B,J,v,h,A,k,F,E,I=>by
  simp only[den]at k;split at k;· refine L4 (X:=Nat×St N.T×(Nat->BZ)×Hp×Fm×R) (λX a w=>H.le X.2.2.2.1/\G X.2.2.2.1 X.2.2.2.2.1 X.2.2.2.2.2/\Sat C CR cx.n X.2.2.2.2.1 bs X.2.1 X.2.2.1 X.2.2.2.1 a w/\WF C CR bs X.2.1/\unK X.1 (λst nx=>den cx yl fu x kb Z C CR st nx ke kr) X.2.1=Ac X.2.2.2.2.2) (λX=>X.1) (x:=(9,st,η,H,Of,r)) ⟨Hp.le.refl H,v,h,A,k⟩ ?_;rintro⟨m,st3,η3,H3,Of3,r3⟩ a w ⟨l1,l0,l2,l3,l4⟩;cases m with
   |zero=>cases l4
   |succ m=>exact Cq u M x o n B J l0 l2 l3 l4 (λO r1 T U H1 a1 w1 K g0 V W S=>⟨(m,T,U,H1,O,r1),⟨l1.trans K,g0,V,W,S⟩,Afk m⟩) (λi=>(E i).le l1) (I.le l1)
  ·rename_i p hp;split at k;· cases k
   ·rename_i q hb;obtain⟨c1,c2,c3,c4,c5⟩:=Ut h A hb;obtain⟨z,e1,e2⟩:=Bi k;obtain⟨η2,k1,k2⟩:=M7 c4 c5 n e1;refine L4 (X:=Nat×BJ N (GP p q).hs×(Nat->BZ)×Hp×Fm×R) (λX a w=>H.le X.2.2.2.1/\G X.2.2.2.1 X.2.2.2.2.1 X.2.2.2.2.2/\Sat q.C q.CR cx.n X.2.2.2.2.1 bs (FG N (GP p q) X.2.1) X.2.2.1 X.2.2.2.1 a w/\WF q.C q.CR bs (FG N (GP p q) X.2.1)/\Ad X.1 (λx nx=>den cx yl fu _ kb Z q.C q.CR (FG N (GP p q) x)
     (λL=>Ab (SI N q.C q.CR kb (GP p q) L) nx)
     (λi s=>ke i (D0 q.C q.CR C.length CR.length s)) (λs=>kr (D0 q.C q.CR C.length CR.length s))) X.2.1=Ac X.2.2.2.2.2) (λX=>X.1) (x:=(fu,z,η2,H,Of,r)) ⟨Hp.le.refl H,v,k1,k2,e2⟩ ?_;rintro⟨m,z,η3,H3,Of3,r3⟩ a w ⟨l1,l0,l2,l3,l4⟩;obtain⟨m',rfl,l5⟩:=Um l4;refine Cq u M x o n B J l0 l2 l3 l5 (λO r1 T U H1 a1 w1 K g0 V W S=>?_) (λi=>Kn.rs c1 c2 c3 ((E i).le l1)) (Kn.rs c1 c2 c3 (I.le l1));obtain⟨z',e1,e2⟩:=Bi S;obtain⟨η2,k1,k2⟩:=M7 V W n e1;exact⟨(m',z',η2,H1,O,r1),⟨l1.trans K,g0,k1,k2,e2⟩,Afk m'⟩
 | .rangeFunc g ps asg body,kb,Z,ro,bs,G,Of,r,C,CR,st,kn,ke,kr,η,H,a,w,Q,o,n,B,J,v,h,A,k,F,E,I=>by
  simp only[den]at k;split at k;· cases k
  ·obtain⟨rfl,Y⟩:=o rfl;refine wpIn_wide.2 ?_;unfold vO at k;split at k
   ·rename_i f l cs hs;split at k
    ·rename_i qs hq;split at k
     ·rename_i hb;rw[AT]at hb;obtain⟨q,hqm,k⟩:=OM k;have hgg:=h.ev g;rw[hs]at hgg;obtain⟨us,e,K⟩:=hgg;refine fR (u f _ hq q hqm) (λl {C CR kb bs G Of r st kn ke kr η H a w Q} k1 k2 k3 k4 k5 k6 k7 k8 k9 k10=>Cq u M asg (ro:=Ac l) (λe=>by cases e) k1 k2 k3 k4 k5 k6 k7 k8 k9 k10) (λl {C CR kb bs G Of r st kn ke kr η H a w Q} k1 k2 k3 k4 k5 k6 k7 k8 k9 k10=>Cq u M body (ro:=Ac l) (λe=>by cases e) k1 k2 k3 k4 k5 k6 k7 k8 k9 k10) B Y J v h A e K hb.1 (λc hc=>?_) k F E I;have:=No.1 hb.2 c hc;split at this;· rename_i g' b hR;exact⟨g',b,hR⟩
      ·cases this
     ·cases k
    ·exact fS u h A k λD L η' H' a' w' K V W S=>F (K6 D Of) r L η' H' a' w' K (Y _ _ _ _ (B _ _ _ _ K v)) V W S
   ·cases k
 | .scope x,kb,Z,ro,bs,G,Of,r,C,CR,st,kn,ke,kr,η,H,a,w,Q,o,n,B,J,v,h,A,k,F,E,I=>by
  simp only[den]at k;split at k;· cases k
  ·obtain⟨rfl,Y⟩:=o rfl;exact wpIn_wide.2 (wp_scope_straight (wpIn_wide.1 (Cq u M x o n B J v h A k F E I)))
 | .goto _,kb,Z,ro,bs,G,Of,r,C,CR,st,kn,ke,kr,η,H,a,w,Q,o,n,B,J,v,h,A,k,F,E,I=>by cases k
 | .refuse _,kb,Z,ro,bs,G,Of,r,C,CR,st,kn,ke,kr,η,H,a,w,Q,o,n,B,J,v,h,A,k,F,E,I=>by cases k
end
section
variable {N : C9}
section
variable{R:Type}{O:List Aw}{y:R}
def Xy(O:List Aw)(y:R):Hp->Fm->R->Prop:=λ_ a r=>r=y/\∃M,a=RT O M
theorem Xx:∀H a Of r,H.le a->Xy O y H Of r->Xy O y a Of r:=λ_ _ _ _ _ h=>h
theorem Xw:Aj=Aj->C7=(C7:Option Nat)/\∀H Of r D,Xy O y H Of r->Xy O y H (K6 D Of) r:=λ_=>⟨rfl,λ_ _ _ D ⟨h,M,e⟩=>⟨h,D::M,by subst e;rfl⟩⟩
end
end
section
variable {N : C9}
section
variable{C:List (SV N.T)}{P:GN}{w:IU}{CR:List (SR N.T)}{n:Nat}{Of:Fm}{st:St N.T}{η:Nat->BZ}{H:Hp}{a:Act}{τ:Nat->Nat}{Rr:Nat->Option (SR N.T)}{fn:Func}
def rsA(P:GN)(C:List (SV N.T))(CR:List (SR N.T))(st:St N.T):ResultVar->Option (SV N.T)
 | .tmp s=>Ac (Cv C st.L s)
 | .cell c e=>match Cv C st.L c,L_ N P e with
  | .loc b 0,Ac a=>match An CR st.O b with
   |some (.Ai _ l)=>match KP N C 64 a l with
    |some (x, .nl)=>Ac (.d a x)
    |_=>match a.agg with
     |true=>match whole l&&Hh (TY N l) (a.sz N)with
      |true=>Ac l
      |false=>C7
     |false=>match EY N C l 0 C7 with
      |some (.d _ _)=>C7
      |z=>z
   |_=>C7
  |_,_=>C7
def vN(P:GN)(C:List (SV N.T))(CR:List (SR N.T))(st:St N.T):List ResultVar->Option (List (SV N.T))
 | []=>Ac []
 |v::l=>match rsA P C CR st v,vN P C CR st l with
  |some a,Ac r=>Ac (a::r)
  |_,_=>C7
theorem fO[C4 N P]{bs:List (Nat×BZ)}{v:ResultVar}{s:SV N.T}(h:Sat C CR n Of bs st η H a w)(f:rsA P C CR st v=Ac s):∃u,(fK a.tmps v).run P w= .ok u w/\s.is C η H u:=by
 cases v with
 |tmp t=>
  cases f;exact⟨_,by rfl,h.lk t⟩
 |cell J ty=>
  simp only[rsA]at f;split at f
  ·rename_i b I hs ht;split at f
   ·rename_i g l hb;obtain⟨d,U,p,bytes,zv,M⟩:=Ke ht;have W:=h.lk J;rw[hs]at W;obtain⟨B,e1,R⟩:=W;obtain⟨Y,hn,r,_,q⟩:=h.own;rcases q b _ hb with e|⟨X,h1,B',cs,E,e4,F⟩;· grind
    rw[e1]at E;have E:B=B':=by grind[ptr]
    subst E;subst e4;obtain⟨i,T,_⟩:=Jj Of.O hn h1;have D:I.agg=Bp->cs.toList.length=I.sz N->(fK a.tmps (.cell J ty)).run P w= .ok (.agg cs) w:=λha k=>by
     have:=Dk (P:=P) (w:=w) (a:=⟨B,0,C7⟩) (vs:=cs.toList) U (by grind) (by rw[k];omega) (λj u hj=>by rw[Addr.add_lit];exact r.LW T (by simpa using hj));simp_all[fK,ptr,asAddr]
    have ld1:I.agg=Aj->∀u,cs[0]?=Ac u->(fK a.tmps (.cell J ty)).run P w= .ok u w:=λha u h0=>by have:=Dj (P:=P) (w:=w) (a:=⟨B,0,C7⟩) U (by rw[p,ha]) (r.LW T h0);simp only[fK,R,ptr];simpa [asAddr]using this
    split at f
    ·rename_i x hx;cases f;obtain⟨c1,Q,S,G,o⟩:=EK (cs:=cs.toList) hx F;have o:BZ.agg Q.toArray= .agg #[]:=o;have o:Q=[]:=by simpa using o
     subst o;rw[Adi]at S;rw[<-S]at G;have k:=Bg G;cases ha:I.agg with
     |true=>exact⟨.agg cs,D ha k,cs.toList,G,by unfold CL;rw[ha]⟩
     |false=>
      rw[Zl ha]at k;obtain⟨u,V⟩:∃u,cs.toList=[u]:=Adb.1 k
      exact⟨u,ld1 ha u (by
         have:cs.toList[0]?=Ac u:=by rw[V];rfl
         simpa using this),cs.toList,G,by unfold CL;rw[ha];exact V⟩
    ·split at f
     ·rename_i ha;split at f;· rename_i O;cases f;rw[AT]at O;have:=HS (cs:=cs.toList) O.1 F;exact⟨.agg cs,D ha (by rw[<-this];exact AI O.2),F⟩
      ·cases f
     ·rename_i ha;have f:EY N C l 0 C7=Ac s/\∀t y,s≠ .d t y:=by
       revert f;cases hz:EY N C l 0 C7 with
       |none=>intro f;cases f
       |some z=>cases z<;>intro f<;>cases f<;>exact⟨rfl,λ_ _ e=>by cases e⟩
      obtain⟨c,L,hc⟩:=Dt (cs:=cs.toList) f.1 F;obtain⟨u,k1,k2,k3⟩:=L;rcases k3 with⟨ty',y,rfl,e⟩|⟨ho,hn'⟩;· exact absurd rfl (f.2 _ _)
      ·have:c=[u]:=by rw[<-k2,A9 ho]
       subst this;refine⟨u,ld1 ha u ?_,k1⟩;match K:cs.toList,hc with
       |z::zs,hc=>
        have:cs.toList[0]?=Ac u:=by rw[K];simpa using hc
        simpa using this
   grind
  grind
theorem PC{P:GN} [C4 N P]{C:List (SV N.T)}{CR:List (SR N.T)}{n:Nat}{Of:Fm}{bs:List (Nat×BZ)}{st:St N.T}{η:Nat->BZ}{H:Hp}{a:Act}{w:IU}(h:Sat C CR n Of bs st η H a w):∀ {l:List ResultVar} {c:List (SV N.T)},vN P C CR st l=Ac c->∃vs:List BZ,vs.length=c.length/\(l.mapM (fK a.tmps)).run P w= .ok vs w/\∀(i:Nat) (s:SV N.T),c[i]?=Ac s->∃v,vs[i]?=Ac v/\s.is C η H v
 | [],c,b=>by cases b;simp
 |v::l,c,b=>by
  simp only[vN]at b;split at b;· rename_i s r e f;obtain⟨u,o,p⟩:=fO h e;obtain⟨vs,g,j,k⟩:=PC h f;refine⟨u::vs,by grind,by simp_all,λi m d=>?_⟩;grind
  grind
def zU(P:GN)(l:List ResultVar)(b:Nat)(a:A_)(d:Nat)(st:St N.T):Option (BJ N a.hs):=match vN P [] [] st l with
 |some c=>
  let m:=Hi [] (An [] st.O) (λi=>c.getD i .no) a
  match(Hh c.length d&&iT d 3)&&(Nl (a.sl.map (·.1)) (aT d)&&(aT b).all λk=>Hh (AZ m k) k)with
  |true=>JP [] (An [] st.O) (λi=>c.getD i .no) m a
  |false=>C7
 |none=>C7
def SF(cx:Cx N)(fu:Nat)(f:Func)(a b:A_)(d:Nat)(x:BJ N a.hs):Option (BJ N b.hs):=match f.body with
 |none=>C7
 |some c=>den cx (noP b.hs) fu c cx.kb Aj [] [] (FG N a x) (zU cx.P f.results.toList a.nk b d) (λ_ _=>C7) (zU cx.P f.results.toList a.nk b d)
def Yg(cx:Cx N)(a b:A_)(gone:List Nat):Bool:=(iT a.sl.length cx.n&&(Nl (a.sl.map (·.1)) (aT a.sl.length)&&(a.sl.all λp=>p.2.pl)))&&((a.ro.all λp=>aX p.1 a.nk)&&(Ci (b.ro.map (·.1))&&((a.ro.all λp=>B_ (b.ro.map (·.1)) p.1||B_ gone p.1)&&iT a.nk cx.kb)))
theorem Z0(a:List HT)(x:BJ N a) :∀j,D9 τ Rr (res C (Cu N a x j)):=by
 have:∀(a:List HT) (x:BJ N a) (j:Nat),Cu N a x j= .no\/∃h y,Cu N a x j=eU N h y:=by
  intro a;induction a with
  |nil=>exact λ_ _=> .inl rfl
  |cons t b c=>
   intro x j;cases b with
   |nil=>cases j with
    |zero=>exact .inr ⟨t,x,rfl⟩
    |succ j=>exact .inl rfl
   |cons u b=>cases j with
    |zero=>exact .inr ⟨t,x.1,rfl⟩
    |succ j=>exact c x.2 j
 intro j;rcases this a x j with e|⟨h,y,e⟩;· rw[e];trivial
 ·rw[e];cases h<;>trivial
theorem inst_pl{a:List HT}{x:BJ N a}{p:SP}(h:p.pl=Bp) :D9 τ Rr (res C (inst N a x p)):=by
 cases p with
 |v j t=>exact Z0 _ _ j
 |nat j=>exact Z0 _ _ j
 |AH _=>trivial
 |loc _ _=>trivial
 |AK _ _ _=>trivial
 |Am=>trivial
 |nl=>trivial
 |mp _=>trivial
 |pd j t off=>
  show D9 τ Rr (res C (match Cu N a x j with| .d t x=>SV.pd t x off|_=> .no));split<;>trivial
 |px b z=>cases z with
  |sf=>trivial
  |hc _=>trivial
  |sub j n t=>
   show D9 τ Rr (res C (match Cu N a x j,Cu N a x n with| .na i, .na m=>SV.px b (.sub i m t)|_,_=> .px b .any));split<;>trivial
 |sv c=>cases c<;>trivial
 |_=>cases h
theorem fG{a:A_}{c i:Nat}(h:a.sl.map (·.1)=aT c)(hi:i<c):(i,Il a.sl i)∈a.sl:=by
 have d:i∈keys a.sl:=by grind[keys]
 obtain⟨x,b⟩:=Ds d;grind[Il,A4]
theorem He{a:Array BZ}{l:List BZ}(u:(fn.results.toList.mapM (fK a)).run P w= .ok l w):(results fn a).run P w= .ok (if h:l.toArray.size=1 then l.toArray[0]else .tuple l.toArray) w:=by rw[Mw];obtain⟨r,e⟩:∃r:List ResultVar,fn.results=r.toArray:=⟨fn.results.toList,by simp⟩;rw[e]at u⊢;simp at u;simp[u]
theorem bR{cx:Cx N} [mp:C4 N cx.P](hΦ:∀f q,cx.Φ f=Ac q->Bt cx.P f q)(hm:cx.P.follows .mixedOrders=Bp){fu f:Nat}{b n:A_}{B:Nat}{gone:List Nat}(he:TM cx.P f)(hf:cx.P.funcs[f]?=Ac fn)(hn:fn.ntmps=cx.n)(hc:Yg cx b n gone=Bp):Cr cx.P f ⟨b,n,B,gone,SF cx fu fn b n B⟩:=by
 unfold Yg at hc;simp only[AT]at hc;obtain⟨⟨c1,c2,c3⟩,c4,c5,c6,c7⟩:=hc;refine⟨he,λx y hy η H Of Y vs hnd hin=>?_⟩;obtain⟨i1,i2,i3,i4,hiv⟩:=hin;unfold SF at hy;split at hy;· grind
 ·rename_i c hb;let bs:List (Nat×BZ):=(aT b.nk).map λk=>(k,η k);have T:∀p∈bs,p.1<b.nk/\η p.1=p.2:=λp g=>by
   grind
  have hro:∀p∈b.ro,p.1<b.nk:=λp g=>by simpa using No.1 c4 p g
  refine Ts.ofM hf hb hn (by grind) λa w U hsh=>?_;have fin:Kn [] [] cx.n (Xy Of y) bs H (zU cx.P fn.results.toList b.nk n B) (bodyPostM qZ 0 cx.P fn (Ret H λv D O'=> ∃η' Y',O'=Y'.map (·.2)++Of/\xx ⟨b,n,B,gone,SF cx fu fn b n B⟩ y η η' D Y Y' v) .ret):=λOf1 r1 st A D a' J I hg S _ E=>by
   obtain⟨e0,M,rfl⟩:=hg;rw[e0]at E;show LeavesInM _ _ _ _ _ _ a'.defers _ _;rw[S.defers];refine Ju S λJ S=>?_;unfold zU at E;split at E
   ·rename_i As hAs;simp only at E;generalize hmm:Hi [] (An [] st.O) (λi=>As.getD i .no) n=m at E;split at E
    ·rename_i hck;simp only[AT]at hck;obtain⟨⟨e1,e2⟩,e3,e4⟩:=hck;have e1:=AI e1;have e2:=Aax e2;have e3:=Fx e3;have hlen:n.sl.length=B:=by
      have:=congrArg FD e3;grind
     obtain⟨o,u1,u2,u3⟩:=PC S hAs;obtain⟨Y1,y1,y2,y3,y4⟩:=S.own;have hlt:∀p∈n.sl,p.1<B:=λp g=>by have:p.1∈n.sl.map (·.1):=By.2 ⟨p,g,rfl⟩;grind
     obtain⟨r1,r2,r3⟩:=LV (C:=[]) (η:=A) (H:=D) (Y:=Y1) (vs:=o) E (by rw[u1,e1,hlen]) (λp g=>by
      have I:p.1<As.length:=by rw[e1];exact hlt p g
      obtain⟨v,v1,V⟩:=u3 p.1 As[p.1] (GB I);refine⟨v,v1,?_⟩;rw[Aaa,GB I];exact V) (λp g sr hsr=>y4 _ sr hsr);have P:∀k,k<b.nk->AZ m k=k:=λk d=>AI (No.1 e4 k (Abg.2 d));let W:List (Nat×Aw):=n.ro.map λp=>(p.1,(Ay Y1 (AZ m p.1)).getD .emp);have kY2:keys W=n.ro.map (·.1):=by show(n.ro.map _).map _=_;rw[Aam];rfl
     have nd2:(keys W).Nodup:=by rw[kY2];exact BK c5
     have hsh2:SH J D (W.map (·.2)++Of):=by
      have hz:=SH.Rd y2 (Z:=n.ro.map λp=>(AZ m p.1,(Ay Y1 (AZ m p.1)).getD .emp)) (by
       unfold keys;rw[Aam];exact r1) (λp g=>by obtain⟨z,hz,rfl⟩:=By.1 g;obtain⟨_,X,hX,_⟩:=r3 z hz;simp only[hX,Ack]);rw[Aam]at hz;rw[Aam];exact hz
     have hres:∃v,(results fn a'.tmps).run cx.P J= .ok v J/\(Jl (N:=N) ⟨b,n,B,gone,SF cx fu fn b n B⟩ y).is [] (λc=>A (AZ m c)) D v:=by
      have ul:o.length=B:=by rw[u1,e1]
      have F:∀i,i<B->∃v,o[i]?=Ac v/\(inst N n.hs y (Il n.sl i)).is [] (λc=>A (AZ m c)) D v:=λi hi=>r2 _ (fG e3 hi)
      refine⟨_,He u2,?_⟩;match o,ul,e2,F with
      | [],ul,_,F=>
       subst ul;rfl
      | [u],ul,_,F=>
       subst ul;obtain⟨v,v1,V⟩:=F 0 (by simp);cases v1;exact V
      | [u,u'],ul,_,F=>
       subst ul;obtain⟨v,v1,V⟩:=F 0 (by simp);obtain⟨v',v3,v4⟩:=F 1 (by simp);cases v1;cases v3;exact⟨_,_,rfl,V,v4⟩
      | [u,u',u''],ul,_,F=>
       subst ul;obtain⟨v,v1,V⟩:=F 0 (by simp);obtain⟨v',v3,v4⟩:=F 1 (by simp);obtain⟨v'',v5,v6⟩:=F 2 (by simp);cases v1;cases v3;cases v5;exact⟨_,_,_,rfl,V,v4,v6⟩
      |_::_::_::_::_,ul,h3',_=>simp at ul;omega
     obtain⟨v,g1,g2⟩:=hres;refine⟨v,g1,v,D,W.map (·.2)++Of,rfl,I,hsh2,λc=>A (AZ m c),W,rfl,λk d=>?_,nd2,λk d=> .inr (by rw[kY2]at d;exact d),λp g=>?_,λk d hn1 hn2=>?_,g2⟩;· rw[P k d];exact S.base (k,η k) (By.2 ⟨k,Abg.2 d,rfl⟩)
     ·obtain⟨_,X,hX,h4⟩:=r3 p g;refine⟨X,?_,h4⟩;have:(p.1,(Ay Y1 (AZ m p.1)).getD .emp)∈W:=By.2 ⟨p,g,rfl⟩;rw[CK nd2 this,hX];rfl
     ·rw[i3]at d;obtain⟨p,g,rfl⟩:=By.1 d;have:=No.1 c6 p g;rw[Adj]at this;rcases this with h|h;· exact absurd (AU.1 h) hn1
      ·exact absurd (AU.1 h) hn2
    grind
   grind
  refine wpIn_wide.1 (Cq (R:=BJ N n.hs) (bs:=bs) (G:=Xy Of y) (Of:=RT Of []) (r:=y) (ro:=C7) (yv:=undef) (η:=η) hΦ hm c Xw (λq K=>Abr (T q K).1 (Aax c7)) Xx pM ⟨rfl,[],rfl⟩ (st:=FG N b x) (H:=H) ⟨hiv,U.defers,U.size,λt sv ht=>?_,λp g=>(T p g).2,Y,hnd,hsh,λk d=>?_,λk sr d=>?_⟩ ⟨λp g=>(T p g).1,λj hj=>?_,⟨λ_=>0,λt=>?_⟩,λk d=>(by cases d),λs hs=>(by cases hs)⟩ hy fin (λi M r st η D a' J _ _ _ _ E=>by cases E) fin)
  ·obtain⟨
       q,K,rfl,rfl⟩:=DE ht;obtain⟨v,S,h2⟩:=i2 q K;have:a.tmps.getD q.1 undef=v:=U.get q.1 v (by
    have key:∀(o:List BZ) (i t:Nat),o[t-i]?=Ac v->i<=t->lk (J3 i o) t=Ac v:=by
     intro o;induction o with
     |nil=>intro i t h;simp at h
     |cons u o ih=>
      intro i t h hle;simp only[J3,lk];cases hb:Hh i t with
      |true=>
       have:=AI hb;subst this;simp at h;simp[h]
      |false=>
       have ne:=Abf hb;refine ih (i+1) t ?_ (by omega);rw[show t-i=(t-(i+1))+1 by omega]at h;simpa using h
    exact key vs 0 q.1 S (Abh _));rw[this];exact h2
  ·rw[i3]at d;obtain⟨p,g,rfl⟩:=By.1 d;exact hro p g
  ·unfold An at d;cases I:Ay (FG N b x).O k with
   |none=>rw[I]at d;cases d
   |some s0=>
    rw[I]at d;obtain⟨q,K,e⟩:=By.1 (A4 I);cases e;obtain⟨X,hX,h2⟩:=i4 q K;cases d;refine .inr ⟨X,hX,?_⟩;generalize instR N b.hs x q.2=z at h2;cases z with
    |Cw j=>exact h2.elim
    |_=>exact h2
  ·refine Cz λhm=>?_;obtain⟨q,K,rfl⟩:=By.1 hm;obtain⟨z,hz,rfl⟩:=By.1 K;have:=hro z hz;have hj:b.nk<=z.1:=hj;omega
  ·unfold Cv;cases ht:Ay (FG N b x).L t with
   |none=>trivial
   |some sv=>
    simp only;obtain⟨q,K,rfl,rfl⟩:=DE ht;have hpl:=No.1 c3 q K;exact inst_pl hpl
end
end
section
variable {N : C9}
section
variable{fn:Func}
def yI(ky:Nat)(ts:List Ty):YL N (List (DP N ts)×Bool):= {ky:=ky,f:=λC b k=>match UR N C ts b with
 |some y=>match k Aj with
  |some ([],Bp)=>match k Bp with
   |some l=>Ac (y::l.1,l.2)
   |none=>Ac ([y],Aj)
  |_=>C7
 |none=>C7}
def JT:List (Nat×RP)->Nat->List (Nat×SR N.T)
 | [],_=>[]
 |p::l,i=>(p.1, .Cw i)::JT l (i+1)
def wD(O:List (Nat×SR N.T)):List (Nat×RP)->Nat->Bool
 | [],_=>Bp
 |p::l,i=>(match Ay O p.1 with
  |some (.Cw j)=>Hh i j
  |_=>Aj)&&wD O l (i+1)
def zW(a:A_)(ts:List Ty)(st:St N.T):Option (List (DP N ts)×Bool):=match wD st.O a.ro 0 with
 |true=>Ac ([],Bp)
 |false=>C7
def Wh(cx:Cx N)(fu:Nat)(f:Func)(a:A_)(b:Nat)(ts:List Ty)(x:BJ N a.hs):Option (List (DP N ts)×Bool):=match f.body,f.results.toList with
 |some c,[]=>den cx (yI a.nk ts) fu c (a.nk+1) Aj [] (a.ro.map λp=>instR N a.hs x p.2) ⟨(b, .mp a.nk)::(FG N a x).L,JT a.ro 0,a.nk+1⟩ (zW a ts) (λ_ _=>C7) (zW a ts)
 |_,_=>C7
def iY(cx:Cx N)(a:A_)(c:Nat):Bool:=(iT a.sl.length cx.n&&(aX c a.sl.length&&(a.sl.all λp=>p.2.pl)))&&((a.sl.all λp=>aX p.1 a.sl.length&&p.2.ks.all λk=>aX k a.nk)&&((a.ro.all λp=>aX p.1 a.nk&&p.2.ks.all λk=>aX k a.nk)&&Ci (a.ro.map (·.1))))
theorem Calls.ofM{P:GN}{n:Nat}{f:FuncId}{c:Code}{vs:List BZ}{w:IU}{X:Ending->IU->Prop}(e:P.funcs[f]?=Ac fn)(d:fn.body=Ac c)(g:fn.ntmps=n)(b:iT vs.length n=Bp)
  (h:∀a,Fr a n (J3 0 vs)->c.wp P (bodyPostM qZ 0 P fn X) a w):Calls P f vs.toArray w X:=by
 subst g;exact(callsIn_wide (n:=0)).1 (callsIn_of_wp_marks e d trivial ((wpIn_wide (n:=0)).2 (h _ (Fr.enter vs _ b))) rfl)
theorem Qv{CR:List (SR N.T)}{g:Nat×RP->SR N.T} :∀ {l:List (Nat×RP)} {i:Nat},(l.map (·.1)).Nodup->(∀j p,l[j]?=Ac p->CR[i+j]?=Ac (g p))->∀p∈l,∃j,Ay (JT l i:List (Nat×SR N.T)) p.1=Ac (.Cw j)/\CR[j]?=Ac (g p)
 | [],_,_,_,p,h=>by grind
 |q::l,i,b,hc,p,h=>by
  simp only[Aas,Aaz]at b;simp only[JT,Ay];cases c:Hh q.1 p.1 with
  |true=>
   have e:=AI c;rcases Aav.1 h with rfl|h;· exact⟨i,rfl,by simpa using hc 0 _ rfl⟩
   grind
  |false=>
   rcases Aav.1 h with rfl|h;· simp at c
   ·exact Qv b.2 (λj p d=>by have:=hc (j+1) p (by grind);grind) p h
theorem Ie:∀ {l:List (Nat×RP)} {i:Nat},keys (JT l i:List (Nat×SR N.T))=l.map (·.1)
 | [],_=>rfl
 |p::l,i=>by show p.1::keys (JT l (i+1):List (Nat×SR N.T))=_;rw[Ie];rfl
theorem cw:∀ {l:List (Nat×RP)} {i k:Nat} {s:SR N.T},Ay (JT l i) k=Ac s->∃p∈l,p.1=k
 |l,i,k,s,h=>by have:=Dm h;grind[Ie]
theorem Uv{O:List (Nat×SR N.T)}{CR:List (SR N.T)}{g:Nat×RP->SR N.T} :∀ {l:List (Nat×RP)} {i:Nat},wD O l i=Bp->(∀j p,l[j]?=Ac p->CR[i+j]?=Ac (g p))->∀p∈l,An CR O p.1=Ac (g p)
 | [],_,_,_,p,h=>by grind
 |q::l,i,b,hc,p,h=>by
  simp only[wD,AT]at b;rcases Aav.1 h with rfl|h
  ·have a:=b.1;unfold An;split at a;· rename_i j e;have:=AI a;have:=hc 0 p rfl;grind[C6]
   grind
  ·exact Uv b.2 (λj p c=>by have:=hc (j+1) p (by simpa using c);grind) p h
def itG{R:Type}(a:Hp->List Aw->R->Prop):Hp->Fm->R->Prop:=λH b r=> ∃M O,b=RT O M/\a H O r
theorem bT{cx:Cx N} [mp:C4 N cx.P](hΦ:∀f q,cx.Φ f=Ac q->Bt cx.P f q)(hm:cx.P.follows .mixedOrders=Bp){fu f:Nat}{d:A_}{R:Nat}{ts:List Ty}(he:TM cx.P f)(K:cx.P.funcs[f]?=Ac fn)(hn:fn.ntmps=cx.n)(hc:iY cx d R=Bp):I8 cx.P f ⟨d,R,ts,Wh cx fu fn d R ts⟩:=by
 unfold iY at hc;simp only[AT]at hc;obtain⟨⟨c1,c2,c3⟩,c4,V,c6⟩:=hc;have c6:=BK c6
 have c4:∀p∈d.sl,p.1<d.sl.length/\∀k∈p.2.ks,k<d.nk:=λp n=>by have:=No.1 c4 p n;simp_all
 have V:∀p∈d.ro,p.1<d.nk/\∀k∈p.2.ks,k<d.nk:=λp n=>by have:=No.1 V p n;rw[AT]at this;exact⟨by simpa using this.1,λk m=>by simpa using No.1 this.2 k m⟩
 refine⟨he,λx ys E G2 yv hone mono2 no2 W η H O Y U w hnd i1 i2 hyi i3 i4 hg hiv hsh=>?_⟩;have E:Wh cx fu fn d R ts x=Ac ys:=E;unfold Wh at E;split at E;case h_2=>grind
 rename_i c Z hrs;generalize hCR:(d.ro.map λp=>instR N d.hs x p.2)=CR at E;have hcr:∀j p,d.ro[j]?=Ac p->CR[0+j]?=Ac (instR N d.hs x p.2):=λj p hj=>by rw[<-hCR,Abl,Abz,hj];rfl
 obtain⟨o,F,ηy⟩:∃o:Nat->BZ,(∀k,k<d.nk->o k=η k)/\o d.nk=yv:=⟨λk=>match Hh k d.nk with
  |true=>yv
  |false=>η k,λk m=>by
   cases Z:Hh k d.nk with
   |true=>grind[Nat.eq_of_beq_eq_true]
   |false=>simp only[Z],by simp only[Agn]⟩;obtain⟨bs,hbs,hbm⟩:∃bs:List (Nat×BZ),(∀p∈bs,p.1<d.nk+1/\o p.1=p.2)/\∀k,k<d.nk+1->(k,o k)∈bs:=⟨(aT (d.nk+1)).map λk=>(k,o k),λp n=>by
  obtain⟨k,m,rfl⟩:=By.1 n;exact⟨Abg.1 m,rfl⟩,λk m=>By.2 ⟨k,Abg.2 m,rfl⟩⟩;obtain⟨G,J⟩:∃G:Hp->Fm->List (DP N ts)×Bool->Prop,G=itG G2:=⟨_,rfl⟩;have hG:∀H B Of r,H.le B->G H Of r->G B Of r:=by subst J;exact λH B Of r hle ⟨M,O,e,g⟩=>⟨M,O,e,mono2 _ _ _ _ hle g⟩
 have hY:QO cx.P bs (yI d.nk ts) yv G:=by
  subst J;refine⟨λC As k r _=>?_,λC As k r Of H gi ⟨M,O,e,g⟩ K η A U w Q h2 I=>?_⟩;· have:=hbm d.nk (Afk _);rw[ηy]at this;exact this
  ·subst e;have K:(match UR N C ts As with
    |some y=>match k Aj with
     |some ([],Bp)=>match k Bp with
      |some l=>Ac (y::l.1,l.2)
      |none=>Ac ([y],Aj)
     |_=>C7
    |none=>C7)=Ac r:=K;split at K
   ·rename_i y hy;split at K
    ·rename_i hk0;split at K
     ·rename_i l hk1;cases K;have I:SH w H ((A++M.map BF)++O):=by rw[Aaj];exact I
      refine(W H O y l.1 l.2 gi g (A++M.map BF) U w (J2 ts As U y hy Q h2) I).mono λb w' ⟨B,P,k1,k2,k3⟩=>⟨B,RT P M,Ll l b,k1,rfl,by rw[Aaj]at k2;exact k2,⟨M,P,rfl,k3⟩,?_⟩;cases b with
      |true=>exact hk1
      |false=>exact hk0
     ·cases K;have I:SH w H ((A++M.map BF)++O):=by rw[Aaj];exact I
      refine(W H O y [] Aj gi g (A++M.map BF) U w (J2 ts As U y hy Q h2) I).mono λb w' ⟨B,P,k1,k2,k3⟩=>?_;cases b with
      |true=>exact absurd k3 (no2 _ _)
      |false=>exact⟨B,RT P M,([],Bp),k1,rfl,by rw[Aaj]at k2;exact k2,⟨M,P,rfl,k3⟩,hk0⟩
    ·cases K
   ·cases K
 refine Calls.ofM K Z hn (by rw[i1];exact c1) λa T=>?_;have fin:Kn [] CR cx.n G bs H (zW d ts) (bodyPostM qZ 0 cx.P fn (λe w'=> ∃v B P Y',e= .returned v/\H.le B/\SH w' B (Y'.map (·.2)++P)/\keys Y'=d.ro.map (·.1)/\(∀p∈d.ro,∃X,Ay Y' p.1=Ac X/\(instR N d.hs x p.2).is [] η B p.1 X)/\G2 B P ([],Bp)) .ret):=λOf r st η1 B a' w' hl hgg Q _ I=>by
  rw[J]at hgg;obtain⟨M,P,e,g⟩:=hgg;subst e;show LeavesInM _ _ _ _ _ _ a'.defers _ _;rw[Q.defers];refine Ju Q λw' Q=>?_;unfold zW at I;split at I;case h_2=>cases I
  rename_i hio;cases I;obtain⟨Y1,y1,y2,y3,y4⟩:=Q.own;have rr:=Uv (CR:=CR) (g:=λp=>instR N d.hs x p.2) hio hcr;have hx:∀p∈d.ro,∃X,Ay Y1 p.1=Ac X/\(instR N d.hs x p.2).is [] η B p.1 X:=λp n=>by
   rcases y4 p.1 _ (rr p n)with e|⟨X,x1,x2⟩;· obtain⟨X,_,hX⟩:=i4 p n;rw[e]at hX;exact hX.elim
   ·have bb:∀k,k<d.nk->η k=η1 k:=λk m=>by
     have:=Q.base (k,o k) (hbm k (by omega));rw[this,F k m]
    exact⟨X,x1,SR.is.env (bb p.1 (V p n).1) (λk m=>by cases m) (λk m=>bb k ((V p n).2 k (instR_ment _ _ _ k m))) x2⟩
  refine⟨.tuple #[],?_, .tuple #[],B,P,d.ro.map (λp=>(p.1,(Ay Y1 p.1).getD .emp)),rf,hl,?_,?_,λp n=>?_,g⟩
  ·rw[Mw];have:fn.results= #[]:=by simpa using hrs
   rw[this];simp
  ·refine SH.Rd (by simpa [RT]using y2) ?_ λp n=>?_;· unfold keys;rw[Aam];exact c6
   ·obtain⟨z,hz,rfl⟩:=By.1 n;obtain⟨X,x1,_⟩:=hx z hz;simp only[x1,Ack]
  ·unfold keys;rw[Aam];rfl
  ·obtain⟨X,x1,x2⟩:=hx p n;refine⟨X,?_,x2⟩;have nd:(keys (d.ro.map (λp=>(p.1,(Ay Y1 p.1).getD .emp)))).Nodup:=by unfold keys;rw[Aam];exact c6
   rw[CK nd (By.2 ⟨p,n,rfl⟩),x1];rfl
 have key:∀(us:List BZ) (i t:Nat) (v:BZ),us[t-i]?=Ac v->i<=t->lk (J3 i us) t=Ac v:=by
  intro us;induction us with
  |nil=>intro i t v h;simp at h
  |cons u us ih=>
   intro i t v h hle;simp only[J3,lk];cases Z:Hh i t with
   |true=>
    have:=AI Z;subst this;simp at h;simp[h]
   |false=>
    have ne:=Abf Z;refine ih (i+1) t v ?_ (by omega);rw[show t-i=(t-(i+1))+1 by omega]at h;simpa using h
 refine wpIn_wide.1 (Cq (bs:=bs) (G:=G) (Of:=RT O []) (r:=ys) (ro:=C7) (yv:=yv) (η:=o) (H:=H) hΦ hm c (λ_=>⟨rfl,by subst J;exact λ_ _ _ D ⟨M,O,e,g⟩=>⟨D::M,O,by subst e;rfl,g⟩⟩) (λq hq=>(hbs q hq).1) hG hY (by subst J;exact⟨[],O,rfl,hg⟩) (st:=⟨(R, .mp d.nk)::(FG N d x).L,JT d.ro 0,d.nk+1⟩) ⟨hiv,T.defers,T.size,λt sv ht=>?_,λp n=>(hbs p n).2,Y,hnd,by simpa [RT]using hsh,λk m=>?_,λk sr m=>?_⟩ ⟨λp n=>(hbs p n).1,λj hj=>?_,⟨λ_=>0,λt=>?_⟩,λk m=>(by cases m),λs hs=>(by cases hs)⟩ E fin (λi Of r st η B a' w' _ _ _ _ I=>by cases I) fin);· simp only[Ay]at ht;cases S:Hh R t with
  |true=>
   rw[S]at ht;cases ht;have:=AI S;subst this;rw[T.get R yv (key U 0 R yv hyi (Abh _))];exact⟨ηy.symm,hone⟩
  |false=>
   rw[S]at ht;obtain⟨q,hq,rfl,rfl⟩:=DE ht;obtain⟨v,Q,h2⟩:=i2 q hq;rw[T.get q.1 v (key U 0 q.1 v Q (Abh _))];have:(inst N d.hs x q.2).is [] o H v:=h2.env (λk m=>by cases m) (λk m=>F k ((c4 q hq).2 k (by rw[<-inst_ment];exact m)));exact SV.BS.imp (λj v ⟨s,e,h⟩=>by simp at e) this
 ·rw[i3]at m;obtain⟨p,n,rfl⟩:=By.1 m;show p.1<d.nk+1;have:=(V p n).1;omega
 ·unfold An at m;split at m;· rename_i s hs;cases m;obtain⟨p,n,rfl⟩:=cw hs;obtain⟨j,e1,e2⟩:=Qv (CR:=CR) (g:=λp=>instR N d.hs x p.2) c6 hcr p n;have hs:Ay (JT d.ro 0) p.1=Ac s:=hs;rw[e1]at hs;cases hs;obtain⟨X,x1,x2⟩:=i4 p n;refine .inr ⟨X,x1,?_⟩;simp only[C6,Aaa,e2,Ack];exact SR.is.env (F p.1 (V p n).1) (λk m=>by cases m) (λk m=>F k ((V p n).2 k (instR_ment _ _ _ k m))) x2
  ·cases m
 ·refine Cz λhm=>?_;have hm:j∈keys (JT d.ro 0:List (Nat×SR N.T)):=hm;rw[Ie]at hm;obtain⟨p,n,rfl⟩:=By.1 hm;have:=(V p n).1;have hj:d.nk+1<=p.1:=hj;omega
 ·unfold Cv;simp only[Ay];cases S:Hh R t with
  |true=>trivial
  |false=>
   simp only;cases ht:Ay (FG N d x).L t with
   |none=>trivial
   |some sv=>
    simp only;obtain⟨q,hq,rfl,rfl⟩:=DE ht;have hpl:=No.1 c3 q hq;exact inst_pl hpl
end
end
section
variable {N : C9}
def yJ(ky:Nat)(ts:List Ty):YL N (List (DP N ts)×Option Bool):= {ky:=ky,f:=λC b k=>match UR N C ts b with
 |some y=>match k Aj with
  |some ([],Ac Aj)=>match k Bp with
   |some r=>Ac (y::r.1,r.2)
   |none=>Ac ([y],C7)
  |_=>C7
 |none=>C7}
def zV(P:GN)(CR:List (SR N.T))(l:List ResultVar)(c:Bool)(a:A_)(ts:List Ty)(st:St N.T):Option (List (DP N ts)×Option Bool):=match wD st.O a.ro 0,vN P [] CR st l with
 |true,Ac A=>match c,A with
  |true,[s]=>match TK [] .bool s with
   |some b=>Ac ([],Ac b)
   |none=>C7
  |false,[]=>Ac ([],Ac Aj)
  |_,_=>C7
 |_,_=>C7
def Wg(cx:Cx N)(fu:Nat)(f:Func)(a:A_)(d:Nat)(ts:List Ty)(b:Bool)(x:BJ N a.hs):Option (List (DP N ts)×Option Bool):=match f.body with
 |some c=>den cx (yJ d ts) fu c a.nk Aj [] (a.ro.map λp=>instR N a.hs x p.2) ⟨(FG N a x).L,JT a.ro 0,a.nk⟩ (zV cx.P (a.ro.map λp=>instR N a.hs x p.2) f.results.toList b a ts) (λ_ _=>C7) (zV cx.P (a.ro.map λp=>instR N a.hs x p.2) f.results.toList b a ts)
 |none=>C7
def iX(cx:Cx N)(a:A_)(c:Nat):Bool:=(iT a.sl.length cx.n&&(aX c a.nk&&(a.sl.all λp=>p.2.pl)))&&((a.sl.all λp=>aX p.1 a.sl.length&&p.2.ks.all λk=>aX k a.nk)&&((a.ro.all λp=>aX p.1 a.nk&&p.2.ks.all λk=>aX k a.nk)&&Ci (a.ro.map (·.1))))
theorem bS{cx:Cx N} [mp:C4 N cx.P](hΦ:∀f q,cx.Φ f=Ac q->Bt cx.P f q)(hm:cx.P.follows .mixedOrders=Bp){fu f:Nat}{fn:Func}{d:A_}{P:Nat}{ts:List Ty}{rb:Bool}(he:TM cx.P f)(J:cx.P.funcs[f]?=Ac fn)(hn:fn.ntmps=cx.n)(hc:iX cx d P=Bp):I7 cx.P f ⟨d,P,ts,rb,Wg cx fu fn d P ts rb⟩:=by
 unfold iX at hc;simp only[AT]at hc;obtain⟨⟨c1,c2,c3⟩,c4,c5,c6⟩:=hc;have c6:=BK c6;have c2:P<d.nk:=by simp_all
 have c5:∀p∈d.ro,p.1<d.nk/\∀k∈p.2.ks,k<d.nk:=λp m=>by have:=No.1 c5 p m;rw[AT]at this;exact⟨by simpa using this.1,λk n=>by simpa using No.1 this.2 k n⟩
 refine⟨he,λx ys E η G2 mono2 no2 U H O Y S w hnd i1 i2 i3 i4 hg hiv hsh=>?_⟩;have E:Wg cx fu fn d P ts rb x=Ac ys:=E;unfold Wg at E;split at E;case h_2=>grind
 rename_i c Q;generalize hCR:(d.ro.map λp=>instR N d.hs x p.2)=CR at E;have hcr:∀j p,d.ro[j]?=Ac p->CR[0+j]?=Ac (instR N d.hs x p.2):=λj p hj=>by rw[<-hCR,Abl,Abz,hj];rfl
 obtain⟨bs,V,hbm⟩:∃bs:List (Nat×BZ),(∀p∈bs,p.1<d.nk/\η p.1=p.2)/\∀k,k<d.nk->(k,η k)∈bs:=⟨(aT d.nk).map λk=>(k,η k),λp m=>by grind,λk n=>By.2 ⟨k,Abg.2 n,rfl⟩⟩;obtain⟨G,I⟩:∃G:Hp->Fm->List (DP N ts)×Option Bool->Prop,G=itG G2:=⟨_,rfl⟩;have hG:∀H B Of r,H.le B->G H Of r->G B Of r:=by subst I;exact λH B Of r hle ⟨M,O,e,g⟩=>⟨M,O,e,mono2 _ _ _ _ hle g⟩
 have hY:QO cx.P bs (yJ P ts) (η P) G:=by
  subst I;refine⟨λC As k r _=>hbm P c2,λC As k r Of H gi ⟨M,O,e,g⟩ J η A S w F h2 o=>?_⟩;subst e;have J:(match UR N C ts As with
   |some y=>match k Aj with
    |some ([],Ac Aj)=>match k Bp with
     |some r=>Ac (y::r.1,r.2)
     |none=>Ac ([y],C7)
    |_=>C7
   |none=>C7)=Ac r:=J;split at J
  ·rename_i y hy;split at J
   ·rename_i hk0;split at J
    ·rename_i l hk1;cases J;have o:SH w H ((A++M.map BF)++O):=by rw[Aaj];exact o
     refine(U H O y l.1 l.2 gi g (A++M.map BF) S w (J2 ts As S y hy F h2) o).mono λb T ⟨B,K,k1,R,k3⟩=>⟨B,RT K M,xr l.1 l.2 b,k1,rfl,by rw[Aaj]at R;exact R,⟨M,K,rfl,k3⟩,?_⟩;cases b with
     |true=>exact hk1
     |false=>exact hk0
    ·cases J;have o:SH w H ((A++M.map BF)++O):=by rw[Aaj];exact o
     refine(U H O y [] C7 gi g (A++M.map BF) S w (J2 ts As S y hy F h2) o).mono λb T ⟨B,K,k1,R,k3⟩=>?_;cases b with
     |true=>exact absurd k3 (no2 _ _)
     |false=>exact⟨B,RT K M,([],Ac Aj),k1,rfl,by rw[Aaj]at R;exact R,⟨M,K,rfl,k3⟩,hk0⟩
   ·cases J
  ·cases J
 refine Calls.ofM J Q hn (by rw[i1];exact c1) λa W=>?_;have fin:Kn [] CR cx.n G bs H (zV cx.P CR fn.results.toList rb d ts) (bodyPostM qZ 0 cx.P fn (λe T=> ∃v B K Y' b,e= .returned v/\H.le B/\SH T B (Y'.map (·.2)++K)/\keys Y'=d.ro.map (·.1)/\(∀p∈d.ro,∃X,Ay Y' p.1=Ac X/\(instR N d.hs x p.2).is [] η B p.1 X)/\G2 B K ([],Ac b)/\(rb=Bp->v= .bool b)) .ret):=λOf r st η1 B a' T hl hgg F _ o=>by
  rw[I]at hgg;obtain⟨M,K,e,g⟩:=hgg;subst e;show LeavesInM _ _ _ _ _ _ a'.defers _ _;rw[F.defers];refine Ju F λT F=>?_;unfold zV at o;split at o;case h_2=>cases o
  rename_i A hio hA;obtain⟨l,u1,u2,u3⟩:=PC F hA
  obtain⟨b,v,rfl,hv,hrun⟩:∃b v,r=([],Ac b)/\(rb=Bp->v= .bool b)/\(results fn a'.tmps).run cx.P T= .ok v T:=by
   split at o
   ·split at o;· rename_i b Q;cases o;obtain⟨v,e,V⟩:=u3 0 _ rfl;obtain⟨u,rfl⟩:=Adb.1 u1;cases e;obtain⟨cs,e1,e2⟩:=DK (t:= .bool) Q V;subst e1;cases e2;exact⟨b,_,rfl,λ_=>rfl,He u2⟩
    ·cases o
   ·cases o;exact⟨Aj,_,rfl,(λe=>by cases e),He u2⟩
   ·cases o
  obtain⟨Y1,y1,y2,y3,y4⟩:=F.own;have rr:=Uv (CR:=CR) (g:=λp=>instR N d.hs x p.2) hio hcr;have hx:∀p∈d.ro,∃X,Ay Y1 p.1=Ac X/\(instR N d.hs x p.2).is [] η B p.1 X:=λp m=>by
   rcases y4 p.1 _ (rr p m)with e|⟨X,x1,x2⟩;· obtain⟨X,_,hX⟩:=i4 p m;rw[e]at hX;exact hX.elim
   ·have bb:∀k,k<d.nk->η k=η1 k:=λk n=>by
     have:=F.base (k,η k) (hbm k n);exact this.symm
    exact⟨X,x1,SR.is.env (bb p.1 (c5 p m).1) (λk n=>by cases n) (λk n=>bb k ((c5 p m).2 k (instR_ment _ _ _ k n))) x2⟩
  refine⟨v,hrun,v,B,K,d.ro.map (λp=>(p.1,(Ay Y1 p.1).getD .emp)),b,rf,hl,?_,?_,λp m=>?_,g,hv⟩
  ·refine SH.Rd (by simpa [RT]using y2) ?_ λp m=>?_;· unfold keys;rw[Aam];exact c6
   ·obtain⟨z,hz,rfl⟩:=By.1 m;obtain⟨X,x1,_⟩:=hx z hz;simp only[x1,Ack]
  ·unfold keys;rw[Aam];rfl
  ·obtain⟨X,x1,x2⟩:=hx p m;refine⟨X,?_,x2⟩;have nd:(keys (d.ro.map (λp=>(p.1,(Ay Y1 p.1).getD .emp)))).Nodup:=by unfold keys;rw[Aam];exact c6
   rw[CK nd (By.2 ⟨p,m,rfl⟩),x1];rfl
 have key:∀(us:List BZ) (i t:Nat) (v:BZ),us[t-i]?=Ac v->i<=t->lk (J3 i us) t=Ac v:=by
  intro us;induction us with
  |nil=>intro i t v h;simp at h
  |cons u us ih=>
   intro i t v h hle;simp only[J3,lk];cases Q:Hh i t with
   |true=>
    have:=AI Q;subst this;simp at h;simp[h]
   |false=>
    have ne:=Abf Q;refine ih (i+1) t v ?_ (by omega);rw[show t-i=(t-(i+1))+1 by omega]at h;simpa using h
 refine wpIn_wide.1 (Cq (bs:=bs) (G:=G) (Of:=RT O []) (r:=ys) (ro:=C7) (yv:=η P) (η:=η) (H:=H) hΦ hm c (λ_=>⟨rfl,by subst I;exact λ_ _ _ D ⟨M,O,e,g⟩=>⟨D::M,O,by subst e;rfl,g⟩⟩) (λq hq=>(V q hq).1) hG hY (by subst I;exact⟨[],O,rfl,hg⟩) (st:=⟨(FG N d x).L,JT d.ro 0,d.nk⟩) ⟨hiv,W.defers,W.size,λt sv ht=>?_,λp m=>(V p m).2,Y,hnd,by simpa [RT]using hsh,λk n=>?_,λk sr n=>?_⟩ ⟨λp m=>(V p m).1,λj hj=>?_,⟨λ_=>0,λt=>?_⟩,λk n=>(by cases n),λs Z=>(by cases Z)⟩ E fin (λi Of r st η H a' T _ _ _ _ o=>by cases o) fin);· obtain⟨q,hq,rfl,rfl⟩:=DE ht;obtain⟨v,F,h2⟩:=i2 q hq;rw[W.get q.1 v (key S 0 q.1 v F (Abh _))];exact SV.BS.imp (λj v ⟨s,e,h⟩=>by simp at e) h2
 ·rw[i3]at n;obtain⟨p,m,rfl⟩:=By.1 n;exact(c5 p m).1
 ·unfold An at n;split at n;· rename_i s Z;cases n;obtain⟨p,m,rfl⟩:=cw Z;obtain⟨j,e1,e2⟩:=Qv (CR:=CR) (g:=λp=>instR N d.hs x p.2) c6 hcr p m;have Z:Ay (JT d.ro 0) p.1=Ac s:=Z;rw[e1]at Z;cases Z;obtain⟨X,x1,x2⟩:=i4 p m;refine .inr ⟨X,x1,?_⟩;simp only[C6,Aaa,e2,Ack];exact x2
  ·cases n
 ·refine Cz λhm=>?_;have hm:j∈keys (JT d.ro 0:List (Nat×SR N.T)):=hm;rw[Ie]at hm;obtain⟨p,m,rfl⟩:=By.1 hm;have:=(c5 p m).1;have hj:d.nk<=p.1:=hj;omega
 ·unfold Cv;cases ht:Ay (FG N d x).L t with
  |none=>simp only[ht];trivial
  |some sv=>
   simp only[ht];obtain⟨q,hq,rfl,rfl⟩:=DE ht;have hpl:=No.1 c3 q hq;exact inst_pl hpl
end
def cE(n:Nat):Cd Empty where
 sz:=n
 BP _ x _:=x.elim
 len {_ x _} _:=x.elim
 mono {_ _ x _} _ _:=x.elim
 one {_ x _} _:=x.elim
def idE:List (Nat×Nat)->Nat->Option Nat
 | [],_=>C7
 |(t,i)::l,u=>match Hh u t with
  |true=>Ac i
  |false=>idE l u
section
variable {X : Type} {s : Nat}
section
variable{H:Hp}{α:Type}{d:Cd α}
abbrev Lx(c:Cd X)(t:Ty):Cd (t.den λ_=>X):=S9 (T:=λ_=>X) (λ_=>c) t
def YW(s:Nat):Ty->Nat
 | .st t=>YW s t
 | .pr a b=>YW s a+YW s b
 | .un=>0
 | .bs=>4
 | .nm _=>s
 | .ar n t=>n*YW s t
 |_=>1
theorem FL{c:Cd X}(h:c.sz=s):∀t,(Lx c t).sz=YW s t
 | .int k=>by cases k<;>rfl
 | .bool=>rfl
 | .str=>rfl
 | .sl _=>rfl
 | .st t=>FL h t
 | .pr a b=>by show(Lx c a).sz+(Lx c b).sz=_;rw[FL h a,FL h b];rfl
 | .un=>rfl
 | .bs=>rfl
 | .nm i=>h
 | .ar n t=>by show n*(Lx c t).sz=_;rw[FL h t];rfl
theorem JA{α:Type}{c d:Cd α}{H:Hp}(h:∀a cs,c.BP H a cs->d.BP H a cs):∀ {l:List α} {xs:List BZ},A2 c H l xs->A2 d H l xs
 | [],_,k=>k
 |_::_,_,⟨cs,g,e,b,f⟩=>⟨cs,g,e,h _ _ b,JA h f⟩
theorem fH{c:Cd α}(b:c.sz=d.sz)(h:∀a cs,c.BP H a cs->d.BP H a cs){l:List α}{v:BZ}(k:G4 c H l v):G4 d H l v:=by obtain⟨⟨i,e,f⟩,g⟩:=k;exact⟨⟨i,b▸e,JA h f⟩,g⟩
theorem Fw{c d:Cd X}(b:c.sz=d.sz){H:Hp}(h:∀a cs,c.BP H a cs->d.BP H a cs):∀(t:Ty) (a:t.den λ_=>X) (cs:List BZ),(Lx c t).BP H a cs->(Lx d t).BP H a cs
 | .int _,_,_,k=>k
 | .bool,_,_,k=>k
 | .str,_,_,k=>k
 | .sl t,_,_,⟨v,e,k⟩=>⟨v,e,fH (by rw[FL b t,FL rfl t]) (Fw b h t) k⟩
 | .st t,a,cs,k=>Fw b h t a cs k
 | .pr t u,_,_,⟨g,i,e,j,l⟩=>⟨g,i,e,Fw b h t _ _ j,Fw b h u _ _ l⟩
 | .un,_,_,k=>k
 | .bs,_,_,k=>k
 | .nm _,a,cs,k=>h a cs k
 | .ar _ t,_,_,k=>⟨k.1,JA (Fw b h t) k.2⟩
end
variable (B : Ty) (out : X -> B.den λ_ => X) (hB : YW s B = s)
section
variable{H:Hp}{n m:Nat}{a:X}{cs:List BZ}
def cF:Nat-> {c:Cd X//c.sz=s}
 |0=>⟨⟨s,λ_ _ _=>False,λh=>h.elim,λ_ h=>h,λh=>h.elim⟩,rfl⟩
 |n+1=>⟨⟨s,λH a d=>(Lx (cF n).1 B).BP H (out a) d,λh=>by rw[<-hB,<-FL (cF n).2 B];exact(Lx _ B).len h,λe h=>(Lx _ B).mono e h,λh=>(Lx _ B).one h⟩,rfl⟩
theorem WK{H:Hp} :∀ {n:Nat} {a:X} {cs:List BZ},(cF B out hB n).1.BP H a cs->(cF B out hB (n+1)).1.BP H a cs
 |0,_,_,h=>h.elim
 |n+1,_,_,h=>Fw ((cF B out hB n).2.trans (cF B out hB (n+1)).2.symm) (λ_ _=>WK) B _ _ h
theorem xd(h:n<=m)(k:(cF B out hB n).1.BP H a cs):(cF B out hB m).1.BP H a cs:=by
 induction h with
 |refl=>omega
 |step _ c=>grind[WK]
def Yl:Cd X where
 sz:=s
 BP H a c:= ∃n,(cF B out hB n).1.BP H a c
 len h:=by obtain⟨n,h⟩:=h;rw[(cF B out hB n).1.len h];grind
 mono d h:=by obtain⟨n,h⟩:=h;exact⟨n,(cF B out hB n).1.mono d h⟩
 one h:=by obtain⟨n,h⟩:=h;exact(cF B out hB n).1.one h
theorem MR{α:Type}{H:Hp}{c:Nat->Cd α}{d:Cd α}(up:∀ {n m:Nat},n<=m->∀a cs,(c n).BP H a cs->(c m).BP H a cs)(h:∀a cs,d.BP H a cs->∃n,(c n).BP H a cs):∀ {l:List α} {xs:List BZ},A2 d H l xs->∃n,A2 (c n) H l xs
 | [],_,k=>⟨0,k⟩
 |_::_,_,⟨cs,i,e,f,g⟩=>by obtain⟨n,f⟩:=h _ _ f;obtain⟨m,g⟩:=MR up h g;exact⟨max n m,cs,i,e,up (Alb ..) _ _ f,JA (up (Ajm ..)) g⟩
theorem Vo(t:Ty)(h:n<=m)(a:t.den λ_=>X)(cs:List BZ)(k:(Lx (cF B out hB n).1 t).BP H a cs):(Lx (cF B out hB m).1 t).BP H a cs:=Fw ((cF B out hB n).2.trans (cF B out hB m).2.symm) (λ_ _=>xd B out hB h) t a cs k
theorem Ig{H:Hp} :∀(t:Ty) (a:t.den λ_=>X) (cs:List BZ),(Lx (Yl B out hB) t).BP H a cs->∃n,(Lx (cF B out hB n).1 t).BP H a cs
 | .int _,_,_,k=>⟨0,k⟩
 | .bool,_,_,k=>⟨0,k⟩
 | .str,_,_,k=>⟨0,k⟩
 | .sl t,_,_,⟨v,e,⟨j,d,b⟩,i⟩=>by obtain⟨n,b⟩:=MR (c:=λn=>Lx (cF B out hB n).1 t) (Vo B out hB t) (Ig t) b;refine⟨n,v,e,⟨j,?_,b⟩,i⟩;rw[FL (cF B out hB n).2 t];rw[FL (s:=s) (c:=Yl B out hB) rfl t]at d;omega
 | .st t,a,cs,k=>Ig t a cs k
 | .pr t u,_,_,⟨g,h,e,d,b⟩=>by obtain⟨n,d⟩:=Ig t _ _ d;obtain⟨m,b⟩:=Ig u _ _ b;exact⟨max n m,g,h,e,Vo B out hB t (Alb ..) _ _ d,Vo B out hB u (Ajm ..) _ _ b⟩
 | .un,_,_,k=>⟨0,k⟩
 | .bs,_,_,k=>⟨0,k⟩
 | .nm _,_,_,k=>k
 | .ar _ t,_,_,⟨d,b⟩=>by obtain⟨n,b⟩:=MR (c:=λn=>Lx (cF B out hB n).1 t) (Vo B out hB t) (Ig t) b;exact⟨n,d,b⟩
theorem c8:(Yl B out hB).BP H a cs↔(Lx (Yl B out hB) B).BP H (out a) cs:=by
 constructor;· rintro⟨n,h⟩;cases n with
  |zero=>trivial
  |succ n=>exact Fw (c:=(cF B out hB n).1) (d:=Yl B out hB) (cF B out hB n).2 (λ_ _ k=>⟨n,k⟩) B _ _ h
 ·intro h;obtain⟨n,h⟩:=Ig B out hB B _ _ h;exact⟨n+1,h⟩
end
end
abbrev A5:=List (Bool×List (Int×Int×Int))
abbrev Bc:=List (Int×Int)×List (Int×Int)
abbrev Fz:=Bool×Bool×Bool×Bc×A5
inductive Vl where
 |mk (any:Bool) (sc:Fz) (lists:List (List (Vl×Vl)×List (Vl×Vl))) (structs:List (List (Aq×Int×Vl×Vl)×List (A5×Vl×Vl)))
def Vl.any:Vl->Bool| .mk a _ _ _=>a
def Vl.sc:Vl->Fz| .mk _ s _ _=>s
def Vl.lists:Vl->List (List (Vl×Vl)×List (Vl×Vl))| .mk _ _ l _=>l
def Vl.structs:Vl->List (List (Aq×Int×Vl×Vl)×List (A5×Vl×Vl))| .mk _ _ _ l=>l
abbrev spB:Ty:= .st (.pr (.int .i64) (.int .i64))
abbrev v_:Ty:= .st (.pr (.sl spB) (.sl spB))
abbrev a6:Ty:= .st (.sl (.st (.pr .bool (.sl (.st (.pr (.int .u8) (.pr (.int .u8) (.int .i64))))))))
abbrev scB:Ty:= .st (.pr .bool (.pr .bool (.pr .bool (.pr v_ a6))))
abbrev Xa:Ty:= .st (.pr (.nm 0) (.nm 0))
abbrev lcB:Ty:= .st (.pr (.sl Xa) (.sl Xa))
abbrev vfB:Ty:= .st (.pr .str (.pr (.int .i64) Xa))
abbrev clsB:Ty:= .st (.pr a6 Xa)
abbrev oo:Ty:= .st (.pr (.sl vfB) (.sl clsB))
abbrev uZ:Ty:= .st (.pr .bool (.pr scB (.pr (.sl lcB) (.sl oo))))
def vx(x:Vl):Bool×Fz×List (List (Vl×Vl)×List (Vl×Vl))×List (List (Aq×Int×Vl×Vl)×List (A5×Vl×Vl)):=(x.any,x.sc,x.lists,x.structs)
def vlI(p:Bool×Fz×List (List (Vl×Vl)×List (Vl×Vl))×List (List (Aq×Int×Vl×Vl)×List (A5×Vl×Vl))):Vl:= .mk p.1 p.2.1 p.2.2.1 p.2.2.2
def WJ:Cd Vl:=Yl (s:=9) uZ vx rfl
theorem Zi{H:Hp}{a:Vl}{cs:List BZ} :WJ.BP H a cs↔(Lx WJ uZ).BP H (vx a) cs:=c8 uZ vx rfl
abbrev tV:Nat->Type
 |0=>Vl
 |_=>Empty
def nV(d:List (Nat×Nat))(f:Nat):C9 where
 T:=tV
 body|0=>uZ|i+1=> .nm (i+1)
 out|0,x=>vx x|_+1,x=>x
 wE|0,p=>vlI p|_+1,p=>p
 size|0=>9|_+1=>f
 id u:=idE d u
 cd|0=>WJ|_+1=>cE f
 size_eq|0=>rfl|_+1=>rfl
 LI|0,_=>rfl|_+1,_=>rfl
 lay {i H a k} :=match i,a with
  |0,a=>Zi
  |i+1,a=>a.elim
end Go.GV
namespace Go.Proofs
open Go.Shelf Go.RowKit Go.Sort Go.Lib
variable {P : GN} {ρ : Ren}
section
variable{w:IU}{o:K7}{a:Act}{Q:Exit->Act->IU->Prop}
def dG(w:IU)(v v':BZ):Prop:=v'.ownBlock=v.ownBlock\/∀b,v'.ownBlock=Ac b->w.heap.size<=b
theorem MY{d e:IU}{row:Option Nat}(h:w.grownBy d C7)(k:d.grownBy e row):w.grownBy e row:=by obtain⟨f,g,i,a,j⟩:=h;obtain⟨l,m,n,o,p⟩:=k;exact⟨l.trans f,m.trans g,n.trans i,Aao a o,λb c q=>(p b (Abr c a) q).trans (j b c (by simp))⟩
theorem Ja{D:Array K7}{q:List K7}(I:o.guard=C7)(s x:DQ)(t:Gq)
  (T:o.op= .call {callee:= .builtin .append,args:= #[s,x],argTypes:= #[t,t]})
  (e:Gq) (ii:TypeInfo) (z:BZ) (ht:P.underlying t=Ac (.slice e)) (p:P.info? e=Ac ii) (g3:ii.zero=Ac z)
  (g1:ii.size=1) (g2:ii.bytes=1) (C:z.cells.size=1)
  (v:BZ) (m:Nat) (xs:List BZ) (U:a.eval s=v) (k:w.ownsRow 0 e 1 v m xs)
  (y:Addr) (n c:Nat) (d:List BZ) (V:a.eval x= .slice (Ac y) n c) (M:d.length=n) (f:∀j u,d[j]?=Ac u->w.cell? (y.add j)=Ac u) (h1:∀u∈d,u.oneCell'=Bp)
  (Z:m+n<=140737488355328)
  (h:∀v' w',w'.ownsRow 0 e 1 v' (m+n) (xs++d)->w.grownBy w' v.ownBlock->dG w v v'->wpList P D Q q (a.put o.dst v') w'):wpList P D Q (o::q) a w:=by
 refine wpList_plain I λK N=>?_;have i:d.length=n*1:=by omega
 obtain⟨v',w',F,W,X,k3⟩:=run_append_own (P:=P) w 0 t o.type e ii z 1 1 ht p g3 g1 g2 C (by decide) v m xs k y n c d i f h1 (by simp only[maxLen];omega) (by omega) (Abh _);unfold K7.wp;simp[Kt,T,resolve,invoke,builtin,U,V,F,je];refine N _ _ (h v' w' W X ?_);rcases k.2 with⟨rfl,rfl⟩|⟨g,cap,G,rfl,_,R,S,_,O,J⟩;· right;have L:xs=[]:=Abd (by simpa using k.1);subst L;obtain⟨v2,w2,l,Y,_,_⟩:=run_append_own (P:=P) w w.heap.size t o.type e ii z 1 1 ht p g3 g1 g2 C (by decide) (.slice C7 0 0) 0 [] (IU.ownsRow_nil w _ e _) y n c d i f h1 (by simp only[maxLen];omega) (by omega) (Aae _);rw[F]at l;injection l with B H;subst B;subst H;exact λb E=>(IU.ownsRow.lt Y b E).1
 ·by_cases r:m+n<=cap;· left;have l:=run_append_room (P:=P) w t o.type e ii ht p g m cap G R y n c d (by rw[g1];exact i) f h1 r (by rw[g1];omega);rw[F]at l;injection l with B H;rw[B];rfl
  ·right;have l:=run_append_grow (P:=P) w t o.type e ii z ht p g3 ⟨g,0,C7⟩ m cap xs (by rw[g1];exact k.1) (k.cells (g:=g) rfl) y n c d (by rw[g1];exact i) f (by omega) (by omega) (growslice_fits (by omega) (by rw[g2];omega));rw[F]at l;injection l with B H;intro b E;rw[B]at E;simp[BZ.ownBlock]at E;omega
theorem NH{p:Array K7}{i:List K7}(C:o.guard=C7)(s x:DQ)(t u:Gq)
  (L:o.op= .call {callee:= .builtin .append,args:= #[s,x],argTypes:= #[t,u]})
  (e:Gq) (ii:TypeInfo) (ht:P.underlying t=Ac (.slice e)) (y:P.underlying u=Ac .string) (f:P.info? e=Ac ii) (g3:ii.zero=Ac (.int .u8 0))
  (g1:ii.size=1) (g2:ii.bytes=1)
  (v:BZ) (m:Nat) (xs:List BZ) (M:a.eval s=v) (c:w.ownsRow 0 e 1 v m xs) (str:ByteArray) (N:a.eval x= .string str)
  (I:m+str.size<=140737488355328)
  (h:∀v' w',w'.ownsRow 0 e 1 v' (m+str.size) (xs++strCells str)->w.grownBy w' v.ownBlock->dG w v v'->wpList P p Q i (a.put o.dst v') w'):wpList P p Q (o::i) a w:=by
 refine wpList_plain C λK F=>?_;obtain⟨v',w',r,O,R,T⟩:=Lib.run_append_own_string (P:=P) w 0 t u o.type e ii ht y f g3 g1 g2 v m xs c str (by simp only[maxLen];omega) I (Abh _);unfold K7.wp;simp[Kt,L,resolve,invoke,builtin,M,N,r,je];refine F _ _ (h v' w' O R ?_);rcases c.2 with⟨rfl,rfl⟩|⟨g,cap,z,rfl,_,H,J,G,B,D⟩;· right;have E:xs=[]:=Abd (by simpa using c.1);subst E;obtain⟨U,V,d,S,_,_⟩:=Lib.run_append_own_string (P:=P) w w.heap.size t u o.type e ii ht y f g3 g1 g2 (.slice C7 0 0) 0 [] (IU.ownsRow_nil w _ e _) str (by simp only[maxLen];omega) (by omega) (Aae _);rw[r]at d;injection d with n A;subst n;subst A;exact λb q=>(IU.ownsRow.lt S b q).1
 ·by_cases k:m+str.size<=cap;· left;have d:=Lib.run_append_room_string (P:=P) w t u o.type e ii ht y f g1 g m cap z H str k (by simp at B;omega);rw[r]at d;injection d with n A;rw[n];rfl
  ·right;have d:=Lib.run_append_grow_string (P:=P) w t u o.type e ii (.int .u8 0) ht y f g3 ⟨g,0,C7⟩ m cap xs (by rw[c.1,g1]) (c.cells (g:=g) rfl) str (by omega) (by omega) (by rw[g2];exact growslice_fits (by omega) (by omega));rw[r]at d;injection d with n A;intro b q;rw[n]at q;simp[BZ.ownBlock]at q;omega
def N4(P:GN)(ρ:Ren)(f:FuncId)(c:BZ)(n:Nat)(a:BZ)(xs:List BZ)(w:IU)(l:List UInt8):Prop:=Calls P f #[a,c, .int .i64 10] w λe w'=> ∃v',e= .returned v'/\w'.ownsRow 0 (ρ.t 5) 1 v' (n+l.length) (xs++Lib.byteCells l)/\w.grownBy w' a.ownBlock/\dG w a v'
theorem US(L:LaysM.n288 P ρ)(n u:Nat)(I:u<100)(y:BZ)(xs:List BZ)(w:IU)(k:w.ownsRow 0 (ρ.t 5) 1 y n xs)(x:n+20<=140737488355328):N4 P ρ (ρ.f 288) (.int .u64 u) n y xs w (Lib.decDigits u):=by
 have q:=L.mixed;have t5:=L.t5;have X:=L.a5;have z5:=L.z5;have v5:=L.v5;have K:=L.t37;have N:=run_underlying L.t37;have F:=L.a37;have S:=L.z37;have Q:=L.v37;have M:=L.t53;have G:=L.a53;have T:=L.z53;have R:=L.v53;have t3:=L.t3;have V:=L.a3;have z3:=L.z3;have v3:=L.v3;have t4:=L.t4;have W:=L.a4;have z4:=L.z4;have v4:=L.v4;have t9:=L.t9;have Y:=L.a9;have z9:=L.z9;have v9:=L.v9;have z:=L.t171;have r:=L.a171;have D:=L.z171;have B:=L.v171;have Z:=L.t0;have U:=L.a0;have z0:=L.z0;have v0:=L.v0;have A:=L.t173;have s:=L.a173;have E:=L.z173;have C:=L.v173;have t:∀args w,(callFunc (ρ.f 283) args).run P w= .ok (.enter (ρ.f 283) args) w:=enters_of L.f283 (by kernel_rfl) rfl;obtain⟨J,H,m,o,p⟩:=info_parts L.i5;have v:(Lib.decDigits u).length<=20:=by
  rw[Lib.decDigits_length];by_cases i:u<10;· rw[Lib.nDigits_small i];omega
  ·rw[Lib.nDigits_big i,Lib.nDigits_small (show u/10<10 by omega)];omega
 have l:(⟨(Lib.decDigits u).toArray⟩:ByteArray).size=(Lib.decDigits u).length:=by simp[ByteArray.size]
 unfold N4;go_enter L.f288,Body.n288_ntmps ρ;go_wp2_with (first
  |(go_at_fn (ρ.f 283);refine(Any.internal_strconv_small {L with} u I _).mono ?_;rintro e w' ⟨rfl,rfl⟩)
  |(at_builtin;refine NH rfl _ _ (ρ.t 37) (ρ.t 9) rfl (ρ.t 5) J L.t37 L.t9 H m o p _ _ _ rfl k ⟨(Lib.decDigits u).toArray⟩ rfl (by rw[l];omega) ?_));intro O w1 b h j;go_wp2;go_ret;refine⟨O,rfl,?_,h,j⟩;first|exact b|(rw[l]at b;exact b)
theorem dr(L:LaysM.n288 P ρ)(n u:Nat)(hu:100<=u)(i:u<18446744073709551616)(U:BZ)(xs:List BZ)(w:IU)(A:w.ownsRow 0 (ρ.t 5) 1 U n xs)(hlim:n+20<=140737488355328)
  (B:Lib.TabIs P w "internal/strconv.uint64pow10" .u64 Lib.pow10Tab):N4 P ρ (ρ.f 288) (.int .u64 u) n U xs w (Lib.decDigits u):=by
 have S:=L.mixed;have t5:=L.t5;have a5:=L.a5;have z5:=L.z5;have v5:=L.v5;have t37:=L.t37;have u37:=run_underlying L.t37;have a37:=L.a37;have z37:=L.z37;have v37:=L.v37;have t53:=L.t53;have a53:=L.a53;have z53:=L.z53;have v53:=L.v53;have t3:=L.t3;have a3:=L.a3;have z3:=L.z3;have v3:=L.v3;have t4:=L.t4;have a4:=L.a4;have z4:=L.z4;have v4:=L.v4;have t9:=L.t9;have a9:=L.a9;have z9:=L.z9;have v9:=L.v9;have t171:=L.t171;have V:=L.a171;have z171:=L.z171;have v171:=L.v171;have t0:=L.t0;have a0:=L.a0;have z0:=L.z0;have v0:=L.v0;have t173:=L.t173;have X:=L.a173;have z173:=L.z173;have v173:=L.v173;have Y:∀args w,(callFunc (ρ.f 284) args).run P w= .ok (.enter (ρ.f 284) args) w:=enters_of L.f284 (by kernel_rfl) rfl;have Z:∀args w,(callFunc (ρ.f 285) args).run P w= .ok (.enter (ρ.f 285) args) w:=enters_of L.f285 (by kernel_rfl) rfl;obtain⟨i0,hi,O,Q,R⟩:=info_parts L.i5;have D:1<=u:=by omega
 have N:Lib.nDigits u<=20:=by have:=Lib.numDigits_eq u D i;split at this<;>omega
 have y:P.arrayLen (ρ.t 171)=24:=by simp[GN.arrayLen,L.t171]
 have hsl:∀W,(Instr.sliceAt (ρ.t 171) (.pointer (Ac ⟨w.heap.size,0,C7⟩)) C7 (Ac (.int .i64 (Lib.nDigits u:Int))) C7).run P W= .ok (.slice (Ac ⟨w.heap.size,0,C7⟩) (Lib.nDigits u) 24) W:=λW=>by rw[run_sliceAt_array_h W (ρ.t 171) ⟨w.heap.size,0,C7⟩ (by simp[GN.arrayLen,GN.elem,L.t171]) .i64 (Lib.nDigits u:Int) (by omega) (by rw[y];omega)];go_simp
 have s:=Lib.holds_zero0 w (ρ.t 171) (Lib.nDigits u) (by omega);have f:=Any.internal_strconv_formatBase10 {L with} w.heap.size 0 24 u (Array.replicate (Lib.nDigits u) 0) (w.alloc (.cells Lib.zeros24 (ρ.t 171))) s (by rw[Afo];exact Lib.lt_pow_nDigits u) i (by rw[Afo];omega);rw[Afo]at f;have x:=Lib.hid s;have iu:(100:Int)<=(u:Int):=by omega
 clear s y;unfold N4;go_enter L.f288,Body.n288_ntmps ρ;go_wp2_with (first
  |(go_at_fn (ρ.f 284);refine(Any.internal_strconv_numDigits {L with} u D i _ (Lib.tabIs_alloc B _)).mono ?_;rintro e w' ⟨rfl,rfl⟩));go_at_fn (ρ.f 285);refine f.mono ?_;rintro e w' ⟨rfl,k,v',r,rfl,K⟩;have d:∀j H,(Lib.byteCells (Lib.decDigits u))[j]?=Ac H->((putRow (λ(b:UInt8)=>BZ.int .u8 (b.toNat:Int)) (w.alloc (.cells Lib.zeros24 (ρ.t 171))) w.heap.size 0 r).drewN k).cell? ((⟨w.heap.size,0,C7⟩:Addr).add j)=Ac H:=by
  intro j H M;have m:j<(Lib.decDigits u).length:=by have h5:=(IT.1 M).1;rwa [Lib.byteCells_length]at h5
  have e5:(Lib.byteCells (Lib.decDigits u))[j]?=Ac (BZ.int .u8 ((Lib.decDigits u)[j].toNat:Int)):=by simp[Lib.byteCells,m]
  rw[e5]at M;cases M;rw[Lib.row_is_numeral K j m,Lib.add_plain,IU.cell?_drewN];exact cell?_putRow (λ(b:UInt8)=>BZ.int .u8 (b.toNat:Int)) _ w.heap.size 0 _ r x.out (by rw[K.size,Afo]) j (by rw[K.size];rw[Lib.decDigits_length]at m;exact m)
 obtain⟨T,F⟩:=Lib.fin_at w (.cells Lib.zeros24 (ρ.t 171)) r k 0;have g:((putRow (λ(b:UInt8)=>BZ.int .u8 (b.toNat:Int)) (w.alloc (.cells Lib.zeros24 (ρ.t 171))) w.heap.size 0 r).drewN k).ownsRow 0 (ρ.t 5) 1 U n xs:=by rw[F];exact Lib.ownsRow_grow A k T
 have p:w.grownBy ((putRow (λ(b:UInt8)=>BZ.int .u8 (b.toNat:Int)) (w.alloc (.cells Lib.zeros24 (ρ.t 171))) w.heap.size 0 r).drewN k) C7:=by rw[F];exact Go.GK.OP w k T
 have q:w.heap.size<=((putRow (λ(b:UInt8)=>BZ.int .u8 (b.toNat:Int)) (w.alloc (.cells Lib.zeros24 (ρ.t 171))) w.heap.size 0 r).drewN k).heap.size:=by rw[F];exact Lib.size_grow w k T
 generalize(putRow (λ(b:UInt8)=>BZ.int .u8 (b.toNat:Int)) (w.alloc (.cells Lib.zeros24 (ρ.t 171))) w.heap.size 0 r).drewN k=W2 at d g p q⊢;clear F x f;go_wp2_with (at_builtin;refine Ja rfl _ _ (ρ.t 37) rfl (ρ.t 5) i0 (.int .u8 0) L.t37 hi O Q R rfl _ _ _ rfl g ⟨w.heap.size,0,C7⟩ (Lib.nDigits u) 24 (Lib.byteCells (Lib.decDigits u)) rfl ?c0 d ?c2 ?c3 ?_);case c0=>rw[Lib.byteCells_length,Lib.decDigits_length]
 case c2=>intro H C;simp only[Lib.byteCells,By]at C;obtain⟨b,_,rfl⟩:=C;rfl
 case c3=>omega
 intro v2 w3 v t z;go_wp2;go_ret;refine⟨v2,rfl,?_,MY p t,z.imp id λh b hb=>Aao q (h b hb)⟩;rw[Lib.decDigits_length];exact v
theorem xl(L:LaysM.n288 P ρ)(n u:Nat)(e:u<18446744073709551616)(f:BZ)(xs:List BZ)(w:IU)(b:w.ownsRow 0 (ρ.t 5) 1 f n xs)(a:n+20<=140737488355328)
  (d:Lib.TabIs P w "internal/strconv.uint64pow10" .u64 Lib.pow10Tab):N4 P ρ (ρ.f 288) (.int .u64 u) n f xs w (Lib.decDigits u):=by
 by_cases h:u<100;· exact US L n u h f xs w b a
 ·exact dr L n u (by omega) e f xs w b a d
theorem grownBy_alloc(w:IU)(o:Obj):w.grownBy (w.alloc o) C7:=
 ⟨rfl,rfl,rfl,by show w.heap.size<=(w.heap.push o).size;rw[Array.size_push];omega,λb a _=>by show(w.heap.push o)[b]?=w.heap[b]?;rw[Array.getElem?_push_lt a,Array.getElem?_eq_getElem a]⟩
theorem appI(L:LaysM.n249 P ρ)(n:Nat)(i:Int)(h0: -9223372036854775808<=i)(h1:i<=9223372036854775807)(C:BZ)(xs:List BZ)(w:IU)(r:w.ownsRow 0 (ρ.t 5) 1 C n xs)(T:n+21<=140737488355328)
  (s:∀w',w.grownBy w' C.ownBlock->Lib.TabIs P w' "internal/strconv.uint64pow10" .u64 Lib.pow10Tab):N4 P ρ (ρ.f 249) (.int .i64 i) n C xs w (Lib.itoa i):=by
 have N:=L.mixed;have t5:=L.t5;have R:=L.a5;have z5:=L.z5;have v5:=L.v5;have t37:=L.t37;have u37:=run_underlying L.t37;have X:=L.a37;have z37:=L.z37;have v37:=L.v37;have t2:=L.t2;have O:=L.a2;have z2:=L.z2;have E:=L.v2;have t3:=L.t3;have Q:=L.a3;have z3:=L.z3;have v3:=L.v3;have t53:=L.t53;have Y:=L.a53;have z53:=L.z53;have v53:=L.v53;have t4:=L.t4;have G:=L.a4;have z4:=L.z4;have v4:=L.v4;have S:∀args w,(callFunc (ρ.f 288) args).run P w= .ok (.enter (ρ.f 288) args) w:=enters_of L.f288 (by kernel_rfl) rfl;obtain⟨i0,hi,J,K,M⟩:=info_parts L.i5;by_cases U:i<0
 ·obtain⟨u,rfl⟩:∃u:Nat,i= -(u:Int):=⟨i.natAbs,by omega⟩;have H:1<=u:=by omega
  have g:u<18446744073709551616:=by omega
  have hwr:Lo.u64.wrap (-Lo.u64.wrap (-(u:Int)))=(u:Int):=by rw[Lo.wrap_u64,Lo.wrap_u64];omega
  rw[Lib.itoa_neg u H];unfold N4;go_enter L.f249,Body.n249_ntmps ρ;go_wp2_with (at_builtin;refine Ja rfl _ _ (ρ.t 37) rfl (ρ.t 5) i0 (.int .u8 0) L.t37 hi J K M rfl _ _ _ rfl (r.alloc _) ⟨w.heap.size,0,C7⟩ 1 1 [BZ.int .u8 45] rfl rfl (by intro j u' D;match j,D with|0,D=>simp at D;subst D;simp[Addr.add]) (by intro u' B;simp at B;subst B;rfl) (by omega) ?_);intro v1 F x v A;have t:=MY (grownBy_alloc w _) v;have y:Lib.TabIs P F "internal/strconv.uint64pow10" .u64 Lib.pow10Tab:=s F t;have I:w.heap.size<=F.heap.size:=by obtain⟨_,_,_,q,_⟩:=t;exact q
  go_wp2_with (go_at_fn (ρ.f 288);refine(xl {L with} (n+1) u g v1 _ F x (by omega) y).mono ?_;rintro e w2 ⟨E,rfl,f,c,d⟩);go_wp2;go_ret;have z:dG w C v1:=A.imp id λh b p=>by refine Aao ?_ (h b p);obtain⟨_,_,_,q,_⟩:=grownBy_alloc w _;exact q
  refine⟨E,rf,?_,?_,?_⟩
  ·have e1:n+((Lib.decDigits u).length+1)=n+1+(Lib.decDigits u).length:=by omega
   have e2:xs++Lib.byteCells (45::Lib.decDigits u)=xs++[BZ.int .u8 45]++Lib.byteCells (Lib.decDigits u):=by simp[Lib.byteCells]
   rw[e1,e2];exact f
  ·obtain⟨W,O,Q,G,R⟩:=t;obtain⟨Z,b2,b3,b4,b5⟩:=c;refine⟨Z.trans W,b2.trans O,b3.trans Q,Aao G b4,λb p V=>(b5 b (Abr p G) λe=>?_).trans (R b p V)⟩;rcases z with h|h;· exact V (e.trans h)
   ·exact absurd (h b e.symm) (by omega)
  ·rcases d with h|h
   ·rcases z with k|k;· exact .inl (h.trans k)
    ·exact .inr λb p=>k b (by rw[<-h];exact p)
   ·exact .inr λb p=>Aao I (h b p)
 ·obtain⟨u,rfl⟩:∃u:Nat,i=u:=⟨i.toNat,by omega⟩;have g:u<18446744073709551616:=by omega
  rw[Lib.itoa_nonneg];unfold N4;go_enter L.f249,Body.n249_ntmps ρ;go_wp2_with (go_at_fn (ρ.f 288);refine(xl {L with} n u g C xs w r (by omega) (s w (IU.grownBy.refl _ _))).mono ?_;rintro e w2 ⟨E,rfl,f,c,d⟩);go_wp2;first|go_ret|go_ret2
  exact⟨E,rf,f,c,d⟩
theorem appP(L:LaysM.n176 P ρ)(n:Nat)(i:Int)(h0: -9223372036854775808<=i)(h1:i<=9223372036854775807)(k:BZ)(xs:List BZ)(w:IU)(h:w.ownsRow 0 (ρ.t 5) 1 k n xs)(g:n+21<=140737488355328)
  (j:∀w',w.grownBy w' k.ownBlock->Lib.TabIs P w' "internal/strconv.uint64pow10" .u64 Lib.pow10Tab):N4 P ρ (ρ.f 176) (.int .i64 i) n k xs w (Lib.itoa i):=by
 have l:=L.mixed;have A:=L.t5;have x:=L.a5;have G:=L.z5;have C:=L.v5;have q:=L.t37;have r:=run_underlying L.t37;have p:=L.a37;have t:=L.z37;have s:=L.v37;have y:=L.t2;have u:=L.a2;have E:=L.z2;have o:=L.v2;have z:=L.t3;have v:=L.a3;have F:=L.z3;have B:=L.v3;have m:∀args w,(callFunc (ρ.f 249) args).run P w= .ok (.enter (ρ.f 249) args) w:=enters_of L.f249 (by kernel_rfl) rfl;unfold N4;go_enter L.f176,Body.n176_ntmps ρ;go_wp2_with (go_at_fn (ρ.f 249);refine(appI {L with} n i h0 h1 k xs w h g j).mono ?_;rintro e D ⟨o,rfl,d,a,c⟩);go_wp2;go_ret;exact⟨o,rfl,d,a,c⟩
end
end Go.Proofs
namespace Go.GV
open Go Go.GK Go.Proofs
section
variable {N : C9} {P : GN}
def xm(g:Gq):A_:=⟨[.Ae (.int .i64), .Ae (.int .i64), .Ae (.sl (.int .u8))],[(0, .AH 0),(1, .v 0 (.int .i64)),(2, .v 1 (.int .i64))],[(0, .row g 2)],1⟩
def apo(g:Gq):A_:=⟨[.Ae (.sl (.int .u8))],[(0, .AH 1)],[(1, .row g 0)],2⟩
def Ys(x:Int×Int×List Int):Option (List Int):=Ag (x.2.1=10/\x.2.2.length+21<=140737488355328) (Aa .i64 x.1 (Ac (x.2.2++(Lib.itoa x.1).map λb=>((b.toNat:Nat):Int))))
def J6(N:C9)(g:Gq):PQ N:=⟨xm g,apo g,1,[0],λx=>Ys x⟩
theorem aY{H:Hp} :∀(l:List UInt8),A2 (N.c (.int .u8)) H (l.map λb=>((b.toNat:Nat):Int)) (Lib.byteCells l)
 | []=>rfl
 |b::l=>⟨[.int .u8 (b.toNat:Int)],Lib.byteCells l,rfl,D4.2 ⟨rfl,by have:=b.toNat_lt;show 0<=((b.toNat:Nat):Int)/\((b.toNat:Nat):Int)<=255;omega⟩,aY l⟩
theorem Zx{f:Nat}{g:Gq}(hi:∀H,N.inv H->HP P H)(F:TM P f)
  (hc:∀(n:Nat) (i:Int), -9223372036854775808<=i->i<=9223372036854775807->∀(sv:BZ) (xs:List BZ) (w:IU),w.ownsRow 0 g 1 sv n xs->n+21<=140737488355328->(∀w',w.grownBy w' sv.ownBlock->Lib.TabIs P w' "internal/strconv.uint64pow10" .u64 Lib.pow10Tab)->
   Calls P f #[sv, .int .i64 i, .int .i64 10] w λe w'=> ∃v',e= .returned v'/\w'.ownsRow 0 g 1 v' (n+(Lib.itoa i).length) (xs++Lib.byteCells (Lib.itoa i))/\w.grownBy w' sv.ownBlock/\dG w sv v'):
  Cr P f (J6 N g):=⟨F,λx y V η H W Y T hnd L=>by
 obtain⟨(i:Int),(b:Int),(l:List Int)⟩:=x;have j:Ys (i,b,l)=Ac y:=V;clear V;unfold Ys Ag at j;dsimp only at j;split at j
 ·rename_i C;obtain⟨o,hl⟩:=C;subst o;obtain⟨U,_,j⟩:=BV j;cases j;obtain⟨O,Q,s,i4,i5⟩:=L;have O:T.length=3:=O;obtain⟨v0,v1,v2,rfl⟩:∃a b c,T=[a,b,c]:=by
   match T,O with
   | [a,b,c],_=>exact⟨a,b,c,rfl⟩
  obtain⟨u0,Z,J⟩:=Q (0, .AH 0) (by simp[J6,xm]);obtain⟨u1,e1,h1⟩:=Q (1, .v 0 (.int .i64)) (by simp[J6,xm]);obtain⟨u2,e2,h2⟩:=Q (2, .v 1 (.int .i64)) (by simp[J6,xm]);cases Z;cases e1;cases e2;have J:v0=η 0/\v0.oneCell'=Bp:=J;obtain⟨c1,G,I⟩:=h1;obtain⟨G,_⟩:=D4.1 G;subst G;have I:[BZ.int .i64 i]=[v1]:=I;cases I;obtain⟨c2,R,S⟩:=h2;obtain⟨R,_⟩:=D4.1 R;subst R;have S:[BZ.int .i64 10]=[v2]:=S;cases S;have s:keys Y=[0]:=s;obtain⟨p0,rfl⟩:∃p,Y=[p]:=Adb.1 (by simpa [keys]using congrArg FD s);obtain⟨k0,X0⟩:=p0
  ·have s:[k0]=[0]:=s;cases s;obtain⟨X,e,hX⟩:=i4 (0, .row g 2) (by simp[J6,xm]);cases e;obtain⟨xs,rfl,t⟩:=hX;obtain⟨rfl,h0'⟩:=J;have hsz:(Ty.int .u8).sz N=1:=rfl;intro w M;have B:w.ownsRow 0 g 1 (η 0) l.length xs:=M.ok 0 _ rfl;have E:∀w',w.grownBy w' (η 0).ownBlock->Lib.TabIs P w' "internal/strconv.uint64pow10" .u64 Lib.pow10Tab:=λw' hg=>
    hi H i5 w' _ (M.set (i:=0) (r':= .emp) rfl hg trivial λb o=>o.elim);refine(hc l.length i U.1 U.2 (η 0) xs w B hl E).mono ?_;rintro e w' ⟨v',rfl,q,K,z⟩;have u:(l++(Lib.itoa i).map λb=>((b.toNat:Nat):Int)).length=l.length+(Lib.itoa i).length:=by simp
   have D:SH w' H (.row v' g 1 (l++(Lib.itoa i).map λb=>((b.toNat:Nat):Int)).length (xs++Lib.byteCells (Lib.itoa i))::W):=
    M.set (i:=0) (r':= .row v' g 1 (l++(Lib.itoa i).map λb=>((b.toNat:Nat):Int)).length (xs++Lib.byteCells (Lib.itoa i))) rfl K (by rw[u];exact q) λb o=>by
     rcases z with h|h;· left;have o:v'.ownBlock=Ac b:=o;show(η 0).ownBlock=Ac b;rw[<-h];exact o
     ·exact .inr (h b o)
   have A:v'.oneCell'=Bp:=D.ZQ (i:=0) rfl;refine⟨v',H,_,rfl,Hp.le.refl H,D,λk=>if k=1 then v' else η k,[(1, .row v' g 1 (l++(Lib.itoa i).map λb=>((b.toNat:Nat):Int)).length (xs++Lib.byteCells (Lib.itoa i)))],rfl,λk r=>?_,by simp[keys],λk r=>?_,λp C=>?_,λk r h4 h5=>?_,?_⟩
   ·have r:k<1:=r;have:k≠1:=by omega
    simp[this]
   ·have:k=1:=by simpa [keys]using r
    subst this;right;simp[J6,apo]
   ·have C:p=(1, .row g 0):=by simpa [J6,apo]using C
    subst C;exact⟨_,rfl,xs++Lib.byteCells (Lib.itoa i),rfl,t.app (aY _)⟩
   ·have:k=0:=by simpa [keys]using r
    subst this;exact absurd (by simp[J6]) h5
   ·exact⟨rf,A⟩
 ·cases j⟩
end
noncomputable abbrev NL:C9:= {nV [(32,0),(33,0),(106,1),(107,1)] 5 with prog:=Ac Tryz.prog,inv:=HP Tryz.prog,CZ:=λhl h=>h.mono hl}
theorem qa:C4 NL Tryz.prog:=⟨λh=>by cases h;rfl,by kernel_rfl⟩
theorem vD{P:GN}{f:FuncId}{vs:List BZ}{H:Hp}{O:List Aw}{v:BZ}{R:BZ->Hp->List Aw->Prop}(h:jz P f vs H O v)(k:R v H O):Ts P f vs H O R:=λw hs=>(h w hs).mono λe w' ⟨h1,h2⟩=>⟨v,H,O,h1,Hp.le.refl H,h2,k⟩
def ita:A_:=⟨[.Ae (.int .i64)],[(0, .v 0 (.int .i64))],[],0⟩
def ito:A_:=⟨[.Ae .str],[(0, .v 0 .str)],[],0⟩
noncomputable def U6:PQ NL:=⟨ita,ito,1,[],λx=>Aa .i64 (show Int from x) (Ac (show Aq from Lib.itoa x))⟩
theorem ia:Cr Tryz.prog 394 U6:=⟨⟨Tryz.f394,Tryz.func394,by kernel_rfl,rfl⟩,λa y hy η H O Y vs hnd hin=>by
 obtain⟨i1,i2,i3,_,hv0⟩:=hin
 obtain⟨v1,rfl⟩:∃v,vs=[v]:=Adb.1 i1
 obtain⟨v,e,hv⟩:=i2 (0, .v 0 (.int .i64)) (by simp[U6,ita])
 cases e
 obtain⟨cs,h1,h2⟩:=hv
 obtain⟨h1,_⟩:=D4.1 h1
 subst h1
 have h2:[BZ.int .i64 a]=[v1]:=h2
 cases h2
 obtain rfl:Y=[]:=List.map_eq_nil_iff.1 (show Y.map (·.1)=[]from i3)
 have hy:Aa .i64 a (Ac (Lib.itoa a))=Ac y:=hy
 obtain⟨hc,_,hy⟩:=BV hy
 cases hy
 exact vD (jz.itoa (λn h0 h1 w ht=>Go.Proofs.Tryz.strconv_Itoa n h0 h1 w ht) hv0 hc) ⟨η,[],rfl,λ_ _=>rfl,Afc,λk hk=>(by cases hk),λp hp=>(by cases hp),λk hk=>(by cases hk),[_],rfl,rfl⟩⟩
def z8:A_:=⟨[.Ae (.sl (.int .u8))],[(0, .loc 0 0)],[(0, .Ai 348 [(1, .px [0] .sf),(1, .AH 1)]),(1, .row 5 0)],2⟩
def cpo:A_:=⟨[.Ae (.sl (.int .u8))],[],[(0, .Ai 348 [(1, .px [0] .sf),(1, .AH 1)]),(1, .row 5 0)],2⟩
noncomputable def Ny:PQ NL:=⟨z8,cpo,0,[],λx=>Ac x⟩
theorem ib:Cr Tryz.prog 407 Ny:=⟨Go.Proofs.YtimbbibpghnipaaGreatDoor.ra,λx y hy η H Of Y vs hnd hin=>by
 cases hy
 obtain⟨i1,i2,i3,i4,hiv⟩:=hin
 obtain⟨v,rfl⟩:∃v,vs=[v]:=Adb.1 i1
 obtain⟨v',e,hv⟩:=i2 (0, .loc 0 0) (by simp[Ny,z8])
 cases e
 obtain⟨B,b1,rfl⟩:=hv
 have i3:keys Y=[0,1]:=i3
 match Y,i3 with
 | [(
   k0,X0),(k1,X1)],i3=>
  have i3:[k0,k1]=[0,1]:=i3
  cases i3
  obtain⟨X,e,hX⟩:=i4 (0, .Ai 348 [(1, .px [0] .sf),(1, .AH 1)]) (by simp[Ny,z8])
  cases e
  obtain⟨B',cs,c1,rfl,hl⟩:=hX
  have:B=B':=by rw[b1]at c1;simpa [ptr]using c1
  subst this
  obtain⟨d1,d2,u,e1,e2,e3,e4,e5,hl2⟩:=hl
  obtain⟨d3,d4,u2,f1,f2,f3,f4,f5,hl3⟩:=hl2
  have hl3:BZ.agg d4.toArray= .agg #[]:=hl3
  have ha:u= .pointer C7\/u=ptr B 0:=by
   rcases e3 with e|⟨B2,q1,q2⟩
   ·exact .inl e
   ·right
    rw[q2]
    have:η 0=ptr B2 0:=by simpa using q1
    rw[<-this];exact b1
  have u1:d1=[u]:=by rw[<-e4];rcases ha with e|e<;>subst e<;>rfl
  obtain⟨g1,g2⟩:=f3
  have u3:d3=[u2]:=by rw[<-f4];exact A9 g2
  have hd4:d4=[]:=by simpa using hl3
  have hd2:d2=d3++d4:=by simpa using f1
  subst hd4;subst hd2;subst u1;subst u3
  have hcs:cs= #[u,u2]:=by
   have:cs=([u]++([u2]++[])).toArray:=by simpa using e1
   simpa using this
  subst hcs
  refine λw hs=>((Go.Proofs.YtimbbibpghnipaaGreatDoor.bldC (B:=B) (a:=u) (v:=u2) (O:=X1::Of) ha) w hs).mono ?_
  rintro e w' ⟨r,H',O',rfl,h2,h3,rfl,rfl⟩
  refine⟨_,H',_,rf,h2,h3,η,[(0, .Ai B (.cells #[ptr B 0,u2] 348 (0,0))),(1,X1)],rf,λ_ _=>rfl,by simp[keys],λk hk=> .inr hk,λp hp=>?_,λk hk h4=>?_,rf⟩
  ·have hp:p=(0, .Ai 348 [(1, .px [0] .sf),(1, .AH 1)])\/p=(1, .row 5 0):=by simpa [Ny,cpo]using hp
   rcases hp with rfl|rfl
   ·refine⟨_,rfl,B,_,b1,rfl,[ptr B 0],[u2],ptr B 0,rfl,rfl, .inr ⟨B,by simp[b1],rfl⟩,rfl,(λx hx=>by simp at hx;subst hx;rfl),[u2],[],u2,rfl,rfl,⟨g1,g2⟩,A9 g2,(λx hx=>by simp at hx;subst hx;exact g2),rfl⟩
   ·obtain⟨X,e,hX⟩:=i4 (1, .row 5 0) (by simp[Ny,z8])
    cases e
    exact⟨_,rf,SR.is.mono h2 hX⟩
  ·exact absurd hk h4⟩
theorem qI:Cr Tryz.prog 392 (J6 NL 5):=Zx (λ_ h=>h) ⟨Tryz.f392,Tryz.func392,by kernel_rfl,rfl⟩ (λn i h0 h1 sv xs w ho hl ht=>appP Go.Proofs.Tryz.aW n i h0 h1 sv xs w ho hl ht)
end Go.GV
namespace Go.GV
open Go Go.GK Go.Proofs
noncomputable section
section
variable{f:Nat}{fn:Func}{pi:A_}{y:Nat}{ts:List Ty}{A B R:Type}{po:A_}{gone:List Nat}{rb:Bool}{C:Type}
noncomputable abbrev TP:GN:=Tryz.prog
theorem follows:TP.follows .mixedOrders=Bp:=by kernel_rfl
abbrev y0:Ty:=(.pr (.int .u8) (.int .i64))
abbrev y1:Ty:=(.pr (.int .u8) y0)
abbrev y2:Ty:=(.pr .bool (.sl (.st y1)))
abbrev y3:Ty:=(.st (.sl (.st y2)))
abbrev y4:Ty:=(.pr (.int .i64) (.int .i64))
abbrev y5:Ty:=(.pr (.sl (.st y4)) (.sl (.st y4)))
abbrev y6:Ty:=(.pr (.st y5) y3)
abbrev y7:Ty:=(.pr .bool (.pr .bool y6))
abbrev y8:Ty:=(.st (.pr .bool y7))
abbrev y9:Ty:=(.pr (.nm 0) (.nm 0))
abbrev FQ:Ty:=(.sl (.int .i64))
abbrev zC:Ty:=(.pr (.st y4) .bool)
abbrev y12:Ty:=(.pr (.int .i64) (.st y9))
abbrev ER:Ty:=(.st (.pr .str y12))
abbrev y14:Ty:=(.pr (.sl .bool) FQ)
abbrev y15:Ty:=(.pr (.sl FQ) y14)
abbrev uX:Ty:=(.st (.pr FQ y15))
abbrev y17:Ty:=(.pr .str (.int .i64))
abbrev y18:Ty:=(.pr y3 (.st y9))
abbrev y19:Ty:=(.pr (.sl ER) (.sl (.st y18)))
abbrev y20:Ty:=(.st (.pr .str .bool))
abbrev y21:Ty:=(.sl (.sl (.st y9)))
abbrev y22:Ty:=(.pr (.sl (.st y9)) (.sl (.st y9)))
abbrev y23:Ty:=(.sl (.sl (.st y4)))
abbrev vr:Ty:=(.sl (.sl .bool))
abbrev y25:Ty:=(.pr .str (.nm 1))
abbrev y26:Ty:=(.pr (.nm 0) .bool)
abbrev Ak:Ty:= .int .i64
abbrev BI:Ty:= .sl (.st y4)
abbrev BA:Ty:= .st y9
abbrev BQ:Ty:= .st y19
abbrev Cc:Ty:= .st y22
abbrev BD:Ty:= .nm 0
abbrev Jd:Ty:= .sl (.st y2)
abbrev Ev:Ty:= .st y4
abbrev FT:Ty:= .st y18
abbrev E':Ty:= .st y5
abbrev El:Ty:= .sl .bool
abbrev Dn:Ty:= .sl BA
abbrev Ek:Ty:= .sl Cc
abbrev Ej:Ty:= .sl BQ
abbrev Ei:Ty:= .sl Ak
abbrev Kg:Ty:= .sl (.st y1)
abbrev Ik:Ty:= .sl .str
abbrev Gr:Ty:= .sl FT
abbrev Pu:Ty:= .sl (.int .u8)
abbrev Kf:Ty:= .sl FQ
abbrev NJ:Ty:= .int .u8
abbrev tq21:Ty:= .sl (.st y17)
abbrev Mb:Ty:= .sl ER
abbrev Lp:Ty:= .st y2
abbrev Pt:Ty:= .st y1
structure Bd where
 f:Nat
 c:CQ NL
 ok:Bt TP f c
def mgC:CQ NL->Option (CQ NL)->CQ NL
 | .PN x,Ac (.PN y)=> .PN (x++y)
 | .its x,Ac (.its y)=> .its (x++y)
 | .qz x,Ac (.qz y)=> .qz (x++y)
 |c,_=>c
def wm:List Bd->Nat->Option (CQ NL)
 | [],_=>C7
 |b::l,f=>match Hh b.f f with
  |true=>Ac (mgC b.c (wm l f))
  |false=>wm l f
theorem p9{c:CQ NL}{d:Option (CQ NL)}(h:Bt TP f c)(k:∀q,d=Ac q->Bt TP f q):Bt TP f (mgC c d):=by
 unfold mgC
 split
 all_goals first
  |exact h
  |exact λq hq=>(AS.1 hq).elim (h q) (k _ rfl q)
theorem ZF:∀(l:List Bd) f q,wm l f=Ac q->Bt TP f q
 | [],_,_,e=>by cases e
 |b::l,f,q,e=>by
  unfold wm at e
  split at e
  ·rename_i hb
   cases e
   exact p9 (AI hb▸b.ok) (ZF l f)
  ·exact ZF l f q e
def zM{β:Type}(d:β):List (Nat×β)->Nat->β
 | [],_=>d
 |p::l,i=>match Hh p.1 i with
  |true=>p.2
  |false=>zM d l i
abbrev lk(l:List (Nat×A_))(i:Nat):Option A_:=zM C7 (l.map λp=>(p.1,Ac p.2)) i
abbrev lg(l:List (Nat×List Gh))(i:Nat):List Gh:=zM [] l i
abbrev lz(l:List (Nat×Nat))(i:Nat):Nat:=zM 0 l i
abbrev u2(f:A->B->R)(x:A×B):R:=f x.1 x.2
abbrev u3(f:A->B->C->R)(x:A×B×C):R:=f x.1 x.2.1 x.2.2
abbrev u4{E:Type}(f:A->B->C->E->R)(x:A×B×C×E):R:=f x.1 x.2.1 x.2.2.1 x.2.2.2
def Si{α:Type}(cmp:α->α->Option Int)(fu:Nat)(x0:Int)(x1:Int)(x2:List α):Option (List α):=Aa (Lo.i64) (x0+(1:Int))<|Ad fu (λ(z1:List α×Int) nx2=>bif Dl (z1.2<x1)then Ad fu (λ(z3:List α×Int) nx4=>bif Dl (x0<z3.2)then Ab (idx z3.1 z3.2) λr5=>Aa (Lo.i64) (z3.2-(1:Int))<|Ab (idx z3.1 (z3.2-(1:Int))) λr6=>Ab (cmp r5 r6) λr7=>bif Dl (r7<(0:Int))then Aa (Lo.i64) (z3.2-(1:Int))<|Aa (Lo.i64) (z3.2-(1:Int))<|Ab (idx z3.1 (z3.2-(1:Int))) λr8=>Ab (idx z3.1 z3.2) λr9=>Ab (idx z3.1 z3.2) λ_=>Ab (idx (lj z3.1 (ao z3.2) r8) (z3.2-(1:Int))) λ_=>Aa (Lo.i64) (z3.2-(1:Int))<|nx4 ((((lj z3.1 (ao z3.2) r8).set (ao (z3.2-(1:Int))) r9),(z3.2-(1:Int))))else Aa (Lo.i64) (z1.2+(1:Int))<|nx2 ((z3.1,(z1.2+(1:Int))))else Aa (Lo.i64) (z1.2+(1:Int))<|nx2 ((z3.1,(z1.2+(1:Int))))) ((z1.1,z1.2))else Ac (z1.1)) ((x2,(x0+(1:Int))))
def kp(l:List Nat)(r:List (Nat×SP)):List (Nat×SP):=l.map (λi=>(i, .Am))++r
def bs(l:List (Nat->Bd))(fu:Nat):List Bd:=l.map (· fu)
def n0:Nat->Option A_:=λ_=>C7
def g0:Nat->List Gh:=λ_=>[]
def z0:Nat->Nat:=λ_=>0
theorem bA{a b:Bool}(h:(a&&b)=Bp):a=Bp/\b=Bp:=by simpa using h
abbrev Wo(l:List Bd)(la:Nat->Option A_)(pr po:Nat->List Gh)(ct:Nat->Nat)(kb:Nat)(fn:Func):Cx NL:=⟨TP,wm l,la,λ_=>C7,pr,po,kb,fn.ntmps,ct⟩
def Lt(fn:Func):Bool:= !(fn.name== "runtime.NumGoroutine")&& !fn.body.isNone
theorem b7(hf:TP.funcs[f]?=Ac fn)(h:Lt fn=Bp):TM TP f:=⟨fn,hf,by have:=(bA h).1;simpa using this,by have:=(bA h).2;simpa using this⟩
theorem oP{rk:Nat}{F G:BJ NL pi.hs->Option (BJ NL po.hs)}(h:Cr TP f (⟨pi,po,rk,gone,F⟩:PQ NL))(e:∀x,F x=G x):Cr TP f (⟨pi,po,rk,gone,G⟩:PQ NL):=(funext e:F=G)▸h
theorem okwI{F G:BJ NL pi.hs->Option (List (DP NL ts)×Bool)}(h:I8 TP f (⟨pi,y,ts,F⟩:IQ NL))(e:∀x,F x=G x):I8 TP f (⟨pi,y,ts,G⟩:IQ NL):=(funext e:F=G)▸h
theorem okwJ{F G:BJ NL pi.hs->Option (List (DP NL ts)×Option Bool)}(h:I7 TP f (⟨pi,y,ts,rb,F⟩:JQ NL))(e:∀x,F x=G x):I7 TP f (⟨pi,y,ts,rb,G⟩:JQ NL):=(funext e:F=G)▸h
def rT{q:PQ NL}(h:Cr TP f q):Bd:=⟨f, .PN [q],λ_ hq=>Aaf.1 hq▸h⟩
def bdI{q:IQ NL}(h:I8 TP f q):Bd:=⟨f, .its [q],λ_ hq=>Aaf.1 hq▸h⟩
def bdJ{q:JQ NL}(h:I7 TP f q):Bd:=⟨f, .qz [q],λ_ hq=>Aaf.1 hq▸h⟩
abbrev G6(f:Nat)(pi po:A_)(rk:Nat)(gone:List Nat):Type:= {F:BJ NL pi.hs->Option (BJ NL po.hs)//Cr TP f (⟨pi,po,rk,gone,F⟩:PQ NL)}
def sP(l:List Bd)(fu:Nat)(hf:TP.funcs[f]?=Ac fn)(pi po:A_)(rk:Nat)(gone:List Nat)(la:Nat->Option A_:=n0)(pr pt:Nat->List Gh:=g0)(ct:Nat->Nat:=z0)(h:(Lt fn&&Yg (Wo l la pr pt ct pi.nk fn) pi po gone)=Bp:=by kernel_rfl):G6 f pi po rk gone:=⟨SF (Wo l la pr pt ct pi.nk fn) fu fn pi po rk,bR (cx:=Wo l la pr pt ct pi.nk fn) (mp:=qa) (ZF l) follows (b7 hf (bA h).1) hf rfl (bA h).2⟩
def tP(hf:TP.funcs[f]?=Ac fn){rk:Nat}(h:Lt fn=Bp:=by kernel_rfl):G6 f pi po rk gone:=⟨λ_=>C7,b7 hf h,λ_ _ h=>by cases h⟩
def C3{rk:Nat}(x:G6 f pi po rk gone):Bd:=rT x.2
def bP(l:List (Nat->Bd))(hf:TP.funcs[f]?=Ac fn)(pi po:A_)(rk:Nat)(gone:List Nat)(G:Nat->BJ NL pi.hs->Option (BJ NL po.hs))(la:Nat->Option A_:=n0)(pr pt:Nat->List Gh:=g0)(ct:Nat->Nat:=z0)(h:∀fu,(Lt fn&&Yg (Wo (bs l fu) la pr pt ct pi.nk fn) pi po gone)=Bp:=by intro fu;kernel_rfl)(e:∀fu x,(sP (bs l fu) fu hf pi po rk gone la pr pt ct (h fu)).1 x=G fu x:=by intro fu x;kernel_rfl)(fu:Nat):Bd:=rT (oP (sP (bs l fu) fu hf pi po rk gone la pr pt ct (h fu)).2 (e fu))
abbrev GrI(f:Nat)(pi:A_)(y:Nat)(ts:List Ty):Type:= {F:BJ NL pi.hs->Option (List (DP NL ts)×Bool)//I8 TP f (⟨pi,y,ts,F⟩:IQ NL)}
def sI(l:List Bd)(fu:Nat)(hf:TP.funcs[f]?=Ac fn)(pi:A_)(y:Nat)(ts:List Ty)(la:Nat->Option A_:=n0)(pr pt:Nat->List Gh:=g0)(ct:Nat->Nat:=z0)(h:(Lt fn&&iY (Wo l la pr pt ct pi.nk fn) pi y)=Bp:=by kernel_rfl):GrI f pi y ts:=⟨Wh (Wo l la pr pt ct pi.nk fn) fu fn pi y ts,bT (cx:=Wo l la pr pt ct pi.nk fn) (mp:=qa) (ZF l) follows (b7 hf (bA h).1) hf rfl (bA h).2⟩
def bI(l:List (Nat->Bd))(hf:TP.funcs[f]?=Ac fn)(pi:A_)(y:Nat)(ts:List Ty)(G:Nat->BJ NL pi.hs->Option (List (DP NL ts)×Bool))(la:Nat->Option A_:=n0)(pr pt:Nat->List Gh:=g0)(ct:Nat->Nat:=z0)(h:∀fu,(Lt fn&&iY (Wo (bs l fu) la pr pt ct pi.nk fn) pi y)=Bp:=by intro fu;kernel_rfl)(e:∀fu x,(sI (bs l fu) fu hf pi y ts la pr pt ct (h fu)).1 x=G fu x:=by intro fu x;kernel_rfl)(fu:Nat):Bd:=bdI (okwI (sI (bs l fu) fu hf pi y ts la pr pt ct (h fu)).2 (e fu))
abbrev GrJ(f:Nat)(pi:A_)(y:Nat)(ts:List Ty)(rb:Bool):Type:= {F:BJ NL pi.hs->Option (List (DP NL ts)×Option Bool)//I7 TP f (⟨pi,y,ts,rb,F⟩:JQ NL)}
def sJ(l:List Bd)(fu:Nat)(hf:TP.funcs[f]?=Ac fn)(pi:A_)(y:Nat)(ts:List Ty)(rb:Bool)(la:Nat->Option A_:=n0)(pr pt:Nat->List Gh:=g0)(ct:Nat->Nat:=z0)(h:(Lt fn&&iX (Wo l la pr pt ct pi.nk fn) pi y)=Bp:=by kernel_rfl):GrJ f pi y ts rb:=⟨Wg (Wo l la pr pt ct pi.nk fn) fu fn pi y ts rb,bS (cx:=Wo l la pr pt ct pi.nk fn) (mp:=qa) (ZF l) follows (b7 hf (bA h).1) hf rfl (bA h).2⟩
def tJ(hf:TP.funcs[f]?=Ac fn)(h:Lt fn=Bp:=by kernel_rfl):GrJ f pi y ts rb:=⟨λ_=>C7,b7 hf h,λ_ _ h=>by cases h⟩
def xk(x:GrJ f pi y ts rb):Bd:=bdJ x.2
def bJ(l:List (Nat->Bd))(hf:TP.funcs[f]?=Ac fn)(pi:A_)(y:Nat)(ts:List Ty)(rb:Bool)(G:Nat->BJ NL pi.hs->Option (List (DP NL ts)×Option Bool))(la:Nat->Option A_:=n0)(pr pt:Nat->List Gh:=g0)(ct:Nat->Nat:=z0)(h:∀fu,(Lt fn&&iX (Wo (bs l fu) la pr pt ct pi.nk fn) pi y)=Bp:=by intro fu;kernel_rfl)(e:∀fu x,(sJ (bs l fu) fu hf pi y ts rb la pr pt ct (h fu)).1 x=G fu x:=by intro fu x;kernel_rfl)(fu:Nat):Bd:=bdJ (okwJ (sJ (bs l fu) fu hf pi y ts rb la pr pt ct (h fu)).2 (e fu))
def zK:List Ty->Nat->List (Nat×SP)
 | [],_=>[]
 |t::l,i=>(i, .v i t)::zK l (i+1)
def NN(l:List Ty):A_:=⟨l.map .Ae,zK l 0,[],0⟩
end
section
variable{f:Nat}{fn:Func}{rs:List Ty}{R α:Type}{ps:List Ty}
abbrev qQ(ps rs:List Ty)(F:BJ NL (NN ps).hs->Option (BJ NL (NN rs).hs)):PQ NL:=⟨NN ps,NN rs,rs.length,[],F⟩
abbrev Gn(f:Nat)(ps rs:List Ty):Type:=G6 f (NN ps) (NN rs) rs.length []
def sQ(l:List Bd)(fu:Nat)(hf:TP.funcs[f]?=Ac fn)(ps rs:List Ty)(la:Nat->Option A_:=n0)(pr pt:Nat->List Gh:=g0)(ct:Nat->Nat:=z0)(h:(Lt fn&&Yg (Wo l la pr pt ct 0 fn) (NN ps) (NN rs) [])=Bp:=by kernel_rfl):Gn f ps rs:=sP l fu hf (NN ps) (NN rs) rs.length [] la pr pt ct h
def tQ(hf:TP.funcs[f]?=Ac fn)(h:Lt fn=Bp:=by kernel_rfl):Gn f ps rs:=tP hf h
def Dd(x:Gn f ps rs):Bd:=C3 x
def bQ(l:List (Nat->Bd))(hf:TP.funcs[f]?=Ac fn)(ps rs:List Ty)(G:Nat->BJ NL (NN ps).hs->Option (BJ NL (NN rs).hs))(la:Nat->Option A_:=n0)(pr pt:Nat->List Gh:=g0)(ct:Nat->Nat:=z0)(h:∀fu,(Lt fn&&Yg (Wo (bs l fu) la pr pt ct 0 fn) (NN ps) (NN rs) [])=Bp:=by intro fu;kernel_rfl)(e:∀fu x,(sQ (bs l fu) fu hf ps rs la pr pt ct (h fu)).1 x=G fu x:=by intro fu x;kernel_rfl)(fu:Nat):Bd:=rT (oP (sQ (bs l fu) fu hf ps rs la pr pt ct (h fu)).2 (e fu))
theorem exQ{F:BJ NL (NN []).hs->Option (BJ NL (NN rs).hs)}{v:BJ NL (NN rs).hs}(h:∀q∈[qQ [] rs F],Cr TP f q)(e:F () =Ac v):Cr TP f (qQ [] rs λ_=>Ac v):=⟨(h _ (Aaf.2 rfl)).b8,λx y hy η H O Y vs nd i=>((h _ (Aaf.2 rfl)).ok x y (by cases hy;exact e) η H O Y vs nd ⟨i.len,i.sl,i.ks,i.ro,i.inv⟩).mono λv H' O' _ ⟨a,b,c,o⟩=>⟨a,b,c,o.env,o.nd,o.ks,o.ro,o.st,o.res⟩⟩
abbrev Lt0:=Bool×List (Int×Int×Int)
abbrev AF:=Vl×Vl
abbrev BC:=List (Aq×Int×AF)×List (A5×AF)
abbrev BO:=List AF×List AF
@[simp] abbrev iB  (b:Bool) (x y:R):R:=cond b x y
@[simp] abbrev iF  (p:Prop) [Decidable p] (x y:R):R:=cond (Dl p) x y
def IG(y:α)(a b:Option (List α×Bool)):Option (List α×Bool):=match a with
 |some ([],Bp)=>match b with
  |some l=>Ac (y::l.1,l.2)
  |none=>Ac ([y],Aj)
 |_=>C7
def wY{α:Type}(kb:Bool->Option (List α×Option Bool)):List α->Option Bool->Option (List α×Option Bool)
 | [],Ac b=>kb b
 | [],C7=>C7
 |y::l,b=>match wY kb l b with
  |some r=>Ac (y::r.1,r.2)
  |none=>Ac ([y],C7)
def ri{α:Type}(kb:Bool->Option (List α×Bool)):List α->Option Bool->Option (List α×Bool)
 | [],Ac b=>kb b
 | [],C7=>C7
 |y::l,b=>match ri kb l b with
  |some r=>Ac (y::r.1,r.2)
  |none=>Ac ([y],Aj)
def pV(n:Nat)(z:Option R)(s:Nat->Option R):Option R:=match n with
 |0=>z
 |n+1=>s n
def F0(c:Nat)(a:A5):Option Bool:=Ad c (λ(b:Nat) d=>iF ((b:Int)<a.length) (Ab (idx a b) λe=>iF ((12:Int)<e.2.length) (Ac Aj)<|d (b+1))<|some (Dl ((a.length:Int)<=8))) (0)
def B0:=bQ [] Tryz.func68 [y3] [.bool] F0 (la:=lk [(2,⟨[.nat],[(1, .Am),(3, .AD 0 200)],[(0, .c 0)],1⟩)])
def F1(b:Nat)(a:Fz):Option Bool:=iF ((a.2.2.2.1.1.length:Int)<=5) (iF ((a.2.2.2.1.2.length:Int)<=5) (Ab (F0 b a.2.2.2.2) Ac)<|some Aj)<|some Aj
def B1:=bQ [B0] Tryz.func67 [y8] [.bool] F1
abbrev FT2:Type:=Gn 41 [BD,Ak,Ak] [Ak]×Gn 31 [Dn,Ak,Ak] [Ak]
def G2(n:Nat):FT2:=Nat.rec (motive:=λ_=>FT2) (tQ Tryz.func41,tQ Tryz.func31) (λfu ⟨g0,g1⟩=>(sQ (Dd g1::bs [B1,B0] fu) fu Tryz.func41 [BD,Ak,Ak] [Ak] (la:=lk [(5,⟨[.Ae Ak, .nat],(kp [1,2,3] [(7, .v 0 Ak),(8, .AD 1 501)]),[(0, .c 0)],1⟩),(12,⟨[.Ae Ak, .nat],(kp [1,2,3] [(7, .v 0 Ak),(10, .AD 1 1201)]),[(0, .c 0)],1⟩),(19,⟨[.Ae Dn, .nat],(kp [1,2,3,7,10,11] [(12, .AH 2),(13, .AD 1 1901)]),[(1, .c 0),(0, .c 0),(2, .row 35 0)],3⟩),(25,⟨[.Ae Dn, .nat],(kp [1,2,3,7,10,11] [(12, .AH 2),(14, .AD 1 2501)]),[(2, .row 35 0),(1, .c 0),(0, .c 0)],3⟩)]) (pt:=lg [(18,[.own 12 35 BA])]),sQ [Dd g0] fu Tryz.func31 [Dn,Ak,Ak] [Ak] (la:=lk [(3,⟨[.Ae Ak, .nat],(kp [0,1,2] [(7, .v 0 Ak),(8, .AD 1 301)]),[],0⟩)]))) n
abbrev F3(fu:Nat)(x:(Vl)×(Int)×(Int)):Option Int:=(G2 fu).1.1 x
def B3(fu:Nat):=Dd (G2 fu).2
abbrev F2(fu:Nat)(x:(List AF)×(Int)×(Int)):Option Int:=(G2 fu).2.1 x
def D3(e:Nat)(c:Vl)(i:Int)(a:Int):Option Int:=iF (i<1) (Aa .i64 (a+1)<|some ((a+1)))<|iF (a<1) (Aa .i64 (a+1)<|some ((a+1)))<|Ab (F1 e (Vl.sc c)) λn=>iB (!n) (Aa .i64 (a+1)<|some ((a+1)))<|iF ((3:Int)<(Vl.lists c).length) (Aa .i64 (a+1)<|some ((a+1)))<|iF ((3:Int)<(Vl.structs c).length) (Aa .i64 (a+1)<|some ((a+1)))<|Ad e (λ(b:Int×Nat) o=>iF ((b.2:Int)<(Vl.lists c).length) (Ab (idx (Vl.lists c) (b.2:Int)) λp=>iF ((3:Int)<p.1.length) (Aa .i64 (a+1)<|some ((a+1)))<|Ab (idx (Vl.lists c) (b.2:Int)) λq=>iF ((2:Int)<q.2.length) (Aa .i64 (a+1)<|some ((a+1)))<|Ab (idx (Vl.lists c) (b.2:Int)) λj=>Ag (0+FD j.1<=4294967296)<|Ab (idx (Vl.lists c) (b.2:Int)) λk=>Ag (FD ([]++j.1)+FD k.2<=4294967296)<|Aa .i64 (i-1)<|Aa .i64 (a-b.1)<|Ab (F2 e ((([]++j.1)++k.2),(i-1),(a-b.1))) λl=>Aa .i64 (b.1+l)<|o ((b.1+l),b.2+1))<|Ad e (λ(d:Int×Nat) r=>iF ((d.2:Int)<(Vl.structs c).length) (iF (d.1<=a) (Ab (idx (Vl.structs c) (d.2:Int)) λf=>iF ((4:Int)<f.1.length) (Aa .i64 (a+1)<|some ((a+1)))<|iF ((4:Int)<f.2.length) (Aa .i64 (a+1)<|some ((a+1)))<|Ad e (λ(g:List AF×Nat) s=>iF ((g.2:Int)<f.1.length) (Ab (idx f.1 g.2) λt=>iF ((60:Int)<t.1.length) (Aa .i64 (a+1)<|some ((a+1)))<|Ab (idx f.1 g.2) λu=>Ag (FD g.1+1<=4294967296)<|s ((g.1++[u.2.2]),g.2+1))<|Ad e (λ(h:List AF×Nat) v=>iF ((h.2:Int)<f.2.length) (Ab (idx f.2 h.2) λw=>Ab (F0 e w.1) λx=>iB (!x) (Aa .i64 (a+1)<|some ((a+1)))<|Ab (idx f.2 h.2) λy=>Ag (FD h.1+1<=4294967296)<|v ((h.1++[y.2]),h.2+1))<|Aa .i64 (i-1)<|Aa .i64 (a-d.1)<|Ab (F2 e (h.1,(i-1),(a-d.1))) λm=>Aa .i64 (d.1+m)<|r (((d.1+m),d.2+1))) ((g.1,0))) (([],0)))<|some d.1)<|some d.1) ((b.1,0))) ((1,0))
theorem d3(fu x0 x1 x2):F3 (fu+1) (x0,x1,x2)=D3 fu x0 x1 x2:=by kernel_rfl
def D2(d:Nat)(e:List AF)(f:Int)(c:Int):Option Int:=Ad d (λ(a:Int×Nat) g=>iF ((a.2:Int)<e.length) (iF (a.1<=c) (Ab (idx e a.2) λi=>Aa .i64 (c-a.1)<|Ab (F3 d (i.1,f,(c-a.1))) λb=>Aa .i64 (a.1+b)<|iF (a.1+b<=c) (Ab (idx e a.2) λj=>Aa .i64 (c-(a.1+b))<|Ab (F3 d (j.2,f,(c-(a.1+b)))) λh=>Aa .i64 (a.1+b+h)<|g (((a.1+b)+h),a.2+1))<|g ((a.1+b),a.2+1))<|some a.1)<|some a.1) ((0,0))
theorem d2(fu x0 x1 x2):F2 (fu+1) (x0,x1,x2)=D2 fu x0 x1 x2:=by kernel_rfl
def FSm(a:Nat)(b:AF):Option Bool:=Ab (F2 a ([b],3,60)) λc=>Ac (Dl (c<=60))
def B4:=bQ [B3] Tryz.func9 [BA] [.bool] FSm
def F5(c:Nat):Int×Int->Option Vl|(a,b)=>Ac (Vl.mk Aj (Aj,Aj,Aj,([(a,b)],[]),[]) [] [])
def B5:=bQ [] Tryz.func33 [Ak,Ak] [BD] F5 (pt:=lg [(1,[.M3 4 4])])
def F6(b:Nat)(a:Vl):Option AF:=Ac (a,a)
def B6:=bQ [] Tryz.func32 [BD] [BA] F6
def F7(c:Nat)(b:Aq):Option A5:=Ad c (λ(a:A5×Int) d=>iF (a.2<(b.length:Int)) (Ab (Ey b a.2) λe=>Ab (Ey b a.2) λf=>Aa .i64 (a.2+1)<|Ag (FD a.1+1<=Ah)<|Aa .i64 (a.2+1)<|d ((a.1++[(Aj,[(e,f,(a.2+1))])]),(a.2+1)))<|Ag (FD a.1+1<=Ah)<|some ((a.1++[(Bp,[])]))) (([],0))
def B7:=bQ [] Tryz.func58 [.str] [y3] F7 (la:=lk [(3,⟨[.Ae Jd, .Ae Ak],(kp [0,2,3] [(4, .v 1 Ak)]),[(1, .Ai 27 [(1, .AH 2)]),(0, .c 0),(2, .row 119 0)],3⟩)]) (pt:=lg [(2,[.Ex 3 0 119 Lp]),(7,[.M3 2 0])])
def F8(a:Nat)(_:Unit):Option A5:=Ac ([(Bp,[(0,255,0)])])
def B8:=bQ [] Tryz.func79 [] [y3] F8 (pt:=lg [(1,[.M3 0 0])])
def F9(f:Nat)(c:A5):Option Bool:=Ad f (λ(d:Nat) h=>iF ((d:Int)<c.length) (Ab (idx c d) λe=>Ad f (λ(a:Nat) g=>iF ((a:Int)<e.2.length) (Ab (idx e.2 a) λb=>iF (b.2.1<b.1) (Ac Aj)<|iF (b.2.2<0) (Ac Aj)<|iF ((c.length:Int)<=b.2.2) (Ac Aj)<|iF ((0:Int)<a) (Aa .i64 ((a:Int)-1)<|Ab (idx e.2 ((a:Int)-1)) λi=>iF (b.1<=i.2.1) (Ac Aj)<|g (a+1))<|g (a+1))<|h (d+1)) (0))<|some Bp) (0)
def B9:=bQ [] Tryz.func103 [Jd] [.bool] F9 (la:=lk [(2,⟨[.nat],(kp [0,7,8] [(9, .AD 0 200)]),[],0⟩),(5,⟨[.nat],(kp [0,4,7,8,9,14,15] [(16, .AD 0 500)]),[(0, .c 0)],1⟩)])
def yb(f:Nat)(d:A5):Option (List Bool):=Ag (FD d<=Ah)<|Ad f (λ(g:List Bool×Nat) k=>iF ((g.2:Int)<d.length) (Ad f (λ(a:List Bool×Nat) h=>iF ((a.2:Int)<d.length) (Ab (idx d a.2) λe=>Ab (idx a.1 a.2) λl=>iB l (Ab (idx a.1 a.2) λs=>Ad f (λ(b:List Bool×Nat) i=>iF ((b.2:Int)<e.2.length) (Ab (idx e.2 b.2) λm=>Ab (idx b.1 a.2) λn=>iB n (Ab (idx b.1 a.2) λt=>i ((b.1.set a.2 Bp),b.2+1))<|Ab (idx b.1 m.2.2) λo=>Ab (idx b.1 a.2) λu=>i ((b.1.set a.2 o),b.2+1))<|h ((b.1,a.2+1))) (((a.1.set a.2 Bp),0)))<|Ab (idx a.1 a.2) λv=>Ad f (λ(c:List Bool×Nat) j=>iF ((c.2:Int)<e.2.length) (Ab (idx e.2 c.2) λp=>Ab (idx c.1 a.2) λq=>iB q (Ab (idx c.1 a.2) λw=>j ((c.1.set a.2 Bp),c.2+1))<|Ab (idx c.1 p.2.2) λr=>Ab (idx c.1 a.2) λx=>j ((c.1.set a.2 r),c.2+1))<|h ((c.1,a.2+1))) (((a.1.set a.2 e.1),0)))<|k ((a.1,g.2+1))) ((g.1,0)))<|some g.1) (((T8 (FD d) Aj),0))
def B10:=bQ [] Tryz.func197 [Jd] [El] yb (la:=lk [(3,⟨[.Ae El, .nat],(kp [0,3,12] [(13, .AD 1 301)]),[(0, .row 4 0)],1⟩),(5,⟨[.Ae El, .nat],(kp [0,3,12,13,15,16] [(17, .AD 1 501)]),[(0, .row 4 0)],1⟩),(9,⟨[.Ae El, .nat],(kp [0,3,4,12,13,15,16,17,34,35] [(36, .AD 1 901)]),[(0, .row 4 0)],2⟩)]) (pt:=lg [(15,[.fz 2])])
def F11(f:Nat)(g:A5):Option A5:=Ad f (λ(b:List Int×A5×Nat) i=>iF ((b.2.2:Int)<b.1.length) (Ab (idx b.1 b.2.2) λj=>Ab (idx g j) λk=>Ab (idx b.1 b.2.2) λl=>Ab (idx g l) λh=>Ad f (λ(a:List Int×List (Int×Int×Int)×Nat) e=>iF ((a.2.2:Int)<h.2.length) (Ab (idx h.2 a.2.2) λc=>Ad f (λ(d:Int) m=>iF (d<(a.1.length:Int)) (Ab (idx a.1 d) λn=>iF (n≠c.2.2) (Aa .i64 (d+1)<|m (d+1))<|iF (d=(a.1.length:Int)) (Ag (FD a.1+1<=Ah)<|Ag (FD a.2.1+1<=Ah)<|e ((a.1++[c.2.2]),(a.2.1++[(c.1,c.2.1,d)]),a.2.2+1))<|Ag (FD a.2.1+1<=Ah)<|e (a.1,(a.2.1++[(c.1,c.2.1,d)]),a.2.2+1))<|iF (d=(a.1.length:Int)) (Ag (FD a.1+1<=Ah)<|Ag (FD a.2.1+1<=Ah)<|e ((a.1++[c.2.2]),(a.2.1++[(c.1,c.2.1,d)]),a.2.2+1))<|Ag (FD a.2.1+1<=Ah)<|e ((a.1,(a.2.1++[(c.1,c.2.1,d)]),a.2.2+1))) ((0:Int)))<|Ag (FD b.2.1+1<=Ah)<|i ((a.1,(b.2.1++[(k.1,a.2.1)]),b.2.2+1))) ((b.1,[],0)))<|some b.2.1) (([(0:Int)],[],0))
def B11:=bQ [] Tryz.func199 [Jd] [Jd] F11 (la:=lk [(4,⟨[.Ae Ei, .Ae Jd, .nat],[(0, .Am),(3, .AH 0),(4, .AH 1),(5, .AD 2 402)],[(0, .row 3 0),(1, .row 119 1)],2⟩),(8,⟨[.Ae Ei, .Ae Kg, .nat],[(0, .Am),(3, .AH 0),(4, .Am),(5, .Am),(6, .Am),(33, .Am),(34, .Am),(35, .AD 2 802)],[(2, .Ai 119 [(1, .Am),(1, .AH 3)]),(1, .c 0),(0, .row 3 0),(3, .row 116 1)],4⟩),(11,⟨[.Ae Ak],(kp [0,3,4,5,6,8] [(9, .v 0 Ak),(33, .Am),(34, .Am),(35, .Am)]),[(4, .c 0),(2, .c 0),(3, .c 0),(1, .c 0),(0, .c 0)],5⟩)]) (pt:=lg [(3,[.own 4 119 Lp]),(7,[.Ex 6 1 116 Pt]),(18,[.fz 2])])
def F12(c:Nat)(d:A5):Option A5:=Ab (yb c d) λh=>Ad c (λ(b:A5×Nat) i=>iF ((b.2:Int)<d.length) (Ab (idx d b.2) λe=>Ad c (λ(a:List (Int×Int×Int)×Nat) f=>iF ((a.2:Int)<e.2.length) (Ab (idx e.2 a.2) λg=>Ab (idx h g.2.2) λj=>iB j (Ag (FD a.1+1<=Ah)<|f ((a.1++[g]),a.2+1))<|f (a.1,a.2+1))<|Ag (FD b.1+1<=Ah)<|i (((b.1++[(e.1,a.1)]),b.2+1))) (([],0)))<|some b.1) (([],0))
def B12:=bQ [B10] Tryz.func198 [Jd] [Jd] F12 (la:=lk [(4,⟨[.Ae Jd, .nat],[(3, .Am),(4, .AH 0),(12, .Am),(13, .Am),(14, .AD 1 401)],[(0, .row 119 0)],1⟩),(8,⟨[.Ae Kg, .nat],(kp [3,4,7,12,13,14,22,23] [(24, .AD 1 801)]),[(2, .Ai 119 [(1, .Am),(1, .AH 3)]),(0, .c 0),(3, .row 116 0)],4⟩)]) (pt:=lg [(3,[.own 4 119 Lp]),(7,[.Ex 7 1 116 Pt]),(15,[.fz 2])])
def F13(e:Nat)(f:A5):Option (List Int):=Ag ((0:Int)<=0/\(0:Int)< ↑257)<|Ag (0+ao (0:Int)*1<257)<|Ad e (λ(c:List Bool×Nat) i=>iF ((c.2:Int)<f.length) (Ab (idx f c.2) λg=>Ad e (λ(d:List Bool×Nat) j=>iF ((d.2:Int)<g.2.length) (Ab (idx g.2 d.2) λb=>Ag ((0:Int)<=b.1/\b.1<(↑257:Int))<|Ag (0+ao b.1*1<257)<|Aa .i64 (b.2.1+1)<|Ag ((0:Int)<=b.2.1+1/\b.2.1+1< ↑257)<|Ag (0+ao (b.2.1+1)*1<257)<|j (((lj d.1 (0+ao b.1*1) Bp).set (0+ao (b.2.1+1)*1) Bp),d.2+1))<|i ((d.1,c.2+1))) ((c.1,0)))<|Ad e (λ(a:List Int×Int) h=>iF (a.2<256) (Ag ((0:Int)<=a.2/\a.2<(↑257:Int))<|Ab (idx c.1 (↑(0+ao a.2*1):Int)) λk=>iB k (Ag (FD a.1+1<=Ah)<|Aa .i64 (a.2+1)<|h ((a.1++[a.2]),(a.2+1)))<|Aa .i64 (a.2+1)<|h (a.1,(a.2+1)))<|some a.1) (([],(0:Int)))) (((lj (T8 257 Aj) 0 Bp),0))
def B13:=bQ [] Tryz.func200 [Jd] [FQ] F13 (la:=lk [(4,⟨[.Ae (.ar 257 .bool), .nat],(kp [3,11,12] [(13, .AD 1 401)]),[(0, .Ai 242 [(257, .v 0 (.ar 257 .bool))])],1⟩),(7,⟨[.Ae (.ar 257 .bool), .nat],(kp [3,11,12,13,18,19] [(20, .AD 1 701)]),[(0, .Ai 242 [(257, .v 0 (.ar 257 .bool))])],2⟩),(15,⟨[.Ae Ei, .Ae Ak],[(3, .Am),(8, .AH 1),(9, .v 1 Ak)],[(0, .c 0),(1, .row 3 0)],2⟩)]) (pt:=lg [(14,[.own 8 3 Ak]),(19,[.fz 2])])
def uv(g:Nat):A5×Int×Int->Option Int|(h,c,d)=>iF (c<0) (Ac ((-1:Int)))<|Ab (idx h c) λe=>Ad g (λ(a:Nat) f=>iF ((a:Int)<e.2.length) (Ab (idx e.2 a) λb=>iF (b.1<=d) (iF (d<=b.2.1) (Ac b.2.2)<|f (a+1))<|f (a+1))<|some ((-1:Int))) (0)
def B14:=bQ [] Tryz.func104 [Jd,Ak,NJ] [Ak] uv (la:=lk [(4,⟨[.nat],(kp [2,15,16] [(17, .AD 0 400)]),[],0⟩)])
def F15(d:Nat):List Int×List Int->Option Bool|(b,c)=>iF ((b.length:Int)≠c.length) (Ac Aj)<|Ad d (λ(a:Nat) e=>iF ((a:Int)<b.length) (Ab (idx b a) λf=>Ab (idx c a) λg=>iF (f≠g) (Ac Aj)<|e (a+1))<|some Bp) (0)
def B15:=bQ [] Tryz.func293 [FQ,FQ] [.bool] F15 (la:=lk [(4,⟨[.nat],(kp [0,1,12] [(13, .AD 0 400)]),[],0⟩)])
def F16(b:Nat):List (List Int)×List Int->Option Int|(c,d)=>Ad b (λ(a:Nat) e=>iF ((a:Int)<c.length) (Ab (idx c a) λf=>Ab (F15 b (f,d)) λg=>iB g (Ac ((a:Int)))<|e (a+1))<|some ((-1:Int))) (0)
def B16:=bQ [B15] Tryz.func253 [Kf,FQ] [Ak] F16 (la:=lk [(2,⟨[.nat],(kp [0,1,7] [(8, .AD 0 200)]),[],0⟩)])
def F17(e:Nat):A5×List Int->Option (List Int)|(d,h)=>Ag (FD d<=Ah)<|Ad e (λ(b:List Int×Nat) i=>iF ((b.2:Int)<d.length) (Ab (idx d b.2) λn=>iB n.1 (Ab (idx b.1 b.2) λr=>i ((b.1.set b.2 ((1:Int))),b.2+1))<|i (b.1,b.2+1))<|Ad e (λ(f:List Int×Nat×Nat) o=>iF ((f.2.2:Int)<d.length) (Ag (FD d<=Ah)<|Ad e (λ(a:List Int×List (List Int)×Nat) j=>iF ((a.2.2:Int)<d.length) (Ab (idx f.1 a.2.2) λp=>Ad e (λ(c:List Int×Nat) k=>iF ((c.2:Int)<h.length) (Ab (idx h c.2) λl=>Aa .u8 l<|Ab (uv e (d,(a.2.2:Int),l)) λg=>iF ((0:Int)<=g) (Ab (idx f.1 g) λq=>Ag (FD c.1+1<=Ah)<|k ((c.1++[q]),c.2+1))<|Ag (FD c.1+1<=Ah)<|k ((c.1++[g]),c.2+1))<|Ab (F16 e (a.2.1,c.1)) λm=>iF (m<0) (Ag (FD a.2.1+1<=Ah)<|Ab (idx a.1 a.2.2) λs=>j ((a.1.set a.2.2 ((a.2.1.length:Int))),(a.2.1++[c.1]),a.2.2+1))<|Ab (idx a.1 a.2.2) λt=>j (((a.1.set a.2.2 m),a.2.1,a.2.2+1))) (([p],0)))<|iF ((a.2.1.length:Int)=f.2.1) (Ac a.1)<|o ((a.1,FD a.2.1,f.2.2+1))) (((T8 (FD d) (0:Int)),[],0)))<|some f.1) ((b.1,0,0))) (((T8 (FD d) (0:Int)),0))
def B17:=bQ [B14,B16] Tryz.func201 [Jd,FQ] [FQ] F17 (la:=lk [(3,⟨[.Ae Ei, .nat],(kp [0,1,5,20,21] [(22, .AD 1 301)]),[(0, .row 3 0)],1⟩),(10,⟨[.Ae Ei, .nat, .nat],(kp [0,1] [(5, .AH 0),(8, .AD 1 1001),(34, .Am),(35, .AD 2 1002)]),[(0, .row 3 0)],1⟩),(14,⟨[.Ae Ei, .Ae Kf, .nat],(kp [0,1,5,8] [(9, .AH 2),(10, .Am),(34, .Am),(35, .Am),(41, .Am),(42, .AD 2 1402)]),[(1, .row 3 0),(0, .c 0),(2, .row 158 1)],3⟩),(18,⟨[.Ae Ei, .nat],(kp [0,1,5,8,9,10,11] [(12, .AH 3),(34, .Am),(35, .Am),(41, .Am),(42, .Am),(50, .Am),(51, .Am),(52, .AD 1 1801)]),[(3, .row 3 0),(1, .c 0),(2, .c 0),(0, .c 0)],4⟩)]) (pr:=lg [(28,[.fz 12])]) (pt:=lg [(13,[.own 9 158 FQ]),(35,[.fz 4])])
def xZ(d:Nat):List Int×List Int×Int->Option Int|(b,c,e)=>Ad d (λ(a:Nat) f=>iF ((a:Int)<b.length) (Ab (idx b a) λg=>Ab (idx c g) λh=>Ab (idx c e) λi=>iF (h=i) (Ac ((a:Int)))<|f (a+1))<|some ((b.length:Int))) (0)
def B18:=bQ [] Tryz.func202 [FQ,FQ,Ak] [Ak] xZ (la:=lk [(2,⟨[.nat],(kp [0,1,2,9,10] [(11, .AD 0 200)]),[],0⟩)])
def vp(e:Nat)(k:A5):Option (A5×Int):=Ab (F9 e k) λv=>iB (!v) (Ac (([],11)))<|iF ((k.length:Int)=0) (Ac (([],0)))<|Ab (yb e k) λw=>Ab (idx w 0) λx=>iB (!x) (Ac (([],0)))<|Ab (F11 e k) λy=>Ab (F12 e y) λl=>Ab (F13 e l) λj=>Ab (F17 e (l,j)) λm=>Ad e (λ(g:List Int×A5×Nat) z=>iF ((g.2.2:Int)<g.1.length) (Ab (idx g.1 g.2.2) λA=>Ab (idx l A) λB=>Ad e (λ(a:List Int×List (Int×Int×Int)×Nat) c=>iF ((a.2.2:Int)<j.length) (Ab (idx j a.2.2) λb=>Ab (idx a.1 g.2.2) λE=>Aa .u8 b<|Ab (uv e (l,E,b)) λf=>iF (f<0) (c (a.1,a.2.1,a.2.2+1))<|iF ((↑(a.2.2+1):Int)<(j.length:Int)) (Ab (idx j (↑(a.2.2+1):Int)) λd=>Aa .i64 (d-1)<|Ab (xZ e (a.1,m,f)) λh=>iF (h=(a.1.length:Int)) (Ag (FD a.1+1<=Ah)<|Aa .i64 ((a.2.1.length:Int)-1)<|iF ((0:Int)<=a.2.1.length-1) (Ab (idx a.2.1 ((a.2.1.length:Int)-1)) λG=>iF (G.2.2=h) (Ab (idx a.2.1 ((a.2.1.length:Int)-1)) λn=>Aa .i64 (n.2.1+1)<|iF (n.2.1+1=b) (Aa .u8 (d-1)<|Ab (idx a.2.1 ((a.2.1.length:Int)-1)) λo=>c ((a.1++[f]),(a.2.1.set (ao ((a.2.1.length:Int)-1)) (o.1,(d-1),o.2.2)),a.2.2+1))<|Aa .u8 b<|Aa .u8 (d-1)<|Ag (FD a.2.1+1<=Ah)<|c ((a.1++[f]),(a.2.1++[(b,(d-1),h)]),a.2.2+1))<|Aa .u8 b<|Aa .u8 (d-1)<|Ag (FD a.2.1+1<=Ah)<|c ((a.1++[f]),(a.2.1++[(b,(d-1),h)]),a.2.2+1))<|Aa .u8 b<|Aa .u8 (d-1)<|Ag (FD a.2.1+1<=Ah)<|c ((a.1++[f]),(a.2.1++[(b,(d-1),h)]),a.2.2+1))<|Aa .i64 ((a.2.1.length:Int)-1)<|iF ((0:Int)<=a.2.1.length-1) (Ab (idx a.2.1 ((a.2.1.length:Int)-1)) λH=>iF (H.2.2=h) (Ab (idx a.2.1 ((a.2.1.length:Int)-1)) λp=>Aa .i64 (p.2.1+1)<|iF (p.2.1+1=b) (Aa .u8 (d-1)<|Ab (idx a.2.1 ((a.2.1.length:Int)-1)) λq=>c (a.1,(a.2.1.set (ao ((a.2.1.length:Int)-1)) (q.1,(d-1),q.2.2)),a.2.2+1))<|Aa .u8 b<|Aa .u8 (d-1)<|Ag (FD a.2.1+1<=Ah)<|c (a.1,(a.2.1++[(b,(d-1),h)]),a.2.2+1))<|Aa .u8 b<|Aa .u8 (d-1)<|Ag (FD a.2.1+1<=Ah)<|c (a.1,(a.2.1++[(b,(d-1),h)]),a.2.2+1))<|Aa .u8 b<|Aa .u8 (d-1)<|Ag (FD a.2.1+1<=Ah)<|c (a.1,(a.2.1++[(b,(d-1),h)]),a.2.2+1))<|Ab (xZ e (a.1,m,f)) λi=>iF (i=(a.1.length:Int)) (Ag (FD a.1+1<=Ah)<|Aa .i64 ((a.2.1.length:Int)-1)<|iF ((0:Int)<=a.2.1.length-1) (Ab (idx a.2.1 ((a.2.1.length:Int)-1)) λI=>iF (I.2.2=i) (Ab (idx a.2.1 ((a.2.1.length:Int)-1)) λr=>Aa .i64 (r.2.1+1)<|iF (r.2.1+1=b) (Aa .u8 ((255:Int))<|Ab (idx a.2.1 ((a.2.1.length:Int)-1)) λs=>c ((a.1++[f]),(a.2.1.set (ao ((a.2.1.length:Int)-1)) (s.1,255,s.2.2)),a.2.2+1))<|Aa .u8 b<|Aa .u8 ((255:Int))<|Ag (FD a.2.1+1<=Ah)<|c ((a.1++[f]),(a.2.1++[(b,255,i)]),a.2.2+1))<|Aa .u8 b<|Aa .u8 ((255:Int))<|Ag (FD a.2.1+1<=Ah)<|c ((a.1++[f]),(a.2.1++[(b,255,i)]),a.2.2+1))<|Aa .u8 b<|Aa .u8 ((255:Int))<|Ag (FD a.2.1+1<=Ah)<|c ((a.1++[f]),(a.2.1++[(b,255,i)]),a.2.2+1))<|Aa .i64 ((a.2.1.length:Int)-1)<|iF ((0:Int)<=a.2.1.length-1) (Ab (idx a.2.1 ((a.2.1.length:Int)-1)) λJ=>iF (J.2.2=i) (Ab (idx a.2.1 ((a.2.1.length:Int)-1)) λt=>Aa .i64 (t.2.1+1)<|iF (t.2.1+1=b) (Aa .u8 ((255:Int))<|Ab (idx a.2.1 ((a.2.1.length:Int)-1)) λu=>c (a.1,(a.2.1.set (ao ((a.2.1.length:Int)-1)) (u.1,255,u.2.2)),a.2.2+1))<|Aa .u8 b<|Aa .u8 ((255:Int))<|Ag (FD a.2.1+1<=Ah)<|c (a.1,(a.2.1++[(b,255,i)]),a.2.2+1))<|Aa .u8 b<|Aa .u8 ((255:Int))<|Ag (FD a.2.1+1<=Ah)<|c (a.1,(a.2.1++[(b,255,i)]),a.2.2+1))<|Aa .u8 b<|Aa .u8 ((255:Int))<|Ag (FD a.2.1+1<=Ah)<|c (a.1,(a.2.1++[(b,255,i)]),a.2.2+1))<|Ag (FD g.2.1+1<=Ah)<|z ((a.1,(g.2.1++[(B.1,a.2.1)]),g.2.2+1))) ((g.1,[],0)))<|some ((g.2.1,0))) (([(0:Int)],[],0))
def B19:=bQ [B9,B14,B10,B12,B11,B13,B17,B18] Tryz.func145 [Jd] [y3,Ak] vp (la:=lk [(11,⟨[.Ae Ei, .Ae Jd, .nat],(kp [2,4,5,6] [(7, .AH 1),(8, .Am),(9, .AD 2 1102)]),[(2, .Ai 27 [(1, .AH 3)]),(1, .row 3 0),(0, .c 0),(3, .row 119 1)],4⟩),(15,⟨[.Ae Ei, .Ae Kg, .nat],(kp [2,4,5,6] [(7, .AH 1),(8, .Am),(9, .Am),(10, .Am),(56, .Am),(57, .Am),(58, .AD 2 1502)]),[(4, .Ai 119 [(1, .Am),(1, .AH 5)]),(2, .c 0),(3, .c 0),(1, .row 3 0),(0, .c 0),(5, .row 116 1)],6⟩)]) (pt:=lg [(10,[.Ex 8 0 119 Lp]),(14,[.Ex 10 1 116 Pt]),(31,[.M3 2 0])])
def F20(h:Nat):A5×A5->Option Bool|(d,i)=>iF ((d.length:Int)≠i.length) (Ac Aj)<|Ad h (λ(a:Nat) j=>iF ((a:Int)<d.length) (Ab (idx d a) λb=>Ab (idx i a) λe=>iB (!b.1==e.1) (Ac Aj)<|iF ((b.2.length:Int)≠e.2.length) (Ac Aj)<|Ad h (λ(c:Nat) k=>iF ((c:Int)<b.2.length) (Ab (idx b.2 c) λf=>Ab (idx e.2 c) λg=>iB (!decide (f.1::(f.2.1::[f.2.2])=g.1::(g.2.1::[g.2.2]))) (Ac Aj)<|k (c+1))<|j (a+1)) (0))<|some Bp) (0)
def B20:=bQ [] Tryz.func146 [y3,y3] [.bool] F20 (la:=lk [(4,⟨[.nat],(kp [2,3,18] [(19, .AD 0 400)]),[(1, .c 0),(0, .c 0)],2⟩),(10,⟨[.nat],(kp [2,3,6,7,18,19,48] [(49, .AD 0 1000)]),[(3, .c 0),(2, .c 0),(1, .c 0),(0, .c 0)],4⟩)])
def xY(a:Nat)(b:A5):Option Bool:=Ab (vp a b) λc=>iF (c.2=0) (Ab (F20 a (b,c.1)) Ac)<|some Aj
def B21:=bQ [B19,B20] Tryz.func106 [y3] [.bool] xY
def xX(b:Nat)(a:A5):Option A5:=Ab (xY b a) λc=>iB (!c) (Ac [])<|some a
def B22:=bQ [B21] Tryz.func160 [y3] [y3] xX
def xW(b:Nat)(a:A5):Option Int:=iF ((a.length:Int)=0) (Ac ((-1:Int)))<|some 0
def B23:=bQ [] Tryz.func161 [y3] [Ak] xW
def vo(d:Nat):A5×Int->Option Bool|(b,a)=>iF ((0:Int)<=a) (Ab (idx b a) λc=>Ac c.1)<|some Aj
def B24:=bQ [] Tryz.func163 [y3,Ak] [.bool] vo
def F25(d:Nat):Int×Bool×Bool->Option Bool|(c,a,b)=>iF (c=38) (iB a (Ac b)<|some Aj)<|iF (c=124) (iB a (Ac Bp)<|some b)<|iB a (Ac ((!b)))<|some Aj
def B25:=bQ [] Tryz.func162 [NJ, .bool, .bool] [.bool] F25
def nZ(i:Nat):List A5×List Int×Int->Option Int|(j,k,h)=>Ad i (λ(c:Int×Nat) l=>iF ((c.2:Int)<j.length) (Ab (idx k c.2) λm=>iF (m<0) (l (c.1,c.2+1))<|Ab (idx j c.2) λn=>Ab (idx k c.2) λo=>Ab (idx n o) λd=>Ad i (λ(a:Int×Nat) g=>iF ((a.2:Int)<d.2.length) (Ab (idx d.2 a.2) λp=>iF (h<p.1) (Ab (idx d.2 a.2) λb=>Aa .i64 (if b.1<a.1 then b.1 else a.1)<|Ab (idx d.2 a.2) λq=>iF (h<=q.2.1) (Ab (idx d.2 a.2) λe=>Aa .i64 (e.2.1+1)<|Aa .i64 (if e.2.1+1<if b.1<a.1 then b.1 else a.1 then e.2.1+1 else if b.1<a.1 then b.1 else a.1)<|g ((if(e.2.1+1)<(if b.1<a.1 then b.1 else a.1)then e.2.1+1 else if b.1<a.1 then b.1 else a.1),a.2+1))<|g ((if b.1<a.1 then b.1 else a.1),a.2+1))<|Ab (idx d.2 a.2) λr=>iF (h<=r.2.1) (Ab (idx d.2 a.2) λf=>Aa .i64 (f.2.1+1)<|Aa .i64 (if f.2.1+1<a.1 then f.2.1+1 else a.1)<|g ((if(f.2.1+1)<a.1 then f.2.1+1 else a.1),a.2+1))<|g (a.1,a.2+1))<|l ((a.1,c.2+1))) ((c.1,0)))<|some c.1) ((256,0))
def B26:=bQ [] Tryz.func164 [(.sl y3),FQ,Ak] [Ak] nZ (la:=lk [(3,⟨[.Ae Ak, .nat],(kp [0,1,2] [(7, .v 0 Ak),(8, .AD 1 301)]),[],0⟩),(8,⟨[.Ae Ak, .nat],(kp [0,1,2] [(7, .v 0 Ak),(8, .Am),(9, .Am),(10, .AD 1 801)]),[],0⟩)])
def vm(g:Nat):A5×Int×Int->Option Int|(d,b,e)=>iF (b<0) (Ac ((-1:Int)))<|Ad g (λ(a:Nat) f=>Ab (idx d b) λh=>iF ((a:Int)<h.2.length) (Ab (idx d b) λi=>Ab (idx i.2 a) λc=>iF (c.1<=e) (iF (e<=c.2.1) (Ac c.2.2)<|f (a+1))<|f (a+1))<|some ((-1:Int))) (0)
def B27:=bQ [] Tryz.func165 [y3,Ak,Ak] [Ak] vm (la:=lk [(4,⟨[.nat],(kp [1,2,3] [(7, .AD 0 400)]),[(0, .c 0)],1⟩)])
def F28(e:Nat):(List (Int×Int))×Int×Int->Option Int|(b,c)=>Ad e (λ(a:Nat) f=>iF ((a:Int)<b.length) (Ab (idx b a) λd=>iF ((d.1::[d.2])=(c.1::[c.2])) (Ac ((a:Int)))<|f (a+1))<|some ((-1:Int))) (0)
def B28:=bQ [] Tryz.func166 [BI,Ev] [Ak] F28 (la:=lk [(2,⟨[.nat],(kp [0,3] [(5, .AD 0 200)]),[(0, .c 0)],1⟩)])
def F29(b:Nat):A5×A5×Int->Option A5|(l,m,n)=>Ab (xX b l) λf=>Ab (xX b m) λg=>Ab (xW b f) λo=>Ab (xW b g) λp=>Ad b (λ(c:List (Int×Int)×A5×Nat) q=>iF ((c.2.2:Int)<c.1.length) (Ab (idx c.1 c.2.2) λe=>Ag ((0:Int)<=0/\(0:Int)< ↑2)<|Ab (vo b (f,e.1)) λr=>Ag ((0:Int)<=1/\(1:Int)< ↑2)<|Ab (vo b (g,e.2)) λs=>Ab (F25 b (n,r,s)) λt=>Ad b (λ(a:List (Int×Int)×List (Int×Int×Int)×Int) h=>iF (a.2.2<256) (Ag ((0:Int)<=0/\(0:Int)< ↑2)<|Ag ((0:Int)<=1/\(1:Int)< ↑2)<|Ab (nZ b ([f,g],[e.1,e.2],a.2.2)) λd=>Ag ((0:Int)<=0/\(0:Int)< ↑2)<|Ab (vm b (f,e.1,a.2.2)) λi=>Ag ((0:Int)<=1/\(1:Int)< ↑2)<|Ab (vm b (g,e.2,a.2.2)) λj=>Ab (F28 b (a.1,i,j)) λk=>iF (k<0) (Ag (FD a.1+1<=Ah)<|Aa .u8 a.2.2<|Aa .i64 (d-1)<|Aa .u8 (d-1)<|Ag (FD a.2.1+1<=Ah)<|h ((a.1++[(i,j)]),(a.2.1++[(a.2.2,(d-1),(a.1.length:Int))]),d))<|Aa .u8 a.2.2<|Aa .i64 (d-1)<|Aa .u8 (d-1)<|Ag (FD a.2.1+1<=Ah)<|h (a.1,(a.2.1++[(a.2.2,(d-1),k)]),d))<|Ag (FD c.2.1+1<=Ah)<|q ((a.1,(c.2.1++[(t,a.2.1)]),c.2.2+1))) ((c.1,[],0)))<|Ab (vp b c.2.1) λu=>Ac u.1) (([(o,p)],[],0))
def B29:=bQ [B19,B22,B23,B25,B24,B26,B27,B28] Tryz.func111 [y3,y3,NJ] [y3] F29 (la:=lk [(5,⟨[.Ae BI, .Ae Jd, .nat],(kp [2,6,7,8] [(9, .AH 5),(10, .AH 6),(11, .AD 2 502)]),[(5, .row 185 0),(4, .c 0),(3, .c 0),(2, .c 0),(6, .row 119 1)],7⟩),(10,⟨[.Ae BI, .Ae Kg, .Ae Ak],(kp [2,6,7,8] [(9, .AH 5),(10, .Am),(11, .Am),(12, .Am),(13, .Am),(14, .v 2 Ak)]),[(8, .Ai 119 [(1, .Am),(1, .AH 9)]),(7, .c 0),(6, .c 0),(5, .row 185 0),(4, .c 0),(3, .c 0),(2, .c 0),(9, .row 116 1)],10⟩)]) (pr:=lg [(20,[.fz 10])]) (pt:=lg [(4,[.own 10 119 Lp]),(9,[.Ex 13 1 116 Pt])])
def W0(a:Nat):A5×A5->Option A5|(b,c)=>Ab (F29 a (b,c,45)) Ac
def B30:=bQ [B29] Tryz.func78 [y3,y3] [y3] W0
def F31(a:Nat)(b:A5):Option A5:=Ab (F8 a ()) λc=>Ab (W0 a (c,b)) Ac
def B31:=bQ [B30,B8] Tryz.func57 [y3] [y3] F31
def F32(a:Nat)(_:Unit):Option AF:=Ab (F6 a (Vl.mk Bp (Aj,Aj,Aj,([],[]),[]) [] [])) Ac
def B32:=bQ [B6] Tryz.func36 [] [BA] F32
def F33(a:Nat):Aq×AF->Option Vl|(b,c)=>Ab (F7 a b) λd=>Ab (F31 a d) λe=>Ab (F32 a ()) λf=>Ac (Vl.mk Aj (Aj,Aj,Aj,([],[]),[]) [] [([(b,1,c)],[(e,f)])])
def B33:=bQ [B32,B31,B7] Tryz.func34 [.str,BA] [BD] F33 (pt:=lg [(2,[.M3 4 8])])
def F34(c:Nat):Int×(Int×Int)×Bool->Option (Int×Int×Bool)|(b,a)=>Aa .i64 (a.1.1+1)<|Aa .i64 (if b>a.1.2 then b else a.1.2)<|some ((a.1.1+1),(if a.1.2<b then b else a.1.2),a.2)
def B34:=bP [] Tryz.func231 ⟨[.Ae Ak, .Ae (.st zC)],[(0, .loc 0 0),(1, .v 0 Ak)],[(0, .Ai 150 [(3, .v 1 (.st zC))])],1⟩ ⟨[.Ae Ak, .Ae Ak, .Ae .bool],[],[(0, .Ai 150 [(1, .v 0 Ak),(1, .v 1 Ak),(1, .v 2 .bool)])],1⟩ 0 [] F34
def xM(b:Nat)(a:Fz):Option Bool:=iB (!a.1) (iB (!a.2.1) (iB (!a.2.2.1) (Aa .i64 ((a.2.2.2.1.1.length:Int)+(a.2.2.2.1.2.length:Int))<|Aa .i64 ((a.2.2.2.1.1.length:Int)+(a.2.2.2.1.2.length:Int)+(a.2.2.2.2.length:Int))<|some (Dl (((a.2.2.2.1.1.length:Int)+(a.2.2.2.1.2.length:Int)+(a.2.2.2.2.length:Int))=0)))<|some Aj)<|some Aj)<|some Aj
def B35:=bQ [] Tryz.func48 [y8] [.bool] xM
def F36(e:Nat)(b:List (Aq×Int×AF)):Option Bool:=Ad e (λ(a:Nat) c=>iF ((a:Int)<b.length) (Ab (idx b a) λd=>iF (d.2.1≠1) (iF (d.2.1≠2) (Ac Aj)<|iF ((0:Int)<a) (Aa .i64 ((a:Int)-1)<|Ab (idx b ((a:Int)-1)) λf=>iB (!Go.Op.bytesLess f.1 d.1) (Ac Aj)<|c (a+1))<|c (a+1))<|iF ((0:Int)<a) (Aa .i64 ((a:Int)-1)<|Ab (idx b ((a:Int)-1)) λg=>iB (!Go.Op.bytesLess g.1 d.1) (Ac Aj)<|c (a+1))<|c (a+1))<|some Bp) (0)
def B36:=bQ [] Tryz.func278 [Mb] [.bool] F36 (la:=lk [(2,⟨[.nat],(kp [0,5,6] [(7, .AD 0 200)]),[],0⟩)])
def xL(f:Nat)(c:A5):Option Bool:=Ad f (λ(d:Nat) h=>iF ((d:Int)<c.length) (Ab (idx c d) λe=>Ad f (λ(a:Nat) g=>iF ((a:Int)<e.2.length) (Ab (idx e.2 a) λb=>iF (b.2.1<b.1) (Ac Aj)<|iF (b.2.2<0) (Ac Aj)<|iF ((c.length:Int)<=b.2.2) (Ac Aj)<|iF ((0:Int)<a) (Aa .i64 ((a:Int)-1)<|Ab (idx e.2 ((a:Int)-1)) λi=>iF (b.1<=i.2.1) (Ac Aj)<|g (a+1))<|g (a+1))<|h (d+1)) (0))<|some Bp) (0)
def B37:=bQ [] Tryz.func102 [Jd] [.bool] xL (la:=lk [(2,⟨[.nat],(kp [0,7,8] [(9, .AD 0 200)]),[],0⟩),(5,⟨[.nat],(kp [0,4,7,8,9,14,15] [(16, .AD 0 500)]),[(0, .c 0)],1⟩)])
def F38(e:Nat)(f:A5):Option (List Int):=Ag ((0:Int)<=0/\(0:Int)< ↑257)<|Ag (0+ao (0:Int)*1<257)<|Ad e (λ(c:List Bool×Nat) i=>iF ((c.2:Int)<f.length) (Ab (idx f c.2) λg=>Ad e (λ(d:List Bool×Nat) j=>iF ((d.2:Int)<g.2.length) (Ab (idx g.2 d.2) λb=>Ag ((0:Int)<=b.1/\b.1<(↑257:Int))<|Ag (0+ao b.1*1<257)<|Aa .i64 (b.2.1+1)<|Ag ((0:Int)<=b.2.1+1/\b.2.1+1< ↑257)<|Ag (0+ao (b.2.1+1)*1<257)<|j (((lj d.1 (0+ao b.1*1) Bp).set (0+ao (b.2.1+1)*1) Bp),d.2+1))<|i ((d.1,c.2+1))) ((c.1,0)))<|Ad e (λ(a:List Int×Int) h=>iF (a.2<256) (Ag ((0:Int)<=a.2/\a.2<(↑257:Int))<|Ab (idx c.1 (↑(0+ao a.2*1):Int)) λk=>iB k (Ag (FD a.1+1<=Ah)<|Aa .i64 (a.2+1)<|h ((a.1++[a.2]),(a.2+1)))<|Aa .i64 (a.2+1)<|h (a.1,(a.2+1)))<|some a.1) (([],(0:Int)))) (((lj (T8 257 Aj) 0 Bp),0))
def B38:=bQ [] Tryz.func347 [Jd] [FQ] F38 (la:=lk [(4,⟨[.Ae (.ar 257 .bool), .nat],(kp [3,11,12] [(13, .AD 1 401)]),[(0, .Ai 242 [(257, .v 0 (.ar 257 .bool))])],1⟩),(7,⟨[.Ae (.ar 257 .bool), .nat],(kp [3,11,12,13,18,19] [(20, .AD 1 701)]),[(0, .Ai 242 [(257, .v 0 (.ar 257 .bool))])],2⟩),(15,⟨[.Ae Ei, .Ae Ak],[(3, .Am),(8, .AH 1),(34, .v 1 Ak)],[(0, .c 0),(1, .row 3 0)],2⟩)]) (pt:=lg [(14,[.own 8 3 Ak]),(20,[.fz 2])])
def F39(f:Nat)(g:A5):Option (List Int×List Int×List (List Int)×List Bool):=Ab (F38 f g) λd=>Ad f (λ(a:List (List Int)×List Bool×Nat) l=>iF ((a.2.2:Int)<g.length) (Ab (idx g a.2.2) λh=>Ag (FD d<=Ah)<|Ad f (λ(b:List Int×Nat) m=>iF ((b.2:Int)<d.length) (Ab (idx d b.2) λk=>Ab (idx b.1 b.2) λo=>Ad f (λ(c:List Int×Nat) i=>iF ((c.2:Int)<h.2.length) (Ab (idx h.2 c.2) λj=>iF (j.1<=k) (iF (k<=j.2.1) (Ab (idx c.1 b.2) λp=>i ((c.1.set b.2 j.2.2),c.2+1))<|i (c.1,c.2+1))<|i (c.1,c.2+1))<|m ((c.1,b.2+1))) (((b.1.set b.2 ((g.length:Int))),0)))<|Ag (FD a.1+1<=Ah)<|Ag (FD a.2.1+1<=Ah)<|l (((a.1++[b.1]),(a.2.1++[h.1]),a.2.2+1))) (((T8 (FD d) (0:Int)),0)))<|Ag (FD d<=Ah)<|Ad f (λ(e:List Int×Nat) n=>iF ((e.2:Int)<((T8 (FD d) (0:Int)).length:Int)) (Ab (idx e.1 e.2) λq=>n ((e.1.set e.2 ((g.length:Int))),e.2+1))<|Ag (FD a.1+1<=Ah)<|Ag (FD a.2.1+1<=Ah)<|some ((d,[],(a.1++[e.1]),(a.2.1++[Aj])))) (((T8 (FD d) (0:Int)),0))) (([],[],0))
def B39:=bP [B38] Tryz.func285 ⟨[.Ae Jd],[(0, .v 0 Jd)],[],0⟩ ⟨[.Ae FQ, .Ae FQ, .Ae Kf, .Ae El],[(0, .loc 0 0)],[(0, .Ai 314 [(1, .v 0 FQ),(1, .AH 1),(1, .AH 2),(1, .v 1 FQ)]),(1, .row 158 2),(2, .row 4 3)],3⟩ 1 [] F39 (la:=lk [(4,⟨[.Ae Kf, .Ae El, .nat],(kp [3,4,20,21] [(22, .AD 2 402)]),[(0, .Ai 314 [(1, .Am),(1, .AH 1),(1, .AH 2),(1, .Am)]),(1, .row 158 0),(2, .row 4 1)],3⟩),(8,⟨[.Ae Ei, .nat],(kp [3,4,6,7,20,21,22,35,36] [(37, .AD 1 801)]),[(4, .row 3 0),(3, .c 0),(0, .c 0),(2, .c 0),(1, .c 0)],5⟩),(12,⟨[.Ae Ei, .nat],(kp [3,4,6,7,8,9,20,21,22,35,36,37,47,48] [(49, .AD 1 1201)]),[(4, .row 3 0),(3, .c 0),(0, .c 0),(2, .c 0),(1, .c 0)],5⟩),(23,⟨[.Ae Ei, .nat],(kp [3,4,12,101] [(102, .AD 1 2301)]),[(3, .row 3 0),(0, .c 0),(2, .c 0),(1, .c 0)],4⟩)]) (pr:=lg [(18,[.fz 7]),(27,[.fz 12])]) (pt:=lg [(3,[.Ex 17 1 158 FQ, .Ex 17 2 4 .bool])])
def B40(_:Nat):Bd:=rT ia
abbrev F40(_:Nat)(x:Int):Option Aq:=U6.F x
theorem d40(fu:Nat)(x:Int):F40 fu x=Aa Lo.i64 x (Ac (Lib.itoa x)):=rfl
def B41(_:Nat):Bd:=rT ib
abbrev F41(_:Nat)(x:List Int):Option (List Int):=Ac x
theorem d41(fu:Nat)(x:List Int):F41 fu x=Ac x:=rfl
def xK(d:Nat):Aq×List Int->Option (Int×List Int)|(a,e)=>Ab (F41 d e) λc=>Ag (FD c+FD a<=1099511627776)<|some ((a.length:Int),(c++((List.map (λb=>(↑(UInt8.toNat b):Int)) a))))
def B42:=bP [B41] Tryz.func393 ⟨[.Ae .str, .Ae Pu],[(0, .loc 0 0),(1, .v 0 .str)],[(0, .Ai 348 [(1, .px [0] .sf),(1, .AH 1)]),(1, .row 5 1)],2⟩ ⟨[.Ae Ak, .Ae Pu],[(0, .v 0 Ak),(1, .Am)],[(0, .Ai 348 [(1, .px [0] .sf),(1, .AH 2)]),(2, .row 5 1)],3⟩ 2 [1] xK
def F43(b:Nat)(a:List Int):Option Aq:=Ag ((a.length:Int)=a.length/\FD a=FD a)<|some (List.map (λn=>UInt8.ofNat (ao n)) a)
def B43:=bP [] Tryz.func395 ⟨[.Ae Pu],[(0, .loc 0 0)],[(0, .Ai 348 [(1, .px [0] .sf),(1, .AH 1)]),(1, .row 5 0)],2⟩ ⟨[.Ae .str],[(0, .v 0 .str)],[(0, .Ai 348 [(1, .px [0] .sf),(1, .AH 1)])],2⟩ 1 [1] F43
def F44(a:Nat):(List Int×List (List Int)×List Bool×List Int)×Int->Option Aq|(c,d)=>Ab (idx c.2.2.2 d) λg=>Ab (F40 a g) λh=>Ab (xK a (h,[])) λi=>Ab (idx c.2.1 d) λe=>Ad a (λ(b:List Int×Nat) j=>iF ((b.2:Int)<e.length) (Ab (idx e b.2) λk=>Ab (idx c.2.2.2 k) λl=>Ab (F40 a l) λf=>Ag (FD ([44]:Aq)+FD f<=1099511627776)<|Ab (xK a ((44:UInt8)::f,b.1)) λm=>j (m.2,b.2+1))<|Ab (F43 a b.1) Ac) ((i.2,0))
def B44:=bP [B42,B40,B43] Tryz.func348 ⟨[.Ae uX, .Ae Ak],[(0, .pd 0 uX 0),(1, .v 1 Ak)],[],0⟩ ⟨[.Ae .str],[(0, .v 0 .str)],[],0⟩ 1 [] F44 (la:=lk [(4,⟨[.Ae Pu, .nat],(kp [0,5,23,24] [(25, .AD 1 401)]),[(0, .Ai 348 [(1, .px [0] .sf),(1, .AH 2)]),(2, .row 5 0)],3⟩)]) (pr:=lg [(2,[.Ex 5 1 5 NJ])])
def F45(e:Nat):List Int×List Int×List (List Int)×List Bool->Option (List Int×List (List Int)×List Bool×List Int)|(g,m,c,f)=>Ag (FD c<=Ah)<|Ad e (λ(b:List Int×Nat) h=>iF ((b.2:Int)<f.length) (Ab (idx f b.2) λk=>iB k (Ab (idx b.1 b.2) λn=>h ((b.1.set b.2 ((1:Int))),b.2+1))<|h (b.1,b.2+1))<|Ad e (λ(i:List Int×Int) l=>Ag (FD c<=Ah)<|Ad e (λ(a:List Int×List (Aq×Int)×Nat) j=>iF ((a.2.2:Int)<c.length) (Ab (F44 e ((g,c,f,i.1),(a.2.2:Int))) λd=>Ag (FD d<=1099511627776)<|iB (!(Option.isSome (AB a.2.1 d))) (Ag (FD d<=1099511627776/\FD a.2.1<=1099511627776)<|Ab (idx a.1 a.2.2) λo=>j ((a.1.set a.2.2 ((a.2.1.length:Int))),Bw a.2.1 d ((a.2.1.length:Int)),a.2.2+1))<|Ab (idx a.1 a.2.2) λp=>j ((a.1.set a.2.2 (pT (AB a.2.1 d) (0:Int))),a.2.1,a.2.2+1))<|iF ((a.2.1.length:Int)=i.2) (Ac ((g,c,f,a.1)))<|l ((a.1,(a.2.1.length:Int)))) (((T8 (FD c) (0:Int)),[],0))) ((b.1,(0:Int)))) (((T8 (FD c) (0:Int)),0))
def B45:=bP [B44] Tryz.func286 ⟨[.Ae FQ, .Ae FQ, .Ae Kf, .Ae El],[(0, .loc 0 0)],[(0, .Ai 314 [(1, .v 0 FQ),(1, .AH 1),(1, .AH 2),(1, .v 1 FQ)]),(1, .row 158 2),(2, .row 4 3)],3⟩ ⟨[.Ae FQ, .Ae Kf, .Ae El, .Ae FQ],[],[(0, .Ai 314 [(1, .v 0 FQ),(1, .AH 1),(1, .AH 2),(1, .AH 3)]),(1, .row 158 1),(2, .row 4 2),(3, .row 3 3)],4⟩ 0 [] F45 (la:=lk [(2,⟨[.Ae Ei, .nat],(kp [0,24,25] [(26, .AD 1 201)]),[(2, .c 0),(0, .c 0),(3, .row 3 0),(1, .c 0)],4⟩),(9,⟨[.Ae Ei, .Ae Ak],[(0, .Am),(4, .v 1 Ak),(5, .Am)],[(0, .Ai 314 (kp [1,1,1] [(1, .AH 3)])),(3, .row 3 0),(2, .c 0),(1, .c 0)],4⟩),(12,⟨[.Ae Ei, .Ae tq21, .nat],(kp [0,4,5,6,7,52] [(53, .AD 2 1202)]),[(5, .row 3 0),(4, .map 9 1),(0, .c 0),(3, .c 0),(2, .c 0),(1, .c 0)],6⟩)])
def F46(d:Nat)(b:List Int×List (List Int)×List Bool×List Int):Option (List Bool):=Ag (FD b.2.1<=Ah)<|Ad d (λ(e:List Bool×Bool) j=>iB e.2 (Ad d (λ(a:List Bool×Bool×Nat) f=>iF ((a.2.2:Int)<b.2.1.length) (Ab (idx b.2.2.1 a.2.2) λk=>Ab (idx b.2.1 a.2.2) λg=>Ad d (λ(c:Bool×Nat) h=>iF ((c.2:Int)<g.length) (Ab (idx g c.2) λl=>iB c.1 (h (Bp,c.2+1))<|Ab (idx b.2.2.2 l) λm=>Ab (idx a.1 m) λn=>h (n,c.2+1))<|iB c.1 (Ab (idx b.2.2.2 a.2.2) λo=>Ab (idx a.1 o) λp=>iB (!p) (Ab (idx b.2.2.2 a.2.2) λi=>Ab (idx a.1 i) λq=>f ((a.1.set (ao i) Bp),Bp,a.2.2+1))<|f (a.1,a.2.1,a.2.2+1))<|f ((a.1,a.2.1,a.2.2+1))) ((k,0)))<|j ((a.1,a.2.1))) ((e.1,Aj,0)))<|some e.1) (((T8 (FD b.2.1) Aj),Bp))
def B46:=bP [] Tryz.func349 ⟨[.Ae uX],[(0, .pd 0 uX 0)],[],0⟩ ⟨[.Ae El],[(0, .AH 0)],[(0, .row 4 0)],1⟩ 1 [] F46 (la:=lk [(3,⟨[.Ae El, .Ae .bool],(kp [0,3] [(4, .v 1 .bool)]),[(0, .row 4 0)],1⟩),(6,⟨[.Ae El, .Ae .bool, .nat],(kp [0,3] [(4, .v 1 .bool),(20, .Am),(21, .AD 2 602)]),[(0, .row 4 0)],1⟩),(10,⟨[.Ae .bool, .nat],(kp [0,3,4,5] [(6, .v 0 .bool),(20, .Am),(21, .Am),(37, .Am),(38, .Am),(39, .AD 1 1001)]),[(0, .c 0)],1⟩)])
def Yu(d:Nat):(List Int×List (List Int)×List Bool×List Int)×Int->Option Int|(c,a)=>Aa .i64 (a+1)<|iF (a+1<c.1.length) (Aa .i64 (a+1)<|Ab (idx c.1 (a+1)) λb=>Aa .i64 (b-1)<|Aa .u8 (b-1)<|some ((b-1)))<|some 255
def B47:=bP [] Tryz.func350 ⟨[.Ae uX, .Ae Ak],[(0, .pd 0 uX 0),(1, .v 1 Ak)],[],0⟩ ⟨[.Ae NJ],[(0, .v 0 NJ)],[],0⟩ 1 [] Yu
def F48(h:Nat):List Int×List (List Int)×List Bool×List Int->Option (A5×List Int×List (List Int)×List Bool×List Int)|(c,e,f,d)=>Ab (F46 h (c,e,f,d)) λk=>Ab (idx d 0) λx=>Ab (idx k x) λy=>iB (!y) (Ac (([],c,e,f,d)))<|Ab (idx d 0) λl=>Aa .i64 l<|Ag (0<=1099511627776)<|Ad h (λ(g:List (Int×Int)×List Int×A5×Nat) z=>iF ((g.2.2.2:Int)<g.2.1.length) (Ab (idx g.2.1 g.2.2.2) λA=>Ab (idx f A) λB=>Ab (idx g.2.1 g.2.2.2) λE=>Ab (idx e E) λm=>Ad h (λ(a:List (Int×Int)×List Int×List (Int×Int×Int)×Nat) i=>iF ((a.2.2.2:Int)<m.length) (Ab (idx m a.2.2.2) λj=>Ab (idx d j) λb=>Ab (idx k b) λG=>iB (!G) (i (a.1,a.2.1,a.2.2.1,a.2.2.2+1))<|Aa .i64 b<|iB (!(Option.isSome (AB a.1 b))) (Aa .i64 b<|Ag (FD a.1<=1099511627776)<|Ag (FD a.2.1+1<=Ah)<|iF ((0:Int)<a.2.2.1.length) (Aa .i64 ((a.2.2.1.length:Int)-1)<|Ab (idx a.2.2.1 ((a.2.2.1.length:Int)-1)) λH=>Aa .i64 b<|iF (H.2.2=pT (AB (Bw a.1 b (a.2.1.length:Int)) b) (0:Int)) (Aa .i64 ((a.2.2.1.length:Int)-1)<|Ab (idx a.2.2.1 ((a.2.2.1.length:Int)-1)) λn=>Aa .i64 (n.2.1+1)<|Ab (idx c a.2.2.2) λI=>iF (n.2.1+1=I) (Aa .i64 ((a.2.2.1.length:Int)-1)<|Ab (Yu h ((c,e,f,d),(a.2.2.2:Int))) λJ=>Ab (idx a.2.2.1 ((a.2.2.1.length:Int)-1)) λo=>i (Bw a.1 b (a.2.1.length:Int),(a.2.1++[j]),(a.2.2.1.set (ao ((a.2.2.1.length:Int)-1)) (o.1,J,o.2.2)),a.2.2.2+1))<|Ab (idx c a.2.2.2) λp=>Aa .u8 p<|Ab (Yu h ((c,e,f,d),(a.2.2.2:Int))) λK=>Aa .i64 b<|Ag (FD a.2.2.1+1<=Ah)<|i (Bw a.1 b (a.2.1.length:Int),(a.2.1++[j]),(a.2.2.1++[(p,K,pT (AB (Bw a.1 b (a.2.1.length:Int)) b) (0:Int))]),a.2.2.2+1))<|Ab (idx c a.2.2.2) λq=>Aa .u8 q<|Ab (Yu h ((c,e,f,d),(a.2.2.2:Int))) λL=>Aa .i64 b<|Ag (FD a.2.2.1+1<=Ah)<|i (Bw a.1 b (a.2.1.length:Int),(a.2.1++[j]),(a.2.2.1++[(q,L,pT (AB (Bw a.1 b (a.2.1.length:Int)) b) (0:Int))]),a.2.2.2+1))<|Ab (idx c a.2.2.2) λr=>Aa .u8 r<|Ab (Yu h ((c,e,f,d),(a.2.2.2:Int))) λM=>Aa .i64 b<|Ag (FD a.2.2.1+1<=Ah)<|i (Bw a.1 b (a.2.1.length:Int),(a.2.1++[j]),(a.2.2.1++[(r,M,pT (AB (Bw a.1 b (a.2.1.length:Int)) b) (0:Int))]),a.2.2.2+1))<|iF ((0:Int)<a.2.2.1.length) (Aa .i64 ((a.2.2.1.length:Int)-1)<|Ab (idx a.2.2.1 ((a.2.2.1.length:Int)-1)) λO=>Aa .i64 b<|iF (O.2.2=pT (AB a.1 b) (0:Int)) (Aa .i64 ((a.2.2.1.length:Int)-1)<|Ab (idx a.2.2.1 ((a.2.2.1.length:Int)-1)) λs=>Aa .i64 (s.2.1+1)<|Ab (idx c a.2.2.2) λQ=>iF (s.2.1+1=Q) (Aa .i64 ((a.2.2.1.length:Int)-1)<|Ab (Yu h ((c,e,f,d),(a.2.2.2:Int))) λS=>Ab (idx a.2.2.1 ((a.2.2.1.length:Int)-1)) λt=>i (a.1,a.2.1,(a.2.2.1.set (ao ((a.2.2.1.length:Int)-1)) (t.1,S,t.2.2)),a.2.2.2+1))<|Ab (idx c a.2.2.2) λu=>Aa .u8 u<|Ab (Yu h ((c,e,f,d),(a.2.2.2:Int))) λU=>Aa .i64 b<|Ag (FD a.2.2.1+1<=Ah)<|i (a.1,a.2.1,(a.2.2.1++[(u,U,pT (AB a.1 b) (0:Int))]),a.2.2.2+1))<|Ab (idx c a.2.2.2) λv=>Aa .u8 v<|Ab (Yu h ((c,e,f,d),(a.2.2.2:Int))) λV=>Aa .i64 b<|Ag (FD a.2.2.1+1<=Ah)<|i (a.1,a.2.1,(a.2.2.1++[(v,V,pT (AB a.1 b) (0:Int))]),a.2.2.2+1))<|Ab (idx c a.2.2.2) λw=>Aa .u8 w<|Ab (Yu h ((c,e,f,d),(a.2.2.2:Int))) λW=>Aa .i64 b<|Ag (FD a.2.2.1+1<=Ah)<|i (a.1,a.2.1,(a.2.2.1++[(w,W,pT (AB a.1 b) (0:Int))]),a.2.2.2+1))<|Ag (FD g.2.2.1+1<=Ah)<|z ((a.1,a.2.1,(g.2.2.1++[(B,a.2.2.1)]),g.2.2.2+1))) ((g.1,g.2.1,[],0)))<|some ((g.2.2.1,c,e,f,d))) ((Bw [] l (0:Int),[(0:Int)],[],0))
def B48:=bP [B46,B47] Tryz.func287 ⟨[.Ae FQ, .Ae Kf, .Ae El, .Ae FQ],[(0, .loc 0 0)],[(0, .Ai 314 [(1, .v 0 FQ),(1, .AH 1),(1, .AH 2),(1, .AH 3)]),(1, .row 158 1),(2, .row 4 2),(3, .row 3 3)],4⟩ ⟨[.Ae y3, .Ae FQ, .Ae Kf, .Ae El, .Ae FQ],[(0, .v 0 y3)],[(0, .Ai 314 [(1, .v 1 FQ),(1, .AH 1),(1, .AH 2),(1, .AH 3)]),(1, .row 158 2),(2, .row 4 3),(3, .row 3 4)],4⟩ 1 [] F48 (la:=lk [(8,⟨[.Ae BI, .Ae Ei, .Ae Jd, .nat],(kp [0,2,3] [(4, .AH 6),(5, .Am),(6, .Am),(7, .AD 3 803)]),[(8, .Ai 27 [(1, .AH 9)]),(7, .map 3 0),(6, .row 3 1),(5, .c 0),(4, .c 0),(0, .c 0),(3, .c 0),(2, .c 0),(1, .c 0),(9, .row 119 2)],10⟩),(12,⟨[.Ae BI, .Ae Ei, .Ae Kg, .nat],(kp [0,2,3] [(4, .AH 6),(5, .Am),(6, .Am),(7, .Am),(8, .Am),(63, .Am),(64, .Am),(65, .AD 3 1203)]),[(10, .Ai 119 [(1, .Am),(1, .AH 11)]),(8, .c 0),(9, .c 0),(7, .map 3 0),(6, .row 3 1),(5, .c 0),(4, .c 0),(0, .c 0),(3, .c 0),(2, .c 0),(1, .c 0),(11, .row 116 2)],12⟩)]) (pt:=lg [(7,[.Ex 6 0 119 Lp]),(11,[.Ex 8 1 116 Pt]),(26,[.M3 2 0])])
def nY(a:Nat)(d:A5):Option (A5×Int):=Ab (xL a d) λe=>iB (!e) (Ac (([],11)))<|iF ((d.length:Int)=0) (Ac (([],0)))<|Ab (F39 a d) λb=>Ab (F45 a (b.1,b.2.1,b.2.2.1,b.2.2.2)) λc=>Ab (F48 a (c.1,c.2.1,c.2.2.1,c.2.2.2)) λf=>Ac (f.1,0)
def B49:=bQ [B37,B39,B45,B48] Tryz.func242 [Jd] [y3,Ak] nY
def F50(f:Nat):(List (Int×Int×Int))×List (Int×Int×Int)->Option Bool|(b,e)=>iF ((b.length:Int)≠e.length) (Ac Aj)<|Ad f (λ(a:Nat) g=>iF ((a:Int)<b.length) (Ab (idx b a) λc=>Ab (idx e a) λd=>iB (!decide (c.1::(c.2.1::[c.2.2])=d.1::(d.2.1::[d.2.2]))) (Ac Aj)<|g (a+1))<|some Bp) (0)
def B50:=bQ [] Tryz.func229 [Kg,Kg] [.bool] F50 (la:=lk [(4,⟨[.nat],(kp [0,1,12] [(13, .AD 0 400)]),[],0⟩)])
def F51(c:Nat):Lt0×Lt0->Option Bool|(a,b)=>iB (a.1==b.1) (Ab (F50 c (a.2,b.2)) Ac)<|some Aj
def B51:=bQ [B50] Tryz.func228 [Lp,Lp] [.bool] F51
def F52(c:Nat):A5×A5->Option Bool|(b,d)=>iF ((b.length:Int)≠d.length) (Ac Aj)<|Ad c (λ(a:Nat) e=>iF ((a:Int)<b.length) (Ab (idx b a) λf=>Ab (idx d a) λg=>Ab (F51 c (f,g)) λh=>iB (!h) (Ac Aj)<|e (a+1))<|some Bp) (0)
def B52:=bP [B51] Tryz.func227 ⟨[.Ae Jd, .Ae Jd],[(0, .v 0 Jd),(1, .v 1 Jd),(2, .AK 228 [] [])],[],0⟩ ⟨[.Ae .bool],[(0, .v 0 .bool)],[],0⟩ 1 [] F52 (la:=lk [(4,⟨[.nat],(kp [1,2,15,16] [(17, .AD 0 400)]),[],0⟩)])
def xJ(a:Nat):A5×A5->Option Bool|(b,c)=>Ab (F52 a (b,c)) Ac
def B53:=bQ [B52] Tryz.func168 [y3,y3] [.bool] xJ
def vk(a:Nat)(b:A5):Option Bool:=Ab (nY a b) λc=>iF (c.2=0) (Ab (xJ a (b,c.1)) Ac)<|some Aj
def B54:=bQ [B53,B49] Tryz.func187 [y3] [.bool] vk
def B55(_:Nat):Bd:=rT qI
abbrev F58(_:Nat)(x:Int×Int×List Int):Option (List Int):=Ys x
theorem d58i(fu:Nat)(x:Int)(l:List Int):F58 fu (x,10,l)=Ag (l.length+21<=140737488355328) (Aa Lo.i64 x (Ac (l++(Lib.itoa x).map λb=>((b.toNat:Nat):Int)))):=by
 show Ys (x,10,l)=_
 unfold Ys Ag;simp
def xI(b:Nat)(c:List Int):Option Aq:=Ad b (λ(a:List Int×Nat) d=>iF ((a.2:Int)<c.length) (Ab (idx c a.2) λe=>Ag (FD a.1+1<=Ah)<|Ab (F58 b (e,10,(a.1++[(44:Int)]))) λf=>d (f,a.2+1))<|some ((List.map (λn=>UInt8.ofNat (ao n)) a.1))) (([],0))
def B56:=bQ [B55] Tryz.func343 [FQ] [.str] xI (la:=lk [(3,⟨[.Ae Pu, .nat],[(3, .AH 0),(6, .Am),(7, .Am),(8, .AD 1 301)],[(0, .row 5 0)],1⟩)]) (pr:=lg [(7,[.fz 3])]) (pt:=lg [(2,[.own 3 5 NJ])])
def F60(f:Nat):BC×List Int->Option Int|(c,d)=>Ad f (λ(a:Int×Nat) e=>iF ((a.2:Int)<c.2.length) (Ab (idx c.2 a.2) λh=>Ab (idx d a.2) λi=>iF ((0:Int)<=i) (Ab (idx d a.2) λj=>Ab (idx h.1 j) λk=>iB k.1 (Aa .i64 (a.1+1)<|e ((a.1+1),a.2+1))<|e (a.1,a.2+1))<|e (a.1,a.2+1))<|Ad f (λ(b:Int×Nat) g=>iF ((b.2:Int)<c.1.length) (Ab (idx c.1 b.2) λl=>Aa .i64 ((c.2.length:Int)+(b.2:Int))<|Ab (idx d ((c.2.length:Int)+(b.2:Int))) λm=>iF (m=(l.1.length:Int)) (Aa .i64 (b.1+1)<|g ((b.1+1),b.2+1))<|g (b.1,b.2+1))<|some b.1) ((a.1,0))) ((0,0))
def B57:=bQ [] Tryz.func344 [BQ,FQ] [Ak] F60 (la:=lk [(3,⟨[.Ae Ak, .nat],(kp [1,2] [(5, .v 0 Ak),(11, .Am),(12, .Am),(13, .AD 1 301)]),[(0, .c 0)],1⟩),(9,⟨[.Ae Ak, .nat],(kp [1,2] [(5, .v 0 Ak),(39, .Am),(40, .Am),(41, .AD 1 901)]),[(0, .c 0)],1⟩)])
def F61(h:Nat):BC×List Int->Option (List Int)|(e,k)=>Ad h (λ(c:List Bool×Nat) n=>iF ((c.2:Int)<e.2.length) (Ab (idx e.2 c.2) λq=>Ab (idx k c.2) λr=>iF (r<0) (n (c.1,c.2+1))<|Ab (idx k c.2) λs=>Ab (idx q.1 s) λo=>Ad h (λ(f:List Bool×Nat) t=>iF ((f.2:Int)<o.2.length) (Ab (idx o.2 f.2) λd=>Aa .i64 (d.2.1+1)<|Ag ((0:Int)<=d.1/\d.1<(↑257:Int))<|Ag (0+ao d.1*1<257)<|Ag ((0:Int)<=d.2.1+1/\d.2.1+1< ↑257)<|Ag (0+ao (d.2.1+1)*1<257)<|t (((lj f.1 (0+ao d.1*1) Bp).set (0+ao (d.2.1+1)*1) Bp),f.2+1))<|n ((f.1,c.2+1))) ((c.1,0)))<|Ad h (λ(b:List Bool×Nat) l=>iF ((b.2:Int)<e.1.length) (Ab (idx e.1 b.2) λm=>Aa .i64 ((e.2.length:Int)+(b.2:Int))<|Ab (idx k ((e.2.length:Int)+(b.2:Int))) λi=>iF ((0:Int)<=i) (iF (i<(m.1.length:Int)) (Ab (Ey m.1 i) λj=>Ab (Ey m.1 i) λg=>Aa .i64 (g+1)<|Ag ((0:Int)<=j/\j<(↑257:Int))<|Ag (0+ao j*1<257)<|Ag ((0:Int)<=g+1/\g+1< ↑257)<|Ag (0+ao (g+1)*1<257)<|l (((lj b.1 (0+ao j*1) Bp).set (0+ao (g+1)*1) Bp),b.2+1))<|l (b.1,b.2+1))<|l (b.1,b.2+1))<|Ad h (λ(a:List Int×Int) p=>iF (a.2<256) (Ag ((0:Int)<=a.2/\a.2<(↑257:Int))<|Ab (idx b.1 (↑(0+ao a.2*1):Int)) λu=>iB u (Aa .u8 a.2<|Ag (FD a.1+1<=Ah)<|Aa .i64 (a.2+1)<|p ((a.1++[a.2]),(a.2+1)))<|Aa .i64 (a.2+1)<|p (a.1,(a.2+1)))<|some a.1) (([],(0:Int)))) ((c.1,0))) (((lj (T8 257 Aj) 0 Bp),0))
def B58:=bQ [] Tryz.func345 [BQ,FQ] [Pu] F61 (la:=lk [(3,⟨[.Ae (.ar 257 .bool), .nat],(kp [1,2,5,17,18] [(19, .AD 1 301)]),[(1, .Ai 242 [(257, .v 0 (.ar 257 .bool))]),(0, .c 0)],2⟩),(7,⟨[.Ae (.ar 257 .bool), .nat],(kp [1,2,5,17,18,19,38,39] [(40, .AD 1 701)]),[(1, .Ai 242 [(257, .v 0 (.ar 257 .bool))]),(0, .c 0)],3⟩),(13,⟨[.Ae (.ar 257 .bool), .nat],(kp [1,2,5,55,56] [(57, .AD 1 1301)]),[(1, .Ai 242 [(257, .v 0 (.ar 257 .bool))]),(0, .c 0)],2⟩),(21,⟨[.Ae Pu, .Ae Ak],[(5, .Am),(13, .AH 2),(92, .v 1 Ak)],[(1, .c 0),(2, .row 5 0)],3⟩)]) (pt:=lg [(20,[.own 13 5 NJ]),(26,[.fz 4])])
def F62(h:Nat):BC×List Int×Int->Option (List Int)|(d,f,j)=>Ag (FD f<=Ah)<|Ad h (λ(e:List Int×Nat) p=>iF ((e.2:Int)<((T8 (FD f) (0:Int)).length:Int)) (Ab (idx e.1 e.2) λu=>p ((e.1.set e.2 (Int.negSucc (0))),e.2+1))<|Ad h (λ(b:List Int×Nat) m=>iF ((b.2:Int)<d.2.length) (Ab (idx d.2 b.2) λq=>Ab (idx f b.2) λr=>iF (r<0) (m (b.1,b.2+1))<|Ab (idx f b.2) λs=>Ab (idx q.1 s) λn=>Ad h (λ(c:List Int×Nat) k=>iF ((c.2:Int)<n.2.length) (Ab (idx n.2 c.2) λl=>iF (l.1<=j) (iF (j<=l.2.1) (Ab (idx c.1 b.2) λv=>k ((c.1.set b.2 l.2.2),c.2+1))<|k (c.1,c.2+1))<|k (c.1,c.2+1))<|m ((c.1,b.2+1))) ((b.1,0)))<|Ad h (λ(a:List Int×Nat) i=>iF ((a.2:Int)<d.1.length) (Ab (idx d.1 a.2) λo=>Aa .i64 ((d.2.length:Int)+(a.2:Int))<|Ab (idx f ((d.2.length:Int)+(a.2:Int))) λg=>iF ((0:Int)<=g) (iF (g<(o.1.length:Int)) (Ab (Ey o.1 g) λt=>iF (t=j) (Aa .i64 (g+1)<|Ab (idx a.1 ((d.2.length:Int)+(a.2:Int))) λw=>i ((a.1.set (ao ((d.2.length:Int)+(a.2:Int))) ((g+1))),a.2+1))<|i (a.1,a.2+1))<|i (a.1,a.2+1))<|i (a.1,a.2+1))<|some a.1) ((b.1,0))) ((e.1,0))) (((T8 (FD f) (0:Int)),0))
def B59:=bQ [] Tryz.func346 [BQ,FQ,NJ] [FQ] F62 (la:=lk [(3,⟨[.Ae Ei, .nat],(kp [1,2,3,7,21] [(22, .AD 1 301)]),[(1, .row 3 0),(0, .c 0)],2⟩),(8,⟨[.Ae Ei, .nat],(kp [1,2,3,7,30,31] [(32, .AD 1 801)]),[(1, .row 3 0),(0, .c 0)],2⟩),(12,⟨[.Ae Ei, .nat],(kp [1,2,3,7,9,30,31,32,51,52] [(53, .AD 1 1201)]),[(1, .row 3 0),(0, .c 0)],3⟩),(19,⟨[.Ae Ei, .nat],(kp [1,2,3,7,75,76] [(77, .AD 1 1901)]),[(1, .row 3 0),(0, .c 0)],2⟩)]) (pt:=lg [(26,[.fz 6])])
def F63(d:Nat)(a:BC):Option Bool:=Ad d (λ(f:Nat) m=>iF ((f:Int)<a.2.length) (Ab (idx a.2 f) λh=>iF ((h.1.length:Int)=0) (Ac Aj)<|Ab (vk d h.1) λn=>iB (!n) (Ac Aj)<|m (f+1))<|Aa .i64 ((a.2.length:Int)+(a.1.length:Int))<|Ag ((0:Int)<=a.2.length+(a.1.length:Int))<|Ag (ao ((a.2.length:Int)+(a.1.length:Int))<=Ah)<|Ab (idx [(T8 (ao ((a.2.length:Int)+(a.1.length:Int))) (0:Int))] (0:Int)) λo=>Ab (xI d o) λi=>Ag (FD i<=1099511627776/\0<=1099511627776)<|Ad d (λ(c:List (Aq×Bool)×List (List Int)) p=>iF ((0:Int)<c.2.length) (Aa .i64 ((c.2.length:Int)-1)<|Ab (idx c.2 ((c.2.length:Int)-1)) λg=>Aa .i64 ((c.2.length:Int)-1)<|Ag ((0:Int)<=c.2.length-1/\(c.2.length:Int)-1<=c.2.length)<|Ab (F60 d (a,g)) λq=>iF (q≠1) (Ac Aj)<|Ab (F61 d (a,g)) λj=>Ad d (λ(b:List (Aq×Bool)×List (List Int)×Nat) k=>iF ((b.2.2:Int)<j.length) (Ab (idx j b.2.2) λr=>Ab (F62 d (a,g,r)) λl=>Ab (xI d l) λe=>Ag (FD e<=1099511627776)<|iB (!Option.getD (AB b.1 e) Aj) (Ag (FD e<=1099511627776/\FD b.1<=1099511627776)<|Ag (FD b.2.1+1<=Ah)<|k (Bw b.1 e Bp,(b.2.1++[l]),b.2.2+1))<|k (b.1,b.2.1,b.2.2+1))<|p ((b.1,b.2.1))) ((c.1,(List.take (ao ((c.2.length:Int)-1)) c.2),0)))<|some Bp) ((Bw [] i Bp,[(T8 (ao ((a.2.length:Int)+(a.1.length:Int))) (0:Int))]))) (0)
def B60:=bQ [B54,B56,B57,B58,B59] Tryz.func279 [BQ] [.bool] F63 (la:=lk [(2,⟨[.nat],(kp [1,13,14] [(15, .AD 0 200)]),[(0, .c 0)],1⟩),(9,⟨[.Ae (.sl y20), .Ae Kf],[(1, .Am),(5, .AH 2),(6, .Am)],[(3, .map 9 0),(2, .row 306 1),(0, .c 0)],4⟩),(15,⟨[.Ae (.sl y20), .Ae Kf, .nat],[(1, .Am),(5, .AH 4),(6, .Am),(7, .Am),(66, .Am),(67, .Am),(68, .AD 2 1502)],[(3, .map 9 0),(4, .row 306 1),(0, .c 0)],5⟩)])
def R61(fu:Nat):=sQ (bs [] fu) fu Tryz.func310 [(.int .u64)] [Ak]
def B61(fu:Nat):=Dd (R61 fu)
abbrev DW(fu:Nat)(x:(Int)):Option Int:=(R61 fu).1 x
def sN(a:Nat)(b:Int):Option Int:=Ab (DW a b) Ac
def B62:=bQ [B61] Tryz.func261 [(.int .u64)] [Ak] sN
def F66(b:Nat)(a:Int):Option Bool:=Ac (Dl (a≠a))
def B63:=bQ [] Tryz.func289 [Ak] [.bool] F66
def F67(c:Nat):Int×Int->Option Int|(a,b)=>Ab (F66 c a) λe=>Ab (F66 c b) λd=>iB e (iB d (Ac 0)<|some ((-1:Int)))<|iB d (Ac 1)<|iF (a<b) (Ac ((-1:Int)))<|iF (b<a) (Ac 1)<|some 0
def B64:=bQ [B63] Tryz.func245 [Ak,Ak] [Ak] F67
def F68(a:Nat):(Int×Int)×Int×Int->Option Int|(b,c)=>Ab (F67 a (b.1,c.1)) Ac
def B65:=bQ [B64] Tryz.func244 [Ev,Ev] [Ak] F68
def D69(fu:Nat)(x0 x1:Int)(x2:List (Int×Int)):=Si (λx y=>F68 fu (x,y)) fu x0 x1 x2
abbrev F69 fu:=u3 (D69 fu)
theorem d69(fu x0 x1 x2):F69 fu (x0,x1,x2)=D69 fu x0 x1 x2:=rfl
def B66:=bP [B65] Tryz.func351 ⟨[.Ae Ak, .Ae Ak, .Ae BI],[(0, .AH 0),(1, .v 0 Ak),(2, .v 1 Ak),(3, .AK 244 [] [])],[(0, .row 88 2)],1⟩ ⟨[.Ae BI],[],[(0, .row 88 0)],1⟩ 0 [] F69 (la:=lk [(1,⟨[.Ae BI, .Ae Ak],(kp [0,1,2,3] [(8, .v 1 Ak)]),[(0, .row 88 0)],1⟩),(4,⟨[.Ae BI, .Ae Ak],(kp [0,1,2,3,8] [(9, .v 1 Ak)]),[(0, .row 88 0)],1⟩)])
def F70(c:Nat):Int×Int×Int×List (Int×Int)->Option (List (Int×Int))|(a,b,d,e)=>Ad c (λ(g:PUnit) h=>Aa .i64 (b-a)<|iF (b-a<=12) (Ab (F69 c (a,b,e)) Ac)<|iF (d=0) C7<|none) (())
def B67:=bP [B66] Tryz.func288 ⟨[.Ae Ak, .Ae Ak, .Ae Ak, .Ae BI],[(0, .AH 0),(1, .v 0 Ak),(2, .v 1 Ak),(3, .v 2 Ak),(4, .AK 244 [] [])],[(0, .row 88 3)],1⟩ ⟨[.Ae BI],[],[(0, .row 88 0)],1⟩ 0 [] F70 (la:=lk [(2,⟨[],(kp [0,1,2,3,4,10,11] []),[(0, .c 0)],1⟩)])
def xH(b:Nat)(a:List (Int×Int)):Option (List (Int×Int)):=Ab (sN b (Int.ofNat (FD a %wL (18446744073709551616:Int)))) λc=>Ab (F70 b (0,(a.length:Int),c,a)) Ac
def B68:=bP [B62,B67] Tryz.func243 ⟨[.Ae BI],[(0, .AH 0),(1, .AK 244 [] [])],[(0, .row 88 0)],1⟩ ⟨[.Ae BI],[],[(0, .row 88 0)],1⟩ 0 [] xH
def xG(b:Nat)(a:Int):Option Int:=Aa .i64 (a+1)<|some (a+1)
def B69:=bQ [] Tryz.func189 [Ak] [Ak] xG
def F73(e:Nat)(b:List (Int×Int)):Option (List (Int×Int)):=Ag (FD b<=Ah)<|Ag (min (FD b) (FD (T8 (FD b) ((0:Int),(0:Int))))<=1099511627776)<|Ab (xH e (((List.take (min (FD b) (FD (T8 (FD b) ((0:Int),(0:Int))))) b)++(List.drop (min (FD b) (FD (T8 (FD b) ((0:Int),(0:Int))))) (T8 (FD b) ((0:Int),(0:Int))))))) λg=>Ad e (λ(a:List (Int×Int)×Nat) f=>iF ((a.2:Int)<g.length) (Ab (idx g a.2) λc=>iF ((0:Int)<a.1.length) (Aa .i64 ((a.1.length:Int)-1)<|Ab (idx a.1 ((a.1.length:Int)-1)) λh=>Ab (xG e h.2) λi=>iF (c.1<=i) (Aa .i64 ((a.1.length:Int)-1)<|Aa .i64 ((a.1.length:Int)-1)<|Ab (idx a.1 ((a.1.length:Int)-1)) λd=>Aa .i64 (if c.2>d.2 then c.2 else d.2)<|Ab (idx a.1 ((a.1.length:Int)-1)) λj=>f ((a.1.set (ao ((a.1.length:Int)-1)) (j.1,(if d.2<c.2 then c.2 else d.2))),a.2+1))<|Ag (FD a.1+1<=Ah)<|f ((a.1++[c]),a.2+1))<|Ag (FD a.1+1<=Ah)<|f ((a.1++[c]),a.2+1))<|some a.1) (([],0))
def B70:=bP [B69,B68] Tryz.func188 ⟨[.Ae BI],[(0, .v 0 BI),(1, .AK 189 [] [])],[],0⟩ ⟨[.Ae BI],[(0, .v 0 BI)],[],0⟩ 1 [] F73 (la:=lk [(6,⟨[.Ae BI, .nat],[(1, .Am),(6, .AH 1),(18, .Am),(19, .Am),(20, .AD 1 601)],[(0, .c 0),(1, .row 88 0)],2⟩)]) (pt:=lg [(5,[.own 6 88 Ev]),(13,[.fz 4])])
def xF(b:Nat)(a:Int):Option Int:=Aa .i64 (a+1)<|Ag ((10000:Int)≠0)<|Aa .i64 (kX (a+1) (10000:Int))<|iF (kX (a+1) (10000:Int)=0) (Aa .i64 (a+2)<|some ((a+2)))<|Aa .i64 (a+1)<|some (a+1)
def B71:=bQ [] Tryz.func190 [Ak] [Ak] xF
def F75(e:Nat)(b:List (Int×Int)):Option (List (Int×Int)):=Ag (FD b<=Ah)<|Ag (min (FD b) (FD (T8 (FD b) ((0:Int),(0:Int))))<=1099511627776)<|Ab (xH e (((List.take (min (FD b) (FD (T8 (FD b) ((0:Int),(0:Int))))) b)++(List.drop (min (FD b) (FD (T8 (FD b) ((0:Int),(0:Int))))) (T8 (FD b) ((0:Int),(0:Int))))))) λg=>Ad e (λ(a:List (Int×Int)×Nat) f=>iF ((a.2:Int)<g.length) (Ab (idx g a.2) λc=>iF ((0:Int)<a.1.length) (Aa .i64 ((a.1.length:Int)-1)<|Ab (idx a.1 ((a.1.length:Int)-1)) λh=>Ab (xF e h.2) λi=>iF (c.1<=i) (Aa .i64 ((a.1.length:Int)-1)<|Aa .i64 ((a.1.length:Int)-1)<|Ab (idx a.1 ((a.1.length:Int)-1)) λd=>Aa .i64 (if c.2>d.2 then c.2 else d.2)<|Ab (idx a.1 ((a.1.length:Int)-1)) λj=>f ((a.1.set (ao ((a.1.length:Int)-1)) (j.1,(if d.2<c.2 then c.2 else d.2))),a.2+1))<|Ag (FD a.1+1<=Ah)<|f ((a.1++[c]),a.2+1))<|Ag (FD a.1+1<=Ah)<|f ((a.1++[c]),a.2+1))<|some a.1) (([],0))
def B72:=bP [B71,B68] Tryz.func188 ⟨[.Ae BI],[(0, .v 0 BI),(1, .AK 190 [] [])],[],0⟩ ⟨[.Ae BI],[(0, .v 0 BI)],[],0⟩ 1 [] F75 (la:=lk [(6,⟨[.Ae BI, .nat],[(1, .Am),(6, .AH 1),(18, .Am),(19, .Am),(20, .AD 1 601)],[(0, .c 0),(1, .row 88 0)],2⟩)]) (pt:=lg [(5,[.own 6 88 Ev]),(13,[.fz 4])])
def WZ(f:Nat)(g:Bc):Option Bc:=Ad f (λ(d:List (Int×Int)×Nat) h=>iF ((d.2:Int)<g.1.length) (Ab (idx g.1 d.2) λc=>Aa .i64 (if(-100000000000:Int)>c.1 then(-100000000000:Int)else c.1)<|Aa .i64 (if(100000000000:Int)<c.2 then(100000000000:Int)else c.2)<|iF ((if c.1<(-100000000000:Int)then(-100000000000:Int)else c.1)<=(if(100000000000:Int)<c.2 then(100000000000:Int)else c.2)) (Ag (FD d.1+1<=Ah)<|h ((d.1++[((if c.1<(-100000000000:Int)then(-100000000000:Int)else c.1),(if(100000000000:Int)<c.2 then(100000000000:Int)else c.2))]),d.2+1))<|h (d.1,d.2+1))<|Ad f (λ(b:List (Int×Int)×Nat) e=>iF ((b.2:Int)<g.2.length) (Ab (idx g.2 b.2) λa=>Aa .i64 (if(-1000000000000000:Int)>a.1 then(-1000000000000000:Int)else a.1)<|Aa .i64 (if(1000000000000000:Int)<a.2 then(1000000000000000:Int)else a.2)<|Ag ((10000:Int)≠0)<|Aa .i64 (kX ((if a.1<(-1000000000000000:Int)then(-1000000000000000:Int)else a.1)) (10000:Int))<|iF (kX ((if a.1<(-1000000000000000:Int)then(-1000000000000000:Int)else a.1)) (10000:Int)=0) (Aa .i64 ((if a.1<(-1000000000000000:Int)then(-1000000000000000:Int)else a.1)+1)<|Ag ((10000:Int)≠0)<|Aa .i64 (kX ((if(1000000000000000:Int)<a.2 then(1000000000000000:Int)else a.2)) (10000:Int))<|iF (kX ((if(1000000000000000:Int)<a.2 then(1000000000000000:Int)else a.2)) (10000:Int)=0) (Aa .i64 ((if(1000000000000000:Int)<a.2 then(1000000000000000:Int)else a.2)-1)<|iF ((((if a.1<(-1000000000000000:Int)then(-1000000000000000:Int)else a.1))+1)<=(((if(1000000000000000:Int)<a.2 then(1000000000000000:Int)else a.2))-1)) (Ag (FD b.1+1<=Ah)<|e ((b.1++[((((if a.1<(-1000000000000000:Int)then(-1000000000000000:Int)else a.1))+1),(((if(1000000000000000:Int)<a.2 then(1000000000000000:Int)else a.2))-1))]),b.2+1))<|e (b.1,b.2+1))<|iF ((((if a.1<(-1000000000000000:Int)then(-1000000000000000:Int)else a.1))+1)<=(if(1000000000000000:Int)<a.2 then(1000000000000000:Int)else a.2)) (Ag (FD b.1+1<=Ah)<|e ((b.1++[((((if a.1<(-1000000000000000:Int)then(-1000000000000000:Int)else a.1))+1),(if(1000000000000000:Int)<a.2 then(1000000000000000:Int)else a.2))]),b.2+1))<|e (b.1,b.2+1))<|Ag ((10000:Int)≠0)<|Aa .i64 (kX ((if(1000000000000000:Int)<a.2 then(1000000000000000:Int)else a.2)) (10000:Int))<|iF (kX ((if(1000000000000000:Int)<a.2 then(1000000000000000:Int)else a.2)) (10000:Int)=0) (Aa .i64 ((if(1000000000000000:Int)<a.2 then(1000000000000000:Int)else a.2)-1)<|iF ((if a.1<(-1000000000000000:Int)then(-1000000000000000:Int)else a.1)<=(((if(1000000000000000:Int)<a.2 then(1000000000000000:Int)else a.2))-1)) (Ag (FD b.1+1<=Ah)<|e ((b.1++[((if a.1<(-1000000000000000:Int)then(-1000000000000000:Int)else a.1),(((if(1000000000000000:Int)<a.2 then(1000000000000000:Int)else a.2))-1))]),b.2+1))<|e (b.1,b.2+1))<|iF ((if a.1<(-1000000000000000:Int)then(-1000000000000000:Int)else a.1)<=(if(1000000000000000:Int)<a.2 then(1000000000000000:Int)else a.2)) (Ag (FD b.1+1<=Ah)<|e ((b.1++[((if a.1<(-1000000000000000:Int)then(-1000000000000000:Int)else a.1),(if(1000000000000000:Int)<a.2 then(1000000000000000:Int)else a.2))]),b.2+1))<|e (b.1,b.2+1))<|Ab (F73 f d.1) λi=>Ab (F75 f b.1) λj=>Ac ((i,j))) (([],0))) (([],0))
def yN:=bQ [B70,B72] Tryz.func138 [E'] [E'] WZ (la:=lk [(3,⟨[.Ae BI, .nat],(kp [1,2] [(3, .AH 2),(4, .Am),(10, .Am),(11, .Am),(12, .AD 1 301)]),[(1, .c 0),(0, .c 0),(2, .row 88 0)],3⟩),(10,⟨[.Ae BI, .nat],(kp [2,3] [(4, .AH 3),(34, .Am),(35, .Am),(36, .AD 1 1001)]),[(2, .c 0),(1, .c 0),(3, .row 88 0)],4⟩)]) (pr:=lg [(20,[.fz 3, .fz 4])]) (pt:=lg [(2,[.own 3 88 Ev]),(9,[.own 4 88 Ev])])
def sM(f:Nat):(List (Int×Int))×List (Int×Int)->Option Bool|(b,c)=>iF ((b.length:Int)≠c.length) (Ac Aj)<|Ad f (λ(a:Nat) g=>iF ((a:Int)<b.length) (Ab (idx b a) λd=>Ab (idx c a) λe=>iB (!decide (d.1::[d.2]=e.1::[e.2])) (Ac Aj)<|g (a+1))<|some Bp) (0)
def B74:=bQ [] Tryz.func167 [BI,BI] [.bool] sM (la:=lk [(4,⟨[.nat],(kp [0,1,12] [(13, .AD 0 400)]),[],0⟩)])
def F78(a:Nat):Bc×Bc->Option Bool|(b,c)=>Ab (sM a (b.1,c.1)) λd=>iB d (Ab (sM a (b.2,c.2)) Ac)<|some Aj
def B75:=bQ [B74] Tryz.func241 [E',E'] [.bool] F78
def F79(a:Nat)(b:Bc):Option Bool:=Ab (WZ a b) λc=>Ab (F78 a (b,c)) Ac
def B76:=bQ [yN,B75] Tryz.func186 [E'] [.bool] F79
def dQ(a:Nat)(b:Fz):Option Bool:=Ab (F79 a b.2.2.2.1) λc=>iB c (Ab (vk a b.2.2.2.2) Ac)<|some Aj
def B77:=bQ [B76,B54] Tryz.func137 [y8] [.bool] dQ
def F81(b:Nat)(a:Vl):Option Bool:=iB (Vl.any a) (Ab (xM b (Vl.sc a)) λf=>iB f (Aa .i64 (((Vl.lists a).length:Int)+((Vl.structs a).length:Int))<|some (Dl ((((Vl.lists a).length:Int)+((Vl.structs a).length:Int))=0)))<|some Aj)<|Ad b (λ(c:Nat) g=>iF ((c:Int)<(Vl.lists a).length) (Ab (idx (Vl.lists a) (c:Int)) λh=>iF ((1:Int)<h.2.length) (Ac Aj)<|g (c+1))<|Ad b (λ(d:Nat) i=>iF ((d:Int)<(Vl.structs a).length) (Ab (idx (Vl.structs a) (d:Int)) λe=>Ab (F36 b e.1) λj=>iB (!j) (Ac Aj)<|Ab (F63 b e) λk=>iB (!k) (Ac Aj)<|i (d+1))<|Ab (dQ b (Vl.sc a)) Ac) (0)) (0)
def B78:=bQ [B35,B77,B36,B60] Tryz.func232 [BD] [.bool] F81 (la:=lk [(4,⟨[.nat],(kp [1,23,24] [(25, .AD 0 400)]),[(0, .c 0)],1⟩),(10,⟨[.nat],(kp [1,35,36] [(37, .AD 0 1000)]),[(0, .c 0)],1⟩)])
def F82(b:Nat)(a:Int):Option (List AF):=iF (a<0) C7<|Aa .i64 ((↑0:Int)-(↑0:Int))<|Aa .i64 (a-((↑0:Int)-(↑0:Int)))<|iF ((0:Int)<a-((↑0:Int)-(↑0:Int))) (Ag ((0:Int)<=a-((↑0:Int)-(↑0:Int)))<|pV (ao (a-((↑0:Int)-(↑0:Int)))) (C7) λn1=>Ag (n1+1<=4294967296)<|Ag ((0:Int)<= ↑0/\(↑0:Int)<=((T8 (n1+1) (Vl.mk Aj (Aj,Aj,Aj,([],[]),[]) [] [],Vl.mk Aj (Aj,Aj,Aj,([],[]),[]) [] [])).length:Int))<|some [])<|some []
def B79:=bP [] Tryz.func230 ⟨[.Ae Ak],[(0, .nl),(1, .v 0 Ak)],[],0⟩ ⟨[.Ae Dn],[(0, .AH 0)],[(0, .row 35 0)],1⟩ 1 [] F82 (pt:=lg [(6,[.own 4 35 BA])])
def xE(d:Nat)(c:List (List AF)):Option (List AF):=Ad d (λ(a:Int×Nat) g=>iF ((a.2:Int)<c.length) (Ab (idx c a.2) λe=>Aa .i64 (a.1+(e.length:Int))<|iF (a.1+(e.length:Int)<0) C7<|g ((a.1+(e.length:Int)),a.2+1))<|Ab (F82 d a.1) λh=>Ad d (λ(b:List AF×Nat) i=>iF ((b.2:Int)<c.length) (Ab (idx c b.2) λf=>Ag (FD b.1+FD f<=4294967296)<|i ((b.1++f),b.2+1))<|some b.1) ((h,0))) ((0,0))
def B80:=bQ [B79] Tryz.func169 [y21] [Dn] xE (la:=lk [(3,⟨[.Ae Ak, .nat],[(0, .Am),(3, .v 0 Ak),(9, .Am),(10, .Am),(11, .AD 1 301)],[],0⟩),(11,⟨[.Ae Dn, .nat],[(6, .AH 0),(25, .Am),(26, .Am),(27, .AD 1 1101)],[(0, .row 35 0)],1⟩)]) (pt:=lg [(15,[.fz 2])])
def ff(b:Nat)(a:BO):Option (List AF):=Ab (xE b [a.1,a.2]) Ac
def B81:=bQ [B80] Tryz.func114 [Cc] [Dn] ff
def F85(d:Nat)(c:BC):Option (List AF):=Ad d (λ(a:List AF×Nat) e=>iF ((a.2:Int)<c.1.length) (Ab (idx c.1 a.2) λf=>Ag (FD a.1+1<=4294967296)<|e ((a.1++[f.2.2]),a.2+1))<|Ad d (λ(b:List AF×Nat) g=>iF ((b.2:Int)<c.2.length) (Ab (idx c.2 b.2) λh=>Ag (FD b.1+1<=4294967296)<|g ((b.1++[h.2]),b.2+1))<|some b.1) ((a.1,0))) (([],0))
def B82:=bQ [] Tryz.func280 [BQ] [Dn] F85 (la:=lk [(3,⟨[.Ae Dn, .nat],[(1, .Am),(3, .AH 1),(9, .Am),(10, .Am),(11, .AD 1 301)],[(0, .c 0),(1, .row 35 0)],2⟩),(8,⟨[.Ae Dn, .nat],[(3, .AH 1),(22, .Am),(23, .Am),(24, .AD 1 801)],[(1, .row 35 0)],2⟩)]) (pt:=lg [(2,[.own 3 35 BA]),(12,[.fz 2])])
def F86(c:Nat)(d:Vl):Option (List AF):=Ad c (λ(a:List AF×Nat) g=>iF ((a.2:Int)<(Vl.lists d).length) (Ab (idx (Vl.lists d) (a.2:Int)) λh=>Ab (ff c h) λe=>Ag (FD a.1+FD e<=4294967296)<|g ((a.1++e),a.2+1))<|Ad c (λ(b:List AF×Nat) i=>iF ((b.2:Int)<(Vl.structs d).length) (Ab (idx (Vl.structs d) (b.2:Int)) λj=>Ab (F85 c j) λf=>Ag (FD b.1+FD f<=4294967296)<|i ((b.1++f),b.2+1))<|some b.1) ((a.1,0))) (([],0))
def B83:=bQ [B81,B82] Tryz.func233 [BD] [Dn] F86 (la:=lk [(3,⟨[.Ae Dn, .nat],[(1, .Am),(3, .AH 1),(9, .Am),(10, .Am),(11, .AD 1 301)],[(0, .c 0),(1, .row 35 0)],2⟩),(8,⟨[.Ae Dn, .nat],[(3, .AH 1),(21, .Am),(22, .Am),(23, .AD 1 801)],[(1, .row 35 0)],2⟩)]) (pt:=lg [(2,[.own 3 35 BA]),(12,[.fz 2])])
def F87(e:Nat):Int×Int×Int×Bool->Option (Int×Int×Bool)|(a,c,b,d)=>Aa .i64 (c+1)<|Aa .i64 (if a>b then a else b)<|some ((c+1),(if b<a then a else b),d)
def B84:=bP [] Tryz.func231 ⟨[.Ae Ak, .Ae Ak, .Ae Ak, .Ae .bool],[(0, .loc 0 0),(1, .v 0 Ak)],[(0, .Ai 150 [(1, .v 1 Ak),(1, .v 2 Ak),(1, .v 3 .bool)])],1⟩ ⟨[.Ae Ak, .Ae Ak, .Ae .bool],[],[(0, .Ai 150 [(1, .v 0 Ak),(1, .v 1 Ak),(1, .v 2 .bool)])],1⟩ 0 [] F87
def vT:A_:=⟨[.Ae BD, .Ae Ak, .Ae Ak, .Ae Ak, .Ae .bool],[(0, .loc 0 0),(1, .v 0 BD),(2, .v 1 Ak)],[(0, .Ai 150 [(1, .v 2 Ak),(1, .v 3 Ak),(1, .v 4 .bool)])],1⟩
def vP:A_:=⟨[.Ae Ak, .Ae Ak, .Ae .bool],[],[(0, .Ai 150 [(1, .v 0 Ak),(1, .v 1 Ak),(1, .v 2 .bool)])],1⟩
abbrev xC:Type:=G6 174 vT vP 0 []
def G85(n:Nat):xC:=Nat.rec (motive:=λ_=>xC) (tP Tryz.func174) (λfu g0=>sP (C3 g0::bs [B84,B78,B83] fu) fu Tryz.func174 vT vP 0 [] (la:=lk [(5,⟨[.Ae Ak, .Ae Ak, .Ae .bool, .nat],(kp [0,2,24,25] [(26, .AD 3 503)]),[(0, .Ai 150 [(1, .v 0 Ak),(1, .v 1 Ak),(1, .v 2 .bool)])],2⟩)])) n
def B85(fu:Nat):=C3 (G85 fu)
abbrev sL(fu:Nat)(x:(Vl)×(Int)×(Int)×(Int)×(Bool)):Option (Int×Int×Bool):=(G85 fu).1 x
def D88(c:Nat)(g:Vl)(d:Int)(j:Int)(k:Int)(l:Bool):Option (Int×Int×Bool):=Ab (F87 c (d,j,k,l)) λb=>iF ((16:Int)<d) (Ac ((b.1,b.2.1,Bp)))<|Ab (F81 c g) λm=>iB (!m) (Ac ((b.1,b.2.1,Bp)))<|Ab (F86 c g) λh=>Ad c (λ(a:Int×Int×Bool×Nat) n=>iF ((a.2.2.2:Int)<h.length) (Ab (idx h a.2.2.2) λi=>Aa .i64 (d+1)<|Ab (sL c (i.1,(d+1),a.1,a.2.1,a.2.2.1)) λe=>Aa .i64 (d+1)<|Ab (sL c (i.2,(d+1),e.1,e.2.1,e.2.2)) λf=>n (f.1,f.2.1,f.2.2,a.2.2.2+1))<|some ((a.1,a.2.1,a.2.2.1))) ((b.1,b.2.1,b.2.2,0))
theorem d88(fu x0 x1 x2 x3 x4):sL (fu+1) (x0,x1,x2,x3,x4)=D88 fu x0 x1 x2 x3 x4:=by kernel_rfl
def F89(c:Nat):Vl×Int×(Int×Int)×Bool->Option (Int×Int×Bool)|(g,d,j)=>Ab (F34 c (d,j)) λb=>iF ((16:Int)<d) (Ac ((b.1,b.2.1,Bp)))<|Ab (F81 c g) λk=>iB (!k) (Ac ((b.1,b.2.1,Bp)))<|Ab (F86 c g) λh=>Ad c (λ(a:Int×Int×Bool×Nat) l=>iF ((a.2.2.2:Int)<h.length) (Ab (idx h a.2.2.2) λi=>Aa .i64 (d+1)<|Ab (sL c (i.1,(d+1),a.1,a.2.1,a.2.2.1)) λe=>Aa .i64 (d+1)<|Ab (sL c (i.2,(d+1),e.1,e.2.1,e.2.2)) λf=>l (f.1,f.2.1,f.2.2,a.2.2.2+1))<|some ((a.1,a.2.1,a.2.2.1))) ((b.1,b.2.1,b.2.2,0))
def B86:=bP [B85,B34,B78,B83] Tryz.func174 ⟨[.Ae BD, .Ae Ak, .Ae (.st zC)],[(0, .loc 0 0),(1, .v 0 BD),(2, .v 1 Ak)],[(0, .Ai 150 [(3, .v 2 (.st zC))])],1⟩ ⟨[.Ae Ak, .Ae Ak, .Ae .bool],[],[(0, .Ai 150 [(1, .v 0 Ak),(1, .v 1 Ak),(1, .v 2 .bool)])],1⟩ 0 [] F89 (la:=lk [(5,⟨[.Ae Ak, .Ae Ak, .Ae .bool, .nat],(kp [0,2,24,25] [(26, .AD 3 503)]),[(0, .Ai 150 [(1, .v 0 Ak),(1, .v 1 Ak),(1, .v 2 .bool)])],2⟩)])
def F90(b:Nat)(c:Vl):Option (Int×Int×Bool):=Ab (F89 b (c,1,(0,0),Aj)) λa=>Ac (a.1,a.2.1,a.2.2)
def B87:=bP [B86] Tryz.func116 ⟨[.Ae BD],[(0, .v 0 BD)],[],0⟩ ⟨[.Ae Ak, .Ae Ak, .Ae .bool],[(0, .loc 0 0)],[(0, .Ai 150 [(1, .v 0 Ak),(1, .v 1 Ak),(1, .v 2 .bool)])],1⟩ 1 [] F90
def sK(a:Nat)(b:Vl):Option Bool:=Ab (F90 a b) λc=>Ac (!c.2.2)
def B88:=bQ [B87] Tryz.func81 [BD] [.bool] sK
def F92(a:Nat)(b:AF):Option Bool:=Ab (sK a b.1) λc=>iB c (Ab (sK a b.2) Ac)<|some Aj
def B89:=bQ [B88] Tryz.func60 [BA] [.bool] F92
def nX(b:Nat)(a:Fz):Option Fz:=Ab (dQ b a) λc=>iB (!c) (Ac ((Aj,Aj,Aj,([],[]),[])))<|some a
def B90:=bQ [B77] Tryz.func99 [y8] [y8] nX
def vj(c:Nat):Bool×Bool->Option Bool|(a,b)=>iB a (Ac Bp)<|some b
def B91:=bQ [] Tryz.func255 [.bool, .bool] [.bool] vj
def F95(b:Nat)(a:Int):Option (List (Int×Int)):=iF (a<0) C7<|Aa .i64 ((↑0:Int)-(↑0:Int))<|Aa .i64 (a-((↑0:Int)-(↑0:Int)))<|iF ((0:Int)<a-((↑0:Int)-(↑0:Int))) (Ag ((0:Int)<=a-((↑0:Int)-(↑0:Int)))<|pV (ao (a-((↑0:Int)-(↑0:Int)))) (C7) λn1=>Ag (n1+1<=Ah)<|Ag ((0:Int)<= ↑0/\(↑0:Int)<=((T8 (n1+1) ((0:Int),(0:Int))).length:Int))<|some [])<|some []
def B92:=bP [] Tryz.func359 ⟨[.Ae Ak],[(0, .nl),(1, .v 0 Ak)],[],0⟩ ⟨[.Ae BI],[(0, .AH 0)],[(0, .row 88 0)],1⟩ 1 [] F95 (pt:=lg [(6,[.own 4 88 Ev])])
def vi(d:Nat)(c:List (List (Int×Int))):Option (List (Int×Int)):=Ad d (λ(a:Int×Nat) g=>iF ((a.2:Int)<c.length) (Ab (idx c a.2) λe=>Aa .i64 (a.1+(e.length:Int))<|iF (a.1+(e.length:Int)<0) C7<|g ((a.1+(e.length:Int)),a.2+1))<|Ab (F95 d a.1) λh=>Ad d (λ(b:List (Int×Int)×Nat) i=>iF ((b.2:Int)<c.length) (Ab (idx c b.2) λf=>Ag (FD b.1+FD f<=Ah)<|i ((b.1++f),b.2+1))<|some b.1) ((h,0))) ((0,0))
def B93:=bQ [B92] Tryz.func294 [y23] [BI] vi (la:=lk [(3,⟨[.Ae Ak, .nat],[(0, .Am),(3, .v 0 Ak),(9, .Am),(10, .Am),(11, .AD 1 301)],[],0⟩),(11,⟨[.Ae BI, .nat],[(6, .AH 0),(25, .Am),(26, .Am),(27, .AD 1 1101)],[(0, .row 88 0)],1⟩)]) (pt:=lg [(15,[.fz 2])])
def F97(a:Nat):Bc×Bc->Option Bc|(b,c)=>Ab (vi a [b.1,c.1]) λd=>Ab (vi a [b.2,c.2]) λe=>Ab (WZ a (d,e)) Ac
def B94:=bQ [yN,B93] Tryz.func256 [E',E'] [E'] F97
def Q0(b:Nat)(a:A5):Option A5:=Ab (vk b a) λc=>iB (!c) (Ac [])<|some a
def uN:=bQ [B54] Tryz.func192 [y3] [y3] Q0
def R96(fu:Nat):=sP (bs [] fu) fu Tryz.func295 ⟨[.Ae Kg],[(0, .v 0 Kg)],[],0⟩ ⟨[.Ae Kg],[(0, .AH 0)],[(0, .row 116 0)],1⟩ 1 [] (pt:=lg [(2,[.own 2 116 Pt])])
def B96(fu:Nat):=C3 (R96 fu)
abbrev F99(fu:Nat)(x:List (Int×Int×Int)):Option (List (Int×Int×Int)):=(R96 fu).1 x
theorem d99n(fu:Nat):F99 fu []=Ac []:=by kernel_rfl
theorem d99c(fu:Nat)(x:Int×Int×Int)(l:List (Int×Int×Int)):F99 fu (x::l)=Ag (0+(x::l).length<=Ah) (Ac (x::l)):=by kernel_rfl
def YU(b:Nat)(c:A5):Option A5:=Ad b (λ(a:A5×Nat) e=>iF ((a.2:Int)<c.length) (Ab (idx c a.2) λd=>Ab (F99 b d.2) λf=>Ag (FD a.1+1<=Ah)<|e ((a.1++[(d.1,f)]),a.2+1))<|some a.1) (([],0))
def B97:=bQ [B96] Tryz.func257 [y3] [y3] YU (la:=lk [(3,⟨[.Ae Jd, .nat],(kp [2,3,7,8] [(9, .AD 1 301)]),[(2, .Ai 27 [(1, .AH 3)]),(1, .c 0),(3, .row 119 0)],4⟩)]) (pt:=lg [(2,[.Ex 3 0 119 Lp]),(7,[.M3 2 0])])
def N2(d:Nat):A5×Int->Option Bool|(b,a)=>iF ((0:Int)<=a) (iF (a<(b.length:Int)) (Ab (idx b a) λc=>Ac c.1)<|some Aj)<|some Aj
def B98:=bQ [] Tryz.func298 [y3,Ak] [.bool] N2
def uJ(c:Nat):Bool×Bool->Option Bool|(a,b)=>iB a (Ac Bp)<|some b
def B99:=bQ [] Tryz.func259 [.bool, .bool] [.bool] uJ
def N1(h:Nat):A5×Int×List Bool->Option (List Bool)|(e,c,d)=>iF (c<0) (Ac d)<|iF ((e.length:Int)<=c) (Ac d)<|Ab (idx e c) λf=>Ad h (λ(b:List Bool×Nat) g=>iF ((b.2:Int)<f.2.length) (Ab (idx f.2 b.2) λa=>Ag ((0:Int)<=a.1/\a.1<(↑256:Int))<|Ag (0+ao a.1*1<256)<|iF (a.2.1<255) (Aa .u8 (a.2.1+1)<|Ag ((0:Int)<=a.2.1+1/\a.2.1+1< ↑256)<|Ag (0+ao (a.2.1+1)*1<256)<|g (((lj b.1 (0+ao a.1*1) Bp).set (0+ao (a.2.1+1)*1) Bp),b.2+1))<|g ((b.1.set (0+ao a.1*1) Bp),b.2+1))<|some b.1) ((d,0))
def uW:=bP [] Tryz.func299 ⟨[.Ae y3, .Ae Ak, .Ae (.ar 256 .bool)],[(0, .v 0 y3),(1, .v 1 Ak),(2, .loc 0 0)],[(0, .Ai 276 [(256, .v 2 (.ar 256 .bool))])],1⟩ ⟨[.Ae (.ar 256 .bool)],[],[(0, .Ai 276 [(256, .v 0 (.ar 256 .bool))])],1⟩ 0 [] N1 (la:=lk [(3,⟨[.Ae (.ar 256 .bool), .nat],(kp [2,22,23] [(24, .AD 1 301)]),[(0, .Ai 276 [(256, .v 0 (.ar 256 .bool))])],2⟩)])
def N0(h:Nat):A5×Int×Int->Option Int|(d,b,e)=>iF (b<0) (Ac ((-1:Int)))<|iF ((d.length:Int)<=b) (Ac ((-1:Int)))<|Ab (idx d b) λf=>Ad h (λ(a:Nat) g=>iF ((a:Int)<f.2.length) (Ab (idx f.2 a) λc=>iF (c.1<=e) (iF (e<=c.2.1) (Ac c.2.2)<|g (a+1))<|g (a+1))<|some ((-1:Int))) (0)
def uV:=bQ [] Tryz.func300 [y3,Ak,NJ] [Ak] N0 (la:=lk [(4,⟨[.nat],(kp [2,23,24] [(25, .AD 0 400)]),[],1⟩)])
def uI(e:Nat):(List (Int×Int))×Int×Int->Option Int|(b,c)=>Ad e (λ(a:Nat) f=>iF ((a:Int)<b.length) (Ab (idx b a) λd=>iF (c.1::[c.2]=d.1::[d.2]) (Ac ((a:Int)))<|f (a+1))<|some ((-1:Int))) (0)
def B102:=bQ [] Tryz.func297 [BI,Ev] [Ak] uI (la:=lk [(2,⟨[.nat],(kp [0,3,7] [(8, .AD 0 200)]),[(0, .c 0)],1⟩)])
def YT(d:Nat):(Int×Int)×List (Int×Int)->Option (Int×List (Int×Int))|(b,a)=>Ab (uI d (a,b)) λc=>iF (c<0) (Ag (FD a+1<=Ah)<|some (((a.length:Int),(a++[b]))))<|some (c,a)
def uU:=bP [B102] Tryz.func296 ⟨[.Ae Ev, .Ae BI],[(0, .v 0 Ev),(1, .loc 0 0)],[(0, .Ai 273 [(1, .AH 1)]),(1, .row 272 1)],2⟩ ⟨[.Ae Ak, .Ae BI],[(0, .v 0 Ak)],[(0, .Ai 273 [(1, .AH 2)]),(2, .row 272 1)],3⟩ 1 [1] YT
def ya(b:Nat):A5×A5->Option A5|(k,l)=>Ab (Q0 b k) λf=>Ab (Q0 b l) λg=>Ad b (λ(c:List (Int×Int)×A5×Nat) m=>iF ((c.2.2:Int)<c.1.length) (Ab (idx c.1 c.2.2) λd=>Ab (N2 b (f,d.1)) λn=>Ab (N2 b (g,d.2)) λo=>Ab (uJ b (n,o)) λp=>Ab (N1 b (f,d.1,(lj (T8 256 Aj) 0 Bp))) λq=>Ab (N1 b (g,d.2,q)) λr=>Ad b (λ(a:List (Int×Int)×List (Int×Int×Int)×Int) h=>iF (a.2.2<256) (Ag ((0:Int)<=a.2.2/\a.2.2<(↑256:Int))<|Ab (idx r (↑(0+ao a.2.2*1):Int)) λs=>iB s (Aa .u8 a.2.2<|Aa .u8 a.2.2<|Ab (N0 b (f,d.1,a.2.2)) λt=>Aa .u8 a.2.2<|Ab (N0 b (g,d.2,a.2.2)) λu=>Ab (YT b ((t,u),a.1)) λe=>Ag (FD a.2.1+1<=Ah)<|Aa .i64 (((a.2.1++[(a.2.2,0,e.1)]).length:Int)-1)<|Aa .u8 a.2.2<|Ab (idx (a.2.1++[(a.2.2,0,e.1)]) (((a.2.1++[(a.2.2,0,e.1)]).length:Int)-1)) λi=>Aa .i64 (a.2.2+1)<|h (e.2,((a.2.1++[(a.2.2,0,e.1)]).set (ao (((a.2.1++[(a.2.2,0,e.1)]).length:Int)-1)) (i.1,a.2.2,i.2.2)),(a.2.2+1)))<|Aa .i64 ((a.2.1.length:Int)-1)<|Aa .u8 a.2.2<|Ab (idx a.2.1 ((a.2.1.length:Int)-1)) λj=>Aa .i64 (a.2.2+1)<|h (a.1,(a.2.1.set (ao ((a.2.1.length:Int)-1)) (j.1,a.2.2,j.2.2)),(a.2.2+1)))<|Ag (FD c.2.1+1<=Ah)<|m ((a.1,(c.2.1++[(p,a.2.1)]),c.2.2+1))) ((c.1,[],0)))<|Ab (nY b c.2.1) λv=>Ac v.1) (([(0,0)],[],0))
def B104:=bP [uN,B49,B99,uU,B98,uW,uV] Tryz.func258 ⟨[.Ae y3, .Ae y3],[(0, .v 0 y3),(1, .v 1 y3),(2, .AK 259 [] [])],[],0⟩ ⟨[.Ae y3],[(0, .v 0 y3)],[],0⟩ 1 [] ya (la:=lk [(6,⟨[.Ae BI, .Ae Jd, .nat],(kp [2,3,4,6,7,8] [(9, .AH 5),(10, .AD 2 602)]),[(4, .Ai 273 [(1, .AH 3)]),(3, .row 272 0),(2, .c 0),(1, .c 0),(0, .c 0),(5, .row 119 1)],6⟩),(14,⟨[.Ae BI, .Ae Kg, .Ae Ak],(kp [2,3,4,6,7,8,9,10,11,12,13] [(54, .v 2 Ak)]),[(8, .c 0),(7, .Ai 119 [(1, .Am),(1, .AH 9)]),(6, .c 0),(5, .c 0),(4, .Ai 273 [(1, .AH 3)]),(3, .row 272 0),(2, .c 0),(1, .c 0),(0, .c 0),(9, .row 116 1)],10⟩)]) (pr:=lg [(21,[.fz 9])]) (pt:=lg [(5,[.own 9 119 Lp]),(13,[.Ex 12 1 116 Pt])])
def Vk(a:Nat):A5×A5->Option A5|(b,c)=>iF ((b.length:Int)=0) (Ab (Q0 a c) λd=>Ab (YU a d) Ac)<|iF ((c.length:Int)=0) (Ab (Q0 a b) λf=>Ab (YU a f) Ac)<|Ab (ya a (b,c)) Ac
def zB:=bQ [uN,B97,B104] Tryz.func206 [y3,y3] [y3] Vk
def uH(a:Nat):Fz×Fz->Option Fz|(d,e)=>Ab (nX a d) λb=>Ab (nX a e) λc=>Ab (vj a (b.1,c.1)) λf=>Ab (vj a (b.2.1,c.2.1)) λg=>Ab (vj a (b.2.2.1,c.2.2.1)) λh=>Ab (F97 a (b.2.2.2.1,c.2.2.2.1)) λi=>Ab (Vk a (b.2.2.2.2,c.2.2.2.2)) λj=>Ac (f,g,h,i,j)
def B106:=bP [B90,zB,B91,B94] Tryz.func254 ⟨[.Ae y8, .Ae y8],[(0, .v 0 y8),(1, .v 1 y8),(2, .AK 255 [] []),(3, .AK 256 [] []),(4, .AK 206 [] [])],[],0⟩ ⟨[.Ae y8],[(0, .v 0 y8)],[],0⟩ 1 [] uH
def uG(a:Nat):Fz×Fz->Option Fz|(b,c)=>Ab (uH a (b,c)) Ac
def B107:=bQ [B106] Tryz.func203 [y8,y8] [y8] uG
def uF(a:Nat)(b:Fz):Option Fz:=Ab (uG a (b,Aj,Aj,Aj,([],[]),[])) Ac
def B108:=bQ [B107] Tryz.func147 [y8] [y8] uF
def eQ(c:Nat):(Int×Int)×Int->Option Int|(a,b)=>iF ((0:Int)<a.1) (Ac a.1)<|iF (a.2<0) (Ac a.2)<|some b
def B109:=bQ [] Tryz.func141 [Ev,Ak] [Ak] eQ
def Vj(c:Nat):Int×Int->Option Bool|(a,b)=>Aa .i64 ((0:Int)-a)<|Aa .i64 (if(0:Int)-a>a then(0:Int)-a else a)<|Aa .i64 ((0:Int)-b)<|Aa .i64 (if(0:Int)-b>b then(0:Int)-b else b)<|iF ((if(0:Int)-a>a then(0:Int)-a else a)<if(0:Int)-b>b then(0:Int)-b else b) (Ac Bp)<|iF ((if(0:Int)-a>a then(0:Int)-a else a)=if(0:Int)-b>b then(0:Int)-b else b) (Ac (Dl (b<a)))<|some Aj
def zA:=bQ [] Tryz.func140 [Ak,Ak] [.bool] Vj
def eP(d:Nat):Int×Bool×Int->Option (Bool×Int)|(a,b,c)=>iB (!b) (Ac ((Bp,a)))<|Ab (Vj d (a,c)) λe=>iB e (Ac ((Bp,a)))<|some (b,c)
def B111:=bP [zA] Tryz.func139 ⟨[.Ae Ak, .Ae .bool, .Ae Ak],[(0, .v 0 Ak),(1, .loc 0 0),(2, .loc 1 0)],[(0, .Ai 4 [(1, .v 1 .bool)]),(1, .Ai 2 [(1, .v 2 Ak)])],2⟩ ⟨[.Ae .bool, .Ae Ak],[],[(0, .Ai 4 [(1, .v 0 .bool)]),(1, .Ai 2 [(1, .v 1 Ak)])],2⟩ 0 [] eP
def Vi(a:Nat)(h:Bc):Option (Int×Bool):=Ab (WZ a h) λd=>Ad a (λ(b:Int×Bool×Nat) i=>iF ((b.2.2:Int)<d.1.length) (Ab (idx d.1 b.2.2) λj=>Ab (eQ a (j,0)) λe=>Aa .i64 (e*10000)<|Ab (eP a ((e*10000),b.2.1,b.1)) λf=>i (f.2,f.1,b.2.2+1))<|Ad a (λ(c:Int×Bool×Nat) k=>iF ((c.2.2:Int)<d.2.length) (Ab (idx d.2 c.2.2) λl=>Ab (eQ a (l,1)) λm=>Ab (eP a (m,c.2.1,c.1)) λg=>k (g.2,g.1,c.2.2+1))<|some ((c.1,c.2.1))) ((b.1,b.2.1,0))) ((0,Aj,0))
def zy:=bQ [yN,B111,B109] Tryz.func100 [E'] [Ak, .bool] Vi (la:=lk [(5,⟨[.Ae Ak, .Ae .bool, .nat],(kp [4,5,6,7,16,17] [(18, .AD 2 502)]),[(2, .Ai 2 [(1, .v 0 Ak)]),(3, .Ai 4 [(1, .v 1 .bool)]),(1, .c 0)],4⟩),(10,⟨[.Ae Ak, .Ae .bool, .nat],(kp [5,6,7,29,30] [(31, .AD 2 1002)]),[(2, .Ai 2 [(1, .v 0 Ak)]),(3, .Ai 4 [(1, .v 1 .bool)])],4⟩)])
def x_(b:Nat)(a:A5):Option A5:=Ac a
def B113:=bP [] Tryz.func191 ⟨[.Ae y3],[(0, .v 0 y3)],[],0⟩ ⟨[.Ae y3],[(0, .AK 246 [] [0])],[(0, .Ai 27 [(1, .v 0 y3)])],1⟩ 1 [] x_
def uE(d:Nat):A5×List Bool->Option (List Bool)|(c,g)=>Ag (FD c<=Ah)<|Ad d (λ(a:List Bool×Nat) h=>iF ((a.2:Int)<c.length) (Ab (idx c a.2) λe=>Ad d (λ(b:List Bool×Nat) f=>iF ((b.2:Int)<e.2.length) (Ab (idx e.2 b.2) λi=>Ab (idx b.1 a.2) λj=>iB j (Ab (idx b.1 a.2) λl=>f ((b.1.set a.2 Bp),b.2+1))<|Ab (idx g i.2.2) λk=>Ab (idx b.1 a.2) λm=>f ((b.1.set a.2 k),b.2+1))<|h ((b.1,a.2+1))) ((a.1,0)))<|some a.1) (((T8 (FD c) Aj),0))
def B114:=bQ [] Tryz.func247 [y3,El] [El] uE (la:=lk [(3,⟨[.Ae El, .nat],(kp [1,2,5,15] [(16, .AD 1 301)]),[(1, .row 4 0),(0, .c 0)],2⟩),(6,⟨[.Ae El, .nat],(kp [1,2,5,6,15,16,24,25] [(26, .AD 1 601)]),[(1, .row 4 0),(0, .c 0)],2⟩)]) (pt:=lg [(11,[.fz 4])])
def uD(c:Nat):List Bool×Bool->Option Int|(b,d)=>Ad c (λ(a:Nat) e=>iF ((a:Int)<b.length) (Ab (idx b a) λf=>iB (d==f) (Ac ((a:Int)))<|e (a+1))<|some ((-1:Int))) (0)
def B115:=bQ [] Tryz.func290 [El, .bool] [Ak] uD (la:=lk [(2,⟨[.nat],(kp [0,1,7] [(8, .AD 0 200)]),[],0⟩)])
def eN(a:Nat):List Bool×Bool->Option Bool|(b,c)=>Ab (uD a (b,c)) λd=>Ac (Dl ((0:Int)<=d))
def B116:=bQ [B115] Tryz.func248 [El, .bool] [.bool] eN
def mO:A_:=⟨[.Ae Ak, .Ae Ak, .Ae Pu, .Ae y3, .Ae vr],[(0, .v 0 Ak),(1, .v 1 Ak),(2, .v 2 Pu),(3, .loc 0 0),(4, .loc 1 0),(5, .loc 2 0),(6, .loc 3 0)],[(0, .Ai 72 [(1, .mp 4)]),(1, .Ai 27 [(1, .v 3 y3)]),(2, .Ai 237 [(1, .AH 5)]),(3, .Ai 267 [(1, .AK 291 [] [0,1,2,3])]),(5, .row 75 4)],6⟩
abbrev nU:Type:=GrJ 291 mO 4 [.str] Bp
def xB(n:Nat):nU:=Nat.rec (motive:=λ_=>nU) (tJ Tryz.func291) (λfu g0=>sJ [xk g0] fu Tryz.func291 mO 4 [.str] Bp (la:=lk [(4,⟨[.nat],(kp [1,2,5,6,25,26] [(27, .AD 0 400)]),[(3, .c 0),(2, .c 0),(5, .c 0),(1, .c 0),(0, .c 0)],6⟩),(7,⟨[.Ae Ak],(kp [1,2,5,6,12] [(13, .v 0 Ak),(25, .Am),(26, .Am),(27, .Am)]),[(6, .c 0),(3, .c 0),(2, .c 0),(5, .c 0),(1, .c 0),(0, .c 0)],7⟩)]) (ct:=lz [(9,15)])) n
def B117(fu:Nat):=xk (xB fu)
abbrev YS(fu:Nat)(x:(Int)×(Int)×(List Int)×A5×(List (List Bool))):Option (List Aq×Option Bool):=(xB fu).1 x
def uK(f:Nat)(l:Int)(b:Int)(a:List Int)(g:A5)(h:List (List Bool)):Option (List Aq×Option Bool):=iF (b=0) (Ac (([(List.map (λn=>UInt8.ofNat (ao n)) a)],Ac Bp)))<|Ab (idx g l) λi=>Ad f (λ(d:Nat) j=>iF ((d:Int)<i.2.length) (Ab (idx i.2 d) λe=>Ad f (λ(c:Int) m=>iF (c<=e.2.1) (Aa .i64 (b-1)<|Ab (idx h (b-1)) λo=>Ab (idx o e.2.2) λp=>iB p (Aa .i64 (b-1)<|Ag ((a.length:Int)=a.length/\(a.length:Int)=a.length)<|Aa .u8 c<|Ag (FD a+1<=Ah/\0<1)<|Ab (YS f (e.2.2,(b-1),(a++[c]),g,h)) λk=>wY (λb10=>iB (!b10) (Ac (([],Ac Aj)))<|Aa .i64 (c+1)<|m ((c+1))) (k.1) (k.2))<|j (d+1))<|j (d+1)) (e.1))<|some (([],Ac Bp))) (0)
theorem d120(fu x0 x1 x2 x3 x4):YS (fu+1) (x0,x1,x2,x3,x4)=uK fu x0 x1 x2 x3 x4:=by kernel_rfl
def YR(c:Nat):A5×Nat×Nat×Int×List (List Bool)->Option (List Aq×Option Bool)|(d,e,f,g,a)=>Ag ((0:Int)<=0/\(0:Int)<f)<|Ab (idx a ((e:Int)+0)) λh=>Ab (idx h 0) λi=>iB (!i) (Ac (([],Ac Bp)))<|Ab (YS c (0,g,[],d,a)) λb=>wY (λb4=>Ac (([],Ac b4))) (b.1) b.2
def B118:=bJ [B117] Tryz.func249 ⟨[.Ae y3, .nat, .nat, .Ae Ak, .Ae vr],[(0, .v 0 y3),(1, .px [0] (.sub 1 2 El)),(2, .v 3 Ak),(3, .mp 1),(4, .AH 0)],[(0, .row 75 4)],2⟩ 1 [.str] Bp YR
def TJ(b:Nat)(c:A5):Option (List Aq×Bool):=Ad b (λ(d:List Bool×Nat) i=>iF ((d.2:Int)<c.length) (Ab (idx c d.2) λj=>Ag (FD d.1+1<=Ah)<|i ((d.1++[j.1]),d.2+1))<|Ag (0+1<=Ah)<|Ad b (λ(a:List (List Bool)×Int) f=>iF ((0:Int)<c.length) (iF ((0:Int)<a.2) (Aa .i64 (a.2-1)<|Ab (idx a.1 (a.2-1)) λk=>Ab (uE b (c,k)) λe=>Ag (FD a.1+1<=Ah)<|Ab (idx (a.1++[e]) a.2) λl=>Ab (eN b (l,Bp)) λm=>iB (!m) (Ac (([],Bp)))<|Aa .i64 (a.2+1)<|Aa .i64 (a.2+1)<|Ag (((0:Int)<=a.2/\a.2<a.2+1)/\a.2+1=a.2+1/\a.2+1<=(a.1++[e]).length)<|Ab (YR b (c,ao a.2,ao (a.2+1-a.2),a.2,(a.1++[e]))) λg=>ri (λb11=>iB (!b11) (Ac (([],Bp)))<|Aa .i64 (a.2+1)<|f (((a.1++[e]),(a.2+1)))) (g.1) (g.2))<|Ab (idx a.1 a.2) λn=>Ab (eN b (n,Bp)) λo=>iB (!o) (Ac (([],Bp)))<|Aa .i64 (a.2+1)<|Aa .i64 (a.2+1)<|Ag (((0:Int)<=a.2/\a.2<a.2+1)/\a.2+1=a.2+1/\a.2+1<=a.1.length)<|Ab (YR b (c,ao a.2,ao (a.2+1-a.2),a.2,a.1)) λh=>ri (λb15=>iB (!b15) (Ac (([],Bp)))<|Aa .i64 (a.2+1)<|f ((a.1,(a.2+1)))) (h.1) (h.2))<|some (([],Bp))) (([d.1],0))) (([],0))
def B119:=bI [B114,B116,B118] Tryz.func246 ⟨[.Ae y3],[(0, .Am),(1, .loc 0 0)],[(0, .Ai 27 [(1, .v 0 y3)])],1⟩ 0 [.str] TJ (la:=lk [(3,⟨[.Ae El, .nat],(kp [0,1,3] [(4, .AH 2),(9, .Am),(10, .AD 1 301)]),[(0, .c 0),(2, .row 4 0)],3⟩),(9,⟨[.Ae (.sl El), .Ae Ak],(kp [0,1] [(3, .AH 4),(6, .v 1 Ak)]),[(4, .row 75 0),(0, .c 0)],5⟩)]) (pr:=lg [(7,[.fz 4])]) (pt:=lg [(2,[.own 4 4 .bool])]) (ct:=lz [(13,18)])
def YQ(c:Nat):A5×Int->Option (List Aq)|(e,a)=>iF (a<1) (Ac [])<|Ab (Q0 c e) λf=>Ab (x_ c f) λg=>Ab (TJ c g) λd=>IB (λ(y4:Aq) (b:List Aq) h=>Ag (FD b+1<=Ah)<|Aa .i64 (if(1000:Int)<a then(1000:Int)else a)<|iF (((b++[y4]).length:Int)=if(1000:Int)<a then(1000:Int)else a) (Ac ((b++[y4])))<|h ((b++[y4]))) (λi=>Ra d.2<|some i) (d.1) ([])
def B120:=bQ [B113,uN,B119] Tryz.func142 [y3,Ak] [Ik] YQ (la:=lk [(5,⟨[.Ae Ik],(kp [3,4,5,12] []),[(0, .c 0),(1, .c 0),(2, .Ai 45 [(1, .AH 5)]),(5, .row 9 0)],6⟩)]) (pt:=lg [(4,[.Ex 5 0 9 .str]),(8,[.fz 4])])
def Vh(b:Nat)(c:A5):Option (Aq×Bool):=Ab (YQ b (c,1)) λa=>iF ((a.length:Int)=0) (Ac (([],Aj)))<|Ab (idx a 0) λd=>Ac (d,Bp)
def zx:=bQ [B120] Tryz.func101 [y3] [.str, .bool] Vh
def uC(b:Nat)(e:Fz):Option (Int×Int×Aq×List Empty×List (Aq×Empty)×Bool):=Ab (nX b e) λa=>Ab (Vi b a.2.2.2.1) λc=>Ab (Vh b a.2.2.2.2) λd=>iB a.1 (Ac ((1,0,[],[],[],Bp)))<|iB a.2.1 (Ac ((2,0,[],[],[],Bp)))<|iB a.2.2.1 (Ac ((2,1,[],[],[],Bp)))<|iB c.2 (Ac ((3,c.1,[],[],[],Bp)))<|iB d.2 (Ac ((4,0,d.1,[],[],Bp)))<|some (0,0,[],[],[],Aj)
def B122:=bP [B90,zy,zx] Tryz.func71 ⟨[.Ae y8],[(0, .v 0 y8)],[],0⟩ ⟨[.Ae Ak, .Ae Ak, .Ae .str, .Ae (.sl (.nm 1)), .Ae (.sl (.st y25)), .Ae .bool],[(0, .sv [(1,0,Ak),(1,1,Ak),(1,2, .str),(1,3,(.sl (.nm 1))),(1,4,(.sl (.st y25)))]),(1, .v 5 .bool)],[],0⟩ 2 [] uC
def YP(a:Nat)(b:Fz):Option Bool:=Ab (uC a b) λc=>Ac (!c.2.2.2.2.2)
def uT:=bQ [B122] Tryz.func49 [y8] [.bool] YP
def TH(b:Nat)(a:Vl):Option Bool:=iB (!Vl.any a) (Aa .i64 (((Vl.lists a).length:Int)+((Vl.structs a).length:Int))<|iF (((Vl.lists a).length:Int)+((Vl.structs a).length:Int)=0) (Ab (xM b (Vl.sc a)) λc=>iB c (Ac Bp)<|Ab (YP b (Vl.sc a)) Ac)<|some Aj)<|some Aj
def eS:=bQ [B35,uT] Tryz.func23 [BD] [.bool] TH
def kP(c:Nat):Fz×Fz->Option Bool|(a,b)=>iB (a.1==b.1) (iB (a.2.1==b.2.1) (iB (a.2.2.1==b.2.2.1) (Ab (sM c (a.2.2.2.1.1,b.2.2.2.1.1)) λd=>iB d (Ab (sM c (a.2.2.2.1.2,b.2.2.2.1.2)) λe=>iB e (Ab (xJ c (a.2.2.2.2,b.2.2.2.2)) Ac)<|some Aj)<|some Aj)<|some Aj)<|some Aj)<|some Aj
def B125:=bQ [B74,B53] Tryz.func112 [y8,y8] [.bool] kP
def mN:A_:=⟨[.Ae Dn, .Ae Dn],[(0, .v 0 Dn),(1, .v 1 Dn),(2, .AK 59 [] [])],[],0⟩
def lZ:A_:=⟨[.Ae .bool],[(0, .v 0 .bool)],[],0⟩
def mM:A_:=⟨[.Ae Mb, .Ae Mb],[(0, .v 0 Mb),(1, .v 1 Mb),(2, .AK 171 [] [])],[],0⟩
def lY:A_:=⟨[.Ae .bool],[(0, .v 0 .bool)],[],0⟩
def mL:A_:=⟨[.Ae Gr, .Ae Gr],[(0, .v 0 Gr),(1, .v 1 Gr),(2, .AK 173 [] [])],[],0⟩
def lX:A_:=⟨[.Ae .bool],[(0, .v 0 .bool)],[],0⟩
abbrev nT:Type:=G6 113 mN lZ 1 []×Gn 171 [ER,ER] [.bool]×G6 170 mM lY 1 []×Gn 173 [FT,FT] [.bool]×G6 172 mL lX 1 []×Gn 115 [BQ,BQ] [.bool]×Gn 80 [BD,BD] [.bool]×Gn 59 [BA,BA] [.bool]
def QR(n:Nat):nT:=Nat.rec (motive:=λ_=>nT) (tP Tryz.func113,tQ Tryz.func171,tP Tryz.func170,tQ Tryz.func173,tP Tryz.func172,tQ Tryz.func115,tQ Tryz.func80,tQ Tryz.func59) (λfu ⟨g0,g1,g2,g3,g4,g5,g6,g7⟩=>(sP [Dd g7] fu Tryz.func113 mN lZ 1 [] (la:=lk [(4,⟨[.nat],(kp [1,2,15,16] [(17, .AD 0 400)]),[],0⟩)]),sQ [Dd g7] fu Tryz.func171 [ER,ER] [.bool],sP [Dd g1] fu Tryz.func170 mM lY 1 [] (la:=lk [(4,⟨[.nat],(kp [1,2,15,16] [(17, .AD 0 400)]),[],0⟩)]),sQ (Dd g7::bs [B53] fu) fu Tryz.func173 [FT,FT] [.bool],sP [Dd g3] fu Tryz.func172 mL lX 1 [] (la:=lk [(4,⟨[.nat],(kp [1,2,15,16] [(17, .AD 0 400)]),[],0⟩)]),sQ [C3 g2,C3 g4] fu Tryz.func115 [BQ,BQ] [.bool],sQ (C3 g0::Dd g5::bs [B125,B81] fu) fu Tryz.func80 [BD,BD] [.bool] (la:=lk [(4,⟨[.nat],(kp [2,3,42] [(43, .AD 0 400)]),[(1, .c 0),(0, .c 0)],2⟩),(11,⟨[.nat],(kp [2,3,74] [(75, .AD 0 1100)]),[(1, .c 0),(0, .c 0)],2⟩)]),sQ [Dd g6] fu Tryz.func59 [BA,BA] [.bool])) n
abbrev uB(fu:Nat)(x:(List AF)×(List AF)):Option Bool:=(QR fu).1.1 x
abbrev kO(fu:Nat)(x:(Aq×Int×AF)×(Aq×Int×AF)):Option Bool:=(QR fu).2.1.1 x
abbrev uA(fu:Nat)(x:(List (Aq×Int×AF))×(List (Aq×Int×AF))):Option Bool:=(QR fu).2.2.1.1 x
abbrev kN(fu:Nat)(x:(A5×AF)×(A5×AF)):Option Bool:=(QR fu).2.2.2.1.1 x
abbrev uz(fu:Nat)(x:(List (A5×AF))×(List (A5×AF))):Option Bool:=(QR fu).2.2.2.2.1.1 x
abbrev uy(fu:Nat)(x:BC×BC):Option Bool:=(QR fu).2.2.2.2.2.1.1 x
abbrev eM(fu:Nat)(x:(Vl)×(Vl)):Option Bool:=(QR fu).2.2.2.2.2.2.1.1 x
def zw(fu:Nat):=Dd (QR fu).2.2.2.2.2.2.2
abbrev NC(fu:Nat)(x:AF×AF):Option Bool:=(QR fu).2.2.2.2.2.2.2.1 x
def D129(c:Nat)(b:List AF)(d:List AF):Option Bool:=iF ((b.length:Int)≠d.length) (Ac Aj)<|Ad c (λ(a:Nat) e=>iF ((a:Int)<b.length) (Ab (idx b a) λf=>Ab (idx d a) λg=>Ab (NC c (f,g)) λh=>iB (!h) (Ac Aj)<|e (a+1))<|some Bp) (0)
theorem d129(fu x0 x1):uB (fu+1) (x0,x1)=D129 fu x0 x1:=by kernel_rfl
def D130(c:Nat)(a:Aq×Int×AF)(b:Aq×Int×AF):Option Bool:=iF (a.1=b.1) (iF (a.2.1=b.2.1) (Ab (NC c (a.2.2,b.2.2)) Ac)<|some Aj)<|some Aj
theorem d130(fu x0 x1):kO (fu+1) (x0,x1)=D130 fu x0 x1:=by kernel_rfl
def D131(c:Nat)(b:List (Aq×Int×AF))(d:List (Aq×Int×AF)):Option Bool:=iF ((b.length:Int)≠d.length) (Ac Aj)<|Ad c (λ(a:Nat) e=>iF ((a:Int)<b.length) (Ab (idx b a) λf=>Ab (idx d a) λg=>Ab (kO c (f,g)) λh=>iB (!h) (Ac Aj)<|e (a+1))<|some Bp) (0)
theorem d131(fu x0 x1):uA (fu+1) (x0,x1)=D131 fu x0 x1:=by kernel_rfl
def yL(a:Nat)(b:A5×AF)(c:A5×AF):Option Bool:=Ab (xJ a (b.1,c.1)) λd=>iB d (Ab (NC a (b.2,c.2)) Ac)<|some Aj
theorem d132(fu x0 x1):kN (fu+1) (x0,x1)=yL fu x0 x1:=by kernel_rfl
def yK(c:Nat)(b:List (A5×AF))(d:List (A5×AF)):Option Bool:=iF ((b.length:Int)≠d.length) (Ac Aj)<|Ad c (λ(a:Nat) e=>iF ((a:Int)<b.length) (Ab (idx b a) λf=>Ab (idx d a) λg=>Ab (kN c (f,g)) λh=>iB (!h) (Ac Aj)<|e (a+1))<|some Bp) (0)
theorem d133(fu x0 x1):uz (fu+1) (x0,x1)=yK fu x0 x1:=by kernel_rfl
def D134(a:Nat)(b:BC)(c:BC):Option Bool:=Ab (uA a (b.1,c.1)) λd=>iB d (Ab (uz a (b.2,c.2)) Ac)<|some Aj
theorem d134(fu x0 x1):uy (fu+1) (x0,x1)=D134 fu x0 x1:=by kernel_rfl
def D135(b:Nat)(a:Vl)(c:Vl):Option Bool:=iB (!Vl.any a==Vl.any c) (Ac Aj)<|Ab (kP b (Vl.sc a,Vl.sc c)) λh=>iB (!h) (Ac Aj)<|iF (((Vl.lists a).length:Int)≠((Vl.lists c).length:Int)) (Ac Aj)<|iF (((Vl.structs a).length:Int)≠((Vl.structs c).length:Int)) (Ac Aj)<|Ad b (λ(d:Nat) i=>iF ((d:Int)<(Vl.lists a).length) (Ab (idx (Vl.lists a) (d:Int)) λf=>Ab (idx (Vl.lists c) (d:Int)) λg=>iF ((f.1.length:Int)≠g.1.length) (Ac Aj)<|Ab (ff b f) λj=>Ab (ff b g) λk=>Ab (uB b (j,k)) λl=>iB (!l) (Ac Aj)<|i (d+1))<|Ad b (λ(e:Nat) m=>iF ((e:Int)<(Vl.structs a).length) (Ab (idx (Vl.structs a) (e:Int)) λn=>Ab (idx (Vl.structs c) (e:Int)) λo=>Ab (uy b (n,o)) λp=>iB (!p) (Ac Aj)<|m (e+1))<|some Bp) (0)) (0)
theorem d135(fu x0 x1):eM (fu+1) (x0,x1)=D135 fu x0 x1:=by kernel_rfl
def D136(a:Nat)(b:AF)(c:AF):Option Bool:=Ab (eM a (b.1,c.1)) λd=>iB d (Ab (eM a (b.2,c.2)) Ac)<|some Aj
theorem d136(fu x0 x1):NC (fu+1) (x0,x1)=D136 fu x0 x1:=by kernel_rfl
def eL(a:Nat):AF×AF->Option Bool|(b,c)=>Ab (NC a (b,c)) Ac
def uS:=bQ [zw] Tryz.func72 [BA,BA] [.bool] eL
def ux(b:Nat):(A5×AF)×AF->Option (Bool×AF)|(c,a)=>Ab (eL b (c.2,a)) λd=>Ac (d,a)
def B135:=bP [uS] Tryz.func205 ⟨[.Ae FT, .Ae BA],[(0, .v 0 FT),(1, .loc 0 0)],[(0, .Ai 35 [(18, .v 1 BA)])],1⟩ ⟨[.Ae .bool, .Ae BA],[(0, .v 0 .bool)],[(0, .Ai 35 [(18, .v 1 BA)])],1⟩ 1 [] ux
def uw(d:Nat):(List (A5×AF))×AF->Option (Int×List (A5×AF)×AF)|(b,e)=>Ad d (λ(a:AF×Nat) f=>iF ((a.2:Int)<b.length) (Ab (idx b a.2) λg=>Ab (ux d (g,a.1)) λc=>iB c.1 (Ac (((a.2:Int),b,c.2)))<|f (c.2,a.2+1))<|some (((-1:Int),b,a.1))) ((e,0))
def B136:=bP [B135] Tryz.func204 ⟨[.Ae Gr, .Ae BA],[(0, .AH 0),(1, .AK 205 [] [1])],[(0, .row 92 0),(1, .Ai 35 [(18, .v 1 BA)])],2⟩ ⟨[.Ae Ak, .Ae Gr, .Ae BA],[(0, .v 0 Ak)],[(0, .row 92 1),(1, .Ai 35 [(18, .v 2 BA)])],2⟩ 1 [] uw (la:=lk [(2,⟨[.Ae BA, .nat],(kp [0,1,7] [(8, .AD 1 201)]),[(1, .Ai 35 [(18, .v 0 BA)]),(0, .c 0)],2⟩)])
def uu(c:Nat):Bool×Bool->Option Bool|(a,b)=>iB a (Ac ((!b)))<|some Aj
def B137:=bQ [] Tryz.func311 [.bool, .bool] [.bool] uu
def x9(b:Nat):A5×A5->Option A5|(k,l)=>Ab (Q0 b k) λf=>Ab (Q0 b l) λg=>Ad b (λ(c:List (Int×Int)×A5×Nat) m=>iF ((c.2.2:Int)<c.1.length) (Ab (idx c.1 c.2.2) λd=>Ab (N2 b (f,d.1)) λn=>Ab (N2 b (g,d.2)) λo=>Ab (uu b (n,o)) λp=>Ab (N1 b (f,d.1,(lj (T8 256 Aj) 0 Bp))) λq=>Ab (N1 b (g,d.2,q)) λr=>Ad b (λ(a:List (Int×Int)×List (Int×Int×Int)×Int) h=>iF (a.2.2<256) (Ag ((0:Int)<=a.2.2/\a.2.2<(↑256:Int))<|Ab (idx r (↑(0+ao a.2.2*1):Int)) λs=>iB s (Aa .u8 a.2.2<|Aa .u8 a.2.2<|Ab (N0 b (f,d.1,a.2.2)) λt=>Aa .u8 a.2.2<|Ab (N0 b (g,d.2,a.2.2)) λu=>Ab (YT b ((t,u),a.1)) λe=>Ag (FD a.2.1+1<=Ah)<|Aa .i64 (((a.2.1++[(a.2.2,0,e.1)]).length:Int)-1)<|Aa .u8 a.2.2<|Ab (idx (a.2.1++[(a.2.2,0,e.1)]) (((a.2.1++[(a.2.2,0,e.1)]).length:Int)-1)) λi=>Aa .i64 (a.2.2+1)<|h (e.2,((a.2.1++[(a.2.2,0,e.1)]).set (ao (((a.2.1++[(a.2.2,0,e.1)]).length:Int)-1)) (i.1,a.2.2,i.2.2)),(a.2.2+1)))<|Aa .i64 ((a.2.1.length:Int)-1)<|Aa .u8 a.2.2<|Ab (idx a.2.1 ((a.2.1.length:Int)-1)) λj=>Aa .i64 (a.2.2+1)<|h (a.1,(a.2.1.set (ao ((a.2.1.length:Int)-1)) (j.1,a.2.2,j.2.2)),(a.2.2+1)))<|Ag (FD c.2.1+1<=Ah)<|m ((a.1,(c.2.1++[(p,a.2.1)]),c.2.2+1))) ((c.1,[],0)))<|Ab (nY b c.2.1) λv=>Ac v.1) (([(0,0)],[],0))
def B138:=bP [uN,B49,uU,B98,uW,uV,B137] Tryz.func258 ⟨[.Ae y3, .Ae y3],[(0, .v 0 y3),(1, .v 1 y3),(2, .AK 311 [] [])],[],0⟩ ⟨[.Ae y3],[(0, .v 0 y3)],[],0⟩ 1 [] x9 (la:=lk [(6,⟨[.Ae BI, .Ae Jd, .nat],(kp [2,3,4,6,7,8] [(9, .AH 5),(10, .AD 2 602)]),[(4, .Ai 273 [(1, .AH 3)]),(3, .row 272 0),(2, .c 0),(1, .c 0),(0, .c 0),(5, .row 119 1)],6⟩),(14,⟨[.Ae BI, .Ae Kg, .Ae Ak],(kp [2,3,4,6,7,8,9,10,11,12,13] [(54, .v 2 Ak)]),[(8, .c 0),(7, .Ai 119 [(1, .Am),(1, .AH 9)]),(6, .c 0),(5, .c 0),(4, .Ai 273 [(1, .AH 3)]),(3, .row 272 0),(2, .c 0),(1, .c 0),(0, .c 0),(9, .row 116 1)],10⟩)]) (pr:=lg [(21,[.fz 9])]) (pt:=lg [(5,[.own 9 119 Lp]),(13,[.Ex 12 1 116 Pt])])
def YO(a:Nat):A5×A5->Option A5|(b,c)=>iF ((b.length:Int)=0) (Ac [])<|iF ((c.length:Int)=0) (Ab (Q0 a b) λd=>Ab (YU a d) Ac)<|Ab (x9 a (b,c)) Ac
def zu:=bQ [uN,B97,B138] Tryz.func262 [y3,y3] [y3] YO
def eK(b:Nat)(a:Int):Option Bool:=Ac (Dl (a≠a))
def B140:=bQ [] Tryz.func312 [Ak] [.bool] eK
def Vg(c:Nat):Int×Int->Option Int|(a,b)=>Ab (eK c a) λe=>Ab (eK c b) λd=>iB e (iB d (Ac 0)<|some ((-1:Int)))<|iB d (Ac 1)<|iF (a<b) (Ac ((-1:Int)))<|iF (b<a) (Ac 1)<|some 0
def uR:=bQ [B140] Tryz.func264 [Ak,Ak] [Ak] Vg
def uq(b:Nat)(a:Aq):Option Bool:=Ac (Bool.rec Bp Aj (Dl (a=a)))
def B142:=bQ [] Tryz.func313 [.str] [.bool] uq
def YN(c:Nat):Aq×Aq->Option Int|(a,b)=>Ab (uq c a) λe=>Ab (uq c b) λd=>iB e (iB d (Ac 0)<|some ((-1:Int)))<|iB d (Ac 1)<|iB (gh a b) (Ac ((-1:Int)))<|iB (!(gh a b||decide (a=b))) (Ac 1)<|some 0
def zt:=bQ [B142] Tryz.func265 [.str, .str] [Ak] YN
def eJ(d:Nat)(b:List Int):Option Int:=Ad d (λ(a:Nat) e=>iF ((a:Int)<b.length) (Ab (idx b a) λc=>iF (c≠0) (Ac c)<|e (a+1))<|some 0) (0)
def B144:=bQ [] Tryz.func263 [FQ] [Ak] eJ (la:=lk [(3,⟨[.nat],(kp [3,6,7] [(8, .AD 0 300)]),[],0⟩)])
def YM(a:Nat):A5×A5->Option Int|(f,g)=>Ab (Q0 a f) λd=>Ab (Q0 a g) λe=>Ab (YO a (d,e)) λh=>Ab (Vh a h) λb=>Ab (YO a (e,d)) λi=>Ab (Vh a i) λc=>iB (!b.2) (iB (!c.2) (Ac 0)<|iB (!c.2) (Ac ((-1:Int)))<|iB (!b.2) (Ac 1)<|Ab (Vg a ((b.1.length:Int),(c.1.length:Int))) λj=>Ab (YN a (b.1,c.1)) λk=>Ab (eJ a [j,k]) Ac)<|iB (!c.2) (Ac ((-1:Int)))<|iB (!b.2) (Ac 1)<|Ab (Vg a ((b.1.length:Int),(c.1.length:Int))) λm=>Ab (YN a (b.1,c.1)) λn=>Ab (eJ a [m,n]) Ac
def uQ:=bQ [zx,uN,zu,B144,uR,zt] Tryz.func209 [y3,y3] [Ak] YM
def kM(a:Nat):(A5×AF)×A5×AF->Option Int|(b,c)=>Ab (YM a (b.1,c.1)) Ac
def B146:=bQ [uQ] Tryz.func208 [FT,FT] [Ak] kM
def D150(fu:Nat)(x0 x1:Int)(x2:List (A5×AF)):=Si (λx y=>kM fu (x,y)) fu x0 x1 x2
abbrev x8 fu:=u3 (D150 fu)
def B147:=bP [B146] Tryz.func301 ⟨[.Ae Ak, .Ae Ak, .Ae Gr],[(0, .AH 0),(1, .v 0 Ak),(2, .v 1 Ak),(3, .AK 208 [] [])],[(0, .row 92 2)],1⟩ ⟨[.Ae Gr],[],[(0, .row 92 0)],1⟩ 0 [] x8 (la:=lk [(1,⟨[.Ae Gr, .Ae Ak],(kp [0,1,2,3] [(8, .v 1 Ak)]),[(0, .row 92 0)],1⟩),(4,⟨[.Ae Gr, .Ae Ak],(kp [0,1,2,3,8] [(9, .v 1 Ak)]),[(0, .row 92 0)],1⟩)])
def uo(c:Nat):Int×Int×Int×List (A5×AF)->Option (List (A5×AF))|(a,b,d,e)=>Ad c (λ(g:PUnit) h=>Aa .i64 (b-a)<|iF (b-a<=12) (Ab (x8 c (a,b,e)) Ac)<|iF (d=0) C7<|none) (())
def B148:=bP [B147] Tryz.func260 ⟨[.Ae Ak, .Ae Ak, .Ae Ak, .Ae Gr],[(0, .AH 0),(1, .v 0 Ak),(2, .v 1 Ak),(3, .v 2 Ak),(4, .AK 208 [] [])],[(0, .row 92 3)],1⟩ ⟨[.Ae Gr],[],[(0, .row 92 0)],1⟩ 0 [] uo (la:=lk [(2,⟨[],(kp [0,1,2,3,4,10,11] []),[(0, .c 0)],1⟩)])
def kL(b:Nat)(a:List (A5×AF)):Option (List (A5×AF)):=Ab (sN b (Int.ofNat (FD a %wL (18446744073709551616:Int)))) λc=>Ab (uo b (0,(a.length:Int),c,a)) Ac
def B149:=bP [B148,B62] Tryz.func207 ⟨[.Ae Gr],[(0, .AH 0),(1, .AK 208 [] [])],[(0, .row 92 0)],1⟩ ⟨[.Ae Gr],[],[(0, .row 92 0)],1⟩ 0 [] kL
def YK(f:Nat):BO×Int->Option (AF×Bool)|(a,b)=>iF ((0:Int)<=b) (iF (b<(a.1.length:Int)) (Ab (idx a.1 b) λc=>Ac ((c,Bp)))<|iF ((0:Int)<=b) (iF ((0:Int)<a.2.length) (Ab (idx a.2 0) λd=>Ac ((d,Bp)))<|some (((Vl.mk Aj (Aj,Aj,Aj,([],[]),[]) [] [],Vl.mk Aj (Aj,Aj,Aj,([],[]),[]) [] []),Aj)))<|some (((Vl.mk Aj (Aj,Aj,Aj,([],[]),[]) [] [],Vl.mk Aj (Aj,Aj,Aj,([],[]),[]) [] []),Aj)))<|iF ((0:Int)<=b) (iF ((0:Int)<a.2.length) (Ab (idx a.2 0) λe=>Ac ((e,Bp)))<|some (((Vl.mk Aj (Aj,Aj,Aj,([],[]),[]) [] [],Vl.mk Aj (Aj,Aj,Aj,([],[]),[]) [] []),Aj)))<|some ((Vl.mk Aj (Aj,Aj,Aj,([],[]),[]) [] [],Vl.mk Aj (Aj,Aj,Aj,([],[]),[]) [] []),Aj)
def B150:=bQ [] Tryz.func213 [Cc,Ak] [BA, .bool] YK
def YJ(c:Nat):Bool×Bool->Option Bool|(a,b)=>iB a (Ac ((!b)))<|some Aj
def B151:=bQ [] Tryz.func274 [.bool, .bool] [.bool] YJ
def x7(a:Nat)(_:Unit):Option Bc:=Ac ([((-100000000000:Int),100000000000)],[])
def B152:=bQ [] Tryz.func340 [] [E'] x7 (pt:=lg [(1,[.M3 0 0])])
def Vf(a:Nat)(_:Unit):Option Bc:=Ab (x7 a ()) λb=>Ac (b.1,[((-999999999999999:Int),999999999999999)])
def zr:=bQ [B152] Tryz.func271 [] [E'] Vf (pt:=lg [(3,[.M3 0 1])])
def um(c:Nat):(List (Int×Int))×Int×Int->Option ((Int×Int)×List (Int×Int))|(a,b)=>Ac (b,a)
def B154:=bP [] Tryz.func389 ⟨[.Ae BI, .Ae Ev],[(0, .v 0 BI),(1, .v 1 Ev),(2, .AK 189 [] []),(3, .AK 390 [] [])],[],0⟩ ⟨[.Ae Ev, .Ae BI],[(0, .AK 405 [] [0,1,2,3])],[(0, .Ai 88 [(2, .v 0 Ev)]),(1, .Ai 22 [(1, .v 1 BI)]),(2, .Ai 207 [(1, .AK 390 [] [])]),(3, .Ai 207 [(1, .AK 189 [] [])])],4⟩ 1 [] um
def uk(b:Nat)(a:Int):Option Int:=Aa .i64 (a-1)<|some (a-1)
def B155:=bQ [] Tryz.func390 [Ak] [Ak] uk
def uj(b:Nat):(Int×Int)×List (Int×Int)->Option (List (Int×Int)×Bool)|(c,e)=>Ad b (λ(a:Int×Nat) f=>iF ((a.2:Int)<e.length) (Ab (idx e a.2) λd=>Ab (uk b d.1) λg=>iF (a.1<=g) (IG ((a.1,g)) (Ac (([],Bp))) (Ab (xG b d.2) λh=>f ((h,a.2+1))))<|Ab (xG b d.2) λi=>f (i,a.2+1))<|iF (a.1<=c.2) (IG ((a.1,c.2)) (Ac (([],Bp))) (Ac (([],Bp))))<|some (([],Bp))) ((c.1,0))
def B156:=bI [B69,B155] Tryz.func405 ⟨[.Ae Ev, .Ae BI],[(0, .Am),(1, .loc 0 0),(2, .loc 1 0),(3, .loc 2 0),(4, .loc 3 0)],[(0, .Ai 88 [(2, .v 0 Ev)]),(1, .Ai 22 [(1, .v 1 BI)]),(2, .Ai 207 [(1, .AK 390 [] [])]),(3, .Ai 207 [(1, .AK 189 [] [])])],4⟩ 0 [Ev] uj (la:=lk [(2,⟨[.Ae Ak, .nat],(kp [0,1,3,4] [(6, .v 0 Ak),(13, .Am),(14, .Am),(15, .AD 1 201)]),[(3, .c 0),(2, .c 0),(0, .c 0),(1, .c 0)],5⟩)])
def ui(e:Nat):(Int×Int)×List (Int×Int)->Option (List (Int×Int)×(Int×Int)×List (Int×Int))|(a,b)=>Ab (uj e (a,b)) λc=>IB (λ(y2:Int×Int) (d:List (Int×Int)) f=>Ag (FD d+1<=Ah)<|f ((d++[y2]))) (λg=>Ra c.2<|some ((g,a,b))) (c.1) ([])
def B157:=bP [B156] Tryz.func404 ⟨[.Ae Ev, .Ae BI],[(0, .nl),(1, .AK 405 [] [0,1,2,3])],[(0, .Ai 88 [(2, .v 0 Ev)]),(1, .Ai 22 [(1, .v 1 BI)]),(2, .Ai 207 [(1, .AK 390 [] [])]),(3, .Ai 207 [(1, .AK 189 [] [])])],4⟩ ⟨[.Ae BI, .Ae Ev, .Ae BI],[(0, .v 0 BI)],[(0, .Ai 88 [(2, .v 1 Ev)]),(1, .Ai 22 [(1, .v 2 BI)]),(2, .Ai 207 [(1, .AK 390 [] [])]),(3, .Ai 207 [(1, .AK 189 [] [])])],4⟩ 1 [] ui (la:=lk [(2,⟨[.Ae BI],(kp [2,4,6] []),[(4, .Ai 22 [(1, .AH 6)]),(6, .row 88 0)],7⟩)]) (pt:=lg [(1,[.Ex 2 0 88 Ev]),(4,[.fz 4])])
def uh(b:Nat):(Int×Int)×List (Int×Int)->Option (List (Int×Int)×(Int×Int)×List (Int×Int))|(c,d)=>Ab (ui b (c,d)) λa=>Ac (a.1,a.2.1,a.2.2)
def B158:=bP [B157] Tryz.func388 ⟨[.Ae Ev, .Ae BI],[(0, .AK 405 [] [0,1,2,3])],[(0, .Ai 88 [(2, .v 0 Ev)]),(1, .Ai 22 [(1, .v 1 BI)]),(2, .Ai 207 [(1, .AK 390 [] [])]),(3, .Ai 207 [(1, .AK 189 [] [])])],4⟩ ⟨[.Ae BI, .Ae Ev, .Ae BI],[(0, .v 0 BI)],[(0, .Ai 88 [(2, .v 1 Ev)]),(1, .Ai 22 [(1, .v 2 BI)]),(2, .Ai 207 [(1, .AK 390 [] [])]),(3, .Ai 207 [(1, .AK 189 [] [])])],4⟩ 1 [] uh
def ug(c:Nat):(List (Int×Int))×Int×Int->Option ((Int×Int)×List (Int×Int))|(a,b)=>Ac (b,a)
def B159:=bP [] Tryz.func389 ⟨[.Ae BI, .Ae Ev],[(0, .v 0 BI),(1, .v 1 Ev),(2, .AK 190 [] []),(3, .AK 391 [] [])],[],0⟩ ⟨[.Ae Ev, .Ae BI],[(0, .AK 405 [] [0,1,2,3])],[(0, .Ai 88 [(2, .v 0 Ev)]),(1, .Ai 22 [(1, .v 1 BI)]),(2, .Ai 207 [(1, .AK 391 [] [])]),(3, .Ai 207 [(1, .AK 190 [] [])])],4⟩ 1 [] ug
def uf(b:Nat)(a:Int):Option Int:=Aa .i64 (a-1)<|Ag ((10000:Int)≠0)<|Aa .i64 (kX (a-1) (10000:Int))<|iF (kX (a-1) (10000:Int)=0) (Aa .i64 (a-2)<|some ((a-2)))<|Aa .i64 (a-1)<|some (a-1)
def B160:=bQ [] Tryz.func391 [Ak] [Ak] uf
def ue(b:Nat):(Int×Int)×List (Int×Int)->Option (List (Int×Int)×Bool)|(c,e)=>Ad b (λ(a:Int×Nat) f=>iF ((a.2:Int)<e.length) (Ab (idx e a.2) λd=>Ab (uf b d.1) λg=>iF (a.1<=g) (IG ((a.1,g)) (Ac (([],Bp))) (Ab (xF b d.2) λh=>f ((h,a.2+1))))<|Ab (xF b d.2) λi=>f (i,a.2+1))<|iF (a.1<=c.2) (IG ((a.1,c.2)) (Ac (([],Bp))) (Ac (([],Bp))))<|some (([],Bp))) ((c.1,0))
def B161:=bI [B71,B160] Tryz.func405 ⟨[.Ae Ev, .Ae BI],[(0, .Am),(1, .loc 0 0),(2, .loc 1 0),(3, .loc 2 0),(4, .loc 3 0)],[(0, .Ai 88 [(2, .v 0 Ev)]),(1, .Ai 22 [(1, .v 1 BI)]),(2, .Ai 207 [(1, .AK 391 [] [])]),(3, .Ai 207 [(1, .AK 190 [] [])])],4⟩ 0 [Ev] ue (la:=lk [(2,⟨[.Ae Ak, .nat],(kp [0,1,3,4] [(6, .v 0 Ak),(13, .Am),(14, .Am),(15, .AD 1 201)]),[(3, .c 0),(2, .c 0),(0, .c 0),(1, .c 0)],5⟩)])
def uc(e:Nat):(Int×Int)×List (Int×Int)->Option (List (Int×Int)×(Int×Int)×List (Int×Int))|(a,b)=>Ab (ue e (a,b)) λc=>IB (λ(y2:Int×Int) (d:List (Int×Int)) f=>Ag (FD d+1<=Ah)<|f ((d++[y2]))) (λg=>Ra c.2<|some ((g,a,b))) (c.1) ([])
def B162:=bP [B161] Tryz.func404 ⟨[.Ae Ev, .Ae BI],[(0, .nl),(1, .AK 405 [] [0,1,2,3])],[(0, .Ai 88 [(2, .v 0 Ev)]),(1, .Ai 22 [(1, .v 1 BI)]),(2, .Ai 207 [(1, .AK 391 [] [])]),(3, .Ai 207 [(1, .AK 190 [] [])])],4⟩ ⟨[.Ae BI, .Ae Ev, .Ae BI],[(0, .v 0 BI)],[(0, .Ai 88 [(2, .v 1 Ev)]),(1, .Ai 22 [(1, .v 2 BI)]),(2, .Ai 207 [(1, .AK 391 [] [])]),(3, .Ai 207 [(1, .AK 190 [] [])])],4⟩ 1 [] uc (la:=lk [(2,⟨[.Ae BI],(kp [2,4,6] []),[(4, .Ai 22 [(1, .AH 6)]),(6, .row 88 0)],7⟩)]) (pt:=lg [(1,[.Ex 2 0 88 Ev]),(4,[.fz 4])])
def ua(b:Nat):(Int×Int)×List (Int×Int)->Option (List (Int×Int)×(Int×Int)×List (Int×Int))|(c,d)=>Ab (uc b (c,d)) λa=>Ac (a.1,a.2.1,a.2.2)
def B163:=bP [B162] Tryz.func388 ⟨[.Ae Ev, .Ae BI],[(0, .AK 405 [] [0,1,2,3])],[(0, .Ai 88 [(2, .v 0 Ev)]),(1, .Ai 22 [(1, .v 1 BI)]),(2, .Ai 207 [(1, .AK 391 [] [])]),(3, .Ai 207 [(1, .AK 190 [] [])])],4⟩ ⟨[.Ae BI, .Ae Ev, .Ae BI],[(0, .v 0 BI)],[(0, .Ai 88 [(2, .v 1 Ev)]),(1, .Ai 22 [(1, .v 2 BI)]),(2, .Ai 207 [(1, .AK 391 [] [])]),(3, .Ai 207 [(1, .AK 190 [] [])])],4⟩ 1 [] ua
def kK(a:Nat)(f:Bc):Option Bc:=Ab (WZ a f) λb=>Ab (Vf a ()) λc=>Ab (idx c.1 0) λg=>Ab (um a (b.1,g)) λd=>Ab (uh a (d.1,d.2)) λh=>Ab (idx c.2 0) λi=>Ab (ug a (b.2,i)) λe=>Ab (ua a (e.1,e.2)) λj=>Ab (WZ a (h.1,j.1)) Ac
def B164:=bQ [yN,zr,B158,B163,B154,B159] Tryz.func342 [E'] [E'] kK
def YI(e:Nat):(List (Int×Int))×List (Int×Int)->Option (List (Int×Int))|(f,g)=>Ad e (λ(d:List (Int×Int)×Nat) i=>iF ((d.2:Int)<f.length) (Ab (idx f d.2) λa=>Ad e (λ(c:List (Int×Int)×Nat) h=>iF ((c.2:Int)<g.length) (Ab (idx g c.2) λb=>Aa .i64 (if b.1>a.1 then b.1 else a.1)<|Aa .i64 (if b.2<a.2 then b.2 else a.2)<|iF ((if a.1<b.1 then b.1 else a.1)<=(if b.2<a.2 then b.2 else a.2)) (Ag (FD c.1+1<=Ah)<|h ((c.1++[((if a.1<b.1 then b.1 else a.1),(if b.2<a.2 then b.2 else a.2))]),c.2+1))<|h (c.1,c.2+1))<|i ((c.1,d.2+1))) ((d.1,0)))<|some d.1) (([],0))
def B165:=bQ [] Tryz.func387 [BI,BI] [BI] YI (la:=lk [(3,⟨[.Ae BI, .nat],[(1, .Am),(5, .AH 0),(11, .Am),(12, .Am),(13, .AD 1 301)],[(0, .row 88 0)],1⟩),(6,⟨[.Ae BI, .nat],[(1, .Am),(5, .AH 0),(7, .Am),(11, .Am),(12, .Am),(13, .Am),(17, .Am),(18, .Am),(19, .AD 1 601)],[(1, .c 0),(0, .row 88 0)],2⟩)]) (pt:=lg [(2,[.own 5 88 Ev]),(13,[.fz 4])])
def t_(a:Nat):Bc×Bc->Option Bc|(d,e)=>Ab (WZ a d) λb=>Ab (WZ a e) λc=>Ab (YI a (b.1,c.1)) λf=>Ab (YI a (b.2,c.2)) λg=>Ab (WZ a (f,g)) Ac
def B166:=bQ [yN,B165] Tryz.func341 [E',E'] [E'] t_
def YH(a:Nat):Bc×Bc->Option Bc|(b,c)=>Ab (kK a c) λd=>Ab (t_ a (b,d)) Ac
def zq:=bQ [B166,B164] Tryz.func275 [E',E'] [E'] YH
def tZ(a:Nat):Fz×Fz->Option Fz|(d,e)=>Ab (nX a d) λb=>Ab (nX a e) λc=>Ab (YJ a (b.1,c.1)) λf=>Ab (YJ a (b.2.1,c.2.1)) λg=>Ab (YJ a (b.2.2.1,c.2.2.1)) λh=>Ab (YH a (b.2.2.2.1,c.2.2.2.1)) λi=>Ab (YO a (b.2.2.2.2,c.2.2.2.2)) λj=>Ac (f,g,h,i,j)
def B168:=bP [B90,zu,B151,zq] Tryz.func254 ⟨[.Ae y8, .Ae y8],[(0, .v 0 y8),(1, .v 1 y8),(2, .AK 274 [] []),(3, .AK 275 [] []),(4, .AK 262 [] [])],[],0⟩ ⟨[.Ae y8],[(0, .v 0 y8)],[],0⟩ 1 [] tZ
def kJ(a:Nat):Fz×Fz->Option Fz|(b,c)=>Ab (tZ a (b,c)) Ac
def B169:=bQ [B168] Tryz.func222 [y8,y8] [y8] kJ
def kI(a:Nat):Fz×Fz->Option Bool|(b,c)=>Ab (kJ a (b,c)) λd=>Ab (YP a d) Ac
def B170:=bQ [uT,B169] Tryz.func157 [y8,y8] [.bool] kI
def kH(d:Nat):A5×Aq->Option Bool|(b,e)=>iF ((b.length:Int)=0) (Ac Aj)<|Ab (xL d b) λi=>iB (!i) (Ac Aj)<|Ad d (λ(a:Int×Int) j=>iF (a.2<(e.length:Int)) (Ab (idx b a.1) λg=>Ad d (λ(c:Nat) h=>iF ((c:Int)<g.2.length) (Ab (idx g.2 c) λf=>Ab (Ey e a.2) λk=>iF (f.1<=k) (Ab (Ey e a.2) λl=>iF (l<=f.2.1) (Aa .i64 (a.2+1)<|j (f.2.2,(a.2+1)))<|h (c+1))<|h (c+1))<|some Aj) (0))<|Ab (idx b a.1) λm=>Ac m.1) ((0,0))
def B171:=bQ [B37] Tryz.func73 [y3, .str] [.bool] kH (la:=lk [(5,⟨[.Ae Ak, .Ae Ak],(kp [1,2] [(5, .v 0 Ak),(20, .Am),(21, .v 1 Ak)]),[(0, .c 0)],1⟩),(8,⟨[.nat],(kp [1,2,6,20,21,29,30] [(31, .AD 0 800)]),[(0, .c 0)],1⟩)])
def Ve(b:Nat):BC×Aq->Option (AF×Int)|(a,f)=>Ad b (λ(c:Nat) h=>iF ((c:Int)<a.1.length) (Ab (idx a.1 c) λd=>iF (d.1=f) (Ac ((d.2.2,d.2.1)))<|h (c+1))<|Ad b (λ(e:Nat) i=>iF ((e:Int)<a.2.length) (Ab (idx a.2 e) λg=>Ab (kH b (g.1,f)) λj=>iB j (Ac ((g.2,3)))<|i (e+1))<|some (((Vl.mk Aj (Aj,Aj,Aj,([],[]),[]) [] [],Vl.mk Aj (Aj,Aj,Aj,([],[]),[]) [] []),3))) (0)) (0)
def zo:=bQ [B171] Tryz.func51 [BQ, .str] [BA,Ak] Ve (la:=lk [(2,⟨[.nat],(kp [1,2,4,11,12] [(13, .AD 0 200)]),[(1, .c 0),(0, .c 0)],2⟩),(8,⟨[.nat],(kp [1,4,27,28] [(29, .AD 0 800)]),[(1, .c 0)],2⟩)])
def tY(c:Nat):Bool×Bool->Option Bool|(a,b)=>iB a (Ac b)<|some Aj
def B173:=bQ [] Tryz.func269 [.bool, .bool] [.bool] tY
def x6(b:Nat):A5×A5->Option A5|(k,l)=>Ab (Q0 b k) λf=>Ab (Q0 b l) λg=>Ad b (λ(c:List (Int×Int)×A5×Nat) m=>iF ((c.2.2:Int)<c.1.length) (Ab (idx c.1 c.2.2) λd=>Ab (N2 b (f,d.1)) λn=>Ab (N2 b (g,d.2)) λo=>Ab (tY b (n,o)) λp=>Ab (N1 b (f,d.1,(lj (T8 256 Aj) 0 Bp))) λq=>Ab (N1 b (g,d.2,q)) λr=>Ad b (λ(a:List (Int×Int)×List (Int×Int×Int)×Int) h=>iF (a.2.2<256) (Ag ((0:Int)<=a.2.2/\a.2.2<(↑256:Int))<|Ab (idx r (↑(0+ao a.2.2*1):Int)) λs=>iB s (Aa .u8 a.2.2<|Aa .u8 a.2.2<|Ab (N0 b (f,d.1,a.2.2)) λt=>Aa .u8 a.2.2<|Ab (N0 b (g,d.2,a.2.2)) λu=>Ab (YT b ((t,u),a.1)) λe=>Ag (FD a.2.1+1<=Ah)<|Aa .i64 (((a.2.1++[(a.2.2,0,e.1)]).length:Int)-1)<|Aa .u8 a.2.2<|Ab (idx (a.2.1++[(a.2.2,0,e.1)]) (((a.2.1++[(a.2.2,0,e.1)]).length:Int)-1)) λi=>Aa .i64 (a.2.2+1)<|h (e.2,((a.2.1++[(a.2.2,0,e.1)]).set (ao (((a.2.1++[(a.2.2,0,e.1)]).length:Int)-1)) (i.1,a.2.2,i.2.2)),(a.2.2+1)))<|Aa .i64 ((a.2.1.length:Int)-1)<|Aa .u8 a.2.2<|Ab (idx a.2.1 ((a.2.1.length:Int)-1)) λj=>Aa .i64 (a.2.2+1)<|h (a.1,(a.2.1.set (ao ((a.2.1.length:Int)-1)) (j.1,a.2.2,j.2.2)),(a.2.2+1)))<|Ag (FD c.2.1+1<=Ah)<|m ((a.1,(c.2.1++[(p,a.2.1)]),c.2.2+1))) ((c.1,[],0)))<|Ab (nY b c.2.1) λv=>Ac v.1) (([(0,0)],[],0))
def B174:=bP [uN,B49,B173,uU,B98,uW,uV] Tryz.func258 ⟨[.Ae y3, .Ae y3],[(0, .v 0 y3),(1, .v 1 y3),(2, .AK 269 [] [])],[],0⟩ ⟨[.Ae y3],[(0, .v 0 y3)],[],0⟩ 1 [] x6 (la:=lk [(6,⟨[.Ae BI, .Ae Jd, .nat],(kp [2,3,4,6,7,8] [(9, .AH 5),(10, .AD 2 602)]),[(4, .Ai 273 [(1, .AH 3)]),(3, .row 272 0),(2, .c 0),(1, .c 0),(0, .c 0),(5, .row 119 1)],6⟩),(14,⟨[.Ae BI, .Ae Kg, .Ae Ak],(kp [2,3,4,6,7,8,9,10,11,12,13] [(54, .v 2 Ak)]),[(8, .c 0),(7, .Ai 119 [(1, .Am),(1, .AH 9)]),(6, .c 0),(5, .c 0),(4, .Ai 273 [(1, .AH 3)]),(3, .row 272 0),(2, .c 0),(1, .c 0),(0, .c 0),(9, .row 116 1)],10⟩)]) (pr:=lg [(21,[.fz 9])]) (pt:=lg [(5,[.own 9 119 Lp]),(13,[.Ex 12 1 116 Pt])])
def tX(c:Nat):A5×A5->Option A5|(a,b)=>iF ((a.length:Int)=0) (Ac [])<|iF ((b.length:Int)=0) (Ac [])<|Ab (x6 c (a,b)) Ac
def B175:=bQ [B174] Tryz.func217 [y3,y3] [y3] tX
def mK:A_:=⟨[.Ae Cc, .Ae Cc],[(0, .v 0 Cc),(1, .loc 0 0),(2, .loc 1 0)],[(0, .Ai 129 [(1, .AK 151 [] [])]),(1, .Ai 77 [(2, .v 1 Cc)])],2⟩
def lW:A_:=⟨[.Ae .bool, .Ae Cc],[(0, .v 0 .bool)],[(0, .Ai 129 [(1, .AK 151 [] [])]),(1, .Ai 77 [(2, .v 1 Cc)])],2⟩
def mI:A_:=⟨[.Ae Ek, .Ae Cc],[(0, .v 0 Ek),(1, .AK 224 [] [0,1])],[(0, .Ai 129 [(1, .AK 151 [] [])]),(1, .Ai 77 [(2, .v 1 Cc)])],2⟩
def lV:A_:=⟨[.Ae Ak, .Ae Cc],[(0, .v 0 Ak)],[(0, .Ai 129 [(1, .AK 151 [] [])]),(1, .Ai 77 [(2, .v 1 Cc)])],2⟩
def mH:A_:=⟨[.Ae Ek, .Ae Cc],[(0, .v 0 Ek),(1, .AK 224 [] [0,1])],[(0, .Ai 129 [(1, .AK 151 [] [])]),(1, .Ai 77 [(2, .v 1 Cc)])],2⟩
def lU:A_:=⟨[.Ae .bool, .Ae Cc],[(0, .v 0 .bool)],[(0, .Ai 129 [(1, .AK 151 [] [])]),(1, .Ai 77 [(2, .v 1 Cc)])],2⟩
def mG:A_:=⟨[.Ae Ek, .Ae Ek],[(0, .v 0 Ek),(1, .v 1 Ek),(2, .AK 151 [] [])],[],0⟩
def lT:A_:=⟨[.Ae .bool],[(0, .v 0 .bool)],[],0⟩
def mF:A_:=⟨[.Ae BQ, .Ae BQ],[(0, .v 0 BQ),(1, .loc 0 0),(2, .loc 1 0)],[(0, .Ai 132 [(1, .AK 154 [] [])]),(1, .Ai 65 [(2, .v 1 BQ)])],2⟩
def lS:A_:=⟨[.Ae .bool, .Ae BQ],[(0, .v 0 .bool)],[(0, .Ai 132 [(1, .AK 154 [] [])]),(1, .Ai 65 [(2, .v 1 BQ)])],2⟩
def mE:A_:=⟨[.Ae Ej, .Ae BQ],[(0, .v 0 Ej),(1, .AK 226 [] [0,1])],[(0, .Ai 132 [(1, .AK 154 [] [])]),(1, .Ai 65 [(2, .v 1 BQ)])],2⟩
def lR:A_:=⟨[.Ae Ak, .Ae BQ],[(0, .v 0 Ak)],[(0, .Ai 132 [(1, .AK 154 [] [])]),(1, .Ai 65 [(2, .v 1 BQ)])],2⟩
def mD:A_:=⟨[.Ae Ej, .Ae BQ],[(0, .v 0 Ej),(1, .AK 226 [] [0,1])],[(0, .Ai 132 [(1, .AK 154 [] [])]),(1, .Ai 65 [(2, .v 1 BQ)])],2⟩
def lQ:A_:=⟨[.Ae .bool, .Ae BQ],[(0, .v 0 .bool)],[(0, .Ai 132 [(1, .AK 154 [] [])]),(1, .Ai 65 [(2, .v 1 BQ)])],2⟩
def mA:A_:=⟨[.Ae Ej, .Ae Ej],[(0, .v 0 Ej),(1, .v 1 Ej),(2, .AK 154 [] [])],[],0⟩
def lP:A_:=⟨[.Ae .bool],[(0, .v 0 .bool)],[],0⟩
abbrev nS:Type:=G6 224 mK lW 1 []×G6 276 mI lV 1 []×G6 223 mH lU 1 []×G6 158 mG lT 1 []×Gn 154 [BQ,BQ] [.bool]×G6 226 mF lS 1 []×G6 277 mE lR 1 []×G6 225 mD lQ 1 []×G6 159 mA lP 1 []×Gn 110 [BD,BD] [.bool]×Gn 214 [BA,BA] [.bool]×Gn 151 [Cc,Cc] [.bool]
def I9(n:Nat):nS:=Nat.rec (motive:=λ_=>nS) (tP Tryz.func224,tP Tryz.func276,tP Tryz.func223,tP Tryz.func158,tQ Tryz.func154,tP Tryz.func226,tP Tryz.func277,tP Tryz.func225,tP Tryz.func159,tQ Tryz.func110,tQ Tryz.func214,tQ Tryz.func151) (λfu ⟨g0,g1,g2,g3,g4,g5,g6,g7,g8,g9,g10,g11⟩=>(sP [Dd g11] fu Tryz.func224 mK lW 1 [],sP [C3 g0] fu Tryz.func276 mI lV 1 [] (la:=lk [(2,⟨[.Ae Cc, .nat],(kp [0,1,7] [(8, .AD 1 201)]),[(1, .Ai 77 [(2, .v 0 Cc)]),(0, .Ai 129 [(1, .AK 151 [] [])])],2⟩)]),sP [C3 g1] fu Tryz.func223 mH lU 1 [],sP [C3 g2] fu Tryz.func158 mG lT 1 [] (la:=lk [(2,⟨[.nat],(kp [1,5,9,10] [(11, .AD 0 200)]),[(0, .Ai 129 [(1, .AK 151 [] [])])],1⟩)]),sQ (Dd g10::bs [zo,B175] fu) fu Tryz.func154 [BQ,BQ] [.bool] (la:=lk [(2,⟨[.nat],(kp [2,3,28,29] [(30, .AD 0 200)]),[(2, .c 0),(1, .c 0),(0, .c 0)],3⟩),(5,⟨[.nat],(kp [2,3,28,29,30,34,35] [(36, .AD 0 500)]),[(2, .c 0),(1, .c 0),(0, .c 0)],3⟩),(14,⟨[.nat],(kp [3,66,67] [(68, .AD 0 1400)]),[(1, .c 0)],3⟩),(17,⟨[.nat],(kp [3,14,66,67,68,73,74] [(75, .AD 0 1700)]),[(3, .c 0),(1, .c 0)],4⟩)]),sP [Dd g4] fu Tryz.func226 mF lS 1 [],sP [C3 g5] fu Tryz.func277 mE lR 1 [] (la:=lk [(2,⟨[.Ae BQ, .nat],(kp [0,1,7] [(8, .AD 1 201)]),[(1, .Ai 65 [(2, .v 0 BQ)]),(0, .Ai 132 [(1, .AK 154 [] [])])],2⟩)]),sP [C3 g6] fu Tryz.func225 mD lQ 1 [],sP [C3 g7] fu Tryz.func159 mA lP 1 [] (la:=lk [(2,⟨[.nat],(kp [1,5,9,10] [(11, .AD 0 200)]),[(0, .Ai 132 [(1, .AK 154 [] [])])],1⟩)]),sQ (C3 g3::C3 g8::bs [uS,B170] fu) fu Tryz.func110 [BD,BD] [.bool],sQ [Dd g9] fu Tryz.func214 [BA,BA] [.bool],sQ (Dd g10::bs [B150] fu) fu Tryz.func151 [Cc,Cc] [.bool] (la:=lk [(5,⟨[.nat],(kp [2,3,41,42] [(43, .AD 0 500)]),[(1, .c 0),(0, .c 0)],2⟩)]))) n
abbrev kG(fu:Nat)(x:BO×BO):Option (Bool×BO):=(I9 fu).1.1 x
abbrev kF(fu:Nat)(x:(List BO)×BO):Option (Int×BO):=(I9 fu).2.1.1 x
abbrev kE(fu:Nat)(x:(List BO)×BO):Option (Bool×BO):=(I9 fu).2.2.1.1 x
abbrev kD(fu:Nat)(x:(List BO)×(List BO)):Option Bool:=(I9 fu).2.2.2.1.1 x
def B180(fu:Nat):=Dd (I9 fu).2.2.2.2.1
abbrev Vd(fu:Nat)(x:BC×BC):Option Bool:=(I9 fu).2.2.2.2.1.1 x
abbrev kC(fu:Nat)(x:BC×BC):Option (Bool×BC):=(I9 fu).2.2.2.2.2.1.1 x
abbrev kB(fu:Nat)(x:(List BC)×BC):Option (Int×BC):=(I9 fu).2.2.2.2.2.2.1.1 x
abbrev kA(fu:Nat)(x:(List BC)×BC):Option (Bool×BC):=(I9 fu).2.2.2.2.2.2.2.1.1 x
abbrev kx(fu:Nat)(x:(List BC)×(List BC)):Option Bool:=(I9 fu).2.2.2.2.2.2.2.2.1.1 x
def B185(fu:Nat):=Dd (I9 fu).2.2.2.2.2.2.2.2.2.1
abbrev TG(fu:Nat)(x:(Vl)×(Vl)):Option Bool:=(I9 fu).2.2.2.2.2.2.2.2.2.1.1 x
abbrev LC(fu:Nat)(x:AF×AF):Option Bool:=(I9 fu).2.2.2.2.2.2.2.2.2.2.1.1 x
def B187(fu:Nat):=Dd (I9 fu).2.2.2.2.2.2.2.2.2.2.2
abbrev Vc(fu:Nat)(x:BO×BO):Option Bool:=(I9 fu).2.2.2.2.2.2.2.2.2.2.2.1 x
def D179(b:Nat)(c:BO)(a:BO):Option (Bool×BO):=Ab (Vc b (a,c)) λd=>Ac (d,a)
theorem d179(fu x0 x1):kG (fu+1) (x0,x1)=D179 fu x0 x1:=by kernel_rfl
def D180(c:Nat)(d:List BO)(e:BO):Option (Int×BO):=Ad c (λ(a:BO×Nat) f=>iF ((a.2:Int)<d.length) (Ab (idx d a.2) λg=>Ab (kG c (g,a.1)) λb=>iB b.1 (Ac (((a.2:Int),b.2)))<|f (b.2,a.2+1))<|some (((-1:Int),a.1))) ((e,0))
theorem d180(fu x0 x1):kF (fu+1) (x0,x1)=D180 fu x0 x1:=by kernel_rfl
def D181(b:Nat)(c:List BO)(d:BO):Option (Bool×BO):=Ab (kF b (c,d)) λa=>Ac (Dl ((0:Int)<=a.1),a.2)
theorem d181(fu x0 x1):kE (fu+1) (x0,x1)=D181 fu x0 x1:=by kernel_rfl
def D182(b:Nat)(c:List BO)(d:List BO):Option Bool:=Ad b (λ(a:Nat) e=>iF ((a:Int)<c.length) (Ab (idx c a) λf=>Ab (kE b (d,f)) λg=>iB (!g.1) (Ac Aj)<|e (a+1))<|some Bp) (0)
theorem d182(fu x0 x1):kD (fu+1) (x0,x1)=D182 fu x0 x1:=by kernel_rfl
end
end
end Go.GV
