/- Part 2 of the texts of this claim: what its theorem leans on. -/
import Derived.Test.YtejdlmphkeeekaaGreatDoorZClosingClosed1
import Derived.Lib.AppendZerosOnto
import Derived.Laws.Runes
import Derived.ArgAppend
import Derived.Laws.IdiomStrings
import Derived.Laws.CopyRow
import Derived.RangeFuncRecord
import Derived.Laws.Strings2
set_option linter.all false
open Option renaming some→Ac,none→Dc
open Bool renaming false→Ak,true→Br
open Go renaming Value→Ce,Operand→Er,TypeId→Gn,Program→GO,World→IK,execOp→Kr,Oper→K5,IntKind→Lm
open Decidable renaming decide→Ds
open List renaming length→FB,replicate→T9,take_of_length_le→rC,drop_drop→xI
open Nat renaming beq→Hg,eq_of_beq_eq_true→aP,blt→aT,ble→iJ
open Go.Op renaming operands→Z8,equalIn→lj,equal→rY,maxDepth→Alu
open Go.Call renaming operands→gj
open Go.Result renaming andThen→iT,andThen_ok→nt
open Go.Instr renaming fill→nF,sliceAt→sO
open Go.Builtin renaming zeroCells→nJ,copy_→wM,firstCells→w8
open Go.Sem renaming run_bind→oO
open Go.Addr renaming add_lit→rD,add→xX
open Go renaming sizeOf→r_
namespace Go.GV
open Go Go.GK
section
variable{off:Nat}
theorem W4(off:Nat)(l:List Ce):∀(k:Nat) (acc:Array Ce),(l.zipIdx k).foldl (λcs (p:Ce×Nat)=>cs.setIfInBounds (off+p.2) p.1) acc=(l.zipIdx (off+k)).foldl (λcs (p:Ce×Nat)=>cs.setIfInBounds p.2 p.1) acc:=by
 induction l with
 |nil=>simp
 |cons v l b=>
  grind[List.zipIdx_cons,Nat.add_assoc]
theorem fE{cs:Array Ce}{v:Array Ce}(h:off+v.size<=cs.size):(v.zipIdx.foldl (λcs (x:Ce×Nat)=>match x with|(c,j)=>cs.setIfInBounds (off+j) c) cs)=(CF cs.toList off v.toList).toArray:=by
 have g:(v.zipIdx.foldl (λcs (x:Ce×Nat)=>match x with|(c,j)=>cs.setIfInBounds (off+j) c) cs)=((v.toList.zipIdx 0).foldl (λcs (p:Ce×Nat)=>cs.setIfInBounds (off+p.2) p.1) cs):=by grind[Array.toList_zipIdx]
 rw[g,W4];apply Array.ext_getElem?;intro i;rw[XU];simp only[Nat.add_zero,Ahc,List.getElem?_toArray];unfold CF;have k:(cs.toList.take off).length=off:=by grind
 by_cases e:i<off;· grind
 ·by_cases f:i<off+v.size;· rw[if_pos ⟨by omega,f,by omega⟩,Aak,Aac (by omega),k,Aaa (by simp;omega)]
  ·rw[if_neg (by omega),Aac (by simp;omega),Aft];have:off+v.toList.length+(i-(cs.toList.take off++v.toList).length)=i:=by simp;omega
   rw[this];simp
theorem KA{place:Nat->Option (Nat×Nat)}{cells:Array Ce}{i size:Nat}{v:Ce}{a:List (Nat×Ce)}(d:place i=Ac (off,size))(e:v.cells.size=size)(c:off+v.cells.size<=cells.size):nF place cells ((i,v)::a)=nF place (CF cells.toList off v.cells.toList).toArray a:=by
 have:(v.cells.size≠size||decide (off+v.cells.size>cells.size))=Ak:=by grind
 simp only[nF,d];rw[this];simp only[Aco,if_false];rw[fE c]
theorem JL{a:Act} :∀ps:List (Nat×Er),YY (EV a) ps=Ac (ps.map λp=>(p.1,a.eval p.2))
 | []=>rfl
 |(i,x)::r=>by simp only[YY,EV,JL r,Aat]
end
section
variable {N : Df} {R : Type} {P : GO} {C : List (SV N.T)} {S : Nat -> SV N.T} {Rr : Nat -> Option (SR N.T)} {nk : Nat} {o : K5} {k : Bt N.T -> Nat -> Option R} {r : R}
section
variable{η:Nat->Ce}{H:Hp}{t:Gn}
def SJ(P:GO)(C:List (SV N.T))(S:Nat->SV N.T)(place:Nat->Option (Nat×Nat×Gn)):List (Nat×Er)->SV N.T->Option (SV N.T)
 | [],l=>Ac l
 |(i,x)::b,l=>match place i with
  |some (off,size,t)=>match iJ off (R8 l),fP C l off (wC P t (Av S x))with
   |true,Ac (a,n)=>match Hg n size with
    |true=>SJ P C S place b a
    |false=>Dc
   |_,_=>Dc
  |none=>Dc
theorem MZ{place:Nat->Option (Nat×Nat×Gn)}{η:Nat->Ce}{H:Hp}{a:Act} :∀ {ps:List (Nat×Er)} {l d:SV N.T} {cs:List Ce},SJ P C S place ps l=Ac d->l.is C η H (.agg cs.toArray)->(∀p∈ps,(Av S p.2).is C η H (a.eval p.2))->
  ∃cs':List Ce,nF (λi=>(place i).map λq=>(q.1,q.2.1)) cs.toArray (ps.map λp=>(p.1,a.eval p.2))=Ac cs'.toArray/\d.is C η H (.agg cs'.toArray)
 | [],l,d,cs,h,c,_=>by cases h;exact⟨cs,rfl,c⟩
 |(i,x)::ps,l,d,cs,h,c,m=>by
  unfold SJ at h;split at h
  ·rename_i off size t j;split at h
   ·rename_i A n f b;split at h;· rename_i v;have e:=AI v;subst e;obtain⟨w,y,z,B⟩:=VE b (Aam (Aay f) (R4 c)) (Ui (m (i,x) (by simp))) c;subst z;obtain⟨cs',s,u⟩:=MZ h w λp g=>m p (by simp[g]);refine⟨cs',?_,u⟩;rw[Aat,KA (off:=off) (size:=(a.eval x).cells.toList.length) (by simp[j]) (by simp) (by simpa using y)];omega
    grind
   grind
  grind
def wE:SV N.T->Bool
 | .lf _ a l=>match a with
  | .raw (.slice Dc 0 0)=>Br
  | .AE _=>Br
  |_=>wE l
 |_=>Ak
def vy(P:GO)(C:List (SV N.T))(t:Gn)(l:SV N.T):SV N.T:=match L6 N P t with
 |some a=>match a.agg with
  |true=>match wE l,KL N C 64 a l with
   |false,Ac (x, .nl)=> .d a x
   |_,_=>l
  |false=>l
 |none=>l
theorem dq{l:SV N.T}{cs:List Ce}(h:l.is C η H (.agg cs.toArray)):(vy P C t l).is C η H (.agg cs.toArray):=by
 unfold vy;split
 ·split
  ·rename_i d;split
   ·rename_i x _ f;obtain⟨g,b,e,c,a⟩:=EL f h;have a:Ce.agg b.toArray= .agg #[]:=a;have a:b=[]:=by simpa using a
    subst a;rw[Adf]at e;subst e;refine⟨cs,c,?_⟩;unfold CU;rw[d]
   trivial
  omega
 omega
def vo(P:GO)(fs:List Field)(i:Nat):Option (Nat×Nat×Gn):=match fs[i]? with
 |some f=>match P.info? f.type with
  |some a=>Ac (f.offset,a.size,f.type)
  |none=>Dc
 |none=>Dc
def sw(
     P:GO) (C:List (SV N.T)) (S:Nat->SV N.T) (nk:Nat) (t:Gn) (ps:List (Nat×Er)) (k:Bt N.T->Nat->Option R):Option R:=match P.info? t with
 |some c=>
       match c.zero with
  |some z=>match eV N P 64 [t] z.cells.toList with
   |some d=>match P.underlying t with
    |some (.struct f)=>match(placesOf P t).isSome,SJ P C S (vo P f.toList) ps d with
     |true,Ac l=>match EY (vy P C t l)with
      |true=>k ⟨vy P C t l,[],[]⟩ nk
      |false=>Dc
     |_,_=>Dc
    |some (.array _ e)=>match P.info? e with
     |some b=>match b.zero.isSome,SJ P C S (λi=>Ac (i*b.size,b.size,e)) ps d with
      |true,Ac l=>match EY (vy P C t l)with
       |true=>k ⟨vy P C t l,[],[]⟩ nk
       |false=>Dc
      |_,_=>Dc
     |none=>Dc
    |_=>Dc
   |none=>Dc
  |none=>Dc
 |none=>Dc
theorem Mw:∀(l:List Field) (ps:List (Nat×Nat)),(l.mapM λf=>(P.info? f.type).map λi=>(f.offset,i.size))=Ac ps->∀i,ps[i]?=(vo P l i).map λq=>(q.1,q.2.1)
 | [],ps,h,i=>by grind[vo]
 |f::l,ps,h,i=>by
  cases a:P.info? f.type with
  |none=>grind
  |some c=>
   cases b:(l.mapM λf=>(P.info? f.type).map λi=>(f.offset,i.size))with
   |none=>grind
   |some d=>
    simp[a,b]at h;subst h;cases i with
    |zero=>grind[vo]
    |succ i=>
     have:=Mw l d b i;simpa [vo]using this
theorem pP{ps:List (Nat×Er)}(D:o.op= .build t ps.toArray)(h:sw P C S nk t ps k=Ac r):A1 P C S Rr nk o k r:=by
 have m:∀ {η:Nat->Ce} {H:Hp} {a:Act},(∀x∈o.op.operands,(Av S x).is C η H (a.eval x))->∀p∈ps,(Av S p.2).is C η H (a.eval p.2):=λs p I=>s p.2 (by grind[Z8]);unfold sw at h;split at h
 ·rename_i g G;split at h
  ·rename_i z J;split at h
   ·rename_i Q j;have n:TI P t g.size g.bytes z:=⟨g,G,rfl,rfl,J⟩;split at h
    ·rename_i F E;split at h
     ·rename_i l b B;split at h;· rename_i d;refine .y h (Abu λη H O a s _=>?_) λ_ _=>DE d;have f:=J8 (C:=C) (η:=η) (H:=H) j;obtain⟨u,v,w⟩:=MZ (a:=a) B f (m s);obtain⟨L,b⟩:=Abk.1 b;refine⟨.agg u.toArray,?_,dq w⟩;rw[D];refine Akh (vcs:=_) (zs:=z.cells) b n rfl (JL ps) rfl ?_;rw[<-fill_eq];unfold placesOf at b;rw[E]at b;have e:(λi=>L[i]?)=λi=>(vo P F.toList i).map λq=>(q.1,q.2.1):=funext λi=>Mw _ _ b i;rw[e];simpa using v
      ·cases h
     ·cases h
    ·rename_i len e E;split at h
     ·rename_i K A;split at h
      ·rename_i l c B;split at h;· rename_i d;refine .y h (Abu λη H O a s _=>?_) λ_ _=>DE d;have f:=J8 (C:=C) (η:=η) (H:=H) j;obtain⟨u,v,w⟩:=MZ (a:=a) B f (m s);obtain⟨M,c⟩:=Abk.1 c;refine⟨.agg u.toArray,?_,dq w⟩;rw[D];refine Aq.se (zs:=z.cells) E n ⟨K,A,rfl,rfl,c⟩ rfl (JL ps) ?_;simpa using v
       ·cases h
      ·cases h
     ·cases h
    trivial
   grind
  grind
 grind
def fk(C:List (SV N.T)):Nat->SV N.T->Nat->Option (SV N.T)
 |0,_,_=>Dc
 |b+1,l,n=>match Hg n 0 with
  |true=>Ac .nl
  |false=>match l with
   | .lf s a r=>match iJ s n with
    |true=>(fk C b r (n-s)).map (.lf s (res C a))
    |false=>Dc
   |_=>Dc
theorem Vp{η:Nat->Ce}{H:Hp} :∀ {fu:Nat} {l r:SV N.T} {n:Nat} {cs:List Ce},fk C fu l n=Ac r->l.is C η H (.agg cs.toArray)->r.is C η H (.agg (cs.take n).toArray)/\n<=cs.length
 |0,_,_,_,_,h,_=>by cases h
 |fu+1,l,r,n,cs,h,m=>by
  unfold fk at h;split at h;· rename_i c;have:=AI c;cases h;simp_all[Aeb,ah,Abg]
  ·split at h
   ·split at h;· rename_i c;obtain⟨x,f,rfl⟩:=Pd.1 h;have c:=Aay c;obtain⟨t,v,u,rfl,e,g,d,i,j⟩:=FC m;obtain⟨p,w⟩:=Vp f j;grind[K_,EU,List.take_append,rC]
    grind
   grind
def xU(P:GO)(t:Gn):Bool:=match P.underlying t with
 |some d=>DP d
 |none=>Ak
def qy(P:GO)(C:List (SV N.T))(nk:Nat)(b off:Nat)(l:SV N.T)(t:Gn)(k:Bt N.T->Nat->Option R):Option R:=match P.underlying t,P.info? t with
 |some d,Ac c=>match DP d&&c.zero.isSome,SO N 64 l off with
  |true,Ac e=>match fk C 64 e c.size with
   |some (.lf s a f)=>k ⟨.lf s a f,[b],[]⟩ nk
   |_=>Dc
  |_,_=>Dc
 |_,_=>Dc
def gH(P:GO)(C:List (SV N.T))(S:Nat->SV N.T)(Rr:Nat->Option (SR N.T))(nk:Nat)(t:Gn)(x:Er)(k:Bt N.T->Nat->Option R):Option R:=match Av S x with
 | .loc b off=>match Rr b with
  |some (.Af _ l)=>match xU P t with
   |false=>wO P C S Rr nk t x k
   |true=>match E0 N C l off (L6 N P t)with
    |some (.d _ _)=>wO P C S Rr nk t x k
    |_=>qy P C nk b off l t k
  |_=>Dc
 |_=>wO P C S Rr nk t x k
theorem Z2{x:Er}(j:o.op= .load t x)(v:∃τ,Nr Rr S τ)(h:gH P C S Rr nk t x k=Ac r):A1 P C S Rr nk o k r:=by
 have D:∀ {η:Nat->Ce} {H:Hp} {a:Act},(∀x∈o.op.operands,(Av S x).is C η H (a.eval x))->(Av S x).is C η H (a.eval x):=λE=>E x (by grind[Z8]);unfold gH at h;split at h
 ·rename_i b off Z;split at h
  ·rename_i g l U;have u:qy P C nk b off l t k=Ac r->A1 P C S Rr nk o k r:=λh=>by
    unfold qy at h;split at h
    ·rename_i d c V W;split at h
     ·rename_i l1 F w;split at h
      ·rename_i s a l2 A;rw[AS]at F;obtain⟨z,G⟩:=Abk.1 F.2;refine .y h (Abu λη H O J E Y=>?_) λ_ _=>trivial;obtain⟨B,K,L⟩:(SV.loc b off:SV N.T).is C η H (J.eval x):=by rw[<-Z];exact D E
       rcases Y b (by simp) _ U with e|⟨X,i,Q,I,cs,p,M,T⟩;· cases e
       rw[K]at p;have p:B=I:=by simpa [ptr]using p
       subst p;subst M;obtain⟨k1,k2⟩:=M4 (cs:=cs.toList) w T;obtain⟨k3,k4⟩:=Vp A k1;have f:((cs.toList.drop off).take c.size).length=c.size:=by rw[Abh];exact Aeh k4
       refine⟨.agg ((cs.toList.drop off).take c.size).toArray,?_,k3⟩;rw[j];exact Ajc V F.1 (by rw[f];exact⟨c,W,rf,rf,G⟩) (congrArg Ac L) Q (by rw[f])
      trivial
     grind
    grind
   grind[nh]
  grind
 grind[nh]
end
end
section
variable{Y:List (Nat×Aw)}{k:Nat}{r:Aw}{b j a:Nat}
def Js(Y:List (Nat×Aw))(k a:Nat)(r:Aw):List (Nat×Aw):=Y.map λp=>match Hg p.1 k with
 |true=>(a,r)
 |false=>p
theorem ak(Y:List (Nat×Aw))(k a:Nat)(r:Aw):(Js Y k a r).map (·.2)=(Ih Y k r).map (·.2):=by grind[Js,Ih,List.map_map,List.map_congr_left]
theorem On(h:j∈keys (Js Y k b r)):j=b\/(j∈keys Y/\j≠k):=by
 unfold keys Js at h;rw[Aaj]at h;obtain⟨p,c,e⟩:=By.1 h;simp only[Function.comp]at e;cases a:Hg p.1 k with
 |true=>grind
 |false=>rw[a]at e;subst e;exact .inr ⟨By.2 ⟨p,c,rfl⟩,Abe a⟩
theorem gy(c:(keys Y).Nodup)(i:b∉keys Y):(keys (Js Y k b r)).Nodup:=by
 induction Y with
 |nil=>exact c
 |cons p Y d=>
  obtain⟨q,y⟩:=p;simp only[keys,Aat,Aba,Aao,not_or]at c i;have d:=d c.2 i.2;have tail:∀j,j∈keys (Js Y k b r)->j=b->k∈keys Y:=λj g e=>by
   unfold keys Js at g;rw[Aaj]at g;obtain⟨p,l,m⟩:=By.1 g;cases f:Hg p.1 k with
   |true=>rw[<-AI f];exact By.2 ⟨p,l,rfl⟩
   |false=>grind
  show(keys ((match Hg q k with|true=>(b,r)|false=>(q,y))::Js Y k b r)).Nodup;cases f:Hg q k with
  |true=>
   have:=AI f;subst this;exact Aba.2 ⟨λh=>c.1 (tail _ h rfl),d⟩
  |false=>
   refine Aba.2 ⟨λh=>?_,d⟩;rcases On h with e|⟨e,_⟩;· grind
   ·exact c.1 e
theorem ao{x:Aw}(h:Ax Y k=Ac x)(b:a∉keys Y):Ax (Js Y k a r) a=Ac r:=by
 induction Y with
 |nil=>cases h
 |cons p Y d=>
  obtain⟨q,y⟩:=p;simp only[keys,Aat,Aao,not_or]at b;simp only[Ax]at h;show Ax ((match Hg q k with|true=>(a,r)|false=>(q,y))::Js Y k a r) a=Ac r;cases c:Hg q k with
  |true=>grind[CM]
  |false=>
   rw[c]at h;rw[A3 (λe=>b.1 e.symm)];exact d h b.2
theorem gx(h1:j≠k)(h2:j≠a):Ax (Js Y k a r) j=Ax Y j:=by
 induction Y with
 |nil=>rfl
 |cons p Y c=>
  obtain⟨q,y⟩:=p;show Ax ((match Hg q k with|true=>(a,r)|false=>(q,y))::Js Y k a r) j=Ax ((q,y)::Y) j;cases b:Hg q k with
  |true=>
   have:=AI b;subst this;simp_all[A3,Ne.symm]
  |false=>
   grind[Ax,Js,Hg]
end
section
variable {N : Df} {R : Type} {P : GO} {C : List (SV N.T)} {S : Nat -> SV N.T} {Rr : Nat -> Option (SR N.T)} {nk : Nat} {o : K5} {k : Bt N.T -> Nat -> Option R} {r : R}
section
variable{H:Hp}{t:Gn}{O:List Aw}{a:Act}{T:Gn}{x:Er}{e:Gn}{E:Er->Option Ce}{q:Er}{n:Nat}{op:Op}{X:Ce->Hp->List Aw->Prop}{s:Er}{η:Nat->Ce}{p:Er}
theorem Ahq{sv:SV N.T}{E:List Nat}{k f:Nat}{q F:SR N.T}(X:Rr k=Ac q)(h0:q≠ .gone)(l:Rr f=Dc)
  (h:∀(η:Nat->Ce) (H:Hp) (O:List Aw) (a:Act) (x:Aw) (i:Nat),(∀x∈o.op.operands,(Av S x).is C η H (a.eval x))->O[i]?=Ac x->q.is C η H k x->(∀k∈E,∀g,Rr k=Ac g->g= .gone\/∃(x:Aw) (i:Nat),O[i]?=Ac x/\g.is C η H k x)->
   BP P o.op o.type (EV a) H O (λv s A=>s=H/\∃p b,A=O.set i p/\F.is C (Ez η f b) H f p/\sv.is C (Ez η f b) H v)):
  Ao P C S Rr o ⟨sv,E,[(f,F),(k, .gone)]⟩:=by
 intro η H t a w Y y hs hi hx D d K Q V;have m:=d f (by simp[keys]) l;rcases D k (.inr (by simp[keys])) q X with e|⟨x,B,M⟩;· grind
 obtain⟨i,T,U⟩:=Jj t y B;refine h η H (Y.map (·.2)++t) a x i hx T M (λj c g z=>(D j (.inl c) g z).imp id λ⟨x,q1,q2⟩=>by obtain⟨i,q3,_⟩:=Jj t y q1;grind) a w o K Q rfl rfl (λx u e=>by grind) hs λv w' s A Z ⟨G,p,b,I,J,L⟩ n=>?_;subst G;subst I;rw[U,<-ak Y k f]at n;refine V v w' s (Ez η f b) (Js Y k f p) (Hp.le.refl _) (λj c=>EH λe=>?_) (λj c=>gx (λe=>c (by subst e;simp[keys])) (λe=>c (by subst e;simp[keys]))) (λj g c=>?_) (gy y m) (λj c=>?_) n L;· subst e;exact c l (by simp[keys])
 ·simp only[Ax]at c;split at c;· rename_i W;have:=AI W;subst this;cases c;exact .inr ⟨p,ao B m,J⟩
  ·split at c;· cases c;exact .inl rfl
   trivial
 ·rcases On c with e|⟨e,_⟩;· subst e;exact .inr (by simp[keys])
  ·exact .inl e
theorem A1.mov{sv:SV N.T}{a:List Nat}{b:Nat}{f c:SR N.T}(h:k ⟨sv,a,[(nk,c),(b, .gone)]⟩ (nk+1)=Ac r)(h0:Rr b=Ac f)(d:Ao P C S Rr o ⟨sv,a,[(nk,c),(b, .gone)]⟩)(e:∀τ Rr,D' τ Rr sv):A1 P C S Rr nk o k r:=
 ⟨_,nk+1,h,d,Agu _,λj g i=>(by grind[keys]),λτ _=>e τ _⟩
def Nb(P:GO)(e:Gn):Nat:=match P.info? e with
 |some a=>match iJ a.bytes 64 with
  |true=>Aj
  |false=>4294967296
 |none=>4294967296
def Di(P:GO)(e:Gn)(n:Nat):Bool:=match P.info? e with
 |some a=>match a.zero with
  |some z=>(Hg a.size n&&Hg z.cells.size n)&&(iJ a.bytes 16384&&(aT 0 n&&iJ n 16777216))
  |none=>Ak
 |none=>Ak
theorem Ed{e:Nat}(h:Di P e n=Br):∃bytes z,TI P e n bytes z/\z.cells.size=n/\0<n/\(∀m,m<=Nb P e->m<=Aj/\m*bytes<=70368744177664)/\n<=16777216:=by
 unfold Di at h;split at h
 ·rename_i a d;split at h
  ·rename_i z j;simp only[AS]at h;obtain⟨⟨f,g⟩,c,l,p⟩:=h;refine⟨a.bytes,z,⟨a,d,AI f,rfl,j⟩,AI g,by simp_all,λm b=>?_,by simp_all⟩;unfold Nb at b;rw[d]at b;simp only at b;have c:a.bytes<=16384:=Aay c;split at b;· rename_i i;have:=Abv b (Aay i);grind
   ·have:=Abv b c;grind
  grind
 grind
theorem BP.II{size:Nat}(h:BP P op T E H (.row (.slice Dc 0 0) e size 0 []::O) X):BP P op T E H O X:=
 λa w o next Q d b c f k=>h a w o next Q d b c (f.II e size) k
theorem BP.emp(h:BP P op T E H (.emp::O) X):BP P op T E H O X:=
 λa w o next Q f c e g k=>h a w o next Q f c e (g.push (IK.grownBy.refl w Dc) trivial (λb d=>by cases d)) k
def Xh(S:Nat->SV N.T)(Rr:Nat->Option (SR N.T))(b:Ty)(x:Er):Option (List (b.den N.T)×List Nat):=match Av S x with
 | .AE j=>match Rr j with
  |some (.row _ t2 a)=>(Qr N.T (.sl t2) (.sl b)).map λf=>(f a,[j])
  |_=>Dc
 | .d (.sl t2) a=>(Qr N.T (.sl t2) (.sl b)).map λf=>(f a,[])
 |_=>Dc
theorem LD{d:Ty}{s:List (d.den N.T)}{y:List Nat}(h:Xh S Rr d x=Ac (s,y))(m:(Av S x).is C η H (a.eval x))(G:∀k∈y,∀t,Rr k=Ac t->t= .gone\/∃(x:Aw) (i:Nat),O[i]?=Ac x/\t.is C η H k x):
  ∃ys,A2 (N.c d) H s ys/\∀w,SH w H O->GK.Src w (a.eval x) (d.sz N) s.length ys:=by
 unfold Xh at h;split at h
 ·rename_i j b;rw[b]at m;split at h
  ·rename_i g t2 l F;obtain⟨f,q,e⟩:=Pd.1 h;cases e;obtain⟨p,rfl⟩:=BB q;have A:=Adj p;have n:t2=d:=by grind
   subst n;rcases G j (by simp) _ F with e|⟨X,i,c,ys,z,E⟩;· grind
   subst z;rw[<-m.1]at c;exact⟨ys,E,λw b=>b.oL c⟩
  grind
 ·rename_i t2 l b;rw[b]at m;obtain⟨f,q,e⟩:=Pd.1 h;cases e;obtain⟨p,rfl⟩:=BB q;have A:=Adj p;have n:t2=d:=by grind
  subst n;obtain⟨J,c,D⟩:=m;subst D;obtain⟨v,I,c⟩:∃v,[a.eval x]=[v]/\G5 (N.c t2) H l v:=c;cases I;obtain⟨⟨ys,u,B⟩,_⟩:=c;rw[Bp]at u;exact⟨ys,B,λw b=>b.TY u⟩
 grind
def sM(P:GO)(S:Nat->SV N.T)(Rr:Nat->Option (SR N.T))(nk:Nat)(s x:Er)(t:Gn)(k:Bt N.T->Nat->Option R):Option R:=match P.underlying t with
 |some (.slice e)=>match Av S s with
  | .AE b=>match Rr b with
   |some (.row g a l)=>match Hg g e&&Di P e (a.sz N),Xh S Rr a x with
    |true,Ac (c,f)=>Ah (l.length+c.length<=Nb P e) (k ⟨.AE nk,f,[(nk, .row g a (l++c)),(b, .gone)]⟩ (nk+1))
    |_,_=>Dc
   |_=>Dc
  | .raw (.slice Dc 0 0)=>match L6 N P e with
   |some a=>match Di P e (a.sz N),Xh S Rr a x with
    |true,Ac (c,f)=>Ah (([]:List (a.den N.T)).length+c.length<=Nb P e) (k ⟨.AE nk,f,[(nk, .row e a ([]++c))]⟩ (nk+1))
    |_,_=>Dc
   |none=>Dc
  |_=>Dc
 |_=>Dc
theorem QN{b:Ty}{l f:List (b.den N.T)}{xs ys:List Ce}{i:Nat}{v:Ce}(ht:P.underlying t=Ac (.slice e))(p:Di P e (b.sz N)=Br)(y:a.eval s=v)
  (hi:O[i]?=Ac (.row v e (b.sz N) l.length xs)) (D:A2 (N.c b) H l xs) (A:A2 (N.c b) H f ys) (d:∀w,SH w H O->GK.Src w (a.eval x) (b.sz N) f.length ys) (hc:l.length+f.length<=Nb P e):
  BP P (.call {callee:= .builtin .append,args:= #[s,x],argTypes:= #[t,t]}) T (EV a) H O (λv' j m=>(j=H/\m=O.set i (.row v' e (b.sz N) (l++f).length (xs++ys)))/\v'.oneCell'=Br):=by
 obtain⟨bytes,z,B,h,n,q,_⟩:=Ed p;obtain⟨hc,u⟩:=q _ hc;refine Aga i ((BP.append ht B h n (congrArg Ac y) rfl hi d A.one (by omega) (by grind)).mono ?_) ?_;all_goals grind
theorem pV(I:o.op= .call {callee:= .builtin .append,args:= #[s,x],argTypes:= #[t,t]})(G:∀j,nk<=j->Rr j=Dc)(h:sM P S Rr nk s x t k=Ac r):A1 P C S Rr nk o k r:=by
 have q:∀ {η:Nat->Ce} {H:Hp} {a:Act},(∀x∈o.op.operands,(Av S x).is C η H (a.eval x))->(Av S s).is C η H (a.eval s):=λf=>f s (by grind[Z8,gj]);have u:∀ {η:Nat->Ce} {H:Hp} {a:Act},(∀x∈o.op.operands,(Av S x).is C η H (a.eval x))->(Av S x).is C η H (a.eval x):=λf=>f x (by simp_all[Z8,gj]);unfold sM at h;split at h
 ·rename_i e J;split at h
  ·rename_i b v;split at h
   ·rename_i g K l F;split at h;· rename_i Z rd p d;replace h:=AG h;obtain⟨hc,h⟩:=h;rw[AS]at p;have T:=AI p.1;subst T;refine .mov h F (Ahq F (by simp) (G nk (Aaf _)) λη H O a X i f V W B=>?_) λ_ _=>trivial;obtain⟨xs,U,E⟩:=W;subst U;have y:=q f;rw[v]at y;obtain⟨L,z,m⟩:=LD d (u f) B;rw[I];refine(QN J p.2 y.1 V E z m hc).mono ?_;rintro D M Q ⟨⟨rfl,rfl⟩,A⟩;exact⟨rfl,_,D,rfl,⟨_,by rw[AD],E.app z⟩,by rw[AD],A⟩
    grind
   grind
  ·rename_i v;split at h
   ·rename_i K Y;split at h
    ·rename_i Z rd p d;replace h:=AG h;obtain⟨hc,h⟩:=h;refine .new h (Afe (G nk (Aaf _)) λη H O a f B=>?_) λ_ _=>trivial;have y:=q f;rw[v]at y;obtain⟨L,z,m⟩:=LD d (u f) B;rw[I];refine BP.II ((QN (i:=0) (l:=[]) (xs:=[]) J p y rfl rfl z (λw v=>m w ?_) hc).mono ?_);· have:=v.nG 1;simpa using this
     ·rintro D M Q ⟨⟨rfl,rfl⟩,A⟩;exact⟨rfl,_,D,rfl,⟨[]++L,by rw[AD],A2.app (c:=N.c K) (l:=[]) (xs:=[]) rfl z⟩,by rw[AD],A⟩
    ·cases h
   trivial
  grind
 grind
theorem au{c:Ty}{x:c.den N.T}{kl n:Lm}{m bytes:Nat}{z:Ce}(ht:P.underlying t=Ac (.slice e))(I:TI P e (c.sz N) bytes z)(h:∀m,m<=Nb P e->m<=Aj/\m*bytes<=70368744177664)(h0:0<c.sz N)(V:a.eval p= .int kl (m:Int))(hc:a.eval q= .int n (m:Int))
  (l:m<=Nb P e) (j:(N.c c).BS H x z.cells.toList):
  BP P (.makeSlice t p q) T (EV a) H O (λv s y=>(s=H/\∃xs,y= .row v e (c.sz N) (T9 m x).length xs::O/\A2 (N.c c) H (T9 m x) xs)/\v.oneCell'=Br):=by
 refine Aga 0 (.Ap λM w o W _ U G=>?_) ?_
 ·obtain⟨i,F,A,Q,B⟩:=I.ex;obtain⟨l,E⟩:=h _ l;obtain⟨L,X,J,K⟩:=run_make_full (P:=P) (w:=w) 0 t e i z (c.sz N) ht F B A kl n m (by grind) (by simp only[maxLen,Aj]at*;omega) (Abg _);have D:A2 (N.c c) H (T9 m x) (madeCells z.cells (m*c.sz N)).toList:=by
   grind[Ahr,Bp]
  refine⟨_,L,H,_,?_,Hp.le.refl H,⟨rf,_,by rw[Aff],D⟩,G.push (r:= .row (.slice (Ac ⟨w.heap.size,0,Dc⟩) m m) e (c.sz N) m (madeCells z.cells (m*c.sz N)).toList) K J (λb h=>by grind[Aw.has,Ce.ownBlock])⟩;simp_all[Kr]
 grind
def natI(y:Int)(k:Nat->Option R):Option R:=Ah (0<=y) (k y.toNat)
def gw(s:SV N.T)(k:Nat->Option R):Option R:=match s with
 | .na n| .ct _ n| .cb _ n=>k n
 | .raw (.int _ (.ofNat n))=>k n
 | .d (.int _) y=>natI y k
 |_=>Dc
theorem Om{s:SV N.T}{c:Nat->Option R}(h:gw s c=Ac r):∃n,c n=Ac r/\∀ {η:Nat->Ce} {H:Hp} {v:Ce},s.is C η H v->∃b,v= .int b (n:Int):=by
 unfold gw at h;split at h;· exact⟨_,h,λa=>⟨_,a.1⟩⟩
 ·exact⟨_,h,λa=>⟨_,a.1⟩⟩
 ·exact⟨_,h,λa=>⟨_,a.1⟩⟩
 ·exact⟨_,h,λa=>⟨_,a⟩⟩
 ·rename_i b y;obtain⟨g,f⟩:=AG (p:=(0:Int)<=(show Int from y)) h;refine⟨_,f,λa=>⟨b,?_⟩⟩;have e:=AU (C:=C) (s:= .d (.int b) y) rfl a;grind
 grind
def mkK(P:GO)(S:Nat->SV N.T)(nk:Nat)(t:Gn)(p q:Er)(k:Bt N.T->Nat->Option R):Option R:=match P.underlying t with
 |some (.slice e)=>match L6 N P e,P.info? e with
  |some b,Ac a=>match a.zero with
   |some z=>match parse N 16 b z.cells.toList,Di P e (b.sz N),sameO p q with
    |some (x,[]),Br,Br=>gw (Av S p) λm=>Ah (m<=Nb P e) (k ⟨.AE nk,[],[(nk, .row e b (T9 m x))]⟩ (nk+1))
    |_,_,_=>Dc
   |none=>Dc
  |_,_=>Dc
 |_=>Dc
 where
 sameO:Er->Er->Bool
  | .tmp i, .tmp j=>Hg i j
  | .const (.int _ i), .const (.int _ j)=>match i,j with
   | .ofNat i, .ofNat j=>Hg i j
   |_,_=>Ak
  |_,_=>Ak
theorem wu(T:o.op= .makeSlice t p q)(L:∀j,nk<=j->Rr j=Dc)(h:mkK P S nk t p q k=Ac r):A1 P C S Rr nk o k r:=by
 have i:∀ {η:Nat->Ce} {H:Hp} {a:Act},(∀x∈o.op.operands,(Av S x).is C η H (a.eval x))->(Av S p).is C η H (a.eval p):=λs=>s p (by grind[Z8]);unfold mkK at h;split at h
 ·rename_i e U;split at h
  ·rename_i te u V M;split at h
   ·rename_i z W;split at h
    ·rename_i x l I b;obtain⟨m,h,Q⟩:=Om (C:=C) h;replace h:=AG h;obtain⟨hc,h⟩:=h;obtain⟨bytes,z',f,_,E,K,_⟩:=Ed I;refine .new h (Afe (L nk (Aaf _)) λη H O a s hr=>?_) λ_ _=>trivial;obtain⟨Y,n⟩:=Q (i s);have c:∃g,a.eval q= .int g (m:Int):=by
      unfold mkK.sameO at b;split at b;· have:=AI b;subst this;exact⟨Y,n⟩
      ·split at b;· have:=AI b;subst this;injection n with h1 F;exact⟨_,by show Ce.int _ _=_;rw[F]⟩
       ·cases b
      grind
     obtain⟨g,c⟩:=c;obtain⟨X,y,g1,g2,A⟩:=f.ex;have B:X=u:=by rw[M]at y;exact(Abs y).symm
     subst B;have D:z'=z:=by rw[W]at A;exact(Abs A).symm
     subst D;obtain⟨pre,w,d⟩:=CL (H:=H) l;rw[Adf]at w;rw[T];refine(au U f K E n c hc (by rw[w];exact d)).mono ?_;rintro v H' O' ⟨⟨rfl,Z,rfl,J⟩,G⟩;exact⟨rfl,_,v,rfl,⟨Z,by rw[AD],J⟩,by rw[AD],G⟩
    grind
   grind
  grind
 grind
def iC(C:List (SV N.T))(S:Nat->SV N.T)(a:Ty):Nat->List (Nat×Er)->Option (List (a.den N.T))
 |_,[]=>Ac []
 |i,(j,x)::ps=>match Hg i j,TM C a (Av S x),iC C S a (i+1) ps with
  |true,Ac y,Ac l=>Ac (y::l)
  |_,_,_=>Dc
theorem Wm{f:Ty}{n:Nat}(g:f.sz N=n){η:Nat->Ce}{H:Hp}{a:Act} :∀ {ps:List (Nat×Er)} {i:Nat} {l:List (f.den N.T)} {cs:List Ce},iC C S f i ps=Ac l->(∀p∈ps,(Av S p.2).is C η H (a.eval p.2))->cs.length=(i+ps.length)*n->
  ∃xs,nF (λi=>Ac (i*n,n)) cs.toArray (ps.map λp=>(p.1,a.eval p.2))=Ac (cs.take (i*n)++xs).toArray/\A2 (N.c f) H l xs/\l.length=ps.length
 | [],i,l,cs,h,_,hc=>by cases h;refine⟨[],?_,rfl,rfl⟩;grind[nF]
 |(j,x)::ps,i,l,cs,h,m,hc=>by
  unfold iC at h;split at h
  ·rename_i y F v D w;cases h;have e:=AI v;subst e;obtain⟨q,E⟩:=CZ (DO D (m (i,x) (by simp)));have b:=Bh q;rw[g]at b;simp only[Abo]at hc;have z:i*n+n<=cs.length:=by grind
   have B:(CF cs (i*n) (a.eval x).cells.toList).length=(i+1+ps.length)*n:=by grind[CF]
   obtain⟨xs,s,t,u⟩:=Wm g w (λp A=>m p (by grind)) B;refine⟨(a.eval x).cells.toList++xs,?_,⟨_,xs,rfl,q,t⟩,by simp[u]⟩;rw[Aat,KA (off:=i*n) (size:=n) rfl (by simpa using b) (by simp at b⊢;omega)];rw[s];rw[<-Aak];unfold CF;rw[Acf (by simp[b,Adx];omega),Abl (by simp[b,Adx];omega)]
  grind
def bsK(P:GO)(C:List (SV N.T))(S:Nat->SV N.T)(nk:Nat)(t:Gn)(len:Nat)(ps:List (Nat×Er))(k:Bt N.T->Nat->Option R):Option R:=match P.underlying t with
 |some (.slice e)=>match L6 N P e with
  |some a=>match Di P e (a.sz N),Hg ps.length len&&(aT 0 len&&iJ (len*a.sz N) 16777216),iC C S a 0 ps with
   |true,Br,Ac l=>k ⟨.AE nk,[],[(nk, .row e a l)]⟩ (nk+1)
   |_,_,_=>Dc
  |none=>Dc
 |_=>Dc
theorem wy{len:Nat}{ps:List (Nat×Er)}(U:o.op= .buildSlice t len ps.toArray)(Q:∀j,nk<=j->Rr j=Dc)(h:bsK P C S nk t len ps k=Ac r):A1 P C S Rr nk o k r:=by
 have n:∀ {η:Nat->Ce} {H:Hp} {a:Act},(∀x∈o.op.operands,(Av S x).is C η H (a.eval x))->∀p∈ps,(Av S p.2).is C η H (a.eval p.2):=λs p Y=>s p.2 (by grind[Z8]);unfold bsK at h;split at h
 ·rename_i e V;split at h
  ·rename_i w W;split at h
   ·rename_i l L f T;simp only[AS]at f;obtain⟨g,m,M⟩:=f;have I:=AI g;subst I;obtain⟨bytes,z,q,X,J,f,_⟩:=Ed L;refine .new h (Afe (Q nk (Aaf _)) λη H O a s Z=>?_) λ_ _=>trivial;have b:(((Array.range (ps.length*w.sz N)).map (z.cells[· %z.cells.size]!)).toList:List Ce).length=(0+ps.length)*w.sz N:=by simp
    obtain⟨E,y,A,B⟩:=Wm (C:=C) (η:=η) (H:=H) (a:=a) rfl T (n s) b;rw[Aen,Aeb,Aci,Array.toArray_toList]at y;have u:=A.len;rw[Bp,B]at u;rw[U];refine BP.emp ((Aga 0 (Ajr (ρ:=λ_=>undef) (i:=0) 0 V q rfl (by omega) (by simpa using Nat.mul_pos (by simpa using m) J) (JL ps) y (by omega) rfl) ?_).mono ?_);· rintro v F G ⟨rfl,rfl,D⟩;refine⟨e,w.sz N,ps.length,E,?_⟩;rfl
    ·rintro v F G ⟨⟨rfl,rfl,D⟩,K⟩;rw[D];exact⟨rfl,_,v,rfl,⟨E,by rw[AD,B],A⟩,by rw[AD],K⟩
   grind
  grind
 grind
def rK(P:GO)(S:Nat->SV N.T)(Rr:Nat->Option (SR N.T))(nk:Nat)(t:Gn)(x y:Er)(k:Bt N.T->Nat->Option R):Option R:=match P.underlying t,Av S x with
 |some (.slice e), .AE b=>match Rr b,intOf (Av S y)with
  |some (.row g a l),Ac (_,h)=>match Hg g e&&Di P e (a.sz N)with
   |true=>Ah (0<=h/\h<=((l.length:Nat):Int)) (k ⟨.AE nk,[],[(nk, .row g a (l.take h.toNat)),(b, .gone)]⟩ (nk+1))
   |false=>Dc
  |_,_=>Dc
 |_,_=>Dc
theorem pJ{y:Er}(Q:o.op= .slice t x Dc (Ac y) Dc)(K:∀j,nk<=j->Rr j=Dc)(h:rK P S Rr nk t x y k=Ac r):A1 P C S Rr nk o k r:=by
 have p:∀ {η:Nat->Ce} {H:Hp} {a:Act},(∀x∈o.op.operands,(Av S x).is C η H (a.eval x))->(Av S x).is C η H (a.eval x):=λd=>d x (by grind[Z8]);have q:∀ {η:Nat->Ce} {H:Hp} {a:Act},(∀x∈o.op.operands,(Av S x).is C η H (a.eval x))->(Av S y).is C η H (a.eval y):=λd=>d y (by grind[Z8]);unfold rK at h;split at h
 ·rename_i e b U T;split at h
  ·rename_i g te l ik L u M;split at h
   ·rename_i m;replace h:=AG h;obtain⟨hc,h⟩:=h;rw[AS]at m;have D:=AI m.1;subst D;obtain⟨bytes,z,V,Y,h0,J,_⟩:=Ed m.2;refine .mov h u (Ahq u (by simp) (K nk (Aaf _)) λη H O a X i d f F hr=>?_) λ_ _=>trivial;obtain⟨xs,E,I⟩:=F;subst E;have v:=p d;rw[T]at v;have W:=AU (C:=C) M (q d);rw[<-v.1,<-Bp]at f;have n:i<O.length:=(No.1 f).1;rw[Q];refine(Aga i (Ajs (c:=N.c te) (l:=l) U (by rw[Bp];omega) rfl (congrArg Ac W) f hc) ?_).mono ?_;· rintro w A B ⟨rfl,rfl⟩;exact⟨_,_,_,_,by rw[List.getElem?_set_self n]⟩
    ·rintro w A B ⟨⟨rfl,rfl⟩,G⟩;have s:=I.take L.toNat;refine⟨rfl,_,w,rfl,⟨_,by rw[AD,Bp,Abh,Aeh (by omega)],?_⟩,by rw[AD],G⟩;rw[Bp]at s;exact s
   grind
  grind
 grind
end
end
section
variable {N : Df} {R : Type} {P : GO} {C : List (SV N.T)} {S : Nat -> SV N.T} {Rr : Nat -> Option (SR N.T)} {nk : Nat} {o : K5} {k : Bt N.T -> Nat -> Option R} {r : R}
section
variable{t tn:Gn}{x p q:Er}
theorem di{e:Gn}{T:Gn}{a:Act}{d:Ty}{x:d.den N.T}{kn A:Lm}{m bytes:Nat}{z:Ce}{H:Hp}{O:List Aw}(ht:P.underlying t=Ac (.slice e))(y:P.underlying tn=Ac (.int kn))(hz:TI P e (d.sz N) bytes z)(j:z.cells.size=d.sz N)(Z:m+1<=Aj)(G:(m+1)*bytes<=140737488355328)
  (h0:0<d.sz N) (hp:a.eval p= .slice Dc 0 0) (hq:a.eval q= .int A ((m+1:Nat):Int)) (h:(N.c d).BS H x z.cells.toList):
  BP P (.call {callee:= .builtin .append,args:= #[p,q],argTypes:= #[t,tn]}) T (EV a) H O (λv B D=>(B=H/\∃xs,D= .row v e (d.sz N) (T9 (m+1) x).length xs::O/\A2 (N.c d) H (T9 (m+1) x) xs)/\v.oneCell'=Br):=by
 refine Aga 0 (.Ap λE w o ho W I hs=>?_) ?_
 ·obtain⟨i,Y,g1,F,M⟩:=hz.ex;have J:=Go.Lib.run_append_grow_zeros (P:=P) w t tn T e i z A kn ht y Y M Dc 0 0 [] (by rfl) (m+1) (by omega) (by omega) (by omega) (by grind) (by grind) (by grind[Builtin.nextslicecap]);have V:A2 (N.c d) H (T9 (m+1) x) (madeCells z.cells ((m+1)*d.sz N)).toList:=by
   grind[Ahr,Bp]
  have L:nJ z.cells (m+1)=madeCells z.cells ((m+1)*d.sz N):=by simp_all[nJ,madeCells]
  have s:=grownCap_ge w (0+(m+1)) 0 e;have u:=grownCap_le_maxLen w (0+(m+1)) 0 e (by simp only[maxLen,Aj]at*;omega);have X:w.grownBy (w.drew.alloc (.cells (([]:List Ce).toArray++nJ z.cells (m+1)++nJ z.cells (grownCap w (0+(m+1)) 0 e-(0+(m+1)))) e)) Dc:=by have:=IK.grownBy_alloc w.drew (.cells (([]:List Ce).toArray++nJ z.cells (m+1)++nJ z.cells (grownCap w (0+(m+1)) 0 e-(0+(m+1)))) e) Dc;exact⟨this.os,this.tape,this.output,this.size,this.block⟩
  refine⟨.slice (Ac ⟨w.heap.size,0,Dc⟩) (0+(m+1)) (grownCap w (0+(m+1)) 0 e),_,H,_,?_,Hp.le.refl H,⟨rf,_,by rw[Aff],V⟩,hs.push (r:= .row (.slice (Ac ⟨w.heap.size,0,Dc⟩) (0+(m+1)) (grownCap w (0+(m+1)) 0 e)) e (d.sz N) (m+1) (madeCells z.cells ((m+1)*d.sz N)).toList) X ?_ (λb G=>by simp[Aw.has,Ce.ownBlock]at G;omega)⟩;· have Q:E.eval p= .slice Dc 0 0:=I p _ (congrArg Ac hp);have U:E.eval q= .int A ((m+1:Nat):Int):=I q _ (congrArg Ac hq);simp only[Kr,ho,resolve,invoke,builtin];simp[Q,U,resolve,invoke,builtin,W]at J⊢;rw[J];rfl
  ·refine⟨by simp[size_madeCells], .inr ⟨w.heap.size,grownCap w (0+(m+1)) 0 e,([]:List Ce).toArray++nJ z.cells (m+1)++nJ z.cells (grownCap w (0+(m+1)) 0 e-(0+(m+1))),by rw[Abm],Abg _,(by show(w.heap.push _)[w.heap.size]?=_;simp),by omega,u,?_,?_⟩⟩;· simp[size_zeroCells,j];rw[<-Adk];congr 1;rw[Abm]at s;omega
   ·rw[L];simp[Adt,size_madeCells]
 grind
def sH(
     P:GO) (S:Nat->SV N.T) (nk:Nat) (p q:Er) (t tn:Gn) (k:Bt N.T->Nat->Option R):Option R:=match P.underlying t,P.underlying tn,Av S p with
 |some (
     .slice e),Ac (.int _), .raw (.slice Dc 0 0)=>match L6 N P e,P.info? e with
  |some b,Ac a=>match a.zero with
   |some z=>match parse N 16 b z.cells.toList,Di P e (b.sz N)with
    |some (x,[]),Br=>gw (Av S q) λm=>match m with
     |0=>Dc
     |m+1=>Ah (m+1<=Nb P e) (k ⟨.AE nk,[],[(nk, .row e b (T9 (m+1) x))]⟩ (nk+1))
    |_,_=>Dc
   |none=>Dc
  |_,_=>Dc
 |_,_,_=>Dc
theorem pS(l:o.op= .call {callee:= .builtin .append,args:= #[p,q],argTypes:= #[t,tn]})(T:∀j,nk<=j->Rr j=Dc)(h:sH P S nk p q t tn k=Ac r):A1 P C S Rr nk o k r:=by
 have n:∀ {η:Nat->Ce} {H:Hp} {a:Act},(∀x∈o.op.operands,(Av S x).is C η H (a.eval x))->(Av S p).is C η H (a.eval p):=λd=>d p (by grind[Z8,gj]);have s:∀ {η:Nat->Ce} {H:Hp} {a:Act},(∀x∈o.op.operands,(Av S x).is C η H (a.eval x))->(Av S q).is C η H (a.eval q):=λd=>d q (by simp_all[Z8,gj]);unfold sH at h;split at h
 ·rename_i e kn X w W;split at h
  ·rename_i te A Y U;split at h
   ·rename_i z hz;split at h
    ·rename_i x u K;obtain⟨m,h,V⟩:=Om (C:=C) h;split at h;· cases h
     ·replace h:=AG h;obtain⟨hc,h⟩:=h;obtain⟨bytes,z',g,y,I,M,_⟩:=Ed K;obtain⟨i,Q⟩:=M _ hc;refine .new h (Afe (T nk (Aaf _)) λη H O a d hr=>?_) λ_ _=>trivial;obtain⟨ik,Z⟩:=V (s d);have b:=n d;rw[W]at b;obtain⟨i',D,g1,g2,E⟩:=g.ex;have F:i'=A:=by rw[U]at D;exact(Abs D).symm
      subst F;have G:z'=z:=by rw[hz]at E;exact(Abs E).symm
      subst G;obtain⟨pre,B,f⟩:=CL (H:=H) u;rw[Adf]at B;rw[l];refine(di X w g y i (by omega) I b Z (by rw[B];exact f)).mono ?_;rintro v H' O' ⟨⟨rfl,xs,rfl,L⟩,J⟩;exact⟨rfl,_,v,rfl,⟨xs,by rw[AD],L⟩,by rw[AD],J⟩
    trivial
   grind
  grind
 grind
def rL(P:GO)(S:Nat->SV N.T)(nk:Nat)(x:Er)(t:Gn)(k:Bt N.T->Nat->Option R):Option R:=match P.underlying t,Av S x with
 |some (.slice _), .raw (.slice Dc 0 0)=>k ⟨.na 0,[],[]⟩ nk
 |_,_=>Dc
theorem pK(f:o.op= .call {callee:= .builtin .cap,args:= #[x],argTypes:= #[t]})(h:rL P S nk x t k=Ac r):A1 P C S Rr nk o k r:=by
 unfold rL at h;split at h;· rename_i e j i;refine .y h (Abu λη H O a l _=>?_) λ_ _=>trivial;have c:=l x (by grind[Z8,gj]);rw[i]at c;refine⟨.int .i64 ((0:Nat):Int),?_,rfl,Abg _⟩;rw[f];refine Aq.Ap λm w n d _ g _=>?_;have:=g x _ (congrArg Ac c);simp[Kr,d,this,resolve,invoke,builtin,Builtin.cap_,AY j,goInt]
 grind
def rJ(P:GO)(S:Nat->SV N.T)(nk:Nat)(t:Gn)(x y:Er)(k:Bt N.T->Nat->Option R):Option R:=match P.underlying t,Av S x,Av S y with
 |some (.slice e), .raw (.slice Dc 0 0), .na 0=>match(P.info? e).isSome with
  |true=>k ⟨.raw (.slice Dc 0 0),[],[]⟩ nk
  |false=>Dc
 |_,_,_=>Dc
theorem ga{y:Er}(f:o.op= .slice t x Dc (Ac y) Dc)(h:rJ P S nk t x y k=Ac r):A1 P C S Rr nk o k r:=by
 unfold rJ at h;split at h
 ·rename_i e p n q;split at h;· rename_i d;obtain⟨s,d⟩:=Abk.1 d;refine .y h (Abu λη H O a j _=>?_) λ_ _=>trivial;have b:=j x (by grind[Z8]);have c:=j y (by rw[f];simp[Z8]);rw[n]at b;rw[q]at c;have c:a.eval y= .int .i64 ((0:Nat):Int):=c.1;refine⟨.slice Dc 0 0,?_,rfl⟩;rw[f];refine Aq.Ap λu w v g _ i _=>?_;have l:=i x _ (congrArg Ac b);have m:=i y _ (congrArg Ac c);simp[Kr,g,l,m,sO,Instr.slice,Instr.sliceBounds,Instr.sliceBound,AY p,sizeOf,typeInfo,d,asIntOf,asInt]
  grind
 grind
end
end
section
variable {N : Df} {R : Type} {P : GO} {C : List (SV N.T)} {S : Nat -> SV N.T} {Rr : Nat -> Option (SR N.T)} {nk : Nat} {o : K5} {k : Bt N.T -> Nat -> Option R} {r : R}
section
variable{t:Gn}{x:Er}{e:Gn}{H:Hp}{a:Option Addr}{n:Nat}{T:Gn}{O:List Aw}{size bytes:Nat}{z:Ce}{cap:Nat}{kh km:Lm}{h m:Int}{s:Er}{d:Gn}{E:Er->Option Ce}
theorem fF{kl:Lm}{l:Int}(ht:P.underlying t=Ac (.slice e))(d:TI P e size bytes z)(h0:0<=l)(h1:l<=h)(h2:h<=m)(h3:m<=(cap:Nat))(w:IK):
  (sO t (.slice a n cap) (Ac (.int kl l)) (Ac (.int kh h)) (Ac (.int km m))).run P w= .ok (sliced a l.toNat h.toNat m.toNat size) w:=by
 have b:=Qs ht;have c:(r_ (P.elem t)).run P w= .ok size w:=by rw[Qt ht];exact d.sizeOf
 grind[iT,run_sliceAt_slice,run_slice_lhm]
theorem fG(ht:P.underlying t=Ac (.slice e))(d:TI P e size bytes z)(h0:0<=h)(h2:h<=m)(h3:m<=(cap:Nat))(w:IK):
  (sO t (.slice a n cap) Dc (Ac (.int kh h)) (Ac (.int km m))).run P w= .ok (sliced a 0 h.toNat m.toNat size) w:=by
 have b:=Qs ht;have c:(r_ (P.elem t)).run P w= .ok size w:=by rw[Qt ht];exact d.sizeOf
 grind[iT,run_sliceAt_slice,run_slice_hm]
def ca(P:GO)(S:Nat->SV N.T)(Rr:Nat->Option (SR N.T))(nk:Nat)(t:Gn)(x:Er)(lo:Option Er)(hi f:Er)(k:Bt N.T->Nat->Option R):Option R:=match P.underlying t,intOf (Av S hi),intOf (Av S f)with
 |some (.slice e),Ac (_,h),Ac (_,m)=>match lo,Av S x with
  |some lo, .AE b=>match Rr b,intOf (Av S lo)with
   |some (.row g c l),Ac (_,a)=>match Hg g e&&Di P e (c.sz N)with
    |true=>Ah ((0<=a/\a<h)/\(h=m/\m<=((l.length:Nat):Int))) (k ⟨.px [b] (.sub a.toNat (h-a).toNat c),[b],[]⟩ nk)
    |false=>Dc
   |_,_=>Dc
  |none, .d (.sl c) l=>match Di P e (c.sz N)with
   |true=>Ah (h=((FB (show List (c.den N.T)from l):Nat):Int)/\m=h) (k ⟨.px [] (.dx c l),[],[]⟩ nk)
   |false=>Dc
  |_,_=>Dc
 |_,_,_=>Dc
theorem gf{lo:Option Er}{hi V:Er}(ho:o.op= .slice t x lo (Ac hi) (Ac V))(h:ca P S Rr nk t x lo hi V k=Ac r):A1 P C S Rr nk o k r:=by
 have f:∀ {η:Nat->Ce} {H:Hp} {a:Act} {y:Er},y=x\/y=hi\/y=V\/Ac y=lo->(∀x∈o.op.operands,(Av S x).is C η H (a.eval x))->(Av S y).is C η H (a.eval y):=λ{η H a y} Z s=>s y (by
  rw[ho];cases lo with
  |none=>rcases Z with rfl|rfl|rfl|Z<;>first|(cases Z)|simp[Z8]
  |some z=>rcases Z with rfl|rfl|rfl|Z<;>first|grind[Z8]|simp[Z8]);unfold ca at h;split at h;case h_2=>grind
 rename_i e kh q km mm ht hhi hmx;split at h
 ·rename_i lo b hs;split at h
  ·rename_i g J l ka A hb hlo;split at h
   ·rename_i hI;obtain⟨⟨⟨W,c2⟩,c3,c4⟩,h⟩:=AG h;rw[AS]at hI;obtain⟨bytes,z,U,hzs,M,hbb,_⟩:=Ed hI.2;refine .y h (λη H Of a w Y hn' T hinv s G hfr K Q hK=>?_) λτ _=>trivial;rcases G b (.inl (by simp)) _ hb with e|⟨X,h1,xs,e3,hL⟩;· grind
    subst e3;obtain⟨i,h2,_⟩:=Jj Of hn' h1;have e1:a.eval x=η b:=by
     have:(SV.AE b:SV N.T).is C η H (a.eval x):=by grind
     exact this.1
    have L:=AU hhi (f (.inr (.inl rfl)) s);have e3:=AU hmx (f (.inr (.inr (.inl rfl))) s);have e4:=AU hlo (f (.inr (.inr (.inr rfl))) s);obtain⟨d,c,e5,hle⟩:∃d c,η b= .slice (Ac d) l.length c/\l.length<=c:=by
     rcases(T.IH h2).1 with⟨_,M⟩|⟨d,c,e,hc⟩;· omega
     grind
    have hop:Aq P o.op o.type (EV a) H (Y.map (·.2)++Of) (.slice (Ac (d.add (A.toNat*J.sz N))) (q-A).toNat (q-A).toNat):= .Ap λE w o B _ F _=>by
     have G:=fF (a:=Ac d) (n:=l.length) (cap:=c) (kl:=ka) (kh:=kh) (km:=km) ht U W (by omega:A<=q) (by omega:q<=mm) (by omega) w;have hsl:sliced (Ac d) A.toNat q.toNat mm.toNat (J.sz N)= .slice (Ac (d.add (A.toNat*J.sz N))) (q-A).toNat (q-A).toNat:=by unfold sliced;rw[if_neg (by omega)];simp only[Adn,Ce.slice.injEq,true_and];omega
     rw[hsl]at G;have I:E.eval x= .slice (Ac d) l.length c:=F x _ (congrArg Ac (e1.trans e5));have q2:E.eval hi= .int kh q:=F hi _ (congrArg Ac L);have q3:E.eval V= .int km mm:=F V _ (congrArg Ac e3);have q4:E.eval lo= .int ka A:=F lo _ (congrArg Ac e4);rw[ho]at B;simp[Kr,B,I,q2,q3,q4,G]
    refine Aeu (hop a w o rfl rfl (λx u e=>by simpa using e) T) T λw' hw'=>?_;refine hK _ w' H η Y (Hp.le.refl H) (λ_ _=>rfl) (λ_ _=>rfl) (λk sr h=>by cases h) hn' (λk hk=> .inl hk) hw' ⟨d,l.length,c,?_,by omega,rfl⟩;grind
   grind
  grind
 ·rename_i J l hs;split at h
  ·rename_i hI;obtain⟨⟨W,c2⟩,h⟩:=AG h;obtain⟨bytes,z,U,hzs,M,hbb,_⟩:=Ed hI;refine .y h (Abu λη H O a s _=>?_) λ_ _=>trivial;obtain⟨cs,⟨v,rfl,hv⟩,L⟩:(SV.d (.sl J) l:SV N.T).is C η H (a.eval x):=by rw[<-hs];exact f (.inl rfl) s
   have L:[v]=[a.eval x]:=L;cases L;have L:=AU hhi (f (.inr (.inl rfl)) s);have e3:=AU hmx (f (.inr (.inr (.inl rfl))) s);obtain⟨d,c,e5,hle⟩:∃d c,a.eval x= .slice d l.length c/\l.length<=c:=by
    rcases hv.sl with⟨e,M⟩|⟨d,c,e,hc⟩;· exact⟨Dc,0,by rw[e,M],by omega⟩
    ·exact⟨Ac d,c,e,hc⟩
   obtain⟨p,hv',e6⟩:∃p,G5 (N.c J) H l (.slice p l.length l.length)/\sliced d 0 l.length l.length (J.sz N)= .slice p l.length l.length:=by
    obtain⟨⟨xs,I,q2⟩,q3⟩:=hv;rw[e5]at I;refine⟨d,⟨⟨xs,⟨I.len,?_,?_⟩,q2⟩,q3⟩,?_⟩
    ·rcases I.sl with⟨e,M⟩|⟨a',c',e,hc⟩;· left;injection e with e _ _;exact⟨by rw[e,M],M⟩
     ·right;injection e with e _ e';exact⟨a',l.length,by rw[e],Aaf _⟩
    ·intro j u hj;have:=I.cells j u hj;cases d<;>exact this
    ·unfold sliced;cases d with
     |none=>simp
     |some d=>
      simp only[Adn,Aen,Nat.sub_zero];have:d.add 0=d:=Iz d;rw[this];simp
   refine⟨.slice p l.length l.length,?_,⟨p,rf⟩,[_],⟨_,rf,hv'⟩,rf⟩;rw[ho];refine .Ap λE w o B _ F _=>?_;have G:=fG (a:=d) (n:=l.length) (cap:=c) (kh:=kh) (km:=km) (h:=q) (m:=mm) ht U (by omega) (by omega) (by rw[c2,W];exact_mod_cast hle) w;rw[c2,W]at G;rw[show((l.length:Nat):Int).toNat=l.length from rfl,e6]at G;have I:E.eval x= .slice d l.length c:=F x _ (congrArg Ac e5);have q2:E.eval hi= .int kh q:=F hi _ (congrArg Ac L);have q3:E.eval V= .int km mm:=F V _ (congrArg Ac e3);rw[W]at q2;rw[c2,W]at q3;simp[Kr,B,I,q2,q3,G]
  ·cases h
 grind
def qP(P:GO)(S:Nat->SV N.T)(Rr:Nat->Option (SR N.T))(nk:Nat)(t:Gn)(x y:Er)(k:Bt N.T->Nat->Option R):Option R:=match P.underlying t,intOf (Av S y),Av S x with
 |some (.slice e),Ac (_,j), .px [b] (.sub i m c)=>match Rr b with
  |some (.row _ a l)=>match Ps P e (c.sz N)&&c.JM a with
   |true=>Ah (0<=j/\j<(m:Int)) (Ab (idx l ((i:Int)+j)) λz=>k ⟨.Ee b ((i:Int)+j) 0 a z,[b],[]⟩ nk)
   |false=>Dc
  |_=>Dc
 |_,_,_=>Dc
theorem pD{y:Er}(u:o.op= .indexAddr t x y)(h:qP P S Rr nk t x y k=Ac r):A1 P C S Rr nk o k r:=by
 have v:∀ {η:Nat->Ce} {H:Hp} {a:Act},(∀x∈o.op.operands,(Av S x).is C η H (a.eval x))->(Av S x).is C η H (a.eval x):=λd=>d x (by grind[Z8]);have w:∀ {η:Nat->Ce} {H:Hp} {a:Act},(∀x∈o.op.operands,(Av S x).is C η H (a.eval x))->(Av S y).is C η H (a.eval y):=λd=>d y (by grind[Z8]);unfold qP at h;split at h;case h_2=>grind
 rename_i e X j b i m B Q L M;split at h;case h_2=>grind
 rename_i g U l K;split at h;case h_2=>grind
 rename_i s;rw[AS]at s;have I:=Adj s.2;subst I;obtain⟨bytes,zv,A⟩:=Dt s.1;obtain⟨⟨F,G⟩,h⟩:=AG h;obtain⟨z,T,h⟩:=Bj h;refine .y h (Abu λη H O a d _=>?_) λτ _ W Z Y p=>?_
 ·obtain⟨D,n,c,q,V,E⟩:(SV.px [b] (.sub i m B):SV N.T).is C η H (a.eval x):=by rw[<-M];exact v d
  have q:η b= .slice (Ac D) n c:=by simpa using q
  have J:=AU L (w d);refine⟨AX (a.eval x) (j.toNat*B.sz N),?_,?_,D,n,c,q⟩;· rw[u];exact Agf Q A rfl (.inr ⟨_,_,E,Aaf _⟩) (congrArg Ac J) ⟨F,G⟩
  ·rw[E,q];simp only[AX,Ce.pointer.injEq,Ael,Nat.add_zero];rw[De,<-Adk];congr 2;omega
 ·rw[K]at p;cases p;exact⟨Ty.SL B,by rw[T];rfl⟩
theorem jh{a:Act}{f:Ty}{l d:List (f.den N.T)}{ys:List Ce}{u:Option Addr}(ht:P.underlying t=Ac (.slice e))(hI:Di P e (f.sz N)=Br)(A:a.eval s= .slice u l.length l.length)(hv:G5 (N.c f) H l (.slice u l.length l.length))
  (W:A2 (N.c f) H d ys) (n:∀w,SH w H O->GK.Src w (a.eval x) (f.sz N) d.length ys) (hc:l.length+d.length<=Nb P e) (h2:d≠ []):
  BP P (.call {callee:= .builtin .append,args:= #[s,x],argTypes:= #[t,t]}) T (EV a) H O (λv' D E=>(D=H/\∃xs,E= .row v' e (f.sz N) (l++d).length xs::O/\A2 (N.c f) H (l++d) xs)/\v'.oneCell'=Br):=by
 obtain⟨bytes,z,hz,X,G,J,_⟩:=Ed hI;obtain⟨xs,q,V⟩:=hv.ex;rw[Bp]at q;cases u with
 |none=>
  have hl:l=[]:=by rcases q.sl with⟨_,G⟩|⟨F,c',e,hc⟩;all_goals grind
  subst hl;refine BP.II ((QN (i:=0) (l:=[]) (xs:=[]) ht hI A rfl rfl W (λw A=>n w ?_) hc).mono ?_);· have:=A.nG 1;grind
  grind
 |some u=>
  obtain⟨hc,hbm⟩:=J _ hc;refine Aga 0 (.Ap λF w o ho hT he U=>?_) ?_
  ·obtain⟨ii,K,g1,g2,g3⟩:=hz.ex;obtain⟨y,Q⟩:=n w U;have hpos:0<d.length:=by grind
   rcases Q with⟨_,h0'⟩|⟨Z,cx,I,j⟩;· omega
   obtain⟨L,M⟩:=U.TY q;rcases M with⟨e,_⟩|⟨ad',c',e,p⟩;· grind
   injection e with e _ _;injection e with e;subst e;obtain⟨v',w',hr,Y,k2⟩:=run_append_arg_grows (P:=P) w t o.type e ii z (f.sz N) bytes ht K g3 g1 g2 X G u l.length l.length xs L p Z d.length cx ys y j (by omega) (by simp only[maxLen,Aj]at*;omega) (by omega);refine⟨v',w',H,_,?_,Hp.le.refl H,⟨rfl,xs++ys,rfl,V.app W⟩,U.push (r:= .row v' e (f.sz N) (l++d).length (xs++ys)) k2 ?_ (λb J=>?_)⟩;· have q1:F.eval s= .slice (Ac u) l.length l.length:=he s _ (congrArg Ac A);have q2:F.eval x= .slice (Ac Z) d.length cx:=he x _ (congrArg Ac I);simp[Kr,ho,resolve,invoke,builtin,q1,q2,hr,iT]
   ·rw[Aab];exact⟨Y.1,Y.2.imp id λ⟨g,cap,cur,e,_,h⟩=>⟨g,cap,cur,e,Abg _,h⟩⟩
   ·exact(IK.ownsRow.lt Y b J).1
  grind
def sK(P:GO)(S:Nat->SV N.T)(Rr:Nat->Option (SR N.T))(nk:Nat)(s x:Er)(t:Gn)(k:Bt N.T->Nat->Option R):Option R:=match P.underlying t,Av S s with
 |some (.slice e), .px _ (.dx b l)=>match Di P e (b.sz N),Xh S Rr b x with
  |true,Ac (a,c)=>Ah (l.length+a.length<=Nb P e/\0<a.length) (k ⟨.AE nk,c,[(nk, .row e b (l++a))]⟩ (nk+1))
  |_,_=>Dc
 |_,_=>Dc
theorem pT(i:o.op= .call {callee:= .builtin .append,args:= #[s,x],argTypes:= #[t,t]})(B:∀j,nk<=j->Rr j=Dc)(h:sK P S Rr nk s x t k=Ac r):A1 P C S Rr nk o k r:=by
 have m:∀ {η:Nat->Ce} {H:Hp} {a:Act},(∀x∈o.op.operands,(Av S x).is C η H (a.eval x))->(Av S s).is C η H (a.eval s):=λc=>c s (by grind[Z8,gj]);have n:∀ {η:Nat->Ce} {H:Hp} {a:Act},(∀x∈o.op.operands,(Av S x).is C η H (a.eval x))->(Av S x).is C η H (a.eval x):=λc=>c x (by simp_all[Z8,gj]);unfold sK at h;split at h;case h_2=>grind
 rename_i e I J l F E;split at h;case h_2=>grind
 rename_i V W z d;obtain⟨⟨hc,u⟩,h⟩:=AG h;refine .new h (Afe (B nk (Aaf _)) λη H O a c D=>?_) λ_ _=>trivial;obtain⟨⟨T,q⟩,U,⟨v,rfl,w⟩,f⟩:(SV.px I (.dx J l):SV N.T).is C η H (a.eval s):=by rw[<-E];exact m c
 have f:[v]=[a.eval s]:=f;cases f;obtain⟨X,G,p⟩:=LD d (n c) D;rw[i];rw[q]at w;refine(jh F z q w G p hc (λe=>by rw[e]at u;simp at u)).mono ?_;rintro K M Q ⟨⟨rfl,L,rfl,A⟩,y⟩;exact⟨rfl,_,K,rfl,⟨L,by rw[AD],A⟩,by rw[AD],y⟩
def qa(P:GO)(S:Nat->SV N.T)(nk:Nat)(t:Gn)(x:Er)(k:Bt N.T->Nat->Option R):Option R:=match P.underlying t,Av S x with
 |some (.slice _), .d (.sl a) l=>match(show List (a.den N.T)from l)with
  | []=>k ⟨.px [] .ub,[],[]⟩ nk
  |_::_=>k ⟨.lb Ak,[],[]⟩ nk
 |_,_=>Dc
theorem VP{b:BinOp}(j:b= .eql){Ty:Gn}{c:Nat}(ht:P.underlying t=Ac (.slice e))(m:E x=Ac (.slice a n c)):Aq P (.binOp b t x (.const (.slice Dc 0 0)) Ty) T E H O (.bool a.isNone):= .Ap λg w o l _ i p=>by
 have h:(binOp .eql t (.slice a n c) (.slice Dc 0 0)).run P w= .ok (.bool a.isNone) w:=by
  have h:∀d:Nat,(lj (d+1) t (.slice a n c) (.slice Dc 0 0)).run P w= .ok a.isNone w:=λd=>by cases a<;>simp[lj,AY ht]
  simp_all[binOp,pure,bool,rY,Alu]
 have hc:g.eval (.const (.slice Dc 0 0))= .slice Dc 0 0:=rfl;simp_all[Kr,eqGuard]
theorem pb{Ty:Gn}(m:o.op= .binOp .eql t x (.const (.slice Dc 0 0)) Ty)(h:qa P S nk t x k=Ac r):A1 P C S Rr nk o k r:=by
 have p:∀ {η:Nat->Ce} {H:Hp} {a:Act},(∀x∈o.op.operands,(Av S x).is C η H (a.eval x))->(Av S x).is C η H (a.eval x):=λd=>d x (by grind[Z8]);unfold qa at h;split at h;case h_2=>grind
 rename_i e q l u B;have key:∀ {η:Nat->Ce} {H:Hp} {a:Act},(∀x∈o.op.operands,(Av S x).is C η H (a.eval x))->∃b n c,a.eval x= .slice b n c/\(b=Dc->n=0)/\n=(show List (q.den N.T)from l).length:=λ{η H a} d=>by
  obtain⟨F,⟨v,rfl,D⟩,f⟩:(SV.d (.sl q) l:SV N.T).is C η H (a.eval x):=by grind
  have f:[v]=[a.eval x]:=f;rcases D.sl with⟨e,w⟩|⟨b,c,e,_⟩;all_goals grind
 split at h;· refine .y h (Abu λη H O a d _=>?_) λ_ _=>trivial;obtain⟨b,n,c,i,_,_⟩:=key d;exact⟨_,by rw[m];exact VP rfl u (congrArg Ac i),_,rfl⟩
 ·refine .y h (Abu λη H O a d _=>?_) λ_ _=>trivial;obtain⟨b,n,c,i,f,s⟩:=key d;refine⟨_,by rw[m];exact VP rfl u (congrArg Ac i),?_⟩;cases b with
  |some b=>rfl
  |none=>
   grind
def Ym:List Int->Ay:=λl=>l.map λn=>UInt8.ofNat n.toNat
theorem aV{H:Hp} :∀ {l:List Int} {xs:List Ce},A2 (N.c (.int .u8)) H l xs->xs=(Ym l).map λb=>Ce.int .u8 (b.toNat:Int)
 | [],_,h=>h
 |n::l,_,⟨g,xs,e,a,f⟩=>by
  obtain⟨a,c⟩:=D6.1 a;have c:0<=n/\n<=255:=c;subst e;subst a;have d:((UInt8.ofNat n.toNat).toNat:Int)=n:=by grind[UInt8.toNat_ofNat']
  rw[aV f];show [Ce.int .u8 n]++_=Ce.int .u8 ((UInt8.ofNat n.toNat).toNat:Int)::_;rw[d];rfl
def sg(P:GO)(S:Nat->SV N.T)(nk:Nat)(s d:Gn)(x:Er)(k:Bt N.T->Nat->Option R):Option R:=match P.underlying s,P.underlying d,Av S x with
 |some (.slice e),Ac .string, .d (.sl (.int .u8)) l=>match P.underlying e with
  |some (.int .u8)=>k ⟨.d .str (Ym l),[],[]⟩ nk
  |_=>Dc
 |some (.slice e),Ac .string, .raw (.slice Dc 0 0)=>match P.underlying e with
  |some (.int .u8)=>k ⟨.d .str [],[],[]⟩ nk
  |_=>Dc
 |some (.int _),Ac .string,s=>match intOf s with
  |some (_,n)=>Ah (0<=n/\n<128) (k ⟨.d .str [UInt8.ofNat n.toNat],[],[]⟩ nk)
  |none=>Dc
 |_,_,_=>Dc
theorem X6{n:Int}(h0:0<=n)(h1:n<128):Utf8.encode n=⟨⟨[UInt8.ofNat n.toNat]⟩⟩:=by grind[Utf8.valid,validRune,Utf8.encode]
theorem WL{s:Gn}{l:List Int}{v:Ce}(u:P.underlying s=Ac (.slice e))(n:P.underlying d=Ac .string)(p:P.underlying e=Ac (.int .u8))(y:E x=Ac v)(G:G5 (N.c (.int .u8)) H l v):Aq P (.convert s d x) T E H O (sv (Ym l)):= .Ap λJ w o t _ m I=>by
 obtain⟨K,B,g⟩:=G.ex;have i:=aV g;obtain⟨q,hc⟩:=I.TY B;rcases hc with⟨rfl,A⟩|⟨z,c,rfl,a⟩
 ·have F:l=[]:=OF.1 A;subst F;have:=run_convert_bytes_string (P:=P) w s d e Dc 0 0 u p n;have g:(Conv.bytesToString (.slice Dc 0 0)).run P w= .ok (.string ByteArray.empty) w:=by rfl
  rw[g]at this;simp[Kr,t,m x _ y,this];rfl
 ·have h:(Ym l).length=l.length:=by simp[Ym]
  have:=run_convert_bytes_back (P:=P) w s d e z c (Ym l) u p n (λj D=>a j _ (by grind));rw[h]at this;simp only[Kr,t,m x _ y];simp;erw [this];rfl
theorem pM{s:Gn}(g:o.op= .convert s d x)(h:sg P S nk s d x k=Ac r):A1 P C S Rr nk o k r:=by
 have b:∀ {η:Nat->Ce} {H:Hp} {a:Act},(∀x∈o.op.operands,(Av S x).is C η H (a.eval x))->(Av S x).is C η H (a.eval x):=λc=>c x (by grind[Z8]);unfold sg at h;split at h
 ·rename_i e l j i f;split at h
  ·rename_i u;refine .y h (Abu λη H O a c _=>?_) λ_ _=>trivial;obtain⟨E,⟨v,rfl,m⟩,t⟩:(SV.d (.sl (.int .u8)) l:SV N.T).is C η H (a.eval x):=by grind
   have t:[v]=[a.eval x]:=t;cases t;exact⟨_,by rw[g];exact WL j i u rfl m,[_],rfl,rfl⟩
  grind
 ·rename_i e j i f;split at h
  ·rename_i u;refine .y h (Abu λη H O a c _=>?_) λ_ _=>trivial;have m:a.eval x= .slice Dc 0 0:=by
    have:(SV.raw (.slice Dc 0 0):SV N.T).is C η H (a.eval x):=by grind
    trivial
   exact⟨_,by rw[g];exact WL (N:=N) (l:=[]) j i u (congrArg Ac m) G5.nil,[_],rf,rf⟩
  grind
 ·rename_i q j i;split at h;· rename_i B n A;obtain⟨hc,h⟩:=AG h;refine .y h (Abu λη H O a c _=>?_) λ_ _=>trivial;have m:=AU A (b c);refine⟨sv [UInt8.ofNat n.toNat],?_,[_],rfl,rfl⟩;rw[g];refine .Ap λD w o g _ z F=>?_;have:=run_convert_int_string (P:=P) w s d B n (by rw[j];rfl) i;rw[X6 hc.1 hc.2]at this;simp[Kr,g,z x _ (congrArg Ac m),this];rfl
  trivial
 grind
end
end
section
variable {P : GO} {T : Gn} {E : Er -> Option Ce} {H : Hp} {O : List Aw}
theorem Ajt{s x:Er}{t u e:Gn}{v:Ce}{i m:Nat}{str:Ay}{xs:List Ce}(ht:P.underlying t=Ac (.slice e))(y:P.underlying u=Ac .string)(Z:TI P e 1 1 (.int .u8 0))(Y:E s=Ac v)(L:E x=Ac (sv str))
  (hi:O[i]?=Ac (.row v e 1 m xs)) (hb:m+str.length<=Aj):
  BP P (.call {callee:= .builtin .append,args:= #[s,x],argTypes:= #[t,u]}) T E H O (λv' N R=>N=H/\R=O.set i (.row v' e 1 (m+str.length) (xs++Lib.byteCells str))):=by
 intro a w o next Q X hT J K k;have c:=K.ok i _ hi;obtain⟨ii,j,q,A,B⟩:=Z.ex;have d:(ByteArray.mk (Array.mk str)).size=str.length:=rfl;have F:Lib.strCells (ByteArray.mk (Array.mk str))=Lib.byteCells str:=rfl;obtain⟨v',w',r,M,k2,k3⟩:=Lib.run_append_own_string (P:=P) w 0 t u o.type e ii ht y j B q A v m xs c ⟨⟨str⟩⟩ (by simp only[maxLen,Aj]at*;omega) (by grind) (Abg _);unfold K5.wp;simp only[sv]at L;simp[Kr,X,resolve,invoke,builtin,J s _ Y,J x _ L,r,iT];refine k v' w' H _ (Hp.le.refl H) ⟨rfl,rfl⟩ (K.set hi k2 M (λb h=>?_));rcases c.2 with⟨rfl,D⟩|⟨g,cap,cur,rfl,_,V,W,U,C,G⟩;· right;subst D;have I:xs=[]:=Abc (by rw[c.1,Aen]);obtain⟨v2,w2,f,q1,_,_⟩:=Lib.run_append_own_string (P:=P) w w.heap.size t u o.type e ii ht y j B q A (.slice Dc 0 0) 0 [] (IK.ownsRow_nil w _ e _) ⟨⟨str⟩⟩ (by simp only[maxLen,Aj]at*;omega) (by grind) (Aaf _);rw[r]at f;injection f with p z;subst p;exact(IK.ownsRow.lt q1 b h).1
 ·by_cases l:m+str.length<=cap;· left;have f:=Lib.run_append_room_string (P:=P) w t u o.type e ii ht y j q g m cap cur V ⟨⟨str⟩⟩ l (by omega);rw[r]at f;injection f with p z;rw[p]at h;exact h
  ·have f:=Lib.run_append_grow_string (P:=P) w t u o.type e ii (.int .u8 0) ht y j B ⟨g,0,Dc⟩ m cap xs (by rw[c.1,q]) (c.cells (g:=g) rfl) ⟨⟨str⟩⟩ (by omega) (by simp only[Aj]at*;omega) (by rw[A,d];exact growslice_fits (by omega) (by simp only[Aj]at*;omega));grind[Aw.has,Ce.ownBlock]
end
section
variable {N : Df} {R : Type} {P : GO} {C : List (SV N.T)} {S : Nat -> SV N.T} {Rr : Nat -> Option (SR N.T)} {nk : Nat} {o : K5} {k : Bt N.T -> Nat -> Option R} {r : R}
section
variable{t:Gn}{x:Er}{H:Hp}{e:Gn}
def cV:Ay->List Int:=λl=>l.map λb=>(b.toNat:Int)
theorem VY{H:Hp} :∀l:Ay,A2 (N.c (.int .u8)) H (cV l) (Lib.byteCells l)
 | []=>rfl
 |b::l=>⟨[.int .u8 (b.toNat:Int)],Lib.byteCells l,rfl,D6.2 ⟨rfl,by have:=b.toNat_lt;show(0:Int)<=b.toNat/\(b.toNat:Int)<=255;omega⟩,VY l⟩
def u8I(P:GO)(e:Gn):Bool:=match P.info? e with
 |some a=>Hg a.size 1&&(Hg a.bytes 1&&match a.zero with
  |some (.int .u8 0)=>Br
  |_=>Ak)
 |none=>Ak
theorem oy(h:u8I P e=Br):TI P e 1 1 (.int .u8 0):=by
 unfold u8I at h;split at h
 ·rename_i a f;simp only[AS]at h;obtain⟨c,d,b⟩:=h;split at b;· rename_i g;exact⟨a,f,AI c,AI d,g⟩
  grind
 grind
def sL(P:GO)(S:Nat->SV N.T)(Rr:Nat->Option (SR N.T))(nk:Nat)(s x:Er)(t u:Gn)(k:Bt N.T->Nat->Option R):Option R:=match P.underlying t,P.underlying u,Av S s,Tl (Av S x)with
 |some (.slice e),Ac .string, .AE b,Ac str=>match Rr b with
  |some (.row g (.int .u8) l)=>match Hg g e&&u8I P e with
   |true=>Ah (FB (show List Int from l)+str.length<=Aj) (k ⟨.AE nk,[],[(nk, .row g (.int .u8) (show List Int from(show List Int from l)++cV str)),(b, .gone)]⟩ (nk+1))
   |false=>Dc
  |_=>Dc
 |_,_,_,_=>Dc
theorem pU{s:Er}{u:Gn}(w:o.op= .call {callee:= .builtin .append,args:= #[s,x],argTypes:= #[t,u]})(Q:∀j,nk<=j->Rr j=Dc)(h:sL P S Rr nk s x t u k=Ac r):A1 P C S Rr nk o k r:=by
 have y:∀ {η:Nat->Ce} {H:Hp} {a:Act},(∀x∈o.op.operands,(Av S x).is C η H (a.eval x))->(Av S s).is C η H (a.eval s):=λd=>d s (by grind[Z8,gj]);have z:∀ {η:Nat->Ce} {H:Hp} {a:Act},(∀x∈o.op.operands,(Av S x).is C η H (a.eval x))->(Av S x).is C η H (a.eval x):=λd=>d x (by simp_all[Z8,gj]);unfold sL at h;split at h;case h_2=>grind
 rename_i e b str U V T n;split at h;case h_2=>cases h
 rename_i g l A;split at h;case h_2=>cases h
 rename_i q;rw[AS]at q;have F:=AI q.1;subst F;obtain⟨hc,h⟩:=AG h;change List Int at l;refine .mov h A (Ahq A (by simp) (Q nk (Aaf _)) λη H O a X i d f K Z=>?_) λ_ _=>trivial;obtain⟨Y,G,M⟩:=K;subst G;have B:=y d;rw[T]at B;have I:a.eval x=sv str:=I1 n (z d);rw[<-B.1]at f;have v:i<O.length:=(No.1 f).1;rw[w];refine(Aga i (Ajt U V (oy q.2) rfl (congrArg Ac I) f hc) ?_).mono ?_;· rintro p D E ⟨rfl,rfl⟩;exact⟨_,_,_,_,by rw[List.getElem?_set_self v]⟩
 ·rintro p D E ⟨⟨rfl,rfl⟩,L⟩;refine⟨rfl,_,p,rfl,⟨_,?_,M.app (VY str)⟩,by rw[AD],L⟩;rw[AD];have J:FB (l++cV str)=l.length+str.length:=by simp[cV]
  show Aw.row p g 1 (l.length+str.length) _=Aw.row p g 1 (FB (l++cV str)) _;rw[J]
def si(P:GO)(nk:Nat)(t:Gn)(k:Bt N.T->Nat->Option R):Option R:=match P.underlying t with
 |some (.slice e)=>match L6 N P e with
  |some a=>match Di P e (a.sz N)with
   |true=>k ⟨.AE nk,[],[(nk, .row e a [])]⟩ (nk+1)
   |false=>Dc
  |none=>Dc
 |_=>Dc
theorem ja{size bytes:Nat}{z:Ce}{T:Gn}{E:Er->Option Ce}{O:List Aw}(ht:P.underlying t=Ac (.slice e))(l:TI P e size bytes z):
  BP P (.buildSlice t 0 #[]) T E H O (λv d f=>d=H/\v.oneCell'=Br/\f= .row v e size 0 []::O):= .Ap λa w o i _ m j=>by
 refine⟨.slice (Ac ⟨w.heap.size,0,Dc⟩) 0 0,w.alloc (.cells #[] e),H,_,?_,Hp.le.refl H,⟨rf,rf,rf⟩,j.push (IK.grownBy_alloc w _ Dc) ?_ (λb h=>by grind[Aw.has,Ce.ownBlock])⟩;· simp[Kr,i,Instr.buildSlice,AY ht,l.sizeOf,nF,newRow];grind
 ·exact⟨by simp, .inr ⟨w.heap.size,0, #[],rf,Abg _,heap_alloc_new w _,Aaf _,Abg _,by simp,by simp⟩⟩
theorem pN(i:o.op= .buildSlice t 0 #[])(g:∀j,nk<=j->Rr j=Dc)(h:si P nk t k=Ac r):A1 P C S Rr nk o k r:=by
 unfold si at h;split at h;case h_2=>grind
 rename_i e l;split at h;case h_2=>grind
 rename_i u m;split at h;case h_2=>grind
 rename_i f;obtain⟨bytes,z,c,_⟩:=Ed f;refine .new h (Afe (g nk (Aaf _)) λη H O a s q=>?_) λ_ _=>trivial;rw[i];refine(ja l c).mono ?_;rintro v n p ⟨rfl,d,rfl⟩;exact⟨rfl,_,v,rfl,⟨[],by grind[AD],rfl⟩,by rw[AD],d⟩
def ov(P:GO)(S:Nat->SV N.T)(Rr:Nat->Option (SR N.T))(nk:Nat)(x:Er)(T:Gn)(k:Bt N.T->Nat->Option R):Option R:=match Av S x,P.underlying T with
 | .AE b,Ac (.pointer _)=>match Rr b with
  |some (.row _ (.int .u8) l)=>k ⟨.px [b] (.sd (FB (show List Int from l))),[b],[]⟩ nk
  |_=>Dc
 |_,_=>Dc
theorem o7(A:o.op= .call {callee:= .builtin .unsafeSliceData,args:= #[x],argTypes:= #[t]})(h:ov P S Rr nk x o.type k=Ac r):A1 P C S Rr nk o k r:=by
 have E:∀ {η:Nat->Ce} {H:Hp} {a:Act},(∀x∈o.op.operands,(Av S x).is C η H (a.eval x))->(Av S x).is C η H (a.eval x):=λI=>I x (by grind[Z8,gj]);unfold ov at h;split at h;case h_2=>grind
 rename_i b J hs W;split at h;case h_2=>grind
 rename_i g l Z;refine .y h (λη H L a w Y q d M I hr hfr K Q V=>?_) λτ _=>trivial;rcases hr b (.inl (by simp)) _ Z with e|⟨X,T,xs,O,hL⟩;· grind
 subst O;obtain⟨i,U,_⟩:=Jj L q T;have m:a.eval x=η b:=by
  have:(SV.AE b:SV N.T).is C η H (a.eval x):=by grind
  exact this.1
 have c:=d.ok i _ U;have f:∀v B,SH B H (Y.map (·.2)++L)->(∃p,v= .pointer p)->(0<l.length->v=AX (η b) 0)->(Kr a.eval o).run P w= .ok (.value v) B->o.wp P a w K Q:=λv B G q1 q2 s=>by unfold K5.wp;rw[s];exact V v B H η Y (Hp.le.refl H) (λ_ _=>rfl) (λ_ _=>rfl) (λk sr h=>by cases h) q (λk hk=> .inl hk) G ⟨q1,λh=>⟨η b,rfl,q2 h⟩⟩
 rcases c.2 with⟨u,h0⟩|⟨z,cap,cur,u,_,hg,hnc,hcm,hcs,F⟩;· refine f (.pointer Dc) w d ⟨Dc,rfl⟩ (λh=>by omega) ?_;have h:=Lib.run_unsafeSliceData_nil (P:=P) w #[t] o.type 0 0;rw[u]at m;simp[Kr,A,resolve,invoke,builtin,m,h]
 ·by_cases n:cap=0
  ·subst n;refine f (.pointer (Ac ⟨w.heap.size,0,Dc⟩)) (w.alloc (.view ⟨z,0,Dc⟩ J)) ?_ ⟨_,rfl⟩ (λh=>by omega) ?_;· have:=(d.alloc (.view ⟨z,0,Dc⟩ J)).drop 0;simpa using this
   ·have h:=Lib.run_unsafeSliceData_zero (P:=P) w #[t] o.type J W ⟨z,0,Dc⟩ l.length (sh:=(g,cur.size)) (by simp[IK.shape?,hg]);rw[u]at m;simp[Kr,A,resolve,invoke,builtin,m,h]
  ·refine f (AX (η b) 0) w d ⟨_,by rw[u];rfl⟩ (λ_=>rfl) ?_;have h:=Lib.run_unsafeSliceData_row (P:=P) w #[t] o.type ⟨z,0,Dc⟩ l.length cap n;rw[u]at m⊢;simp[Kr,A,resolve,invoke,builtin,m,h,AX,xX]
def ou(P:GO)(S:Nat->SV N.T)(Rr:Nat->Option (SR N.T))(nk:Nat)(x y:Er)(pt:Gn)(k:Bt N.T->Nat->Option R):Option R:=match Av S x,intOf (Av S y),P.underlying pt with
 | .px [b] (.sd m),Ac (.i64,n),Ac (.pointer e)=>match Rr b,Hg (P.cellsOf e) 1 with
  |some (.row g (.int .u8) l),Br=>match Hg g e with
   |true=>Ah (n=((FB (show List Int from l):Nat):Int)/\m=FB (show List Int from l)) (k ⟨.d .str (Ym l),[],[(b, .gone)]⟩ nk)
   |false=>Dc
  |_,_=>Dc
 |_,_,_=>Dc
theorem o6{y:Er}{pt it:Gn}(U:o.op= .call {callee:= .builtin .unsafeString,args:= #[x,y],argTypes:= #[pt,it]})(h:ou P S Rr nk x y pt k=Ac r):A1 P C S Rr nk o k r:=by
 have hox:∀ {η:Nat->Ce} {H:Hp} {a:Act},(∀x∈o.op.operands,(Av S x).is C η H (a.eval x))->(Av S x).is C η H (a.eval x):=λD=>D x (by grind[Z8,gj]);have hoy:∀ {η:Nat->Ce} {H:Hp} {a:Act},(∀x∈o.op.operands,(Av S x).is C η H (a.eval x))->(Av S y).is C η H (a.eval y):=λD=>D y (by simp_all[Z8,gj]);unfold ou at h;split at h;case h_2=>grind
 rename_i b m n e hs hn hpt;split at h;case h_2=>grind
 rename_i g l O hce;split at h;case h_2=>grind
 rename_i hge;have:=AI hge;subst this;change List Int at l;obtain⟨⟨V,W⟩,h⟩:=AG h;have t:(Ym l).length=l.length:=by simp[Ym]
 refine⟨_,nk,h,λη H L a w Y I A hinv D hr hfr K Q hK=>?_,Aaf _,λj d f=>?_,λτ _=>trivial⟩
 ·rcases hr b (.inr (by simp[keys])) _ O with e|⟨X,h1,xs,e3,hL⟩;· grind
  subst e3;obtain⟨i,M,h3⟩:=Jj L I h1;obtain⟨⟨p,hp⟩,hsd⟩:(SV.px [b] (.sd m):SV N.T).is C η H (a.eval x):=by rw[<-hs];exact hox D
  have ey:=AU hn (hoy D);rw[V,<-t]at ey;have F:∀s,SH s H ((Ih Y b .emp).map (·.2)++L)->K (a.put o.dst (sv (Ym l))) s:=λs c=>
   hK _ s H η (Ih Y b .emp) (Hp.le.refl H) (λ_ _=>rfl) (λj d=>Pn λe=>d (by subst e;simp[keys])) (λj sr d=>by
    simp only[Ax]at d;split at d;· cases d;exact .inl rfl
    ·cases d) (by rw[EN];exact I) (λj d=> .inl (by rw[EN]at d;exact d)) c ⟨[_],rfl,rfl⟩;by_cases h0:l=[]
  ·subst h0;have z:Aq P o.op o.type (EV a) H (Y.map (·.2)++L) (sv (Ym [])):=by
    rw[U];exact Akv (congrArg Ac hp) (congrArg Ac ey)
   refine Aeu (z a w o rfl rfl (λx u e=>by simpa using e) A) A λs c=>F s ?_;rw[<-h3];exact c.set M ⟨rfl,rfl,rfl,Aaf _,λ_ _ _=>rfl⟩ trivial (λb O=>by cases O)
  ·have J:0<m:=by rw[W];exact Aea.2 h0
   obtain⟨u,Z,e6⟩:=hsd J;have Z:u=η b:=by simpa using Z.symm
   subst Z;have hLB:A2 cBy H (Ym l) xs:=VZ.2 (aV hL);have M:(Y.map (·.2)++L)[i]?=Ac (.row (η b) g 1 (Ym l).length xs):=by rw[t];exact M
   have z:=BP.unsafeString (P:=P) (T:=o.type) (E:=EV a) (x:=x) (y:=y) (pt:=pt) (it:=it) (e:=g) hpt (AI hce) (congrArg Ac e6) (congrArg Ac ey) M hLB (λe=>h0 (by have:=congrArg FB e;rw[t]at this;exact OF.1 this));refine z a w o K Q U rfl (λx u e=>by simpa using e) A λv s H' O' hle ⟨e7,e8,e9⟩ c=>?_;subst e7;subst e8;subst e9;rw[h3]at c;exact F s c
 grind[keys]
end
end
section
variable {P : GO} {H : Hp} {O : List Aw} {E : Er -> Option Ce} {T : Gn} {x y : Er} {kk : Lm} {m n : Int} {tys : Array Gn}
theorem Aq.max2(f:E x=Ac (.int kk m))(g:E y=Ac (.int kk n)):Aq P (.call {callee:= .builtin .max,args:= #[x,y],argTypes:=tys}) T E H O (.int kk (if n>m then n else m)):= .Ap λa w o e _ d _=>by simp[Kr,e,d x _ f,d y _ g,resolve,invoke,builtin,Builtin.max_,Builtin.max2]
theorem Aq.min2(f:E x=Ac (.int kk m))(g:E y=Ac (.int kk n)):Aq P (.call {callee:= .builtin .min,args:= #[x,y],argTypes:=tys}) T E H O (.int kk (if n<m then n else m)):= .Ap λa w o e _ d _=>by simp[Kr,e,d x _ f,d y _ g,resolve,invoke,builtin,Builtin.min_,Builtin.min2]
theorem Ajv{t e:Gn}{size:Nat}{ii:TypeInfo}{v z:Ce}{i m f:Nat}{xs d:List Ce}(ht:P.underlying t=Ac (.slice e))(B:P.info? e=Ac ii)(Y:ii.size=size)(C:tys[0]?=Ac t)(hx:E x=Ac v)(hy:E y=Ac z)
  (hi:O[i]?=Ac (.row v e size m xs)) (q:∀w,SH w H O->GK.Src w z size f d) (h1:∀u∈d,u.oneCell'=Br):
  BP P (.call {callee:= .builtin .copy,args:= #[x,y],argTypes:=tys}) T E H O (λv' H' O'=>H'=H/\O'=O.set i (.row v e size m (d.take (min f m*size)++xs.drop (min f m*size)))/\v'= .int .i64 (min f m:Nat)):=by
 intro a w o next Q ho hT he N k;have r:=N.ok i _ hi;obtain⟨J,q⟩:=q w N;have Z:=r.1;have sx:=he x _ hx;have sy:=he y _ hy;have s:min f m=0->(wM tys o.type #[v,z]).run P w= .ok (goInt 0) w->o.wp P a w next Q:=λh0 X=>by
  unfold K5.wp;simp[Kr,ho,resolve,invoke,builtin,sx,sy,X,iT];refine k _ w H _ (Hp.le.refl H) ⟨rfl,rfl,?_⟩ ?_;· rw[h0];rfl
  ·rw[h0];simp_all[Aen,Aeb,Afb,Aci,Ru]
 rcases r.2 with⟨rfl,rfl⟩|⟨g,cap,cur,rfl,U,hg,W,G,S,D⟩
 ·refine s (by simp) ?_;rcases q with⟨rfl,rfl⟩|⟨L,c,rfl,p⟩;· simp[wM,C,run_underlying ht,Builtin.lenOf,w8,sizeOf,typeInfo,B]
  ·have:=run_loadCells_list (P:=P) w L [] (λj v h=>by grind);simp at this;simp[wM,C,run_underlying ht,Builtin.lenOf,w8,sizeOf,typeInfo,B,this]
 ·rcases q with⟨rfl,rfl⟩|⟨L,c,rfl,p⟩;· refine s (by simp) ?_;simp[wM,C,run_underlying ht,Builtin.lenOf,w8,sizeOf,typeInfo,B,storeCells]
  ·have hle:min f m*size<=d.length:=by rw[J];exact Abi _ (Nat.min_le_left _ _)
   have l:(d.take (min f m*size)).length=min f m*size:=by rw[Abh];omega
   have hl:=run_loadCells_list (P:=P) w L (d.take (min f m*size)) (λj u M=>p j u (by
    rw[Ahu]at M;split at M;· exact M
    ·cases M));rw[l]at hl;have I:min f m*size<=cur.size:=by rw[S];exact Abi _ (by omega)
   have K:=run_storeCells_at P g 0 e (d.take (min f m*size)) 0 cur w hg (by simpa [l]using I) (λu hu=>h1 u (Ack hu));simp only[Abm,Aeb,Aci,l]at K;have X:(wM tys o.type #[.slice (Ac ⟨g,0,Dc⟩) m cap, .slice (Ac L) f c]).run P w= .ok (goInt (Nat.min f m:Nat)) (w.setRow g (d.take (min f m*size)++cur.toList.drop (min f m*size)).toArray):=by simp[wM,C,run_underlying ht,Builtin.lenOf,w8,sizeOf,typeInfo,B,Y,hl,K]
   unfold K5.wp;simp[Kr,ho,resolve,invoke,builtin,sx,sy,X,iT];refine k _ _ H _ (Hp.le.refl H) ⟨rfl,rfl,by simp[goInt,Nat.min_def]⟩ (N.set hi (E4 w g _) ?_ (λb hb=> .inl hb));refine⟨?_, .inr ⟨g,cap,(d.take (min f m*size)++cur.toList.drop (min f m*size)).toArray,rfl,U,setRow_heap w g cur _ e _ hg,W,G,?_,?_⟩⟩;· rw[Aab,l,Ajj,Z];have:min f m*size<=m*size:=Abi _ (Nat.min_le_right _ _);omega
   ·simp[l];omega
   ·have V:min f m*size<=m*size:=Abi _ (Nat.min_le_right _ _);simp only[Adt,l];rw[Abl (by rw[l];exact V),<-D,Agx]
end
section
variable {N : Df} {R : Type} {P : GO} {C : List (SV N.T)} {S : Nat -> SV N.T} {Rr : Nat -> Option (SR N.T)} {nk : Nat} {o : K5} {k : Bt N.T -> Nat -> Option R} {r : R}
section
variable{x y:Er}{tys:Array Gn}{α:Type}{t:Gn}
def qn(S:Nat->SV N.T)(nk:Nat)(x y:Er)(k:Bt N.T->Nat->Option R):Option R:=match intOf (Av S x),intOf (Av S y)with
 |some (a,m),Ac (b,n)=>match kb a b with
  |true=>Aa a (if n>m then n else m) (k ⟨.d (.int a) (if n>m then n else m),[],[]⟩ nk)
  |false=>Dc
 |_,_=>Dc
def ql(S:Nat->SV N.T)(nk:Nat)(x y:Er)(k:Bt N.T->Nat->Option R):Option R:=match intOf (Av S x),intOf (Av S y)with
 |some (a,m),Ac (b,n)=>match kb a b with
  |true=>Aa a (if n<m then n else m) (k ⟨.d (.int a) (if n<m then n else m),[],[]⟩ nk)
  |false=>Dc
 |_,_=>Dc
theorem pn(c:o.op= .call {callee:= .builtin .max,args:= #[x,y],argTypes:=tys})(h:qn S nk x y k=Ac r):A1 P C S Rr nk o k r:=by
 unfold qn at h;split at h
 ·rename_i q m p n j l;split at h;· rename_i i;have e:=OH i;subst e;obtain⟨_,d,f⟩:=B_ h;refine .y f (Abu λη H O a g _=>⟨_,?_,D8 d⟩) λ_ _=>trivial;rw[c];exact Aq.max2 (congrArg Ac (AU j (g x (by simp_all[Z8,gj])))) (congrArg Ac (AU l (g y (by rw[c];simp[Z8,gj]))))
  grind
 grind
theorem pk(c:o.op= .call {callee:= .builtin .min,args:= #[x,y],argTypes:=tys})(h:ql S nk x y k=Ac r):A1 P C S Rr nk o k r:=by
 unfold ql at h;split at h
 ·rename_i q m p n j l;split at h;· rename_i i;have e:=OH i;subst e;obtain⟨_,d,f⟩:=B_ h;refine .y f (Abu λη H O a g _=>⟨_,?_,D8 d⟩) λ_ _=>trivial;rw[c];exact Aq.min2 (congrArg Ac (AU j (g x (by simp_all[Z8,gj])))) (congrArg Ac (AU l (g y (by rw[c];simp[Z8,gj]))))
  grind
 grind
def iI{α:Type}(l a:List α):List α:=a.take (min a.length l.length)++l.drop (min a.length l.length)
theorem cm(l b:List α):(iI l b).length=l.length:=by grind[iI]
theorem OA{α:Type}{c:Cd α}{H:Hp} :∀ {l:List α} {xs:List Ce} (m:Nat),A2 c H l xs->A2 c H (l.drop m) (xs.drop (m*c.sz))
 |l,xs,0,h=>by grind
 | [],xs,m+1,h=>by grind[A2]
 |a::l,_,m+1,⟨b,d,e,g,i⟩=>by
  have:=OA m i;have e:(b++d).drop ((m+1)*c.sz)=d.drop (m*c.sz):=by
   have j:=c.len g;have f:(m+1)*c.sz=b.length+m*c.sz:=by grind
   grind[xI,List.drop_left]
  grind
def cp(P:GO)(S:Nat->SV N.T)(Rr:Nat->Option (SR N.T))(nk:Nat)(x y:Er)(t:Gn)(k:Bt N.T->Nat->Option R):Option R:=match P.underlying t,Av S x with
 |some (.slice e), .AE b=>match Rr b with
  |some (.row g c l)=>match Hg g e&&Di P e (c.sz N),Xh S Rr c y with
   |true,Ac (a,d)=>Ah (min a.length l.length<=Aj) (k ⟨.na (min a.length l.length),d,[(b, .row g c (iI l a))]⟩ nk)
   |_,_=>Dc
  |_=>Dc
 |_,_=>Dc
theorem gg{t2:Gn}(q:o.op= .call {callee:= .builtin .copy,args:= #[x,y],argTypes:= #[t,t2]})(h:cp P S Rr nk x y t k=Ac r):A1 P C S Rr nk o k r:=by
 unfold cp at h;split at h
 ·rename_i e b U T;split at h
  ·rename_i g f l A;split at h
   ·rename_i c rd n m;obtain⟨hc,h⟩:=AG h;refine .set h A (Afv A (by simp) λη H O a X i D w L Q=>?_) λ_ _=>trivial;rw[AS]at n;have I:=AI n.1;subst I;obtain⟨F,J,M⟩:=L;subst J;have B:(SV.AE b:SV N.T).is C η H (a.eval x):=by rw[<-T];exact D x (by rw[q];simp[Z8,gj])
    obtain⟨G,E,s⟩:=LD m (D y (by rw[q];simp[Z8,gj])) Q;obtain⟨bytes,z,V,W,_,_,_⟩:=Ed n.2;obtain⟨ii,p,K,_,_⟩:=V.ex;have j:A2 (N.c f) H (iI l c) (G.take (min c.length l.length*f.sz N)++F.drop (min c.length l.length*f.sz N)):=by have u:=A2.take (min c.length l.length) E;have v:=OA (min c.length l.length) M;rw[Bp]at u v;exact u.app v
    refine⟨.row (η b) g (f.sz N) l.length (G.take (min c.length l.length*f.sz N)++F.drop (min c.length l.length*f.sz N)),⟨_,by rw[cm],j⟩,?_⟩;rw[q];rw[<-B.1]at w;refine(Ajv (tys:= #[t,t2]) U p K rfl rfl rfl w s E.one).mono ?_;rintro v' Y Z ⟨rfl,rfl,rfl⟩;refine⟨rfl,by rw[B.1],rfl,?_⟩;grind
   grind
  grind
 grind
theorem Zk{b:Ty}(a:b.agg=Ak):b.sz N=1:=by unfold Ty.agg at a;grind[Ty.sz]
def fdK(P:GO)(S:Nat->SV N.T)(nk:Nat)(t:Gn)(x:Er)(i:Nat)(k:Bt N.T->Nat->Option R):Option R:=match ie P t i with
 |some (off,c,m+1)=>match L6 N P c,Av S x with
  |some b, .d a y=>match a.agg,Fh N 16 a y off b with
   |true,Ac z=>k ⟨.d b z,[],[]⟩ nk
   |_,_=>Dc
  |_,_=>Dc
 |_=>Dc
theorem wv{i:Nat}(A:o.op= .field t x i)(h:fdK P S nk t x i k=Ac r):A1 P C S Rr nk o k r:=by
 unfold fdK at h;split at h
 ·rename_i off ft m U;obtain⟨Z,f,F,G,I,J,_⟩:=(jx.of U).ex;split at h
  ·rename_i E L y B V;split at h
   ·rename_i z s n;refine .y h (Abu λη H O a W _=>?_) λ_ _=>trivial;obtain⟨c,Q,e⟩:(SV.d L y:SV N.T).is C η H (a.eval x):=by grind[Z8]
    have e:(match L.agg with|true=>a.eval x= .agg c.toArray|false=>c=[a.eval x]):=e;rw[s]at e;obtain⟨d,K,j,bytes,zz,D⟩:=Ka B;obtain⟨q,v⟩:=Da n Q;cases b:E.agg with
    |true=>
     refine⟨.agg (c.toArray.extract off (off+E.sz N)),?_,(c.drop off).take (E.sz N),q,?_⟩;· rw[A];refine Aq.Ap λM w X g _ u _=>?_;have:=u x _ rf;simp[Kr,g,this,e,Instr.field,AY F,G,asAgg,part,J,I,Cm K,j,b,D.sizeOf]
     ·unfold CU;rw[b];simp only[Ce.agg.injEq];simp[List.extract_eq_take_drop]
    |false=>
     have T:=Zk (N:=N) b;rw[T]at q v;have l:off<c.length:=by omega
     have hc:(c.drop off).take 1=[c[off]]:=by rw[Aar l];rfl
     rw[hc]at q;refine⟨c[off],?_,[c[off]],q,?_⟩;· rw[A];refine Aq.Ap λM w X g _ u _=>?_;have:=u x _ rfl;simp[Kr,g,this,e,Instr.field,AY F,G,asAgg,part,J,I,Cm K,j,b,l]
     ·unfold CU;rw[b]
   grind
  grind
 grind
end
end
section
variable {N : Df} {R : Type} {P : GO} {C : List (SV N.T)} {S : Nat -> SV N.T} {Rr : Nat -> Option (SR N.T)} {nk : Nat} {o : K5} {k : Bt N.T -> Nat -> Option R} {r : R}
section
variable{H:Hp}{u t:Gn}{x y:Er}
def La:Ty->Option (List Lm)
 | .int k=>Ac [k]
 | .st t=>La t
 | .pr a b=>match La a,La b with
  |some x,Ac y=>Ac (x++y)
  |_,_=>Dc
 |_=>Dc
def DH:(t:Ty)->t.den N.T->List Int
 | .int _,x=>[x]
 | .st t,x=>DH t x
 | .pr a b,x=>DH a x.1++DH b x.2
 |_,_=>[]
theorem CN:∀ {t:Ty} {x:t.den N.T} {d:List Lm},La t=Ac d->(DH t x).length=d.length
 | .int _,_,_,h=>by cases h;rfl
 | .st t,x,_,h=>CN (t:=t) h
 | .pr a b,x,d,h=>by
  unfold La at h;split at h;· rename_i p q e f;cases h;show(DH a x.1++DH b x.2).length=_;rw[Aab,Aab,CN e,CN f]
  grind
theorem Y_:∀ {b:List Lm} {xs:List Int} {a:List Lm} {ys:List Int},xs.length=b.length->C_ (b++a) (xs++ys)=C_ b xs++C_ a ys
 | [],[],_,_,_=>rfl
 |k::b,x::xs,_,_,h=>by grind[C_]
 | [],_::_,_,_,h=>by grind
 |_::_,[],_,_,h=>by grind
theorem D7{H:Hp} :∀ {t:Ty} {x:t.den N.T} {d:List Lm} {cs:List Ce},La t=Ac d->(N.c t).BS H x cs->cs=C_ d (DH t x)
 | .int k,x,_,cs,h,c=>by cases h;exact(D6.1 c).1
 | .st t,x,_,cs,h,c=>D7 (t:=t) h c
 | .pr a b,x,d,cs,h,c=>by
  unfold La at h;split at h;· rename_i p q e j;cases h;obtain⟨l,m,rfl,g,i⟩:=c;show _=C_ (p++q) (DH a x.1++DH b x.2);rw[Y_ (CN e),<-D7 e g,<-D7 j i]
  grind
def two(C:List (SV N.T))(t:Ty)(x y:SV N.T):Option (t.den N.T×t.den N.T):=match TM C t x,TM C t y with
 |some a,Ac b=>Ac (a,b)
 |_,_=>Dc
def sG(P:GO)(t:Gn)(a:List Lm):Bool:=match P.underlying t with
 |some (.array n e)=>match P.underlying e with
  |some (.int k)=>(Ps P e 1&& !P.eqGuardType P.depth t)&&(Hg a.length n&&a.all λj=>kb j k)
  |_=>Ak
 |_=>Ak
theorem LZ{k:Lm} :∀ {a:List Lm} {xs:List Int},(∀j∈a,j=k)->xs.length=a.length->C_ a xs=xs.map (Ce.int k)
 | [],[],_,_=>rfl
 |j::a,x::xs,h,c=>by simp only[C_,List.zipWith_cons_cons,Aat,h j (by simp)];congr 1;exact LZ (λj b=>h j (by grind)) (by grind)
 | [],_::_,_,h=>by grind
 |_::_,[],_,h=>by rfl
theorem Akk{O:List Aw}{E:Er->Option Ce}{T:Gn}{ne:Bool}{d:List Lm}{xs ys:List Int}(b:sG P t d=Br)(g:E x=Ac (.agg (C_ d xs).toArray))(h:E y=Ac (.agg (C_ d ys).toArray))(h1:xs.length=d.length)(h2:ys.length=d.length):
  Aq P (.binOp (match ne with|true=> .neq|false=> .eql) t x y u) T E H O (.bool (match ne with|true=> !decide (xs=ys)|false=>Ds (xs=ys))):=by
 unfold sG at b;split at b
 ·rename_i n e p;split at b;· rename_i k l;simp only[AS,Adz]at b;obtain⟨⟨q,i⟩,c,s⟩:=b;have c:=AI c;have m:∀j∈d,j=k:=λj v=>OH (IT.1 s j v);obtain⟨bytes,z,f⟩:=Dt q;rw[LZ m h1]at g;rw[LZ m h2]at h;cases ne with
   |true=>grind[Aiz]
   |false=>exact Ajb i p l f g h (h1.trans c) (h2.trans c)
  grind
 grind
def eqK(P:GO)(C:List (SV N.T))(S:Nat->SV N.T)(nk:Nat)(ne:Bool)(t:Gn)(x y:Er)(k:Bt N.T->Nat->Option R):Option R:=match L6 N P t with
 |some .bs=>match P.underlying t with
  |some (.array 4 e)=>match P.underlying e,Ps P e 1,P.eqGuardType P.depth t,two C .bs (Av S x) (Av S y)with
   |some (.int .u64),Br,Ak,Ac (a,b)=>match ne with
    |false=>k ⟨.d .bool (Qp a b),[],[]⟩ nk
    |true=>k ⟨.d .bool (!Qp a b),[],[]⟩ nk
   |_,_,_,_=>Dc
  |_=>Dc
 |some (.st u)=>match La u,two C (.st u) (Av S x) (Av S y)with
  |some c,Ac (a,b)=>match Sn P t c with
   |true=>match ne with
    |false=>k ⟨.d .bool (Ds (DH u a=DH u b)),[],[]⟩ nk
    |true=>k ⟨.d .bool (!decide (DH u a=DH u b)),[],[]⟩ nk
   |false=>match sG P t c with
    |true=>k ⟨.d .bool (match ne with|true=> !decide (DH u a=DH u b)|false=>Ds (DH u a=DH u b)),[],[]⟩ nk
    |false=>Dc
  |_,_=>Dc
 |_=>Dc
theorem Po{t:Ty}{x y:SV N.T}{a b:t.den N.T}{η:Nat->Ce}{v w:Ce}(h:two C t x y=Ac (a,b))(e:x.is C η H v)(f:y.is C η H w):(SV.d t a).is C η H v/\(SV.d t b).is C η H w:=by grind[two,DO]
theorem ok_eq{ne:Bool}(s:o.op= .binOp (match ne with|true=> .neq|false=> .eql) t x y u)(h:eqK P C S nk ne t x y k=Ac r):A1 P C S Rr nk o k r:=by
 have v:∀ {η:Nat->Ce} {H:Hp} {a:Act},(∀x∈o.op.operands,(Av S x).is C η H (a.eval x))->(Av S x).is C η H (a.eval x):=λc=>c x (by grind[Z8]);have A:∀ {η:Nat->Ce} {H:Hp} {a:Act},(∀x∈o.op.operands,(Av S x).is C η H (a.eval x))->(Av S y).is C η H (a.eval y):=λc=>c y (by grind[Z8]);unfold eqK at h;split at h
 ·split at h
  ·rename_i e K;split at h
   ·rename_i a b I Q J D;obtain⟨bytes,z,B⟩:=Dt Q;have val:∀ {η:Nat->Ce} {H:Hp} {f:Act},(∀x∈o.op.operands,(Av S x).is C η H (f.eval x))->f.eval x= .agg (O_ a)/\f.eval y= .agg (O_ b):=λc=>by
     obtain⟨⟨F,g,m⟩,G,i,n⟩:=Po D (v c) (A c);subst g;subst i;have m:_=Ce.agg (O_ a).toList.toArray:=m;have n:_=Ce.agg (O_ b).toList.toArray:=n;exact⟨m,n⟩
    split at h;· refine .y h (Abu λη H O f c _=>?_) λ_ _=>trivial;obtain⟨p,q⟩:=val c;exact⟨_,by rw[s];exact Aim J K I B (congrArg Ac p) (congrArg Ac q),C0⟩
    ·refine .y h (Abu λη H O f c _=>?_) λ_ _=>trivial;obtain⟨p,q⟩:=val c;exact⟨_,by rw[s];exact Aii J K I B (congrArg Ac p) (congrArg Ac q),C0⟩
   grind
  grind
 ·rename_i w M;split at h
  ·rename_i L a b l D;split at h
   ·rename_i E;have val:∀ {η:Nat->Ce} {H:Hp} {f:Act},(∀x∈o.op.operands,(Av S x).is C η H (f.eval x))->f.eval x= .agg (C_ L (DH w a)).toArray/\f.eval y= .agg (C_ L (DH w b)).toArray:=λc=>by
     obtain⟨⟨F,g,m⟩,G,i,n⟩:=Po D (v c) (A c);have g:=D7 (t:=w) l g;have i:=D7 (t:=w) l i;subst g;subst i;exact⟨m,n⟩
    split at h;· refine .y h (Abu λη H O f c _=>?_) λ_ _=>trivial;obtain⟨p,q⟩:=val c;exact⟨_,by rw[s];exact Akl E (congrArg Ac p) (congrArg Ac q) (CN l) (CN l),C0⟩
    ·refine .y h (Abu λη H O f c _=>?_) λ_ _=>trivial;obtain⟨p,q⟩:=val c;exact⟨_,by rw[s];exact Akn E (congrArg Ac p) (congrArg Ac q) (CN l) (CN l),C0⟩
   ·split at h;· rename_i E;refine .y h (Abu λη H O f c _=>?_) λ_ _=>trivial;obtain⟨⟨F,g,m⟩,G,i,n⟩:=Po D (v c) (A c);have g:=D7 (t:=w) l g;have i:=D7 (t:=w) l i;subst g;subst i;exact⟨_,by rw[s];exact Akk (ne:=ne) E (congrArg Ac m) (congrArg Ac n) (CN l) (CN l),C0⟩
    ·cases h
  ·cases h
 grind
def c8(P:GO)(C:List (SV N.T))(S:Nat->SV N.T)(nk:Nat)(b:BinOp)(t:Gn)(x y:Er)(k:Bt N.T->Nat->Option R):Option R:=match xU P t with
 |true=>match b with
  | .eql=>eqK P C S nk Ak t x y k
  | .neq=>eqK P C S nk Br t x y k
  |_=>Dc
 |false=>sA P S nk b t x y k
theorem gh{b:BinOp}(a:o.op= .binOp b t x y u)(h:c8 P C S nk b t x y k=Ac r):A1 P C S Rr nk o k r:=by
 unfold c8 at h;split at h
 ·split at h;· exact ok_eq (ne:=Ak) a h
  ·exact ok_eq (ne:=Br) a h
  grind
 grind[pQ]
end
end
section
variable{Y:List (Nat×Aw)}{k:Nat}
def FF(Y:List (Nat×Aw))(k:Nat):List (Nat×Aw):=Y.filter λp=> !Nat.beq p.1 k
theorem DJ{Y:List (Nat×Aw)}{k j:Nat}(h:j≠k):Ax (FF Y k) j=Ax Y j:=by
 induction Y with
 |nil=>rfl
 |cons p Y b=>
  obtain⟨q,y⟩:=p;simp only[FF,Aeo]at b⊢;cases c:Hg q k with
  |true=>
   have:=AI c;simp only[Ahd,Aco,if_false,b,Ax];grind[Hg,absurd,aP]
  |false=>
   grind[Ax]
theorem CO{Y:List (Nat×Aw)}{k j:Nat}(h:j∈keys (FF Y k)):j∈keys Y:=by obtain⟨p,a,e⟩:=By.1 h;exact By.2 ⟨p,(Aax.1 a).1,e⟩
theorem Ia(h:(keys Y).Nodup):(keys (FF Y k)).Nodup:=by grind[keys,FF]
theorem X7(h:k∉keys Y):FF Y k=Y:=by
 unfold FF;rw[List.filter_eq_self];intro p b;cases a:Hg p.1 k with
 |true=>exact absurd (By.2 ⟨p,b,AI a⟩) h
 |false=>rfl
theorem bS(Of:List Aw){x:Aw}(d:(keys Y).Nodup)(h:Ax Y k=Ac x):∃i,(Y.map (·.2)++Of)[i]?=Ac x/\(Y.map (·.2)++Of).eraseIdx i=(FF Y k).map (·.2)++Of:=by
 induction Y with
 |nil=>cases h
 |cons p Y g=>
  obtain⟨q,y⟩:=p;simp only[Ax]at h;simp only[keys,Aat,Aba]at d;cases b:Hg q k with
  |true=>
   rw[b]at h;cases h;have:=AI b;refine⟨0,rfl,?_⟩;have:FF ((q,x)::Y) q=Y:=by unfold FF;rw[Aeo];simp only[Agl,Ahd,Aco,if_false];exact X7 d.1
   grind
  |false=>
   rw[b]at h;obtain⟨i,e,f⟩:=g d.2 h;refine⟨i+1,by simpa using e,?_⟩;simp_all[FF]
end
section
variable {N : Df}
def GR(k:Nat)(t:Ty)(l:List (t.den N.T)):SV N.T->SV N.T
 | .AE j=>match Hg j k with
  |true=> .d (.sl t) l
  |false=> .AE j
 | .Ee j i off g x=>match Hg j k with
  |true=> .no
  |false=> .Ee j i off g x
 | .lf s a r=> .lf s (GR k t l a) (GR k t l r)
 | .t2 a b=> .t2 (GR k t l a) (GR k t l b)
 | .t3 a b c=> .t3 (GR k t l a) (GR k t l b) (GR k t l c)
 | .AA f r e=> .AA f (GR k t l r) e
 | .vc a r=> .vc (GR k t l a) (GR k t l r)
 |s=>s
variable {C : List (SV N.T)} {η : Nat -> Ce} {H : Hp}
theorem CW{g:Nat->Ce->Prop}{k:Nat}{t:Ty}{l:List (t.den N.T)}(h:G5 (N.c t) H l (η k)):∀ {s:SV N.T} {v:Ce},s.BV g η H v->(GR k t l s).BV g η H v
 | .AE j,v,o=>by
  unfold GR;split;· rename_i E;have:=AI E;subst this;exact⟨[v],⟨v,rfl,by rw[o.1];omega⟩,rfl⟩
  omega
 | .Ee j i off I x,v,o=>by unfold GR;split;all_goals trivial
 | .lf s a r,v,⟨w,A,u,e,m,n,p,B,D⟩=>⟨w,A,u,e,m,CW h n,p,B,CW h D⟩
 | .t2 a b,v,⟨x,y,e,m,n⟩=>⟨x,y,e,CW h m,CW h n⟩
 | .t3 a b c,v,⟨x,y,z,e,m,n,p⟩=>⟨x,y,z,e,CW h m,CW h n,CW h p⟩
 | .AA f r G,v,⟨q,e,m⟩=>⟨q,e,CW h m⟩
 | .vn,_,h=>h
 | .vc a r,v,⟨u,q,e,m,n⟩=>⟨u,q,e,CW h m,CW h n⟩
 | .d _ _,_,h=>h
 | .na _,_,h=>h
 | .ct _ _,_,h=>h
 | .cb _ _,_,h=>h
 | .lt _ _ _,_,h=>h
 | .lb _,_,h=>h
 | .raw _,_,h=>h
 | .ud,_,h=>h
 | .no,_,h=>h
 | .loc _ _,_,h=>h
 | .pd _ _ _,_,h=>h
 | .mp _,_,h=>h
 | .nl,_,h=>h
 | .px _ _,_,h=>h
 | .CD _,_,h=>h
end
theorem LL{Y:List (Nat×Aw)}(Of:List Aw){k:Nat}{x:Aw}(h:Ax Y k=Ac x):(Y.map (·.2)++Of)[(keys Y).idxOf k]?=Ac x/\(keys Y).idxOf k<Y.length:=by
 induction Y with
 |nil=>cases h
 |cons p Y f=>
  obtain⟨q,y⟩:=p;simp only[Ax]at h;simp only[keys,Aat];rw[List.idxOf_cons];cases b:Hg q k with
  |true=>
   simp_all
  |false=>
   rw[b]at h;have c:(q==k)=Ak:=by simpa using Abe b
   obtain⟨d,e⟩:=f h;rw[c];unfold keys at d e;exact⟨by simpa using d,by simpa using e⟩
inductive PP where
 |sub (j n:Nat) (t:Ty)
 |sf
 |hc (n:Nat)
inductive SP where
 |v (j:Nat) (t:Ty)
 |AB (j i:Nat)
 |nat (j:Nat)
 |Al
 |kp (t:Ty)
 |c (j:Nat)
 |AE (k:Nat)
 |loc (k off:Nat)
 |AA (f:Nat) (fs:List (Nat×Ty)) (cs:List Nat)
 |nl
 |sv (ls:List (Nat×Nat×Ty))
 |mp (k:Nat)
 |px (ks:List Nat) (p:PP)
 |pd (j:Nat) (t:Ty) (off:Nat)
inductive RP where
 |row (g:Gn) (j:Nat)
 |Af (g:Gn) (ls:List (Nat×SP))
 |c (j:Nat)
 |map (g:Gn) (j:Nat)
 |Cr (g e:Gn) (h j:Nat)
inductive HT where
 |Ae (t:Ty)
 |nat
structure A9 where
 hs:List HT
 sl:List (Nat×SP)
 ro:List (Nat×RP)
 nk:Nat
section
variable (N : Df)
section
variable{T:Nat->Type}
def HT.den:HT->Type
 | .Ae t=>t.den N.T
 | .nat=>Nat
def BK:List HT->Type
 | []=>Unit
 | [t]=>t.den N
 |t::u::a=>t.den N×BK (u::a)
def asN:SV T->Option Nat
 | .na n| .ct _ n| .cb _ n=>Ac n
 | .raw (.int .i64 (.ofNat n))=>match iJ n Rc with
  |true=>Ac n
  |false=>Dc
 |_=>Dc
def vx(C:List (SV N.T)):(h:HT)->SV N.T->Option (h.den N)
 | .Ae t,s=>TM C t s
 | .nat,s=>asN s
def eL:(h:HT)->h.den N->SV N.T
 | .Ae t,x=> .d t x
 | .nat,n=> .na n
def xd(C:List (SV N.T))(f:Nat->SV N.T):Nat->(a:List HT)->Option (BK N a)
 |_,[]=>Ac ()
 |j,[t]=>vx N C t (f j)
 |j,t::u::b=>match vx N C t (f j),xd C f (j+1) (u::b)with
  |some x,Ac y=>Ac (x,y)
  |_,_=>Dc
def CB:(a:List HT)->BK N a->Nat->SV N.T
 | [],_,_=> .no
 | [t],x,0=>eL N t x
 | [_],_,_+1=> .no
 |t::_::_,x,0=>eL N t x.1
 |_::u::b,x,j+1=>CB (u::b) x.2 j
def vQ(a:List HT)(x:BK N a):List (Nat×Ty)->SV N.T
 | []=> .vn
 |(j,_)::l=> .vc (CB N a x j) (vQ a x l)
def oF(a:List HT)(x:BK N a):List (Nat×Nat×Ty)->SV N.T
 | []=> .nl
 |(s,j,_)::l=> .lf s (CB N a x j) (oF a x l)
def inst(a:List HT)(x:BK N a):SP->SV N.T
 | .v j _| .nat j=>CB N a x j
 | .AB j i=>match CB N a x j with
  | .na n=> .ct i n
  |s=>s
 | .c j=> .CD j
 | .AE k=> .AE k
 | .loc k off=> .loc k off
 | .AA f g e=> .AA f (vQ N a x g) e
 | .nl=> .raw (.slice Dc 0 0)
 | .sv h=>oF N a x h
 | .mp k=> .mp k
 | .px b (.sub j n t)=>match CB N a x j,CB N a x n with
  | .na i, .na m=> .px b (.sub i m t)
  |_,_=> .px b .any
 | .px b .sf=> .px b .sf
 | .px b (.hc n)=> .px b (.hc n)
 | .pd j _ off=>match CB N a x j with
  | .d t x=> .pd t x off
  |_=> .no
 |_=> .no
def instL(a:List HT)(x:BK N a):List (Nat×SP)->SV N.T
 | []=> .nl
 |(s,p)::b=> .lf s (inst N a x p) (instL a x b)
def instR(a:List HT)(x:BK N a):RP->SR N.T
 | .row g j=>match CB N a x j with
  | .d (.sl t) l=> .row g t l
  |_=> .gone
 | .Af g f=> .Af g (instL N a x f)
 | .c j=> .CD j
 | .map g j=>match CB N a x j with
  | .d (.sl (.st (.pr b i))) l=> .map g b i l
  |_=> .gone
 | .Cr g e h j=>match CB N a x j with
  | .d (.sl (.pr .bool (.sl t))) l=> .Cr g e t h l
  |_=> .gone
def FE(p:A9)(x:BK N p.hs):St N.T:=⟨p.sl.map λq=>(q.1,inst N p.hs x q.2),p.ro.map λq=>(q.1,instR N p.hs x q.2),p.nk⟩
def R_:SV N.T->Nat->Nat->Option (SV N.T)
 | .lf s a l,off,n=>match aT off s with
  |true=>match Hg off 0&&Hg s n with
   |true=>Ac a
   |false=>Dc
  |false=>R_ l (off-s) n
 |_,_,_=>Dc
def T0:SV N.T->Nat
 | .lf s _ l=>s+T0 l
 |_=>0
def whole{T:Nat->Type} :SV T->Bool
 | .lf _ _ r=>whole r
 | .nl=>Br
 |_=>Ak
def Xb:SV N.T->Nat
 | .d t _=>t.sz N
 |_=>1
def sfB(f:Nat->Nat)(c:Nat):Option (SV N.T)->Bool
 |some (.px [k] .sf)=>Hg (f c) k
 |some (.loc k 0)=>Hg (f c) k
 |some (.raw (.pointer Dc))=>Br
 |_=>Ak
def NK:Nat->List (Nat×SP)->List (Nat×Nat×SP)
 |_,[]=>[]
 |off,(s,p)::l=>(off,s,p)::NK (off+s) l
def AZ(m:List (Nat×Nat))(c:Nat):Nat:=match Ax m c with
 |some k=>k
 |none=>c
def Pt(l:List (Nat×SP)):Nat:=l.foldr (λq n=>q.1+n) 0
def kmL(C:List (SV N.T))(b:SV N.T)(l:List (Nat×SP)):List (Nat×Nat):=(NK 0 l).flatMap λq=>match q.2.2,E0 N C b q.1 Dc with
 | .AE c,Ac (.AE k)=>[(c,k)]
 | .mp c,Ac (.mp k)=>[(c,k)]
 | .px d .sf,Ac (.px e .sf)=>d.zip e
 | .px [c] .sf,Ac (.loc k _)=>[(c,k)]
 | .AA _ _ d,Ac (.AA _ _ e)=>d.zip e
 |_,_=>[]
def qY(C:List (SV N.T))(b:SV N.T)(l:List (Nat×SP)):List (Nat×SV N.T):=(NK 0 l).flatMap λq=>match q.2.2 with
 | .v j t=>[(j,(E0 N C b q.1 (Ac t)).getD .no)]
 | .nat j=>[(j,(E0 N C b q.1 Dc).getD .no)]
 |_=>[]
end
end
section
variable {N : Df} {C : List (SV N.T)} {CR : List (SR N.T)} {n : Nat} {Of : List Aw} {bs : List (Nat × Ce)} {st : St N.T} {η : Nat -> Ce} {H : Hp} {a : Act} {w : IK}
section
variable{s:SV N.T}{v:Ce}{C':List (SV N.T)}{m:Nat}{h:HT}{x:h.den N}{η':Nat->Ce}{c:List Ce}
theorem sC(h:asN s=Ac m)(b:s.is C η H v):(SV.na m:SV N.T).is C η H v:=by
 unfold asN at h;split at h;· grind
 ·cases h;exact b
 ·cases h;exact⟨b.1,Agk b.2⟩
 ·split at h;· rename_i c;cases h;exact⟨b,Aay c⟩
  grind
 grind
theorem sD(c:vx N C h s=Ac x)(b:s.is C η H v):(eL N h x).is C η H v:=by
 cases h with
 |Ae t=>exact DO (t:=t) c b
 |nat=>exact sC c b
theorem fj(b:(eL N h x).is C η H v):(eL N h x).is C' η' H v:=by cases h<;>exact b
theorem JH{f:Nat->SV N.T} :∀(b:List HT) (i:Nat) (x:BK N b),xd N C f i b=Ac x->∀j,CB N b x j= .no\/∃h y,vx N C h (f (i+j))=Ac y/\CB N b x j=eL N h y
 | [],_,_,_,_=> .inl rfl
 | [t],i,x,h,j=>by
  cases j with
  |zero=>exact .inr ⟨t,x,h,rfl⟩
  |succ j=>exact .inl rfl
 |t::u::c,i,x,h,j=>by
  have h:(match vx N C t (f i),xd N C f (i+1) (u::c)with
   |some x,Ac y=>Ac (x,y)
   |_,_=>Dc)=Ac x:=h;split at h;· rename_i y z d e;cases h;cases j with
   |zero=>exact .inr ⟨t,y,d,rfl⟩
   |succ j=>
    have:=JH (u::c) (i+1) z e j;rw[show i+1+j=i+(j+1) by omega]at this;trivial
  grind
theorem BM:∀ {l:List Nat},Cp l=Br->l.Nodup
 | [],_=>Aex
 |k::l,h=>by simp only[Cp,AS,Adz]at h;refine Aba.2 ⟨λb=>?_,BM h.2⟩;grind[AR]
theorem P8{α:Type}{f:α->Nat} :∀ {l:List α},(l.map f).Nodup->∀ {a b:α},a∈l->b∈l->f a=f b->a=b
 | [],_,_,_,h,_,_=>by grind
 |x::l,c,a,b,m,o,e=>by
  rw[Aat,Aba]at c;rcases Aao.1 m with g|j<;>rcases Aao.1 o with i|k;· grind
  ·grind
  ·grind
  ·exact P8 c.2 j k e
theorem GC{b:SV N.T}{q:Nat×Nat×SP}{l:List (Nat×SP)}(h:q∈NK 0 l):(∀j t,q.2.2= .v j t->(j,(E0 N C b q.1 (Ac t)).getD .no)∈qY N C b l)/\∀j,q.2.2= .nat j->(j,(E0 N C b q.1 Dc).getD .no)∈qY N C b l:=
 ⟨λj t e=>Pe.2 ⟨q,h,by grind⟩,λj e=>Pe.2 ⟨q,h,by grind⟩⟩
theorem J9:∀ {l:SV N.T} {cs:List Ce},whole l=Br->l.is C η H (.agg cs.toArray)->∀x∈cs,x.oneCell'=Br:=by
 intro l;induction l with
 |lf s a r _ f=>
  intro cs c h x b;obtain⟨g,i,u,rfl,j,k,m,d,e⟩:=FC h;rcases AT.1 b with b|b;· grind
  ·exact f c e x b
 |nl=>
  intro cs _ h x b;have:cs=[]:=by have h:Ce.agg cs.toArray= .agg #[]:=h;grind
  grind
 |_=>intro cs c _;cases c
theorem HR:∀ {l:SV N.T} {cs:List Ce},whole l=Br->l.is C η H (.agg cs.toArray)->T0 N l=cs.length:=by
 intro l;induction l with
 |lf s a r _ d=>
  intro cs b h;obtain⟨e,f,u,rfl,g,i,j,k,c⟩:=FC h;have:=d b c;grind[T0]
 |nl=>
  intro cs _ h;have:cs=[]:=by have h:Ce.agg cs.toArray= .agg #[]:=h;grind
  subst this;rfl
 |_=>intro cs b _;cases b
theorem aJ:∀ {l s:SV N.T} {off m:Nat} {cs:List Ce},R_ N l off m=Ac s->l.is C η H (.agg cs.toArray)->∃u,s.is C η H u/\u.cells.toList=(cs.drop off).take m/\u.cells.toList.length=m:=by
 intro l;induction l with
 |lf s a r _ p=>
  intro sv off m cs h o;obtain⟨y,z,u,rfl,c,j,e,A,k⟩:=FC o;unfold R_ at h;split at h
  ·split at h;· rename_i b;cases h;simp only[AS]at b;have g:=AI b.1;have i:=AI b.2;subst g;subst i;exact⟨u,j,by rw[e,Afb,Acf (by omega),<-c,Aav],by rw[e];exact c⟩
   grind
  ·rename_i b;have b:s<=off:=by
    rcases Aal off s with d|d;· rw[show aT off s=Br by simpa using d]at b;cases b
    ·exact d
   obtain⟨x,q,t,v⟩:=p h k;refine⟨x,q,?_,v⟩;rw[Acv,Aaz (by omega),Aci,c];exact t
 |_=>intro sv off m cs h _;simp[R_]at h
structure dD(C:List (SV N.T))(Hs:List (Nat×SV N.T))(P:Nat->SV N.T):Prop where
 ok:∀j s,(j,s)∈Hs->P j= .no\/∃h y,vx N C h s=Ac y/\P j=eL N h y
theorem dD.is{Hs:List (Nat×SV N.T)}{P:Nat->SV N.T}(h:dD C Hs P){j:Nat}(d:(j,s)∈Hs)(f:s.is C η H v):(P j).is C' η' H v:=by
 rcases h.ok j s d with e|⟨g,y,b,c⟩;· rw[e];trivial
 ·rw[c];exact fj (sD b f)
theorem Zt{cs:List Ce}{off:Nat}(h:(cs.drop off).take m=c)(d:c.length=m):cs.drop off=c++cs.drop (off+m):=by grind[xI,List.take_append_drop]
theorem Zz{f:Nat->Nat}{c:Nat}{u:Ce}(b:sfB N f c (Ac s)=Br)(h:s.is C η H u) :(SV.px [c] .sf:SV N.T).is C' (λc=>η (f c)) H u/\Xb N s=1:=by
 unfold sfB at b;split at b;· rename_i k e;cases e;have:=AI b;subst this;trivial
 ·rename_i k e;cases e;have:=AI b;obtain⟨B,d,g⟩:=h;exact⟨.inr ⟨B,by grind,g⟩,rfl⟩
 ·rename_i e;cases e;exact⟨.inl h,rfl⟩
 grind
theorem CE{sv:SV N.T}(h:xZ C η H sv c):c.length=Xb N sv:=by
 obtain⟨u,i,b,d⟩:=h;rcases d with⟨j,y,rfl,e⟩|⟨g,f⟩;· exact e
 ·rw[<-b,A' g];cases sv<;>first|rfl|grind
end
end
def SV.DS{T:Nat->Type}(ρ:Nat->Nat):SV T->SV T
 | .loc k o=> .loc (ρ k) o
 | .AE k=> .AE (ρ k)
 | .mp k=> .mp (ρ k)
 | .Ee _ _ _ _ _=> .no
 | .lf s a l=> .lf s (a.DS ρ) (l.DS ρ)
 | .t2 a b=> .t2 (a.DS ρ) (b.DS ρ)
 | .t3 a b c=> .t3 (a.DS ρ) (b.DS ρ) (c.DS ρ)
 | .AA f l cs=> .AA f (l.DS ρ) (cs.map ρ)
 | .vc a l=> .vc (a.DS ρ) (l.DS ρ)
 | .px e p=> .px (e.map ρ) p
 |s=>s
def SR.DS{T:Nat->Type}(ρ:Nat->Nat):SR T->SR T
 | .Af g l=> .Af g (l.DS ρ)
 | .row g t l=> .row g t l
 | .map g a b l=> .map g a b l
 | .Cr g e t h l=> .Cr g e t (ρ h) l
 |_=> .gone
section
variable {N : Df} {C : List (SV N.T)} {η η' : Nat -> Ce} {H : Hp}
section
variable{ρ:Nat->Nat}{C':List (SV N.T)}
theorem Afd{g:Nat->Ce->Prop}{ρ:Nat->Nat} :∀ {s:SV N.T} {v:Ce},(∀k∈s.AL,η' (ρ k)=η k)->s.BV g η H v->(s.DS ρ).BV g η' H v
 | .d t x,v,_,h=>h
 | .na _,_,_,h=>h
 | .ct _ _,_,_,h=>h
 | .cb _ _,_,_,h=>h
 | .lt _ _ _,_,_,h=>h
 | .lb _,_,_,h=>h
 | .raw _,_,_,h=>h
 | .ud,_,_,h=>h
 | .no,_,_,h=>h
 | .loc k o,_,e,h=>by grind[SV.DS,SV.BV,SV.AL]
 | .AE k,_,e,h=>by grind[SV.DS,SV.BV,SV.AL]
 | .Ee _ _ _ _ _,_,_,_=>trivial
 | .pd t x off,v,_,h=>h
 | .mp k,_,e,h=>by grind[SV.DS,SV.BV,SV.AL]
 | .lf s a l,v,e,⟨A,B,u,m,i,n,q,E,F⟩=>⟨A,B,u,m,i,Afd (λk j=>e k (by grind[SV.AL])) n,q,E,Afd (λk j=>e k (by grind[SV.AL])) F⟩
 | .nl,_,_,h=>h
 | .t2 a b,v,e,⟨x,y,m,i,n⟩=>⟨x,y,m,Afd (λk j=>e k (by grind[SV.AL])) i,Afd (λk j=>e k (by grind[SV.AL])) n⟩
 | .t3 a b c,v,e,⟨x,y,z,m,i,n,q⟩=>⟨x,y,z,m,Afd (λk j=>e k (by grind[SV.AL])) i,Afd (λk j=>e k (by grind[SV.AL])) n,Afd (λk j=>e k (by grind[SV.AL])) q⟩
 | .AA f l I,v,e,⟨w,m,i⟩=>⟨w,by simp_all[SV.AL],Afd (λk j=>e k (by grind[SV.AL])) i⟩
 | .vn,_,_,h=>h
 | .vc a l,v,e,⟨u,w,m,i,n⟩=>⟨u,w,m,Afd (λk j=>e k (by grind[SV.AL])) i,Afd (λk j=>e k (by grind[SV.AL])) n⟩
 | .px r p,v,e,h=>by
  have D:(r.map ρ).map η'=r.map η:=by simp_all[SV.AL]
  show p.is ((r.map ρ).map η') H v;rw[D];exact h
 | .CD _,_,_,h=>h
theorem SR.Mr{k:Nat}{s:SR N.T}{r:Aw}(f:η' (ρ k)=η k)(e:∀j∈s.AL,η' (ρ j)=η j)(h:s.is [] η H k r):(s.DS ρ).is C' η' H (ρ k) r:=by
 cases s with
 |Af g l=>
  obtain⟨B,i,b,a,c⟩:=h;exact⟨B,i,f.trans b,a,SV.BV.imp (λ_ _ ⟨_,h,_⟩=>by grind) (Afd e c)⟩
 |row g t l=>obtain⟨d,b,a⟩:=h;exact⟨d,by grind,a⟩
 |CD j=>trivial
 |gone=>trivial
 |map g p q l=>obtain⟨B,b,a⟩:=h;exact⟨B,f.trans b,a⟩
 |Cr g o t m l=>obtain⟨d,n,b,a,c⟩:=h;exact⟨d,n,by grind,(e m (by simp[SR.AL])).trans a,c⟩
theorem SV.Mr{s:SV N.T}{v:Ce}(e:∀k∈s.AL,η' (ρ k)=η k)(h:s.is [] η H v):(s.DS ρ).is C' η' H v:=
 SV.BV.imp (λ_ _ ⟨_,h,_⟩=>by grind) (Afd e h)
theorem SH.Rg{w:IK}{Y Z:List (Nat×Aw)}{Of:List Aw}(h:SH w H (Y.map (·.2)++Of))(t:(keys Z).Nodup)(u:∀p∈Z,Ax Y p.1=Ac p.2):SH w H (Z.map (·.2)++Of):=by
 refine h.pick (λi=>match Z[i]? with
  |some p=>(keys Y).idxOf p.1
  |none=>Y.length+(i-Z.length)) (λi r E=>?_) λi j B D e=>?_;· cases s:Z[i]? with
  |some p=>
   grind[List.getElem?_append_left,LL,List.mem_of_getElem?]
  |none=>
   grind
 ·have lt:∀ {i:Nat} {p:Nat×Aw},Z[i]?=Ac p->(keys Y).idxOf p.1<Y.length:=λ{i} {p} s=>(LL Of (u p (Aai s))).2;cases b:Z[i]? with
  |some p=>
   cases a:Z[j]? with
   |some q=>
    simp only[b,a]at e;have y:=Dd (u q (Aai a));have n:(keys Y)[(keys Y).idxOf p.1]?=Ac p.1:=by grind
    have x:(keys Y)[(keys Y).idxOf q.1]?=Ac q.1:=by grind
    rw[e,x]at n;have o:=Abs n;have k:(keys Z)[i]?=Ac p.1:=by unfold keys;rw[Acb,b];rfl
    have l:(keys Z)[j]?=Ac q.1:=by unfold keys;rw[Acb,a];rfl
    obtain⟨f,k⟩:=No.1 k;obtain⟨g,l⟩:=No.1 l;rcases Acw i j with d|v|d;· exact(Aaw.1 t i j f g d (by rw[k,l];exact o.symm)).elim
    ·exact v
    ·exact(Aaw.1 t j i g f d (by rw[k,l];exact o)).elim
   |none=>
    simp only[b,a]at e;have:=lt b;omega
  |none=>
   cases a:Z[j]? with
   |some q=>
    simp only[b,a]at e;have:=lt a;omega
   |none=>
    simp only[b,a]at e;have z:=Afw.1 b;have A:=Afw.1 a;omega
end
end
structure PQ(N:Df)where
 pi:A9
 po:A9
 rk:Nat
 gone:List Nat
 F:BK N pi.hs->Option (BK N po.hs)
def Ii:List (Nat×SP)->Nat->SP:=λl i=>match Ax l i with
 |some p=>p
 |none=> .Al
section
variable {N : Df}
def Jl(q:PQ N)(y:BK N q.po.hs):SV N.T:=match q.rk with
 |0=> .raw (.tuple #[])
 |1=>inst N q.po.hs y (Ii q.po.sl 0)
 |2=> .t2 (inst N q.po.hs y (Ii q.po.sl 0)) (inst N q.po.hs y (Ii q.po.sl 1))
 |_=> .t3 (inst N q.po.hs y (Ii q.po.sl 0)) (inst N q.po.hs y (Ii q.po.sl 1)) (inst N q.po.hs y (Ii q.po.sl 2))
structure PIn(q:PQ N)(x:BK N q.pi.hs)(η:Nat->Ce)(H:Hp)(Y:List (Nat×Aw))(vs:List Ce):Prop where
 len:vs.length=q.pi.sl.length
 sl:∀p∈q.pi.sl,∃v,vs[p.1]?=Ac v/\(inst N q.pi.hs x p.2).is [] η H v
 ks:keys Y=q.pi.ro.map (·.1)
 ro:∀p∈q.pi.ro,∃X,Ax Y p.1=Ac X/\(instR N q.pi.hs x p.2).is [] η H p.1 X
 inv:N.inv H
structure x_(q:PQ N)(y:BK N q.po.hs)(η η':Nat->Ce)(H':Hp)(Y Y':List (Nat×Aw))(v:Ce):Prop where
 env:∀k,k<q.pi.nk->η' k=η k
 nd:(keys Y').Nodup
 ks:∀k∈keys Y',k∈keys Y\/k∈q.po.ro.map (·.1)
 ro:∀p∈q.po.ro,∃X,Ax Y' p.1=Ac X/\(instR N q.po.hs y p.2).is [] η' H' p.1 X
 st:∀k∈keys Y,k∉q.po.ro.map (·.1)->k∉q.gone->Ax Y' k=Ax Y k
 res:(Jl q y).is [] η' H' v
structure Ch(P:GO)(f:Nat)(q:PQ N):Prop where
 YZ:TO P f
 ok:∀x y,q.F x=Ac y->∀(η:Nat->Ce) (H:Hp) (Of:List Aw) (Y:List (Nat×Aw)) (vs:List Ce),(keys Y).Nodup->PIn q x η H Y vs->
  Tw P f vs H (Y.map (·.2)++Of) (λv H' O'=> ∃η' Y',O'=Y'.map (·.2)++Of/\x_ q y η η' H' Y Y' v)
def wfQ(q:PQ N):Bool:=((q.pi.ro.map (·.1)).all λk=>aT k q.pi.nk)&&(Cp (q.pi.ro.map (·.1))&&(Cp (q.po.ro.map (·.1))&&(iJ q.pi.nk q.po.nk&&(((q.po.ro.map (·.1)).all λk=>Cf (q.pi.ro.map (·.1)) k||(iJ q.pi.nk k&&aT k q.po.nk))&&(q.gone.all λk=>Cf (q.pi.ro.map (·.1)) k)))))
def qkS(A:Nat->SV N.T)(l:List (Nat×SP)):List (Nat×Nat):=l.flatMap λq=>match q.2,A q.1 with
 | .AE c, .AE k=>[(c,k)]
 | .loc c _, .loc k _=>[(c,k)]
 | .AA _ _ a, .AA _ _ b=>a.zip b
 | .mp c, .mp k=>[(c,k)]
 | .px a _, .px b _=>a.zip b
 |_,_=>[]
def qkR(C:List (SV N.T))(Rr:Nat->Option (SR N.T))(m:List (Nat×Nat))(l:List (Nat×RP)):List (Nat×Nat):=l.flatMap λq=>match q.2,Rr (AZ m q.1)with
 | .Af _ a,Ac (.Af _ b)=>kmL N C b a
 |_,_=>[]
def vR:List (Nat×Ty)->SV N.T->List (Nat×SV N.T)
 |(j,_)::l, .vc a r=>(j,a)::vR l r
 |_,_=>[]
def vcB:List (Nat×Ty)->SV N.T->Bool
 | [], .vn=>Br
 |_::l, .vc _ r=>vcB l r
 |_,_=>Ak
def vm(ls:List (Nat×Nat×Ty)):List (Nat×SP):=ls.map λq=>(q.1, .v q.2.1 q.2.2)
def eN(C:List (SV N.T))(A:Nat->SV N.T)(l:List (Nat×SP)):List (Nat×SV N.T):=l.flatMap λq=>match q.2,A q.1 with
 | .v j _,s=>[(j,s)]
 | .nat j,s=>[(j,s)]
 | .AA _ a _, .AA _ r _=>vR a r
 | .sv b,s=>qY N C s (vm b)
 | .px _ (.sub j n _), .px _ (.sub i m _)=>[(j, .na i),(n, .na m)]
 | .pd j _ _, .pd t x _=>[(j, .d t x)]
 |_,_=>[]
def eP(C:List (SV N.T))(Rr:Nat->Option (SR N.T))(m:List (Nat×Nat))(l:List (Nat×RP)):List (Nat×SV N.T):=l.flatMap λq=>match q.2,Rr (AZ m q.1)with
 | .row _ j,Ac (.row _ t x)=>[(j, .d (.sl t) x)]
 | .map _ j,Ac (.map _ a e x)=>[(j, .d (.sl (.st (.pr a e))) x)]
 | .Af _ c,Ac (.Af _ b)=>qY N C b c
 |_,_=>[]
def Lv:List Nat->List Nat->Bool
 | [],[]=>Br
 |a::l,b::m=>Hg a b&&Lv l m
 |_,_=>Ak
theorem EK:∀ {l m:List Nat},Lv l m=Br->l=m
 | [],[],_=>rfl
 | [],_::_,h=>by cases h
 |_::_,[],h=>by cases h
 |a::l,b::m,h=>by simp only[Lv,AS]at h;rw[AI h.1,EK h.2]
def qcL(C:List (SV N.T))(b:SV N.T)(m:List (Nat×Nat))(q:Nat×Nat×SP):Bool:=match q.2.2 with
 | .v _ t=>match E0 N C b q.1 (Ac t)with
  |some sv=>Hg (Xb N sv) q.2.1
  |none=>Ak
 | .nat _=>match E0 N C b q.1 Dc with
  |some sv=>Hg (Xb N sv) q.2.1
  |none=>Ak
 | .AE c=>match E0 N C b q.1 Dc with
  |some (.AE k)=>Hg (AZ m c) k&&Hg q.2.1 1
  |_=>Ak
 | .AA f [] a=>match E0 N C b q.1 Dc with
  |some (.AA g .vn d)=>Hg f g&&(Lv (a.map (AZ m)) d&&Hg q.2.1 1)
  |_=>Ak
 | .mp c=>match E0 N C b q.1 Dc with
  |some (.mp k)=>Hg (AZ m c) k&&Hg q.2.1 1
  |_=>Ak
 | .px [c] .sf=>sfB N (AZ m) c (E0 N C b q.1 Dc)&&Hg q.2.1 1
 |_=>Ak
def qcS(C:List (SV N.T))(A:Nat->SV N.T)(m:List (Nat×Nat))(q:Nat×SP):Bool:=match q.2 with
 | .v _ _=>Br
 | .nat _=>Br
 | .Al=>Br
 | .AE c=>match A q.1 with
  | .AE k=>Hg (AZ m c) k
  |_=>Ak
 | .loc c off=>match A q.1 with
  | .loc k o=>Hg (AZ m c) k&&Hg off o
  |_=>Ak
 | .AA f e a=>match A q.1 with
  | .AA g r b=>Hg f g&&(vcB e r&&Lv (a.map (AZ m)) b)
  |_=>Ak
 | .sv d=>whole (A q.1)&&Hg (Pt (vm d)) (T0 N (A q.1))&&(NK 0 (vm d)).all (qcL C (A q.1) m)
 | .nl=>match A q.1 with
  | .raw (.slice Dc 0 0)=>Br
  |_=>Ak
 | .mp c=>match A q.1 with
  | .mp k=>Hg (AZ m c) k
  |_=>Ak
 | .pd _ _ off=>match A q.1 with
  | .pd _ _ o=>Hg off o
  |_=>Ak
 | .px a (.sub _ _ t)=>match A q.1 with
  | .px b (.sub _ _ i)=>Lv (a.map (AZ m)) b&&t.JM i
  |_=>Ak
 | .px a (.hc n)=>match A q.1 with
  | .px b (.hc h)=>Lv (a.map (AZ m)) b&&Hg n h
  |_=>Ak
 |_=>Ak
def qcR(C:List (SV N.T))(Rr:Nat->Option (SR N.T))(m:List (Nat×Nat))(n:Nat)(q:Nat×RP):Bool:=match q.2 with
 | .row g j=>match Rr (AZ m q.1)with
  |some (.row a _ _)=>Hg g a&&aT j n
  |_=>Ak
 | .map g j=>match Rr (AZ m q.1)with
  |some (.map a _ _ _)=>Hg g a&&aT j n
  |_=>Ak
 | .Af g c=>match Rr (AZ m q.1)with
  |some (.Af a b)=>Hg g a&&(whole b&&Hg (Pt c) (T0 N b)&&(NK 0 c).all (qcL C b m))
  |_=>Ak
 |_=>Ak
def Hh(C:List (SV N.T))(Rr:Nat->Option (SR N.T))(A:Nat->SV N.T)(q:A9):List (Nat×Nat):=
 let a:=qkS A q.sl
 a++qkR C Rr a q.ro
def JN(C:List (SV N.T))(Rr:Nat->Option (SR N.T))(A:Nat->SV N.T)(m:List (Nat×Nat))(q:A9):Option (BK N q.hs):=
 match Cp (q.ro.map λp=>AZ m p.1)&&(q.sl.all (qcS C A m)&&(q.ro.all (qcR C Rr m q.hs.length)&&Cp ((eN C A q.sl++eP C Rr m q.ro).map (·.1))))with
 |true=>xd N C (λj=>(Ax (eN C A q.sl++eP C Rr m q.ro) j).getD .no) 0 q.hs
 |false=>Dc
variable {C : List (SV N.T)} {η : Nat -> Ce} {H : Hp} {Rr : Nat -> Option (SR N.T)} {A : Nat -> SV N.T}
section
variable{m:List (Nat×Nat)}
theorem instQ_ok{M:List HT}{x:BK N M}{b:SV N.T}{m:List (Nat×Nat)}{Hs:List (Nat×SV N.T)}{cs:List Ce}(O:dD C Hs (CB N M x))(E:b.is C η H (.agg cs.toArray))(B:∀y∈cs,y.oneCell'=Br):
  ∀(ls:List (Nat×SP)) (off:Nat),(∀q∈NK off ls,qcL C b m q=Br/\(∀j t,q.2.2= .v j t->(j,(E0 N C b q.1 (Ac t)).getD .no)∈Hs)/\∀j,q.2.2= .nat j->(j,(E0 N C b q.1 Dc).getD .no)∈Hs)->off+Pt ls=cs.length->
   (instL N M x ls).is [] (λc=>η (AZ m c)) H (.agg (cs.drop off).toArray)
 | [],off,_,P=>by have:cs.drop off=[]:=Aaz (by grind[Pt]);rw[this];rfl
 |(s,p)::ls,off,S,P=>by
  have P:off+(s+Pt ls)=cs.length:=P;have Z:=instQ_ok O E B ls (off+s) (λq Q=>S q (Aag _ Q)) (by omega);obtain⟨a,Y,L⟩:=S (off,s,p) (Aas ..);have n:∀ {u:Ce},(inst N M x p).is [] (λc=>η (AZ m c)) H u->u.cells.toList=(cs.drop off).take s->u.cells.toList.length=s->(instL N M x ((s,p)::ls)).is [] (λc=>η (AZ m c)) H (.agg (cs.drop off).toArray):=λ{u} l e J=>by have K:=K_ (s:=s) l J (λy hy=>B y (by grind)) Z;rw[e]at J K;rw[<-Zt rfl J]at K;exact K
  unfold qcL at a;cases p with
  |v j t=>
   simp only at a;split at a;· rename_i sv o;have R:=AI a;obtain⟨c,i,hc⟩:=Dv o E;have d:=CE i;obtain⟨u,l,e,_⟩:=i;have h:=Y j t rfl;rw[o]at h;exact n (O.is h l) (by grind) (by grind)
   grind
  |nat j=>
   simp only at a;split at a
   ·rename_i sv o;have R:=AI a;obtain⟨c,i,hc⟩:=Dv o E;have d:=CE i;obtain⟨u,l,e,_⟩:=i;have h:=L j rfl;rw[o]at h;have d:c.length=s:=by omega
    rw[d]at hc;exact n (O.is h l) (by rw[e,hc]) (by rw[e];exact d)
   grind
  |AE c=>
   simp only at a;split at a;· rename_i k w;rw[AS]at a;have G:=AI a.1;have D:=AI a.2;subst D;obtain⟨F,i,hc⟩:=Dv w E;have d:=CE i;obtain⟨u,l,e,_⟩:=i;have d:F.length=1:=d;rw[d]at hc;exact n (u:=u) ⟨by show u=η (AZ m c);rw[G];exact l.1,l.2⟩ (by rw[e,hc]) (by rw[e];exact d)
   ·cases a
  |AA f X cs=>
   cases X with
   |cons _ _=>cases a
   |nil=>
    simp only at a;split at a;· rename_i g ks w;simp only[AS]at a;have G:=AI a.1;have D:=AI a.2.2;have W:=EK a.2.1;subst G;subst D;subst W;obtain⟨F,i,hc⟩:=Dv w E;have d:=CE i;obtain⟨u,l,e,_⟩:=i;have d:F.length=1:=d;rw[d]at hc;obtain⟨us,U,V⟩:=l;exact n (u:=u) ⟨us,by rw[U,Aaj];rfl,V⟩ (by rw[e,hc]) (by rw[e];exact d)
    ·cases a
  |mp c=>
   simp only at a;split at a;· rename_i k w;rw[AS]at a;have G:=AI a.1;have D:=AI a.2;subst D;obtain⟨F,i,hc⟩:=Dv w E;have d:=CE i;obtain⟨u,l,e,_⟩:=i;have d:F.length=1:=d;rw[d]at hc;exact n (u:=u) ⟨by show u=η (AZ m c);rw[G];exact l.1,l.2⟩ (by rw[e,hc]) (by rw[e];exact d)
   ·cases a
  |px cs z=>
   cases z with
   |sub _ _ _=>cases cs with
    |nil=>cases a
    |cons c cs=>cases cs<;>cases a
   |hc _=>cases cs with
    |nil=>cases a
    |cons c cs=>cases cs<;>cases a
   |sf=>
    match cs,a with
    | [],a=>cases a
    | [c],a=>
     rw[AS]at a;cases w:E0 N C b off Dc with
     |none=>rw[w]at a;cases a.1
     |some s0=>
      rw[w]at a;have D:=AI a.2;subst D;obtain⟨F,i,hc⟩:=Dv w E;have d:=CE i;obtain⟨u,l,e,_⟩:=i;obtain⟨J,K⟩:=Zz a.1 l;rw[K]at d;rw[d]at hc;exact n (u:=u) J (by rw[e,hc]) (by rw[e];exact d)
    |_::_::_,a=>cases a
  |_=>cases a
theorem kW{b:List HT}{x:BK N b}{Hs:List (Nat×SV N.T)}{η':Nat->Ce}(f:dD C Hs (CB N b x)):∀ {fs:List (Nat×Ty)} {r:SV N.T} {us:List Ce},vcB fs r=Br->(∀p∈vR fs r,p∈Hs)->r.is C η H (.tuple us.toArray)->(vQ N b x fs).is [] η' H (.tuple us.toArray)
 | [], .vn,us,_,_,h=>h
 | [], .d _ _,_,h,_,_=>by cases h
 |(j,t)::l, .vc a r,us,m,g,⟨u,c,e,i,k⟩=>by refine⟨u,c,e,f.is (g (j,a) (by simp[vR])) i,kW (fs:=l) f m (λp n=>g p (by grind[vR])) k⟩
theorem Zp(a:List HT)(x:BK N a):∀ls,oF N a x ls=instL N a x (vm ls)
 | []=>rfl
 |(s,j,t)::ls=>by show SV.lf s (CB N a x j) (oF N a x ls)=SV.lf s (CB N a x j) (instL N a x (vm ls));rw[Zp a x ls]
theorem W8:∀ {l:SV N.T} {v:Ce},whole l=Br->l.is C η H v->∃cs:List Ce,v= .agg cs.toArray:=by
 intro l v b h;cases l with
 |lf s a r=>obtain⟨c,d,u,e,_⟩:=h;grind
 |nl=>exact⟨[],h⟩
 |_=>cases b
theorem T':∀(a:List HT) (x:BK N a) (j:Nat),j<a.length->CB N a x j≠ .no
 | [],_,_,h,_=>by grind
 | [t],x,0,_,e=>by cases t<;>cases e
 | [_],_,j+1,h,_=>by grind
 |t::u::b,x,0,_,e=>by cases t<;>cases e
 |t::u::b,x,j+1,h,e=>T' (u::b) x.2 j (by grind) e
theorem LR{q:A9}{x:BK N q.hs}{Y:List (Nat×Aw)}{vs:List Ce}(hx:JN C Rr A m q=Ac x)(hlen:vs.length=q.sl.length)(hsl:∀p∈q.sl,∃v,vs[p.1]?=Ac v/\(A p.1).is C η H v)
  (hr:∀p∈q.ro,∀Z,Rr (AZ m p.1)=Ac Z->Dp C η H Y (AZ m p.1) Z):
  (q.ro.map λp=>AZ m p.1).Nodup/\(∀p∈q.sl,∃v,vs[p.1]?=Ac v/\(inst N q.hs x p.2).is [] (λc=>η (AZ m c)) H v)/\∀p∈q.ro,(∃Z,Rr (AZ m p.1)=Ac Z)/\∃X,Ax Y (AZ m p.1)=Ac X/\(instR N q.hs x p.2).is [] (λc=>η (AZ m c)) H p.1 X:=by
 unfold JN at hx;split at hx
 ·rename_i Q;simp only[AS]at Q;obtain⟨hnd,hS,hR,hN⟩:=Q;have U:=BM hN;have D:dD C (eN C A q.sl++eP C Rr m q.ro) (CB N q.hs x):=⟨λj s T=>by
   rcases JH q.hs 0 x hx j with e|⟨K,y,F,G⟩;· grind
   ·rw[Abm,CT U T]at F;grind⟩;refine⟨BM hnd,λp E=>?_,λp E=>?_⟩;· obtain⟨v,hv,h⟩:=hsl p E;refine⟨v,hv,?_⟩;have hc:=IT.1 hS p E;unfold qcS at hc;cases u:p.2 with
   |v j t=>exact D.is (Abt _ (Pe.2 ⟨p,E,by simp[u]⟩)) h
   |nat j=>exact D.is (Abt _ (Pe.2 ⟨p,E,by simp[u]⟩)) h
   |Al=>trivial
   |sv W=>
    rw[u]at hc;simp only[AS]at hc;obtain⟨cs,rfl⟩:=W8 hc.1.1 h;have hlen2:=HR (cs:=cs) hc.1.1 h;have:=instQ_ok (m:=m) D h (J9 hc.1.1 h) (vm W) 0 (λz O=>⟨IT.1 hc.2 z O,λj t e=>Abt _ (Pe.2 ⟨p,E,by simp_all[GC]⟩),λj e=>Abt _ (Pe.2 ⟨p,E,by simp_all[GC]⟩)⟩) (by simp_all);show(oF N q.hs x W).is [] _ H _;grind[Zp]
   |nl=>
    rw[u]at hc;simp only at hc;split at hc;· rename_i a;rw[a]at h;exact h
    grind
   |AE c=>
    rw[u]at hc;simp only at hc;split at hc;· rename_i k a;have e:=AI hc;rw[a]at h;exact⟨by show v=η (AZ m c);rw[e];exact h.1,h.2⟩
    trivial
   |loc c off=>
    rw[u]at hc;simp only at hc;split at hc;· rename_i k o a;rw[AS]at hc;have e:=AI hc.1;have G:=AI hc.2;subst G;rw[a]at h;obtain⟨B,b1,b2⟩:=h;exact⟨B,by show η (AZ m c)=_;rw[e];exact b1,b2⟩
    ·cases hc
   |AA f fs cs=>
    rw[u]at hc;simp only at hc;split at hc;· rename_i g r ks a;simp only[AS]at hc;have e:=AI hc.1;subst e;have G:=EK hc.2.2;rw[a]at h;obtain⟨us,J,L⟩:=h;refine⟨us,?_,kW D hc.2.1 (λz O=>Abt _ (Pe.2 ⟨p,E,by simp[u,a,O]⟩)) L⟩;rw[J,<-G,Aaj];rfl
    ·cases hc
   |mp c=>
    rw[u]at hc;simp only at hc;split at hc;· rename_i k a;have e:=AI hc;rw[a]at h;exact⟨by show v=η (AZ m c);rw[e];exact h.1,h.2⟩
    ·cases hc
   |pd j t off=>
    rw[u]at hc;simp only at hc;split at hc
    ·rename_i t' y' o a;have F:=AI hc;subst F;rw[a]at h;have w:(j,(SV.d t' y':SV N.T))∈eN C A q.sl++eP C Rr m q.ro:=Abt _ (Pe.2 ⟨p,E,by simp[u,a]⟩);show(match CB N q.hs x j with| .d t x=>SV.pd t x off|_=> .no).is [] _ H v;rcases D.ok j _ w with e|⟨K,y,F,G⟩;· rw[e];trivial
     ·rw[G];cases K with
      |nat=>trivial
      |Ae P=>
       obtain⟨f,S,I⟩:=Pd.1 (show(Qr N.T t' P).map (· y')=Ac y from F);obtain⟨R,rfl⟩:=BB S;have:=Adj R;subst this;cases I;exact h
    ·cases hc
   |px cs z=>
    cases z with
    |sf=>rw[u]at hc;cases hc
    |sub j n t=>
     rw[u]at hc;simp only at hc;split at hc
     ·rename_i ks i n' t' a;simp only[AS]at hc;have F:=EK hc.1;have I:=Adj hc.2;subst F;subst I;rw[a]at h;have w:(j,(SV.na i:SV N.T))∈eN C A q.sl++eP C Rr m q.ro:=Abt _ (Pe.2 ⟨p,E,by simp[u,a]⟩);have M:(n,(SV.na n':SV N.T))∈eN C A q.sl++eP C Rr m q.ro:=Abt _ (Pe.2 ⟨p,E,by simp[u,a]⟩);have na:∀ {j i:Nat},(j,(SV.na i:SV N.T))∈eN C A q.sl++eP C Rr m q.ro->CB N q.hs x j= .na i\/∀i',CB N q.hs x j≠ .na i':=λ{j i} hm=>by
       rcases D.ok j _ hm with e|⟨K,y,F,G⟩;· rw[e];exact .inr λ_ e=>by cases e
       ·rw[G];cases K with
        |nat=>
         cases F;exact .inl rfl
        |Ae P=>exact .inr λ_ e=>by cases e
      show(match CB N q.hs x j,CB N q.hs x n with| .na i, .na m=>SV.px cs (.sub i m t)|_,_=> .px cs .any).is [] _ H v;rcases na w with e|e
      ·rcases na M with G|G;· rw[e,G];have h:PX.is ((cs.map (AZ m)).map η) H (.sub i n' t) v:=h;rw[Aaj]at h;exact h
       ·split;· rename_i L;exact absurd L (G _)
        ·trivial
      ·split;· rename_i J _;exact absurd J (e _)
       ·trivial
     ·cases hc
    |hc n=>
     rw[u]at hc;simp only at hc;split at hc;· rename_i ks n' a;simp only[AS]at hc;have F:=EK hc.1;have I:=AI hc.2;subst F;subst I;rw[a]at h;have h:PX.is ((cs.map (AZ m)).map η) H (.hc n:PX N.T) v:=h;rw[Aaj]at h;exact h
     ·cases hc
   |_=>rw[u]at hc;cases hc
  ·have hc:=IT.1 hR p E;unfold qcR at hc;cases u:p.2 with
   |Cr _ _ _ _=>rw[u]at hc;cases hc
   |row g j=>
    rw[u]at hc;simp only at hc;split at hc
    ·rename_i g' t l a;rw[AS]at hc;have e:=AI hc.1;have T:j<q.hs.length:=by simpa using hc.2
     subst e;refine⟨⟨_,a⟩,?_⟩;rcases hr p E _ a with e|⟨X,J,L⟩;· cases e
     refine⟨X,J,?_⟩;have w:(j,SV.d (.sl t) l)∈eN C A q.sl++eP C Rr m q.ro:=Aca _ (Pe.2 ⟨p,E,by simp[u,a]⟩);show(match CB N q.hs x j with| .d (.sl t) l=>SR.row g t l|_=> .gone).is [] _ H _ X;rcases D.ok j _ w with e|⟨K,y,F,G⟩;· exact(T' q.hs x j T e).elim
     ·rw[G];cases K with
      |nat=>cases F
      |Ae P=>
       obtain⟨f,S,I⟩:=Pd.1 (show(Qr N.T (.sl t) P).map (· l)=Ac y from F);obtain⟨R,rfl⟩:=BB S;have:=Adj R;subst this;cases I;exact L
    ·cases hc
   |Af g W=>
    rw[u]at hc;simp only at hc;split at hc
    ·rename_i g' b a;simp only[AS]at hc;have e:=AI hc.1;subst e;refine⟨⟨_,a⟩,?_⟩;rcases hr p E _ a with e|⟨X,J,B,cs,b1,b2,b3⟩;· cases e
     refine⟨X,J,B,cs,b1,b2,?_⟩;have hl:=HR (cs:=cs.toList) hc.2.1.1 b3;have:=instQ_ok (η:=η) (m:=m) (cs:=cs.toList) D b3 (J9 hc.2.1.1 b3) W 0 (λz O=>⟨IT.1 hc.2.2 z O,λj t e=>Aca _ (Pe.2 ⟨p,E,by simp only[u,a];exact(GC O).1 j t e⟩),λj e=>Aca _ (Pe.2 ⟨p,E,by simp only[u,a];exact(GC O).2 j e⟩)⟩)
      (by rw[Abm,AI hc.2.1.2,hl]);simpa using this
    ·cases hc
   |c j=>rw[u]at hc;cases hc
   |map g j=>
    rw[u]at hc;simp only at hc;split at hc
    ·rename_i g' V vt l a;rw[AS]at hc;have e:=AI hc.1;have T:j<q.hs.length:=by simpa using hc.2
     subst e;refine⟨⟨_,a⟩,?_⟩;rcases hr p E _ a with e|⟨X,J,L⟩;· cases e
     refine⟨X,J,?_⟩;have w:(j,SV.d (.sl (.st (.pr V vt))) l)∈eN C A q.sl++eP C Rr m q.ro:=Aca _ (Pe.2 ⟨p,E,by simp[u,a]⟩);show(match CB N q.hs x j with| .d (.sl (.st (.pr V vt))) l=>SR.map g V vt l|_=> .gone).is [] _ H _ X;rcases D.ok j _ w with e|⟨K,y,F,G⟩;· exact(T' q.hs x j T e).elim
     ·rw[G];cases K with
      |nat=>cases F
      |Ae P=>
       obtain⟨f,S,I⟩:=Pd.1 (show(Qr N.T (.sl (.st (.pr V vt))) P).map (· l)=Ac y from F);obtain⟨R,rfl⟩:=BB S;have:=Adj R;subst this;cases I;exact L
    ·cases hc
 grind
end
end
def SP.ks:SP->List Nat
 | .AE k=>[k]
 | .loc k _=>[k]
 | .AA _ _ a=>a
 | .mp k=>[k]
 | .px b _=>b
 |_=>[]
section
variable {N : Df}
theorem Rd(h:HT)(x:h.den N):(eL N h x).AL=[]:=by cases h<;>rfl
theorem F5:∀(a:List HT) (x:BK N a) (j:Nat),(CB N a x j).AL=[]
 | [],_,_=>rfl
 | [t],x,0=>Rd t x
 | [_],_,_+1=>rfl
 |t::_::_,x,0=>Rd t x.1
 |_::u::c,x,j+1=>F5 (u::c) x.2 j
theorem Q9(a:List HT)(x:BK N a):∀fs:List (Nat×Ty),(vQ N a x fs).AL=[]
 | []=>rfl
 |(j,_)::l=>by simp[vQ,SV.AL,F5,Q9 a x l]
theorem Rf(a:List HT)(x:BK N a):∀ls:List (Nat×Nat×Ty),(oF N a x ls).AL=[]
 | []=>rfl
 |(s,j,t)::l=>by simp[oF,SV.AL,F5,Rf a x l]
theorem inst_ment(a:List HT)(x:BK N a):∀p:SP,(inst N a x p).AL=p.ks
 | .v j _=>F5 a x j
 | .nat j=>F5 a x j
 | .AB j i=>by
  show SV.AL (match CB N a x j with| .na n=> .ct i n|s=>s)=[];split;· rfl
  grind[F5]
 | .c _=>rfl
 | .AE _=>rfl
 | .loc _ _=>rfl
 | .AA _ h g=>by grind[inst,SV.AL,SP.ks,Q9]
 | .Al=>rfl
 | .nl=>rfl
 | .sv f=>Rf a x f
 | .kp _=>rfl
 | .mp _=>rfl
 | .px b .sf=>rfl
 | .px b (.hc _)=>rfl
 | .pd j t off=>by show SV.AL (match CB N a x j with| .d t x=>SV.pd t x off|_=> .no)=[];split<;>rfl
 | .px b (.sub j n t)=>by show SV.AL (match CB N a x j,CB N a x n with| .na i, .na m=>SV.px b (.sub i m t)|_,_=> .px b .any)=b;split<;>rfl
theorem instL_ment(a:List HT)(x:BK N a):∀ls:List (Nat×SP),(instL N a x ls).AL=ls.flatMap λp=>p.2.ks
 | []=>rfl
 |(s,p)::ls=>by simp[instL,SV.AL,inst_ment,instL_ment a x ls]
end
def SP.pl:SP->Bool
 | .v _ _=>Br
 | .nat _=>Br
 | .AE _=>Br
 | .loc _ _=>Br
 | .AA _ _ _=>Br
 | .Al=>Br
 | .nl=>Br
 | .sv _=>Br
 | .mp _=>Br
 | .px _ _=>Br
 | .pd _ _ _=>Br
 |_=>Ak
def RP.ks:RP->List Nat
 | .Af _ a=>a.flatMap λp=>p.2.ks
 | .Cr _ _ h _=>[h]
 |_=>[]
section
variable {N : Df}
theorem instR_ment(a:List HT)(x:BK N a):∀p:RP,∀k∈(instR N a x p).AL,k∈p.ks
 | .row g j=>by show∀k∈SR.AL (match CB N a x j with| .d (.sl t) l=>SR.row g t l|_=> .gone),k∈[];split<;>exact λ_ h=>h
 | .Af _ b=>λk i=>by have e:=instL_ment a x b;show k∈b.flatMap λp=>p.2.ks;rw[<-e];exact i
 | .c _=>λ_ h=>h
 | .map g j=>by show∀k∈SR.AL (match CB N a x j with| .d (.sl (.st (.pr m n))) l=>SR.map g m n l|_=> .gone),k∈[];split<;>exact λ_ h=>h
 | .Cr g e h j=>by
  show∀k∈SR.AL (match CB N a x j with| .d (.sl (.pr .bool (.sl t))) l=>SR.Cr g e t h l|_=> .gone),k∈[h];split;· exact λ_ h=>h
  ·exact λ_ h=>by cases h
def ZO(q:PQ N):List SP:=match q.rk with
 |0=>[]
 |1=>[Ii q.po.sl 0]
 |2=>[Ii q.po.sl 0,Ii q.po.sl 1]
 |_=>[Ii q.po.sl 0,Ii q.po.sl 1,Ii q.po.sl 2]
theorem Xo(q:PQ N)(y:BK N q.po.hs):∀k∈(Jl q y).AL,∃p∈ZO q,k∈p.ks:=by intro k a;unfold Jl at a;unfold ZO;all_goals grind[SV.AL,Ii,absurd,inst_ment]
def vj(q:PQ N):Bool:=((ZO q).all λp=>p.pl&&p.ks.all λk=>Cf (q.pi.ro.map (·.1)) k||Cf (q.po.ro.map (·.1)) k)&&q.po.ro.all λp=>p.2.ks.all λk=>Cf (q.pi.ro.map (·.1)) k||Cf (q.po.ro.map (·.1)) k
def GW(m:List (Nat×Nat))(b nk c:Nat):Nat:=match aT c b with
 |true=>AZ m c
 |false=>nk+(c-b)
def Pk(q:PQ N)(ρ:Nat->Nat)(y:BK N q.po.hs):List (Nat×SR N.T):=(q.po.ro.map λp=>(ρ p.1,(instR N q.po.hs y p.2).DS ρ))++q.gone.map λc=>(ρ c, .gone)
variable {R : Type} {P : GO} {C : List (SV N.T)} {S : Nat -> SV N.T} {Rr : Nat -> Option (SR N.T)} {nk : Nat} {o : K5} {r : R}
section
variable{m:List (Nat×Nat)}{ρ:Nat->Nat}{q:PQ N}{x:BK N q.pi.hs}{f:Nat}{ex:List Nat}{y:BK N q.po.hs}
def WI(C:List (SV N.T))(Rr:Nat->Option (SR N.T))(nk:Nat)(q:PQ N)(a:List (SV N.T))(ex:List Nat)(k:Bt N.T->Nat->Option R):Option (Option R):=
 let m:=Hh C Rr (λi=>a.getD i .no) q.pi
 match Hg a.length q.pi.sl.length&&(q.pi.sl.all (λp=>aT p.1 a.length)&&(wfQ q&&vj q))with
 |true=>match JN C Rr (λi=>a.getD i .no) m q.pi with
  |some x=>Ac (Ab (q.F x) λy=>k ⟨(Jl q y).DS (GW m q.pi.nk nk),q.pi.ro.map (λp=>AZ m p.1)++ex,Pk q (GW m q.pi.nk nk) y⟩ (nk+(q.po.nk-q.pi.nk)))
  |none=>Dc
 |false=>Dc
theorem LM{Y:List (Nat×Aw)}{D:List Nat}{k:Nat}(h:k∉D):Ax (Y.filter λp=> !Cf D p.1) k=Ax Y k:=by
 induction Y with
 |nil=>rfl
 |cons p Y b=>
  grind[Ax,Hg,absurd,AR,aP]
theorem VU{Y:List (Nat×Aw)}{c:Nat}(h:∀d∈keys Y,ρ d=ρ c->d=c):Ax (Y.map λp=>(ρ p.1,p.2)) (ρ c)=Ax Y c:=by
 induction Y with
 |nil=>rfl
 |cons p Y f=>
  obtain⟨q,y⟩:=p;simp only[Aat,Ax];cases b:Hg q c with
  |true=>simp_all
  |false=>
   have:Hg (ρ q) (ρ c)=Ak:=by
    cases a:Hg (ρ q) (ρ c)with
    |false=>rfl
    |true=>
     have:=h q (by simp[keys]) (AI a);simp_all
   grind[keys]
theorem ai{ρ:Nat->Nat} :∀ {l:List Nat},(∀c d,c∈l->d∈l->ρ c=ρ d->c=d)->l.Nodup->(l.map ρ).Nodup
 | [],_,_=>Aex
 |x::l,f,b=>by rw[Aba]at b;rw[Aat,Aba];refine⟨λh=>?_,ai (λc d hc i=>f c d (Aag _ hc) (Aag _ i)) b.2⟩;grind
theorem sn{a b:Nat}(h:b<=a):aT a b=Ak:=by
 cases c:aT a b with
 |false=>rfl
 |true=>
  have:a<b:=by simp_all
  omega
theorem su{a b:Nat}(h:b<a):iJ a b=Ak:=by
 cases c:iJ a b with
 |false=>rfl
 |true=>have:=Aay c;omega
theorem iy{q:A9}{A:Nat->SV N.T}{x:BK N q.hs}(b:JN C Rr A m q=Ac x):∀p∈q.ro,∃d,Rr (AZ m p.1)=Ac d:=by
 unfold JN at b;split at b
 all_goals grind[qcR]
theorem Nh{W:List (SV N.T)}(hs:Ch P f q)(hq1:wfQ q=Br)(hq2:vj q=Br)(hlen:W.length=q.pi.sl.length)(hlt:∀p∈q.pi.sl,p.1<W.length)
  (hx:JN C Rr (λi=>W.getD i .no) m q.pi=Ac x) (hy:q.F x=Ac y) (hf:∀j,nk<=j->Rr j=Dc):
  (∀(
    η:Nat->Ce) (H:Hp) (Of:List Aw) (w:IK) (Y:List (Nat×Aw)),(keys Y).Nodup->SH w H (Y.map (·.2)++Of)->N.inv H->
   (∀k,(k∈q.pi.ro.map (λp=>AZ m p.1)++ex\/k∈keys (Pk q (GW m q.pi.nk nk) y))->∀M,Rr k=Ac M->Dp C η H Y k M)->(∀k∈keys (Pk q (GW m q.pi.nk nk) y),Rr k=Dc->k∉keys Y)->
   ∀(vs:List Ce),vs.length=W.length->(∀(i:Nat) (s:SV N.T),W[i]?=Ac s->∃v,vs[i]?=Ac v/\s.is C η H v)->
   ∀(goal:Prop) (K:Ce->IK->Prop),(∀O R,Tw P f vs H O R->SH w H O->(∀v w' T O',H.le T->R v T O'->SH w' T O'->K v w')->goal)->
   (∀(v:Ce) (w':IK) (T:Hp) (η':Nat->Ce) (D:List (Nat×Aw)),H.le T->(∀k,(Rr k=Dc->k∉keys (Pk q (GW m q.pi.nk nk) y))->η' k=η k)->(∀k,k∉keys (Pk q (GW m q.pi.nk nk) y)->Ax D k=Ax Y k)->
    (∀k M,Ax (Pk q (GW m q.pi.nk nk) y) k=Ac M->Dp C η' T D k M)->(keys D).Nodup->(∀k∈keys D,k∈keys Y\/k∈keys (Pk q (GW m q.pi.nk nk) y))->SH w' T (D.map (·.2)++Of)->((Jl q y).DS (GW m q.pi.nk nk)).is C η' T v->K v w')->goal)/\
  (∀j∈keys (Pk q (GW m q.pi.nk nk) y),Rr j=Dc->nk<=j/\j<nk+(q.po.nk-q.pi.nk)):=by
 unfold wfQ at hq1;simp only[AS]at hq1;obtain⟨w1,w2,w3,w4,w5,w6⟩:=hq1;have w1:∀p∈q.pi.ro,p.1<q.pi.nk:=λp a=>by simpa using IT.1 w1 p.1 (By.2 ⟨p,a,rfl⟩)
 have w4:=Aay w4;have w5:∀p∈q.po.ro,p.1∈q.pi.ro.map (·.1)\/(q.pi.nk<=p.1/\p.1<q.po.nk):=λp a=>by have:=IT.1 w5 p.1 (By.2 ⟨p,a,rfl⟩);rw[Adw,AS]at this;exact this.imp AR.1 λh=>⟨Aay h.1,by simp_all⟩
 have w6:∀c∈q.gone,c∈q.pi.ro.map (·.1):=λc hc=>AR.1 (IT.1 w6 c hc);unfold vj at hq2;rw[AS]at hq2;obtain⟨o1,o2⟩:=hq2;have kn:∀ {k:Nat},(Cf (q.pi.ro.map (·.1)) k||Cf (q.po.ro.map (·.1)) k)=Br->k∈q.pi.ro.map (·.1)\/k∈q.po.ro.map (·.1):=λh=>by grind[AR]
 generalize hρ:GW m q.pi.nk nk=ρ;have t:∀p∈q.pi.ro,ρ p.1=AZ m p.1:=λp a=>by rw[<-hρ];grind[GW,aT]
 have ρo:∀c,q.pi.nk<=c->ρ c=nk+(c-q.pi.nk):=λc hc=>by rw[<-hρ];grind[GW,sn]
 have kwr:∀j,j∈keys (Pk q ρ y)↔(∃p∈q.po.ro,j=ρ p.1)\/∃c∈q.gone,j=ρ c:=λj=>by unfold Pk keys;grind
 have hall:=λ(η:Nat->Ce) (H:Hp) (Y:List (Nat×Aw)) (vs:List Ce) n U h3=>LR (C:=C) (η:=η) (H:=H) (Y:=Y) (vs:=vs) (A:=λi=>W.getD i .no) hx n U h3;refine⟨λη H Of w Y hn hw hiv hr hfresh vs v1 v2 goal K run hK=>?_,λj hj u=>?_⟩
 ·obtain⟨
      hnd,hsl,F⟩:=hall η H Y vs (v1.trans hlen) (λp a=>by
   have hl:=hlt p a;obtain⟨v,e1,e2⟩:=v2 p.1 W[p.1] (IN hl);refine⟨v,e1,?_⟩;rw[Aad,IN hl];exact e2) (λp a M B=>hr _ (.inl (Abt _ (By.2 ⟨p,a,rfl⟩))) M B);have lt:∀p∈q.pi.ro,AZ m p.1<nk:=λp a=>by
   grind
  generalize hηc:(λc=>η (AZ m c))=ηc at hsl F;generalize hYc:(q.pi.ro.map λp=>(p.1,(Ax Y (AZ m p.1)).getD .emp))=Yc;generalize E:(Y.filter λp=> !Cf (q.pi.ro.map λp=>AZ m p.1) p.1)=Yr;have kYc:keys Yc=q.pi.ro.map (·.1):=by rw[<-hYc];simp[keys]
  have ndc:(keys Yc).Nodup:=by rw[kYc];exact BM w2
  have lYc:∀p∈q.pi.ro,Ax Yc p.1=Ax Y (AZ m p.1):=λp a=>by
   obtain⟨_,X,V,_⟩:=F p a;have:(p.1,(Ax Y (AZ m p.1)).getD .emp)∈Yc:=by rw[<-hYc];exact By.2 ⟨p,a,rfl⟩
   rw[CT ndc this,V];rfl
  have pin:PIn q x ηc H Yc vs:=⟨v1.trans hlen,hsl,kYc,λp a=>by
   obtain⟨_,X,V,U⟩:=F p a;exact⟨X,by rw[lYc p a];omega,U⟩,hiv⟩;have hsh:SH w H (Yc.map (·.2)++(Yr.map (·.2)++Of)):=by
   have G:=SH.Rg hw (Z:=(q.pi.ro.map λp=>(AZ m p.1,(Ax Y (AZ m p.1)).getD .emp))++Yr) (by
    unfold keys;rw[Aan,Aaj];refine Acq.2 ⟨hnd,?_,λk b k' L e=>?_⟩;· rw[<-E];exact(Acp.map _).nodup hn
    ·subst e;rw[<-E]at L;obtain⟨p,a,rfl⟩:=By.1 L;have h3:=(Aax.1 a).2;have b:p.1∈q.pi.ro.map λp=>AZ m p.1:=b;rw[AR.2 b]at h3;cases h3) (λp a=>by
    rcases AT.1 a with a|a;· obtain⟨z,G,rfl⟩:=By.1 a;obtain⟨_,X,V,_⟩:=F z G;simp only[V,Acu]
    ·rw[<-E]at a;exact CT hn (Aax.1 a).1);rw[Aan,Aaj,Aak]at G;rw[<-hYc,Aaj];exact G
  refine run _ _ (hs.ok x y hy ηc H (Yr.map (·.2)++Of) Yc vs ndc pin) hsh λv w' T O' hle ⟨η',D,eO,po⟩ hw'=>?_;subst eO;have I:∀c∈keys D,c∈q.pi.ro.map (·.1)\/c∈q.po.ro.map (·.1):=λc hc=>by rw[<-kYc];exact po.ks c hc
  have Q:∀ {c},c∈q.pi.ro.map (·.1)->ρ c<nk/\c<q.pi.nk/\ρ c=AZ m c:=λhc=>by obtain⟨p,a,rfl⟩:=By.1 hc;rw[t p a];exact⟨lt p a,w1 p a,rfl⟩
  have l:∀ {c},c∈q.po.ro.map (·.1)->c∉q.pi.ro.map (·.1)->nk<=ρ c/\q.pi.nk<=c/\ρ c=nk+(c-q.pi.nk)/\ρ c∈keys (Pk q ρ y)/\Rr (ρ c)=Dc:=λhc hn=>by
   obtain⟨p,a,rfl⟩:=By.1 hc;rcases w5 p a with h|h;· trivial
   ·rw[ρo _ h.1];exact⟨by omega,h.1,rfl,(kwr _).2 (.inl ⟨p,a,(ρo _ h.1).symm⟩),hf _ (by omega)⟩
  have inj:∀c d,(c∈q.pi.ro.map (·.1)\/c∈q.po.ro.map (·.1))->(d∈q.pi.ro.map (·.1)\/d∈q.po.ro.map (·.1))->ρ c=ρ d->c=d:=λc d hc hd e=>by
   by_cases n:c∈q.pi.ro.map (·.1)<;>by_cases U:d∈q.pi.ro.map (·.1);· obtain⟨p,a,rfl⟩:=By.1 n;obtain⟨p',hp',rfl⟩:=By.1 U;rw[t p a,t p' hp']at e;rw[P8 (f:=λp:Nat×RP=>AZ m p.1) hnd a hp' e]
   ·have:=(Q n).1;have:=(l (hd.resolve_left U) U).1;omega
   ·have:=(Q U).1;have:=(l (hc.resolve_left n) n).1;omega
   ·have:=(l (hc.resolve_left n) n);have:=(l (hd.resolve_left U) U);omega
  let ηn:Nat->Ce:=λj=>match iJ nk j&&Cf (keys (Pk q ρ y)) j with
   |true=>η' (q.pi.nk+(j-nk))
   |false=>η j;have ηk:∀c,(c∈q.pi.ro.map (·.1)\/c∈q.po.ro.map (·.1))->ηn (ρ c)=η' c:=λc hc=>by
   by_cases n:c∈q.pi.ro.map (·.1);· obtain⟨g1,g2,g3⟩:=Q n;show(match iJ nk (ρ c)&&Cf (keys (Pk q ρ y)) (ρ c)with|true=>η' (q.pi.nk+(ρ c-nk))|false=>η (ρ c))=η' c;rw[su g1,Bool.false_and,po.env c g2,<-hηc,g3]
   ·obtain⟨g1,g2,g3,g4,_⟩:=l (hc.resolve_left n) n;show(match iJ nk (ρ c)&&Cf (keys (Pk q ρ y)) (ρ c)with|true=>η' (q.pi.nk+(ρ c-nk))|false=>η (ρ c))=η' c;rw[show iJ nk (ρ c)=Br by simpa using g1,AR.2 g4];show η' (q.pi.nk+(ρ c-nk))=η' c;congr 1;omega
  have lkρ:∀c,(c∈q.pi.ro.map (·.1)\/c∈q.po.ro.map (·.1))->Ax (D.map λp=>(ρ p.1,p.2)) (ρ c)=Ax D c:=λc hc=>VU λd hd e=>inj d c (I d hd) hc e;have kρ:∀k∈keys (D.map λp=>(ρ p.1,p.2)),∃c∈keys D,k=ρ c:=λk b=>by unfold keys at b;rw[Aaj]at b;obtain⟨p,a,rfl⟩:=By.1 b;exact⟨p.1,By.2 ⟨p,a,rfl⟩,rfl⟩
  refine hK v w' T ηn ((D.map λp=>(ρ p.1,p.2))++Yr) hle (λk b=>?_) (λk b=>?_) (λk M b=>?_) ?_ (λk b=>?_) ?_ ?_
  ·show(match iJ nk k&&Cf (keys (Pk q ρ y)) k with|true=>η' (q.pi.nk+(k-nk))|false=>η k)=η k;split;· rename_i hb;rw[AS]at hb;exact absurd (AR.1 hb.2) (b (hf _ (Aay hb.1)))
   ·rfl
  ·rw[BX];by_cases hD:k∈q.pi.ro.map λp=>AZ m p.1;· obtain⟨p,a,rfl⟩:=By.1 hD;have hc:p.1∈q.pi.ro.map (·.1):=By.2 ⟨p,a,rfl⟩;obtain⟨_,X,V,_⟩:=F p a;have e1:=lkρ p.1 (.inl hc);rw[t p a,po.st p.1 (by rw[kYc];exact hc) (λh=>b ((kwr _).2 (.inl (by obtain⟨z,G,e⟩:=By.1 h;exact⟨z,G,by rw[e,t p a]⟩)))) (λh=>b ((kwr _).2 (.inr ⟨p.1,h,(t p a).symm⟩))),lYc p a,V]at e1;rw[e1,V]
   ·have:Ax (D.map λp=>(ρ p.1,p.2)) k=Dc:=CG λhm=>by
     obtain⟨c,hc,rfl⟩:=kρ k hm;by_cases n:c∈q.pi.ro.map (·.1);· obtain⟨p,a,rfl⟩:=By.1 n;exact hD (By.2 ⟨p,a,(t p a).symm⟩)
     ·exact b (l ((I c hc).resolve_left n) n).2.2.2.1
    rw[this,<-E];exact LM hD
  ·unfold Pk at b;rw[BX]at b;split at b;· rename_i sr' hs';cases b;obtain⟨p,a,e⟩:=By.1 (A5 hs');cases e;obtain⟨X,x1,x2⟩:=po.ro p a;have hc:p.1∈q.pi.ro.map (·.1)\/p.1∈q.po.ro.map (·.1):= .inr (By.2 ⟨p,a,rfl⟩);refine .inr ⟨X,by rw[BX,lkρ p.1 hc,x1],?_⟩;exact SR.Mr (ηk p.1 hc) (λj hj=>ηk j (by have hj:=instR_ment _ _ _ j hj;exact kn (IT.1 (IT.1 o2 p a) j hj))) x2
   ·obtain⟨c,_,e⟩:=By.1 (A5 b);cases e;exact .inl rfl
  ·unfold keys;rw[Aan];refine Acq.2 ⟨?_,?_,λk b k' L e=>?_⟩
   ·rw[Aaj];have:=po.nd;have e:(D.map ((·.1)∘λp=>(ρ p.1,p.2)))=(D.map (·.1)).map ρ:=by rw[Aaj];rfl
    rw[e];exact ai (λc d hc hd e=>inj c d (I c hc) (I d hd) e) this
   ·rw[<-E];exact(Acp.map _).nodup hn
   ·subst e;obtain⟨c,hc,rfl⟩:=kρ k b;rw[<-E]at L;obtain⟨p,a,e⟩:=By.1 L;by_cases n:c∈q.pi.ro.map (·.1)
    ·have h3:=(Aax.1 a).2;have:p.1∈q.pi.ro.map λp=>AZ m p.1:=by
      obtain⟨z,G,rfl⟩:=By.1 n;rw[e,t z G];exact By.2 ⟨z,G,rfl⟩
     rw[AR.2 this]at h3;cases h3
    ·obtain⟨_,_,_,g4,g5⟩:=l ((I c hc).resolve_left n) n;exact hfresh _ g4 g5 (by rw[<-e];exact By.2 ⟨p,(Aax.1 a).1,rfl⟩)
  ·unfold keys at b;rw[Aan]at b;rcases AT.1 b with b|b
   ·obtain⟨c,hc,rfl⟩:=kρ k b;by_cases n:c∈q.pi.ro.map (·.1);· obtain⟨p,a,rfl⟩:=By.1 n;obtain⟨_,X,V,_⟩:=F p a;rw[t p a];exact .inl (Dd V)
    ·exact .inr (l ((I c hc).resolve_left n) n).2.2.2.1
   ·rw[<-E]at b;obtain⟨p,a,rfl⟩:=By.1 b;exact .inl (By.2 ⟨p,(Aax.1 a).1,rfl⟩)
  ·rw[Aan,Aaj,Aak];exact hw'
  ·refine SV.Mr (λk b=>ηk k ?_) po.res;obtain⟨p,a,b⟩:=Xo q y k b;have:=IT.1 o1 p a;rw[AS]at this;exact kn (IT.1 this.2 k b)
 ·have rr:=iy hx;rcases(kwr j).1 hj with⟨p,a,rfl⟩|⟨c,hc,rfl⟩
  ·rcases w5 p a with h|h;· obtain⟨z,G,e⟩:=By.1 h;obtain⟨M,B⟩:=rr z G;rw[<-e,t z G,B]at u;cases u
   ·rw[ρo _ h.1];omega
  ·obtain⟨z,G,rfl⟩:=By.1 (w6 c hc);obtain⟨M,B⟩:=rr z G;rw[t z G,B]at u;cases u
theorem Yk{d:List (SV N.T)}(U:Ch P f q)(l:wfQ q=Br)(n:vj q=Br)(g:d.length=q.pi.sl.length)(k:∀p∈q.pi.sl,p.1<d.length)
  (X:JN C Rr (λi=>d.getD i .no) m q.pi=Ac x) (Z:q.F x=Ac y) (J:∀j,nk<=j->Rr j=Dc)
  (G:∀(η:Nat->Ce) (H:Hp) (Y:List (Nat×Aw)) (a:Act),(∀x∈o.op.operands,(Av S x).is C η H (a.eval x))->(∀c∈q.pi.ro.map (λp=>AZ m p.1)++ex,∀h,Rr c=Ac h->Dp C η H Y c h)->
   ∃vs:List Ce,vs.length=d.length/\(∀(i:Nat) (s:SV N.T),d[i]?=Ac s->∃v,vs[i]?=Ac v/\s.is C η H v)/\∀H O R,Tw P f vs H O R->BP P o.op o.type (EV a) H O R):
  Ao P C S Rr o ⟨(Jl q y).DS (GW m q.pi.nk nk),q.pi.ro.map (λp=>AZ m p.1)++ex,Pk q (GW m q.pi.nk nk) y⟩/\
  (∀j∈keys (Pk q (GW m q.pi.nk nk) y),Rr j=Dc->nk<=j/\j<nk+(q.po.nk-q.pi.nk)):=by
 obtain⟨E,F⟩:=Nh (P:=P) (ex:=ex) U l n g k X Z J;refine⟨λη H D a w Y T W L A B b K Q I=>?_,F⟩;obtain⟨vs,v1,v2,v3⟩:=G η H Y a A λc hc h z=>B _ (.inl hc) h z;exact E η H D w Y T W L B b vs v1 v2 (o.wp P a w K Q) (λv w'=>K (a.put o.dst v) w') (λO R V t M=>v3 _ _ _ V a w o K Q rfl rfl (λx u e=>by simpa using e) t M) I
end
end
section
variable (N : Df)
def DT:List Ty->Type
 | []=>Unit
 | [t]=>t.den N.T
 |t::u::a=>t.den N.T×DT (u::a)
def UQ(C:List (SV N.T)):(ps:List Ty)->List (SV N.T)->Option (DT N ps)
 | [],[]=>Ac ()
 | [t],[s]=>TM C t s
 |t::u::b,s::a=>match TM C t s,UQ C (u::b) a with
  |some x,Ac y=>Ac (x,y)
  |_,_=>Dc
 |_,_=>Dc
variable {N}
abbrev η0:Nat->Ce:=λ_=>undef
def YU(H:Hp):(ps:List Ty)->DT N ps->List Ce->Prop
 | [],_,a=>a=[]
 | [t],x,a=> ∃v,a=[v]/\(SV.d t x:SV N.T).is [] η0 H v
 |t::u::c,x,a=> ∃v b,a=v::b/\(SV.d t x.1:SV N.T).is [] η0 H v/\YU H (u::c) x.2 b
theorem Wn{C C':List (SV N.T)}{η η':Nat->Ce}{H:Hp}{v:Ce}{t:Ty}{x:t.den N.T}(h:(SV.d t x).is C η H v):(SV.d t x).is C' η' H v:=h
variable {R : Type} {P : GO} {C : List (SV N.T)} {S : Nat -> SV N.T} {Rr : Nat -> Option (SR N.T)} {nk : Nat} {o : K5} {k : Bt N.T -> Nat -> Option R} {r : R}
theorem LQ{a:Act} :∀xs:List Er,NP (EV a) xs=Ac (xs.map a.eval)
 | []=>rfl
 |x::xs=>by simp only[NP,EV,LQ xs,Aat]
theorem Hy:∀ {t:Ty} {H f:Hp} {x:t.den N.T} {cs:List Ce},Hz t=Br->(N.c t).BS H x cs->(N.c t).BS f x cs
 | .int k,H,f,x,cs,_,h=>D6.2 (D6.1 h)
 | .bool,_,_,_,_,_,h=>h
 | .str,_,_,_,_,_,h=>h
 | .un,_,_,_,_,_,h=>h
 | .bs,_,_,_,_,_,h=>h
 | .st t,_,_,_,_,c,h=>Hy (t:=t) c h
 | .pr a b,_,_,_,_,c,⟨g,i,e,j,l⟩=>by have c:(Hz a&&Hz b)=Br:=c;rw[AS]at c;exact⟨g,i,e,Hy c.1 j,Hy c.2 l⟩
def CH(Rr:Nat->Option (SR N.T))(k:Nat):Nat->Option (SR N.T):=λj=>match Hg j k with
 |true=>Ac .gone
 |false=>Rr j
theorem nE{k:Nat}{a:Ty}{l:List (a.den N.T)}{x:Er}{η:Nat->Ce}{H:Hp}{v:Ce}(h:G5 (N.c a) H l (η k))(b:(Av S x).is C η H v):(Av (λt=>GR k a l (S t)) x).is C η H v:=by
 cases x with
 |tmp t=>exact CW h b
 |_=>exact b
end
section
variable {N : Df}
def I4(P:GO)(yv:Ce)(vs:List Ce)(w:IK)(K:Bool->IK->Prop):Prop:= ∃l f c d a,yv= .func (.yield l) #[] #[]/\(Instr.yield l vs.toArray).run P w= .ok (.round l f c d a) w/\RoundIn Fence.wide 0 P l f c d a w λe g=> ∃b,e= .returned (.bool b)/\K b g
theorem I4.mono{P:GO}{yv:Ce}{vs:List Ce}{w:IK}{K g:Bool->IK->Prop}(h:I4 P yv vs w K)(o:∀b w',K b w'->g b w'):I4 P yv vs w g:=by obtain⟨l,f,c,d,a,k,m,n⟩:=h;exact⟨l,f,c,d,a,k,m,n.mono λe w' ⟨b,i,j⟩=>⟨b,i,o _ _ j⟩⟩
structure IQ(N:Df)where
 pi:A9
 yi:Nat
 ts:List Ty
 F:BK N pi.hs->Option (List (DT N ts)×Bool)
def Lj{α:Type}(r:List α×Bool):Bool->List α×Bool
 |true=>r
 |false=>([],Br)
structure I6(P:GO)(f:Nat)(q:IQ N):Prop where
 YZ:TO P f
 ok:∀x ys,q.F x=Ac ys->∀(G:Hp->List Aw->List (DT N q.ts)×Bool->Prop) (yv:Ce),yv.oneCell'=Br->
  (∀H H' O r,H.le H'->G H O r->G H' O r)->(∀H O,¬G H O ([],Ak))->
  (∀H O y l e,N.inv H->G H O (y::l,e)->∀A vs w,YU H q.ts y vs->SH w H (A++O)->I4 P yv vs w λb w'=> ∃H' O',H.le H'/\SH w' H' (A++O')/\G H' O' (Lj (l,e) b))->
  ∀(η:Nat->Ce) (H:Hp) (O:List Aw) (Y:List (Nat×Aw)) (vs:List Ce) (w:IK),(keys Y).Nodup->vs.length=q.pi.sl.length->(∀p∈q.pi.sl,∃v,vs[p.1]?=Ac v/\(inst N q.pi.hs x p.2).is [] η H v)->vs[q.yi]?=Ac yv->
   keys Y=q.pi.ro.map (·.1)->(∀p∈q.pi.ro,∃X,Ax Y p.1=Ac X/\(instR N q.pi.hs x p.2).is [] η H p.1 X)->G H O ys->N.inv H->SH w H (Y.map (·.2)++O)->
  Calls P f vs.toArray w λe w'=> ∃v H' O' Y',e= .returned v/\H.le H'/\SH w' H' (Y'.map (·.2)++O')/\keys Y'=q.pi.ro.map (·.1)/\(∀p∈q.pi.ro,∃X,Ax Y' p.1=Ac X/\(instR N q.pi.hs x p.2).is [] η H' p.1 X)/\G H' O' ([],Br)
structure JQ(N:Df)where
 pi:A9
 ky:Nat
 ts:List Ty
 rb:Bool
 F:BK N pi.hs->Option (List (DT N ts)×Option Bool)
def xW{α:Type}(r:List α)(b:Option Bool):Bool->List α×Option Bool
 |true=>(r,b)
 |false=>([],Ac Ak)
structure I5(P:GO)(f:Nat)(q:JQ N):Prop where
 YZ:TO P f
 ok:∀x r,q.F x=Ac r->∀(η:Nat->Ce) (G:Hp->List Aw->List (DT N q.ts)×Option Bool->Prop),
  (∀H H' O r,H.le H'->G H O r->G H' O r)->(∀H O,¬G H O ([],Dc))->
  (∀H O y r b,N.inv H->G H O (y::r,b)->∀A vs w,YU H q.ts y vs->SH w H (A++O)->I4 P (η q.ky) vs w λc w'=> ∃H' O',H.le H'/\SH w' H' (A++O')/\G H' O' (xW r b c))->
  ∀(H:Hp) (O:List Aw) (Y:List (Nat×Aw)) (vs:List Ce) (w:IK),(keys Y).Nodup->vs.length=q.pi.sl.length->(∀p∈q.pi.sl,∃v,vs[p.1]?=Ac v/\(inst N q.pi.hs x p.2).is [] η H v)->
   keys Y=q.pi.ro.map (·.1)->(∀p∈q.pi.ro,∃X,Ax Y p.1=Ac X/\(instR N q.pi.hs x p.2).is [] η H p.1 X)->G H O r->N.inv H->SH w H (Y.map (·.2)++O)->
  Calls P f vs.toArray w λe w'=> ∃v H' O' Y' b,e= .returned v/\H.le H'/\SH w' H' (Y'.map (·.2)++O')/\keys Y'=q.pi.ro.map (·.1)/\(∀p∈q.pi.ro,∃X,Ax Y' p.1=Ac X/\(instR N q.pi.hs x p.2).is [] η H' p.1 X)/\G H' O' ([],Ac b)/\(q.rb=Br->v= .bool b)
end
theorem Ajm{w:IK}{H:Hp}{O:List Aw}(m:SH w H O){i:Nat}{v:Ce}{e:Gn}{size n:Nat}{xs:List Ce}(hi:O[i]?=Ac (.row v e size n xs)):
  ∃k,H.le k/\SH w k (O.eraseIdx i)/\Sl k v size n xs/\∀w' l,SH w' k l->SH w' H (.row v e size n xs::l):=by
 have h:=m.ok i _ hi;rcases h.2 with⟨rfl,rfl⟩|⟨g,cap,cur,rfl,q,y,s,d,p,a⟩;· have:xs=[]:=Abc (by simpa using h.1);subst this;exact⟨H,Hp.le.refl H,m.drop i,Sl.nil H size,λw' l c=>c.II e size⟩
 ·obtain⟨t,x⟩:=m.PF hi (b:=g) rfl y;refine⟨_,t,x,⟨h.1, .inr ⟨_,_,rfl,s⟩,λj u A=>⟨⟨g,0+j,Dc⟩,cur,e,(0,0),by grind[AX,rD],rfl,by simp[Hp.put],?_⟩⟩,λw' l c=>?_⟩;· grind
  ·exact Aiw (i:=0) (r:= .row (.slice (Ac ⟨g,0,Dc⟩) n cap) e size n xs) (o:= .cells cur e (0,0)) rf rf (m.Iv i _ g hi rf) (λz f=>⟨h.1, .inr ⟨g,cap,cur,rf,q,f,s,d,p,a⟩⟩) c
section
variable {N : Df}
section
variable{H:Hp}{η:Nat->Ce}{C:List (SV N.T)}{t:Ty}{k:Nat}
def CY:SV N.T->Bool
 | .d t _=>Hz t
 | .Ee _ _ _ _ _=>Ak
 | .pd _ _ _=>Ak
 | .CD _=>Ak
 | .lf _ a l=>CY a&&CY l
 | .t2 a b=>CY a&&CY b
 | .t3 a b c=>CY a&&(CY b&&CY c)
 | .AA _ l _=>CY l
 | .vc a l=>CY a&&CY l
 | .px _ (.dx _ _)=>Ak
 |_=>Br
def Wc:SR N.T->Bool
 | .Af _ l=>CY l
 | .row _ t _=>Hz t
 | .CD _=>Ak
 | .gone=>Br
 | .map _ _ _ _=>Ak
 | .Cr _ _ _ _ _=>Ak
theorem Cq{g w:Nat->Ce->Prop}{η:Nat->Ce}{H p:Hp} :∀ {s:SV N.T} {v:Ce},CY s=Br->s.BV g η H v->s.BV w η p v
 | .d t x,v,e,⟨o,i,j⟩=>⟨o,Hy e i,j⟩
 | .na _,_,_,h=>h
 | .ct _ _,_,_,h=>h
 | .cb _ _,_,_,h=>h
 | .lt _ _ _,_,_,h=>h
 | .lb _,_,_,h=>h
 | .raw _,_,_,h=>h
 | .ud,_,_,h=>h
 | .no,_,_,h=>h
 | .loc _ _,_,_,h=>h
 | .AE _,_,_,h=>h
 | .Ee _ _ _ _ _,_,e,_=>by cases e
 | .pd t x off,v,e,_=>by cases e
 | .mp _,_,_,h=>h
 | .lf s a l,v,e,⟨q,r,u,i,j,k,m,A,B⟩=>by have e:(CY a&&CY l)=Br:=e;rw[AS]at e;exact⟨q,r,u,i,j,Cq e.1 k,m,A,Cq e.2 B⟩
 | .nl,_,_,h=>h
 | .t2 a b,v,e,⟨x,y,i,j,k⟩=>by have e:(CY a&&CY b)=Br:=e;rw[AS]at e;exact⟨x,y,i,Cq e.1 j,Cq e.2 k⟩
 | .t3 a b c,v,e,⟨x,y,z,i,j,k,m⟩=>by have e:(CY a&&(CY b&&CY c))=Br:=e;rw[AS,AS]at e;exact⟨x,y,z,i,Cq e.1 j,Cq e.2.1 k,Cq e.2.2 m⟩
 | .AA f l o,v,e,⟨n,i,j⟩=>⟨n,i,Cq (s:=l) e j⟩
 | .vn,_,_,h=>h
 | .vc a l,v,e,⟨u,n,i,j,k⟩=>by have e:(CY a&&CY l)=Br:=e;rw[AS]at e;exact⟨u,n,i,Cq e.1 j,Cq e.2 k⟩
 | .px _ (.sub _ _ _),_,_,h=>h
 | .px _ .sf,_,_,h=>h
 | .px _ (.hc _),_,_,h=>h
 | .px _ (.fo _),_,_,h=>h
 | .px _ (.fi _),_,_,h=>h
 | .px _ (.fe _ _ _),_,_,h=>h
 | .px _ .any,_,_,h=>h
 | .px _ .ub,_,_,h=>h
 | .px _ (.sd _),_,_,h=>h
 | .px _ (.dx _ _),_,e,_=>by cases e
 | .CD _,_,e,_=>by cases e
theorem OQ{t:Ty}{H b:Hp}(a:Hz t=Br):∀ {l:List (t.den N.T)} {xs:List Ce},A2 (N.c t) H l xs->A2 (N.c t) b l xs
 | [],_,h=>h
 |_::_,_,⟨c,xs,e,d,f⟩=>⟨c,xs,e,Hy a d,OQ a f⟩
theorem SG{d:Hp}{s:SR N.T}{r:Aw}(a:Wc s=Br)(h:s.is C η H k r):s.is C η d k r:=by
 cases s with
 |Af g l=>
  obtain⟨B,e,b,c,f⟩:=h;exact⟨B,e,b,c,Cq (s:=l) a f⟩
 |row g t l=>obtain⟨i,b,c⟩:=h;exact⟨i,b,OQ a c⟩
 |CD j=>cases a
 |gone=>exact h
 |map g m n l=>cases a
 |Cr _ _ _ _ _=>cases a
def q8(k:Nat)(t:Ty)(l:List (t.den N.T)):SR N.T->SR N.T
 | .Af g r=> .Af g (GR k t l r)
 |r=>r
def rlC(C:List (SV N.T)):SV N.T->SV N.T
 | .lf s a l=> .lf s (res C a) (rlC C l)
 |s=>s
theorem oS:∀ {s:SV N.T} {v:Ce},s.is C η H v->(rlC C s).is C η H v:=by
 intro s;induction s with
 |lf n a l _ k=>exact λ⟨b,c,u,d,e,f,g,i,j⟩=>⟨b,c,u,d,e,EU f,g,i,k j⟩
 |_=>exact λh=>h
def rlR(C:List (SV N.T)):SR N.T->SR N.T
 | .Af g l=> .Af g (rlC C l)
 |r=>r
def Ks(C:List (SV N.T))(Rr:Nat->Option (SR N.T))(k:Nat)(t:Ty)(l:List (t.den N.T)):Nat->Option (SR N.T):=λj=>match Hg j k with
 |true=>Ac .gone
 |false=>(Rr j).map λr=>q8 k t l (rlR C r)
theorem gG{a:Hp}(c:H.le a){j:Nat}{l:List (t.den N.T)}(h:G5 (N.c t) a l (η k)){r:SR N.T}{X:Aw}(d:r.is C η H j X):(q8 k t l (rlR C r)).is C η a j X:=by
 cases r with
 |Af g b=>
  obtain⟨B,e,f,i,m⟩:=d;exact⟨B,e,f,i,CW h (oS (m.mono c))⟩
 |_=>exact SR.is.mono c d
end
variable {R : Type} {P : GO} {C : List (SV N.T)} {S : Nat -> SV N.T} {Rr : Nat -> Option (SR N.T)} {nk : Nat} {o : K5} {k : Bt N.T -> Nat -> Option R} {r : R}
section
variable{g:Gn}{s:Bt N.T}{c:Nat}{b:Ty}{l:List (b.den N.T)}{τ:Nat->Nat}{a:Nat}{η:Nat->Ce}{H:Hp}{t:Ty}{x:t.den N.T}{B:Nat}{cs:List Ce}
theorem Ao.gF{d:Nat}{n:Ty}{l:List (n.den N.T)}(hk:Rr d=Ac (.row g n l))(h:Ao P C (λt=>GR d n l (S t)) (Ks C Rr d n l) o s)(hw:d∉keys s.wr)(hf:CY s.sv=Br)(I:s.wr.all (λp=>Wc p.2)=Br):Ao P C S Rr o ⟨s.sv,d::s.rd,s.wr⟩:=by
 intro η H Of a w Y hn hs hi hx hr E K Q hK;rcases hr d (.inl (by simp)) _ hk with e|⟨x,G,xs,rfl,hL⟩;· grind
 obtain⟨i,h2,h3⟩:=bS Of hn G;obtain⟨Z,D,g2,g3,g4⟩:=Ajm hs h2;rw[h3]at g2;have A:G5 (N.c n) Z l (η d):=G5.of (by grind[Bp]) rfl (hL.mono D) (hs.Og h2);have J:d∉keys (FF Y d):=λm=>by obtain⟨p,hp,e⟩:=By.1 m;have:=(Aax.1 hp).2;rw[e]at this;simp at this
 refine h η Z Of a w (FF Y d) (Ia hn) g2 (N.C5 D hi) (λx V=>nE A ((hx x V).mono D)) (λj c sr f=>?_) (λj c b m=>?_) K Q λv w' H2 X Y' L W hY U M q B T=>?_
 ·unfold Ks at f;split at f;· cases f;exact .inl rfl
  ·rename_i u;have ne:=Abe u;obtain⟨s0,O,rfl⟩:=Pd.1 f;rcases hr j (c.imp (Aag _) id) s0 O with e|⟨z,e1,F⟩;· subst e;exact .inl rfl
   ·exact .inr ⟨z,by grind[ne,DJ],gG D A F⟩
 ·grind[Ks,Option.map_eq_none_iff,CO]
 ·have y:d∉keys Y':=λm=>(q d m).elim J hw;refine hK v w' H X ((d, .row (η d) g (n.sz N) l.length xs)::Y') (Hp.le.refl H) (λj c=>W j λb m=>?_) (λj c=>?_) (λj sr c=>?_) (Aba.2 ⟨y,M⟩) (λj c=>?_) ?_ (Cq hf T)
  ·unfold Ks at b;split at b;· cases b
   ·exact c (Option.map_eq_none_iff.1 b) m
  ·simp only[Ax];split;· rename_i u;have:=AI u;subst this;exact G.symm
   ·rename_i u;rw[hY j c,DJ (λe=>Abe u e.symm)]
  ·have ne:d≠j:=λe=>by subst e;exact hw (Dd c)
   refine(U j sr c).imp id λ⟨z,e1,F⟩=>⟨z,by rw[A3 ne];exact e1,SG (IT.1 I _ (A5 c)) F⟩
  ·simp only[keys,Aat,Aao]at c;rcases c with rfl|c;· exact .inl (Dd G)
   ·rcases q j c with e|e;· exact .inl (CO e)
    ·exact .inr e
  ·exact g4 w' _ (B.weaken L)
theorem xe(h:Nr Rr S τ):Nr (Ks C Rr c b l) (λt=>GR c b l (S t)) τ:=λt=>by
 have d:=h t;generalize g:S t=sv at d⊢;show D' τ (Ks C Rr c b l) (GR c b l (S t));rw[g];cases sv with
 |AE j=>unfold GR;split<;>trivial
 |Ee j i off p x=>
  unfold GR;split;· trivial
  ·rename_i e;intro q u s a;unfold Ks at a;rw[e]at a;obtain⟨n,f,m⟩:=Pd.1 a;cases n<;>first|(cases m;exact d _ _ _ f)|cases m
 |_=>exact d
theorem Ux(c:∀j,nk<=j->Rr j=Dc)(b:a<nk):∀j,nk<=j->CH Rr a j=Dc:=λj d=>by grind[CH,Hg,aP]
theorem Ov(d:∀j,nk<=j->Rr j=Dc)(c:a<nk):∀j,nk<=j->Ks C Rr a b l j=Dc:=λj e=>by grind[Ks,Hg,aP]
def MM(a:Nat)(k:Bt N.T->Nat->Option R)(s:Bt N.T)(nk:Nat):Option R:=match Cf (keys s.wr) a,CY s.sv&&s.wr.all (λp=>Wc p.2)with
 |false,Br=>k ⟨s.sv,a::s.rd,s.wr⟩ nk
 |_,_=>Dc
theorem A1.gF{b:Nat}{c:Ty}{l:List (c.den N.T)}(w:Rr b=Ac (.row g c l))(h:A1 P C (λt=>GR b c l (S t)) (Ks C Rr b c l) nk o (MM b k) r):A1 P C S Rr nk o k r:=by
 obtain⟨s,m,d,p,q,u,v⟩:=h;unfold MM at d;split at d
 ·rename_i z a;rw[AS]at a;have y:b∉keys s.wr:=λe=>by grind[AR]
  refine⟨_,m,d,p.gF w y a.1 a.2,q,λj x f=>u j x ?_,λτ i=>?_⟩;· grind[Ks,Hg,absurd,aP]
  ·have n:=v τ (xe i);have a:=a.1;generalize s.sv=sv at n a;cases sv with
   |Ee _ _ _ _ _=>trivial
   |_=>exact n
 grind
def QL(k:Nat)(t:Ty)(x:t.den N.T):SV N.T->SV N.T
 | .loc j off=>match Hg j k with
  |true=> .pd t x off
  |false=> .loc j off
 | .lf s a r=> .lf s (QL k t x a) (QL k t x r)
 | .t2 a b=> .t2 (QL k t x a) (QL k t x b)
 | .t3 a b c=> .t3 (QL k t x a) (QL k t x b) (QL k t x c)
 | .AA f r d=> .AA f (QL k t x r) d
 | .vc a r=> .vc (QL k t x a) (QL k t x r)
 |s=>s
theorem jd{C:List (SV N.T)}{η:Nat->Ce}{H:Hp}{g:Nat->Ce->Prop}{k:Nat}{t:Ty}{x:t.den N.T}{B:Nat}{cs:List Ce}(U:η k=ptr B 0)(J:(N.c t).BS H x cs)(hc:∀j u,cs[j]?=Ac u->DX H (ptr B j) u):∀ {s:SV N.T} {v:Ce},s.BV g η H v->(QL k t x s).BV g η H v:=by
 intro s;induction s with
 |loc j off=>
  intro v M;unfold QL;split
  ·rename_i K;have:=AI K;obtain⟨D,d,rfl⟩:=M;have:B=D:=by grind[ptr]
   subst this;exact⟨⟨B,0,Dc⟩,0,cs,by simp[ptr,xX],J,λj u L=>by have:=hc j u L;rw[rD,Abm,Abm];trivial⟩
  omega
 |lf n a l d m=>exact λ⟨F,G,u,e,i,p,q,Q,T⟩=>⟨F,G,u,e,i,d p,q,Q,m T⟩
 |t2 a b d m=>exact λ⟨y,z,e,i,p⟩=>⟨y,z,e,d i,m p⟩
 |t3 a b c d m I=>exact λ⟨y,z,w,e,i,p,q⟩=>⟨y,z,w,e,d i,m p,I q⟩
 |AA f r cs d=>exact λ⟨A,e,i⟩=>⟨A,e,d i⟩
 |vc a r d m=>exact λ⟨u,A,e,i,p⟩=>⟨u,A,e,d i,m p⟩
 |_=>exact λh=>h
theorem xO{k:Nat}(b:η k=ptr B 0)(c:(N.c t).BS H x cs)(hc:∀j u,cs[j]?=Ac u->DX H (ptr B j) u){y:Er}{v:Ce}(h:(Av S y).is C η H v):(Av (λu=>QL k t x (S u)) y).is C η H v:=by
 cases y with
 |tmp u=>exact jd (C:=C) b c hc h
 |_=>exact h
theorem Ao.aF{f:Nat}{b:SV N.T}{L:Ty}{y:L.den N.T}(hk:Rr f=Ac (.Af g b))(hy:KL N C 64 L b=Ac (y, .nl))(h:Ao P C (λt=>QL f L y (S t)) (CH Rr f) o s)(hw:f∉keys s.wr)(hf:CY s.sv=Br)(W:s.wr.all (λp=>Wc p.2)=Br):Ao P C S Rr o ⟨s.sv,f::s.rd,s.wr⟩:=by
 intro η H Of a w Y hn hs hi hx hr l K Q hK;rcases hr f (.inl (by simp)) _ hk with e|⟨x,T,B,cs,hB,rfl,hl⟩;· grind
 obtain⟨i,U,h3⟩:=bS Of hn T;obtain⟨c1,c2,M,hL,J⟩:=EL (cs:=cs.toList) hy hl;have J:Ce.agg c2.toArray= .agg #[]:=J;have J:c2=[]:=by grind
 subst J;obtain⟨I,g2⟩:=hs.PF U (b:=B) rfl (hs.ok i _ U);have D:H.at_ B=Dc:=hs.Iv i _ B U rfl;rw[h3]at g2;have V:=(N.c L).mono I hL;have hc:∀j u,c1[j]?=Ac u->DX (H.put B (.cells cs g (0,0))) (ptr B j) u:=λj u d=>by refine⟨⟨B,j,Dc⟩,cs,g,(0,0),rf,rf,by simp[Hp.put],?_⟩;grind
 have X:f∉keys (FF Y f):=λn=>by obtain⟨p,hp,e⟩:=By.1 n;have:=(Aax.1 hp).2;rw[e]at this;simp at this
 refine h η _ Of a w (FF Y f) (Ia hn) g2 (N.C5 I hi) (λx hx'=>xO hB V hc ((hx x hx').mono I)) (λj d sr m=>?_) (λj d c n=>?_) K Q λv w' H2 η' Y' Z hη hY hwr hn' q F hsv=>?_
 ·unfold CH at m;split at m;· cases m;exact .inl rfl
  ·rename_i A;have ne:=Abe A;exact(hr j (d.imp (Aag _) id) sr m).imp id λ⟨z,M,O⟩=>⟨z,by grind[ne,DJ],O.mono I⟩
 ·unfold CH at c;split at c;· cases c
  ·exact l j d c (CO n)
 ·have E:f∉keys Y':=λn=>(q f n).elim X hw;refine hK v w' H η' ((f, .Af B (.cells cs g (0,0)))::Y') (Hp.le.refl H) (λj d=>hη j λc n=>?_) (λj d=>?_) (λj sr d=>?_) (Aba.2 ⟨E,hn'⟩) (λj d=>?_) ?_ (Cq hf hsv)
  ·unfold CH at c;split at c;· cases c
   ·exact d c n
  ·simp only[Ax];split;· rename_i A;have:=AI A;subst this;exact T.symm
   ·rename_i A;rw[hY j d,DJ (λe=>Abe A e.symm)]
  ·have ne:f≠j:=λe=>by subst e;exact hw (Dd d)
   refine(hwr j sr d).imp id λ⟨z,M,O⟩=>⟨z,by rw[A3 ne];exact M,SG (IT.1 W _ (A5 d)) O⟩
  ·simp only[keys,Aat,Aao]at d;rcases d with rfl|d;· exact .inl (Dd T)
   ·rcases q j d with e|e;· exact .inl (CO e)
    ·exact .inr e
  ·exact Aiw (i:=0) (r:= .Af B (.cells cs g (0,0))) (o:= .cells cs g (0,0)) rf rf D (λw'' G=>G) (F.weaken Z)
theorem xN{b:Nat}{f:Ty}{y:f.den N.T}(e:Nr Rr S τ):Nr (CH Rr b) (λt=>QL b f y (S t)) τ:=λt=>by
 have c:=e t;generalize d:S t=sv at c⊢;show D' τ (CH Rr b) (QL b f y (S t));rw[d];cases sv with
 |loc j off=>unfold QL;split<;>trivial
 |Ee j i off m x=>
  intro g l h a;unfold CH at a;split at a;· grind
  ·exact c g l h a
 |_=>exact c
theorem A1.aF{b:SV N.T}{m:Ty}{y:m.den N.T}(w:Rr c=Ac (.Af g b))(A:KL N C 64 m b=Ac (y, .nl))(h:A1 P C (λt=>QL c m y (S t)) (CH Rr c) nk o (MM c k) r):A1 P C S Rr nk o k r:=by
 obtain⟨s,l,d,p,q,u,v⟩:=h;unfold MM at d;split at d
 ·rename_i B a;rw[AS]at a;have z:c∉keys s.wr:=λe=>by grind[AR]
  refine⟨_,l,d,p.aF w A z a.1 a.2,q,λj x f=>u j x ?_,λτ i=>?_⟩;· grind[CH,Hg,absurd,aP]
  ·have n:=v τ (xN i);have a:=a.1;generalize s.sv=sv at n a;cases sv with
   |Ee _ _ _ _ _=>trivial
   |_=>exact n
 grind
def Ta:SV N.T->List (SV N.T)
 | .vc a l=>a::Ta l
 |_=>[]
def vv:SV N.T->Bool
 | .vc _ l=>vv l
 | .vn=>Br
 |_=>Ak
structure Ca(T:Nat->Type)where
 f:Nat
 As:List (SV T)
 cs:List Nat
end
section
variable{η:Nat->Ce}{H:Hp}{x:Er}{tys:Array Gn}{q:PQ N}
def Tj(S:Nat->SV N.T)(Rr:Nat->Option (SR N.T))(x:Er)(xs:List Er):Option (Ca N.T):=match Av S x with
 | .AA f l a=>match vv l&&a.all λc=>match Rr c with|some (.Af _ _)=>Br|_=>Ak with
  |true=>Ac ⟨f,Ta l++xs.map (Av S)++a.map (λc=> .loc c 0),a⟩
  |false=>Dc
 |_=>Dc
theorem Na{C:List (SV N.T)}{η:Nat->Ce}{H:Hp} :∀ {l:SV N.T} {us:List Ce},vv l=Br->l.is C η H (.tuple us.toArray)->us.length=(Ta l).length/\∀(i:Nat) (s:SV N.T),(Ta l)[i]?=Ac s->∃v,us[i]?=Ac v/\s.is C η H v
 | .vn,us,_,h=>by
  have h:Ce.tuple us.toArray= .tuple #[]:=h;have:us=[]:=by grind
  subst this;exact⟨rfl,λi s h=>by trivial⟩
 | .vc a l,us,g,⟨u,c,e,d,f⟩=>by
  have e:us=u::c:=by grind
  subst e;obtain⟨j,m⟩:=Na (l:=l) g f;refine⟨by grind[Ta],λi s h=>?_⟩;cases i with
  |zero=>simp[Ta]at h;subst h;exact⟨u,rfl,d⟩
  |succ i=>grind[Ta]
theorem i_{xs:List Er}{q:Ca N.T}(E:o.op= .call {callee:= .value x,args:=xs.toArray,argTypes:=tys})(h:Tj S Rr x xs=Ac q)(t:TO P q.f){Y:List (Nat×Aw)}{a:Act}(F:∀x∈o.op.operands,(Av S x).is C η H (a.eval x))(Q:∀c∈q.cs,∀I,Rr c=Ac I->Dp C η H Y c I):
  ∃vs:List Ce,vs.length=q.As.length/\(∀(i:Nat) (s:SV N.T),q.As[i]?=Ac s->∃v,vs[i]?=Ac v/\s.is C η H v)/\∀H O R,Tw P q.f vs H O R->BP P o.op o.type (EV a) H O R:=by
 unfold Tj at h;split at h
 ·rename_i f l D T;split at h
  ·rename_i y;cases h;rw[AS]at y;have u:(Av S x).is C η H (a.eval x):=F x (by grind[Z8,gj]);rw[T]at u;obtain⟨J,e,M⟩:=u;obtain⟨K,W⟩:=Na y.1 M;refine⟨J++xs.map a.eval++D.map η,by grind,λi s j=>?_,λH O R U=>?_⟩
   ·rw[Aak]at j⊢;by_cases V:i<(Ta l).length;· grind
    ·rw[Aac (by omega)]at j;rw[Aac (by omega),K];by_cases w:i-(Ta l).length<xs.length;· rw[Aaa (by simpa using w),Acb]at j;rw[Aaa (by simpa using w),Acb];obtain⟨z,G,rfl⟩:=Pd.1 j;refine⟨_,by rw[G];rfl,F z (by rw[E];simp[Z8,gj];exact .inr (Aai G))⟩
     ·rw[Aac (by simpa using w),Acb]at j;rw[Aac (by simpa using w),Acb];simp only[Aap]at j⊢;obtain⟨c,hc,rfl⟩:=Pd.1 j;have p:=Aai hc;have n:=IT.1 y.2 c p;refine⟨η c,by rw[hc];rfl,?_⟩;split at n
      ·rename_i g b L;rcases Q c p _ L with e|⟨X,_,B,_,A,_⟩;· cases e
       ·exact⟨B,A,A⟩
      ·cases n
   ·rw[E];exact Aju (first:=J) (caps:=D.map η) t (congrArg Ac e) (LQ xs) U
  grind
 grind
def XT{T:Nat->Type} :SV T->Option Nat
 | .AE k=>Ac k
 | .lf _ a l=>match XT a with
  |some k=>Ac k
  |none=>XT l
 |_=>Dc
def VW(a:List (SV N.T)):List (Nat×SP)->Option Nat
 | []=>Dc
 |(i, .v _ _)::l=>match XT (a.getD i .no)with
  |some k=>Ac k
  |none=>VW a l
 |_::l=>VW a l
def aE(a:List (SV N.T)):List (Nat×SP)->Option (Nat×Ty)
 | []=>Dc
 |(i, .pd _ t _)::l=>match a.getD i .no with
  | .loc k _=>Ac (k,t)
  |_=>aE a l
 |_::l=>aE a l
def O8(C:List (SV N.T))(f:Nat)(q:PQ N)(x:Er)(xs:List Er)(nk:Nat):Nat->(Nat->SV N.T)->(Nat->Option (SR N.T))->(Bt N.T->Nat->Option R)->Option (Option R)
 |0,_,_,_=>Dc
 |n+1,S,Rr,k=>match Tj S Rr x xs with
  |some c=>
        match Hg c.f f with
   |true=>
        match VW c.As q.pi.sl with
    |some a=>match Rr a with
     |some (.row _ d l)=>O8 C f q x xs nk n (λt=>GR a d l (S t)) (Ks C Rr a d l) (MM a k)
     |_=>Dc
    |none=>match aE c.As q.pi.sl with
     |some (kb,e)=>match Rr kb with
      |some (.Af _ b)=>match XT (rlC C b)with
       |some a=>match Rr a with
        |some (.row _ d l)=>O8 C f q x xs nk n (λt=>GR a d l (S t)) (Ks C Rr a d l) (MM a k)
        |_=>Dc
       |none=>match KL N C 64 e b with
        |some (y, .nl)=>O8 C f q x xs nk n (λt=>QL kb e y (S t)) (CH Rr kb) (MM kb k)
        |_=>Dc
      |_=>Dc
     |none=>WI C Rr nk q c.As c.cs k
   |false=>Dc
  |none=>Dc
theorem VA{y:BK N q.po.hs}{τ:Nat->Nat}{Rr:Nat->Option (SR N.T)}{ρ:Nat->Nat}(c:vj q=Br):D' τ Rr ((Jl q y).DS ρ):=by
 unfold vj at c;rw[AS]at c;have B:∀p∈ZO q,∀ {ρ:Nat->Nat} {Rr:Nat->Option (SR N.T)},D' τ Rr ((inst N q.po.hs y p).DS ρ):=λp l {ρ Rr} =>by
  have:=
      IT.1 c.1 p l;rw[AS]at this;have s:=this.1;have pr:∀(a:List HT) (x:BK N a) (j:Nat),D' τ Rr ((CB N a x j).DS ρ):=λa x j=>by
   have:∀(a:List HT) (x:BK N a) (j:Nat),CB N a x j= .no\/∃h y,CB N a x j=eL N h y:=by
    intro a;induction a with
    |nil=>exact λ_ _=> .inl rfl
    |cons t g w=>
     intro x j;cases g with
     |nil=>cases j with
      |zero=>exact .inr ⟨t,x,rfl⟩
      |succ j=>exact .inl rfl
     |cons u g=>cases j with
      |zero=>exact .inr ⟨t,x.1,rfl⟩
      |succ j=>exact w x.2 j
   rcases this a x j with e|⟨h,y,e⟩;· rw[e];trivial
   ·rw[e];cases h<;>trivial
  cases p with
  |v j t=>exact pr _ _ _
  |nat j=>exact pr _ _ _
  |AE _=>trivial
  |loc _ _=>trivial
  |AA _ _ _=>trivial
  |Al=>trivial
  |nl=>trivial
  |mp _=>trivial
  |pd j t off=>
   show D' τ Rr (SV.DS ρ (match CB N q.po.hs y j with| .d t x=>SV.pd t x off|_=> .no));split<;>trivial
  |px f z=>cases z with
   |sf=>trivial
   |hc _=>trivial
   |sub j n t=>
    show D' τ Rr (SV.DS ρ (match CB N q.po.hs y j,CB N q.po.hs y n with| .na i, .na m=>SV.px f (.sub i m t)|_,_=> .px f .any));split<;>trivial
  |sv A=>cases A<;>trivial
  |_=>trivial
 unfold Jl;unfold ZO at B;split;· trivial
 ·simp_all
 all_goals trivial
theorem JX{f:Nat}{q:PQ N}{x:Er}{xs:List Er}{tys:Array Gn}(D:o.op= .call {callee:= .value x,args:=xs.toArray,argTypes:=tys})(A:Ch P f q):∀ {n:Nat} {S:Nat->SV N.T} {Rr:Nat->Option (SR N.T)} {k:Bt N.T->Nat->Option R},(∀j,nk<=j->Rr j=Dc)->O8 C f q x xs nk n S Rr k=Ac (Ac r)->A1 P C S Rr nk o k r
 |0,_,_,_,_,h=>by cases h
 |n+1,S,Rr,k,t,h=>by
  unfold O8 at h;split at h
  ·rename_i c hc;split at h
   ·rename_i T;have e:=AI T;split at h
    ·rename_i E hk;split at h
     ·rename_i g te l u;have m:E<nk:=Abz λi=>by grind
      exact .gF u (JX D A (Ov t m) h)
     grind
    ·split at h
     ·rename_i kb tb V;split at h;case h_2=>cases h
      rename_i g b w;have v:kb<nk:=Abz λi=>by have:=t kb i;rw[w]at this;cases this
      split at h
      ·rename_i E U;split at h
       ·rename_i g te l u;have m:E<nk:=Abz λi=>by have:=t E i;rw[u]at this;cases this
        exact .gF u (JX D A (Ov t m) h)
       ·cases h
      ·split at h;· rename_i y I;exact .aF w I (JX D A (Ux t v) h)
       ·cases h
     unfold WI at h;simp only at h;split at h
     ·rename_i d;simp only[AS]at d;split at h
      ·rename_i z hz;obtain⟨y,I,h⟩:=Bj (Abs h);obtain⟨L,M⟩:=Yk (S:=S) (o:=o) (f:=f) (ex:=c.cs) A d.2.2.1 d.2.2.2 (AI d.1) (λp W=>by simpa using IT.1 d.2.1 p W) hz I t λη H Y a Z u=>by
        obtain⟨vs,k1,k2,k3⟩:=i_ D hc (by rw[e];exact A.YZ) Z (λK F sr G=>u K (Aca _ F) sr G);exact⟨vs,k1,k2,λH O R X=>k3 H O R (by rw[e];exact X)⟩
       refine⟨_,_,h,L,Nat.le_add_right _ _,M,λτ _=>?_⟩;exact VA d.2.2.2
      ·cases h
     ·cases h
   grind
  grind
inductive CQ(N:Df)where
 |PI (l:List (PQ N))
 |its (l:List (IQ N))
 |qM (l:List (JQ N))
end
section
variable{f:Nat}{x:Er}{tys:Array Gn}
def Bw(P:GO)(f:Nat):CQ N->Prop
 | .PI l=> ∀q∈l,Ch P f q
 | .its l=> ∀q∈l,I6 P f q
 | .qM l=> ∀q∈l,I5 P f q
def Ti(C:List (SV N.T))(f:Nat)(x:Er)(xs:List Er)(S:Nat->SV N.T)(Rr:Nat->Option (SR N.T))(nk:Nat)(k:Bt N.T->Nat->Option R):List (PQ N)->Option R
 | []=>Dc
 |q::l=>match O8 C f q x xs nk 9 S Rr k with
  |some z=>z
  |none=>Ti C f x xs S Rr nk k l
theorem Ng{f:Nat}{x:Er}{xs:List Er}{tys:Array Gn}(c:o.op= .call {callee:= .value x,args:=xs.toArray,argTypes:=tys})(b:∀j,nk<=j->Rr j=Dc):∀ {l:List (PQ N)},(∀q∈l,Ch P f q)->Ti C f x xs S Rr nk k l=Ac r->A1 P C S Rr nk o k r
 | [],_,h=>by cases h
 |q::l,d,h=>by
  unfold Ti at h;split at h;· rename_i z e;subst h;exact JX c (d q (by simp)) b e
  ·exact Ng c b (λq g=>d q (by grind)) h
theorem J0{C:List (SV N.T)}{η:Nat->Ce}{H:Hp} :∀(ps:List Ty) (d:List (SV N.T)) (vs:List Ce) (x:DT N ps),UQ N C ps d=Ac x->vs.length=d.length->(∀(i:Nat) (s:SV N.T),d[i]?=Ac s->∃v,vs[i]?=Ac v/\s.is C η H v)->YU H ps x vs
 | [],[],vs,x,h,a,_=>Abc a
 | [],_::_,_,x,h,_,_=>by cases h
 | [t],[],_,x,h,_,_=>by cases h
 | [t],[s],vs,x,h,a,b=>by obtain⟨v,e,f⟩:=b 0 s rfl;obtain⟨j,rfl⟩:∃j,vs=[j]:=Adb.1 a;cases e;exact⟨_,rfl,Wn (DO (t:=t) h f)⟩
 | [t],_::_::_,_,x,h,_,_=>by cases h
 |t::u::c,[],_,x,h,_,_=>by cases h
 |t::u::c,s::g,[],x,h,a,b=>by grind
 |t::u::c,s::g,v::vs,x,h,a,b=>by
  have h:(match TM C t s,UQ N C (u::c) g with
   |some x,Ac y=>Ac (x,y)
   |_,_=>Dc)=Ac x:=h;split at h;· rename_i z w f l;cases h;obtain⟨j,e,m⟩:=b 0 s rfl;cases e;exact⟨_,_,rfl,Wn (DO (t:=t) f m),J0 (u::c) g vs w l (by grind) λi s n=>b (i+1) s n⟩
  grind
def cT(C:List (SV N.T))(Φ:Nat->Option (CQ N))(S:Nat->SV N.T)(Rr:Nat->Option (SR N.T))(nk:Nat)(x:Er)(xs:List Er)(k:Bt N.T->Nat->Option R):Option R:=match x with
 | .func f=>match Φ f with
  |some (.PI l)=>Ti C f (.func f) xs S Rr nk k l
  |_=>Dc
 |x=>match Tj S Rr x xs with
  |some c=>match Φ c.f with
   |some (.PI l)=>Ti C c.f x xs S Rr nk k l
   |_=>Dc
  |none=>Dc
theorem Z4{Φ:Nat->Option (CQ N)}(d:∀f q,Φ f=Ac q->Bw P f q)(D:∀j,nk<=j->Rr j=Dc){xs:Array Er}(Z:o.op= .call {callee:= .value x,args:=xs,argTypes:=tys})(h:cT C Φ S Rr nk x xs.toList k=Ac r):A1 P C S Rr nk o k r:=by
 have i:o.op= .call {callee:= .value x,args:=xs.toList.toArray,argTypes:=tys} :=by omega
 unfold cT at h;split at h
 ·rename_i f;split at h
  ·rename_i l n;exact Ng i D (d _ _ n) h
  ·cases h
 ·split at h
  ·rename_i c hc;split at h
   ·rename_i l n;exact Ng i D (d _ _ n) h
   ·cases h
  ·cases h
def qh:List (SV N.T)->SV N.T
 | []=> .vn
 |a::l=> .vc a (qh l)
def iS(S:Nat->SV N.T):List Er->Option (List Nat)
 | []=>Ac []
 |x::a=>match Av S x,iS S a with
  | .loc c 0,Ac l=>Ac (c::l)
  |_,_=>Dc
def qj(S:Nat->SV N.T)(nk f:Nat)(fs cs:List Er)(k:Bt N.T->Nat->Option R):Option R:=match iS S cs with
 |some l=>k ⟨.AA f (qh (fs.map (Av S))) l,[],[]⟩ nk
 |none=>Dc
theorem VS{C:List (SV N.T)}{η:Nat->Ce}{H:Hp}{a:Act} :∀ {fs:List Er},(∀x∈fs,(Av S x).is C η H (a.eval x))->(qh (fs.map (Av S))).is C η H (.tuple (fs.map a.eval).toArray)
 | [],_=>rfl
 |x::c,h=>⟨a.eval x,c.map a.eval,rfl,h x (by simp),VS λy d=>h y (by grind)⟩
theorem WC{C:List (SV N.T)}{η:Nat->Ce}{H:Hp}{a:Act} :∀ {cs:List Er} {l:List Nat},iS S cs=Ac l->(∀x∈cs,(Av S x).is C η H (a.eval x))->cs.map a.eval=l.map η
 | [],l,h,_=>by cases h;rfl
 |x::m,l,h,b=>by
  unfold iS at h;split at h;· rename_i c j f g;cases h;have:=b x (by simp);rw[f]at this;obtain⟨B,d,e⟩:=this;rw[Aat,Aat,WC g (λy i=>b y (by grind)),d,e]
  grind
theorem pj{fs cs:Array Er}(j:o.op= .makeFunc (.func f) fs cs)(h:qj S nk f fs.toList cs.toList k=Ac r):A1 P C S Rr nk o k r:=by
 unfold qj at h;split at h;· rename_i l i;refine .y h (Abu λη H O a d _=>?_) λ_ _=>trivial;have e:∀x∈fs.toList,(Av S x).is C η H (a.eval x):=λx c=>d x (by grind[Z8]);have g:∀x∈cs.toList,(Av S x).is C η H (a.eval x):=λx c=>d x (by grind[Z8]);refine⟨.func (.func f) (fs.toList.map a.eval).toArray (cs.toList.map a.eval).toArray,?_,fs.toList.map a.eval,by rw[WC i g],VS e⟩;rw[j];exact Aq.makeFunc (fs:=fs.toList) (cs:=cs.toList) (LQ _) (LQ _)
 grind
end
end
class C9 (N:Df) (P:GO):Prop where
 eq:∀ {P'},N.prog=Ac P'->P'=P
 laid:laidOutB P=Br
abbrev fV:Ty:= .st (.pr (.int .i64) (.int .i64))
abbrev fW{T:Nat->Type}(m:fV.den T):Int×Int:=m
section
variable {N : Df}
section
variable{H:Hp}{κ:Type}{a:Ty}{k:κ}{x:a.den N.T}{v:Ce}
theorem Ev.len{a:Ty}{H:Hp}{κ:Type} :∀ {l:List (κ×a.den N.T)} {m:List (κ×Ce)},Ev a H l m->m.length=l.length
 | [],[],_=>rfl
 |_::l,_::m,⟨_,_,h⟩=>congrArg (· +1) (Ev.len h)
 | [],_::_,h=>h.elim
 |_::_,[],h=>h.elim
abbrev FU(a:Ty)(H:Hp)(x:a.den N.T)(v:Ce):Prop:= ∃b,(N.c a).BS H x b/\CU a b v
theorem Ev.get{b:Ty}{H:Hp}{κ:Type} [DecidableEq κ](k:κ):∀ {l:List (κ×b.den N.T)} {m:List (κ×Ce)},Ev b H l m->(AF l k=Dc/\AF m k=Dc)\/∃x v,AF l k=Ac x/\AF m k=Ac v/\FU b H x v
 | [],[],_=> .inl ⟨rfl,rfl⟩
 |(j,x)::l,(f,v)::m,⟨a,c,d⟩=>by
  subst a;unfold AF;by_cases e:j=k;· grind
  ·rw[if_neg e,if_neg e];exact Ev.get k d
 | [],_::_,h=>h.elim
 |_::_,[],h=>h.elim
theorem Ev.set{a:Ty}{H:Hp}{κ:Type} [DecidableEq κ]{k:κ}{x:a.den N.T}{v:Ce}(d:FU a H x v):∀ {l:List (κ×a.den N.T)} {m:List (κ×Ce)},Ev a H l m->Ev a H (Is l k x) (Is m k v)
 | [],[],_=>trivial
 |(j,y)::l,(g,u)::m,⟨b,f,c⟩=>by
  subst b;unfold Is;by_cases e:j=k;· rw[if_pos e,if_pos e];trivial
  ·rw[if_neg e,if_neg e];exact⟨rfl,f,Ev.set d c⟩
 | [],_::_,h=>h.elim
 |_::_,[],h=>h.elim
theorem Ev.app{a:Ty}{H:Hp}{κ:Type}{k:κ}{x:a.den N.T}{v:Ce}(b:FU a H x v):∀ {l:List (κ×a.den N.T)} {m:List (κ×Ce)},Ev a H l m->Ev a H (l++[(k,x)]) (m++[(k,v)])
 | [],[],_=>⟨rfl,b,trivial⟩
 |_::l,_::m,⟨c,d,e⟩=>⟨c,d,Ev.app b e⟩
 | [],_::_,h=>h.elim
 |_::_,[],h=>h.elim
theorem Ev.put[DecidableEq κ](d:FU a H x v){l:List (κ×a.den N.T)}{m:List (κ×Ce)}(h:Ev a H l m):Ev a H (Bz l k x) (Bz m k v):=by
 unfold Bz;rcases h.get k with⟨b,c⟩|⟨_,_,b,c,_⟩;· rw[b,c];exact h.app d
 ·rw[b,c];exact h.set d
def zcs(b:Ty)(z:Ce):Option (List Ce):=match b.agg,z with
 |true, .agg a=>Ac a.toList
 |true,_=>Dc
 |false,z=>Ac [z]
def zdK(N:Df)(P:GO)(d:Gn)(b:Ty):Option (b.den N.T):=match P.info? d with
 |some a=>match a.zero with
  |some z=>match zcs b z with
   |some c=>match parse N 16 b c with
    |some (x,[])=>Ac x
    |_=>Dc
   |none=>Dc
  |none=>Dc
 |none=>Dc
theorem om{P:GO}{f:Gn}{d:Ty}{x:d.den N.T}(h:zdK N P f d=Ac x):∃n b z,TI P f n b z/\∀H,FU d H x z:=by
 unfold zdK at h;split at h
 ·rename_i c i;split at h
  ·rename_i z l;split at h
   ·rename_i g hc;split at h
    ·rename_i y k;refine⟨_,_,z,⟨c,i,rfl,rfl,l⟩,λH=>⟨g,?_,?_⟩⟩;· obtain⟨pre,e,j⟩:=CL (H:=H) k;grind
     ·unfold zcs at hc;unfold CU;split at hc;· rename_i a;cases hc;rw[a]
      all_goals grind
    grind
   grind
  grind
 grind
end
variable {R : Type} {P : GO} {C : List (SV N.T)} {S : Nat -> SV N.T} {Rr : Nat -> Option (SR N.T)} {nk : Nat} {o : K5} {k : Bt N.T -> Nat -> Option R} {r : R}
section
variable{t:Gn}{x:Er}{H:Hp}{y:Er}
def qi(P:GO)(nk:Nat)(t:Gn)(k:Bt N.T->Nat->Option R):Option R:=match N.prog with
 |none=>Dc
 |some _=>match P.underlying t with
  |some (.map g b)=>match L6 N P b,P.underlying g with
   |some a,Ac .string=>k ⟨.mp nk,[],[(nk, .map g .str a [])]⟩ (nk+1)
   |some a,Ac (.int .i64)=>k ⟨.mp nk,[],[(nk, .map g (.int .i64) a [])]⟩ (nk+1)
   |some a,Ac (.struct _)=>match OE P g with
    |true=>k ⟨.mp nk,[],[(nk, .map g fV a [])]⟩ (nk+1)
    |false=>Dc
   |_,_=>Dc
  |_=>Dc
theorem ph[C9 N P](f:o.op= .makeMap t Dc)(e:∀j,nk<=j->Rr j=Dc)(h:qi P nk t k=Ac r):A1 P C S Rr nk o k r:=by
 unfold qi at h;split at h;· grind
 ·rename_i d c;obtain rfl:=C9.eq (N:=N) (P:=P) c;split at h
  ·split at h;· rename_i q n b;refine .new h (Afe (e nk (Aaf _)) λη H O a p _=>?_) λ_ _=>trivial;rw[f];refine(Ahi (qk b)).mono ?_;rintro v i l ⟨B,rfl,rfl,rfl⟩;exact⟨rfl,_, .map (Ac B),rfl,⟨B,AD _ _ _,d,qk b,[],c,λ_=>rfl,λ_ h=>h,rfl,trivial⟩,(AD _ _ _).symm,rfl⟩
   ·rename_i q n b;refine .new h (Afe (e nk (Aaf _)) λη H O a p _=>?_) λ_ _=>trivial;rw[f];refine(Ahi (mkI b)).mono ?_;rintro v i l ⟨B,rfl,rfl,rfl⟩;exact⟨rfl,_, .map (Ac B),rfl,⟨B,AD _ _ _,d,mkI b,[],c,λ_=>rfl,λ_ h=>h,rfl,trivial⟩,(AD _ _ _).symm,rfl⟩
   ·split at h;· rename_i m;refine .new h (Afe (e nk (Aaf _)) λη H O a p _=>?_) λ_ _=>trivial;rw[f];refine(Ahi (mkP (C9.laid N) m)).mono ?_;rintro v i l ⟨B,rfl,rfl,rfl⟩;exact⟨rfl,_, .map (Ac B),rfl,⟨B,AD _ _ _,d,mkP (C9.laid N) m,[],c,λ_=>rfl,λ_ h=>h,rfl,trivial⟩,(AD _ _ _).symm,rfl⟩
    grind
   grind
  grind
theorem m_{η:Nat->Ce}{m:(fV.den N.T)}{v:Ce}(h:(SV.d fV m:SV N.T).is C η H v):v= .agg #[.int .i64 m.1, .int .i64 m.2]:=by obtain⟨g,i,c⟩:=h;have c:v= .agg g.toArray:=c;obtain⟨d,f,e,a,b⟩:=i;have a:d=[.int .i64 m.1]:=a;have b:f=[.int .i64 m.2]:=b;grind
def qu(
     P:GO) (C:List (SV N.T)) (S:Nat->SV N.T) (Rr:Nat->Option (SR N.T)) (nk:Nat) (t:Gn) (x y:Er) (ok:Bool) (k:Bt N.T->Nat->Option R):Option R:=match Av S x with
 | .mp b=>match Rr b,P.underlying t with
  |some (
      .map g i e l),Ac (.map h f)=>match Hg g h,zdK N P f e with
   |true,Ac z=>match i,l with
    | .str,l=>match Tl (Av S y)with
     |some m=>Ah (m.length<=Aj) (match ok with
      |true=>k ⟨.t2 (.d e ((AF (κ:=Ay) l m).getD z)) (.d .bool (AF (κ:=Ay) l m).isSome),[b],[]⟩ nk
      |false=>k ⟨.d e ((AF (κ:=Ay) l m).getD z),[b],[]⟩ nk)
     |none=>Dc
    | .int .i64,l=>match intOf (Av S y)with
     |some (.i64,m)=>Aa .i64 m (match ok with
      |true=>k ⟨.t2 (.d e ((AF (κ:=Int) l m).getD z)) (.d .bool (AF (κ:=Int) l m).isSome),[b],[]⟩ nk
      |false=>k ⟨.d e ((AF (κ:=Int) l m).getD z),[b],[]⟩ nk)
     |_=>Dc
    | .st (.pr (.int .i64) (.int .i64)),l=>match TM C fV (Av S y)with
     |some m=>Ah (DY (fW m).1/\DY (fW m).2) (match ok with
      |true=>k ⟨.t2 (.d e ((AF (κ:=Int×Int) l (fW m)).getD z)) (.d .bool (AF (κ:=Int×Int) l (fW m)).isSome),[b],[]⟩ nk
      |false=>k ⟨.d e ((AF (κ:=Int×Int) l (fW m)).getD z),[b],[]⟩ nk)
     |none=>Dc
    |_,_=>Dc
   |_,_=>Dc
  |_,_=>Dc
 |_=>Dc
theorem Kv{c:Ty}{κ:Type} [DecidableEq κ]{l:List (κ×c.den N.T)}{f:List (κ×Ce)}(h:Ev c H l f){z:c.den N.T}{g:Ce}(j:FU c H z g)(m:κ):
  FU c H ((AF l m).getD z) ((AF f m).getD g)/\(AF f m).isSome=(AF l m).isSome:=by
 rcases h.get m with⟨d,e⟩|⟨_,_,d,e,i⟩;all_goals grind
theorem py[C9 N P]{ok:Bool}(E:o.op= .lookup t x y ok)(h:qu P C S Rr nk t x y ok k=Ac r):A1 P C S Rr nk o k r:=by
 have Z:∀ {η:Nat->Ce} {H:Hp} {a:Act},(∀x∈o.op.operands,(Av S x).is C η H (a.eval x))->(Av S x).is C η H (a.eval x):=λc=>c x (by grind[Z8]);have G:∀ {η:Nat->Ce} {H:Hp} {a:Act},(∀x∈o.op.operands,(Av S x).is C η H (a.eval x))->(Av S y).is C η H (a.eval y):=λc=>c y (by grind[Z8]);unfold qu at h;split at h
 ·rename_i b hs;have F:∀ {η:Nat->Ce} {H:Hp} {a:Act},(∀x∈o.op.operands,(Av S x).is C η H (a.eval x))->a.eval x=η b:=λ{η H a} c=>by
   have:(SV.mp b:SV N.T).is C η H (a.eval x):=by simp_all
   exact this.1
  split at h
  ·rename_i g kt vt l g' et W J;split at h
   ·rename_i z Y hz;have:=AI Y;subst this;obtain⟨n,by_,zv,q,I⟩:=om hz;split at h
    ·rename_i l;split at h
     ·rename_i m V;obtain⟨hc,h⟩:=AG h;have key:∀(η:Nat->Ce) (H:Hp) (O:List Aw) (a:Act),(∀x∈o.op.operands,(Av S x).is C η H (a.eval x))->(∀k∈[b],∀s,Rr k=Ac s->s= .gone\/∃(x:Aw) (i:Nat),O[i]?=Ac x/\s.is C η H k x)->
        ∃u e,FU vt H ((AF (κ:=Ay) l m).getD z) u/\e=(AF (κ:=Ay) l m).isSome/\Aq P (.lookup t x y Br) o.type (EV a) H O (.tuple #[u, .bool e])/\Aq P (.lookup t x y Ak) o.type (EV a) H O u:=λη H O a c j=>by
       rcases j b (by simp) _ W with e|⟨X,i,d,B,Q,P',K,ms,f,T,D,rfl,U⟩;· grind
       obtain rfl:=C9.eq (N:=N) (P:=P) f;obtain⟨L,M⟩:=Kv U (I H) m;have v:EV a x=Ac (.map (Ac B)):=congrArg Ac ((F c).trans Q);have w:EV a y=Ac (K.val m):=congrArg Ac ((I1 V (G c)).trans (T m).symm);exact⟨_,_,L,M,Ahp J q v w (D m hc) d,Aho J q v w (D m hc) d⟩
      split at h;· refine .y h (Abu λη H O a c j=>?_) λ_ _=>trivial;obtain⟨u,e,d,rfl,f,_⟩:=key η H O a c j;exact⟨_,by rw[E];exact f,_,_,rfl,d,C0⟩
      ·refine .y h (Abu λη H O a c j=>?_) λ_ _=>trivial;obtain⟨u,e,d,rfl,_,f⟩:=key η H O a c j;exact⟨_,by rw[E];exact f,d⟩
     grind
    ·rename_i l;split at h
     ·rename_i m V;obtain⟨hc,_,h⟩:=B_ h;have key:∀(η:Nat->Ce) (H:Hp) (O:List Aw) (a:Act),(∀x∈o.op.operands,(Av S x).is C η H (a.eval x))->(∀k∈[b],∀s,Rr k=Ac s->s= .gone\/∃(x:Aw) (i:Nat),O[i]?=Ac x/\s.is C η H k x)->
        ∃u e,FU vt H ((AF (κ:=Int) l m).getD z) u/\e=(AF (κ:=Int) l m).isSome/\Aq P (.lookup t x y Br) o.type (EV a) H O (.tuple #[u, .bool e])/\Aq P (.lookup t x y Ak) o.type (EV a) H O u:=λη H O a c j=>by
       rcases j b (by simp) _ W with e|⟨X,i,d,B,Q,P',K,ms,f,T,D,rfl,U⟩;· cases e
       obtain rfl:=C9.eq (N:=N) (P:=P) f;obtain⟨L,M⟩:=Kv U (I H) m;have v:EV a x=Ac (.map (Ac B)):=congrArg Ac ((F c).trans Q);have w:EV a y=Ac (K.val m):=congrArg Ac ((AU V (G c)).trans (T m).symm);exact⟨_,_,L,M,Ahp J q v w (D m hc) d,Aho J q v w (D m hc) d⟩
      split at h;· refine .y h (Abu λη H O a c j=>?_) λ_ _=>trivial;obtain⟨u,e,d,rfl,f,_⟩:=key η H O a c j;exact⟨_,by rw[E];exact f,_,_,rfl,d,C0⟩
      ·refine .y h (Abu λη H O a c j=>?_) λ_ _=>trivial;obtain⟨u,e,d,rfl,_,f⟩:=key η H O a c j;exact⟨_,by rw[E];exact f,d⟩
     ·cases h
    ·rename_i l;split at h
     ·rename_i m V;obtain⟨hc,h⟩:=AG h;have key:∀(η:Nat->Ce) (H:Hp) (O:List Aw) (a:Act),(∀x∈o.op.operands,(Av S x).is C η H (a.eval x))->(∀k∈[b],∀s,Rr k=Ac s->s= .gone\/∃(x:Aw) (i:Nat),O[i]?=Ac x/\s.is C η H k x)->
        ∃u e,FU vt H ((AF (κ:=Int×Int) l m).getD z) u/\e=(AF (κ:=Int×Int) l m).isSome/\Aq P (.lookup t x y Br) o.type (EV a) H O (.tuple #[u, .bool e])/\Aq P (.lookup t x y Ak) o.type (EV a) H O u:=λη H O a c j=>by
       rcases j b (by simp) _ W with e|⟨X,i,d,B,Q,P',K,ms,f,T,D,rfl,U⟩;· cases e
       obtain rfl:=C9.eq (N:=N) (P:=P) f;obtain⟨L,M⟩:=Kv U (I H) m;have v:EV a x=Ac (.map (Ac B)):=congrArg Ac ((F c).trans Q);have w:EV a y=Ac (K.val m):=congrArg Ac ((m_ (DO (t:=fV) V (G c))).trans (T m).symm);exact⟨_,_,L,M,Ahp J q v w (D m hc) d,Aho J q v w (D m hc) d⟩
      split at h;· refine .y h (Abu λη H O a c j=>?_) λ_ _=>trivial;obtain⟨u,e,d,rfl,f,_⟩:=key η H O a c j;exact⟨_,by rw[E];exact f,_,_,rfl,d,C0⟩
      ·refine .y h (Abu λη H O a c j=>?_) λ_ _=>trivial;obtain⟨u,e,d,rfl,_,f⟩:=key η H O a c j;exact⟨_,by rw[E];exact f,d⟩
     ·cases h
    grind
   grind
  grind
 grind
def fT(
     P:GO) (C:List (SV N.T)) (S:Nat->SV N.T) (Rr:Nat->Option (SR N.T)) (nk:Nat) (t:Gn) (x y u:Er) (k:Bt N.T->Nat->Option R):Option R:=match Av S x with
 | .mp b=>match Rr b,P.underlying t with
  |some (.map g d a l),Ac (.map c _)=>match Hg g c,TM C a (Av S u)with
   |true,Ac z=>match d,l with
    | .str,l=>match Tl (Av S y)with
     |some m=>Ah (m.length<=Aj/\l.length<=Aj) (k ⟨.no,[],[(b, .map g .str a (Bz (κ:=Ay) l m z))]⟩ nk)
     |none=>Dc
    | .int .i64,l=>match intOf (Av S y)with
     |some (.i64,m)=>Aa .i64 m (Ah (l.length<=Aj) (k ⟨.no,[],[(b, .map g (.int .i64) a (Bz (κ:=Int) l m z))]⟩ nk))
     |_=>Dc
    | .st (.pr (.int .i64) (.int .i64)),l=>match TM C fV (Av S y)with
     |some m=>Ah ((DY (fW m).1/\DY (fW m).2)/\l.length<=Aj) (k ⟨.no,[],[(b, .map g fV a (Bz (κ:=Int×Int) l (fW m) z))]⟩ nk)
     |none=>Dc
    |_,_=>Dc
   |_,_=>Dc
  |_,_=>Dc
 |_=>Dc
theorem ZZ[C9 N P]{u:Er}(c:o.op= .mapUpdate t x y u\/o.op= .insert t x y u)(h:fT P C S Rr nk t x y u k=Ac r):A1 P C S Rr nk o k r:=by
 have Z:∀ {η:Nat->Ce} {H:Hp} {a:Act},(∀x∈o.op.operands,(Av S x).is C η H (a.eval x))->(Av S x).is C η H (a.eval x):=λd=>d x (by grind[Z8]);have I:∀ {η:Nat->Ce} {H:Hp} {a:Act},(∀x∈o.op.operands,(Av S x).is C η H (a.eval x))->(Av S y).is C η H (a.eval y):=λd=>d y (by grind[Z8]);have G:∀ {η:Nat->Ce} {H:Hp} {a:Act},(∀x∈o.op.operands,(Av S x).is C η H (a.eval x))->(Av S u).is C η H (a.eval u):=λd=>d u (by grind[Z8]);unfold fT at h;split at h
 ·rename_i b hs;have F:∀ {η:Nat->Ce} {H:Hp} {a:Act},(∀x∈o.op.operands,(Av S x).is C η H (a.eval x))->a.eval x=η b:=λ{η H a} d=>by
   have:(SV.mp b:SV N.T).is C η H (a.eval x):=by simp_all
   exact this.1
  split at h
  ·rename_i g kt M l g' et J L;split at h
   ·rename_i z Y hz;have:=AI Y;subst this;split at h
    ·split at h
     ·rename_i m V;obtain⟨⟨hc,e⟩,h⟩:=AG h;refine .set h J (Afv J (by simp) λη H O a X i d A f _=>?_) λ_ _=>trivial;obtain⟨B,f,U,K,ms,D,E,p,rfl,q⟩:=f;obtain rfl:=C9.eq (N:=N) (P:=P) D;have s:EV a x=Ac (.map (Ac B)):=congrArg Ac ((F d).trans f);have w:EV a y=Ac (K.val m):=congrArg Ac ((I1 V (I d)).trans (E m).symm);have W:FU M H z (a.eval u):=DO (t:=M) hz (G d);refine⟨_,⟨B,f,U,K,_,D,E,p,rfl,q.put (k:=m) W⟩,?_⟩;rcases c with c|c<;>rw[c];· exact(Ahj L s w rfl (p m hc) (by rw[q.len];exact e) A).mono λv Q T ⟨j,n⟩=>⟨j,n,trivial⟩
      ·exact(Ahh L s w rf (p m hc) (by rw[q.len];exact e) A).mono λv Q T ⟨j,n⟩=>⟨j,n,trivial⟩
     grind
    ·split at h
     ·rename_i m V;obtain⟨hc,_,h⟩:=B_ h;obtain⟨e,h⟩:=AG h;refine .set h J (Afv J (by simp) λη H O a X i d A f _=>?_) λ_ _=>trivial;obtain⟨B,f,U,K,ms,D,E,p,rfl,q⟩:=f;obtain rfl:=C9.eq (N:=N) (P:=P) D;have s:EV a x=Ac (.map (Ac B)):=congrArg Ac ((F d).trans f);have w:EV a y=Ac (K.val m):=congrArg Ac ((AU V (I d)).trans (E m).symm);have W:FU M H z (a.eval u):=DO (t:=M) hz (G d);refine⟨_,⟨B,f,U,K,_,D,E,p,rfl,q.put (k:=m) W⟩,?_⟩;rcases c with c|c<;>rw[c];· exact(Ahj L s w rfl (p m hc) (by rw[q.len];exact e) A).mono λv Q T ⟨j,n⟩=>⟨j,n,trivial⟩
      ·exact(Ahh L s w rf (p m hc) (by rw[q.len];exact e) A).mono λv Q T ⟨j,n⟩=>⟨j,n,trivial⟩
     ·cases h
    ·split at h
     ·rename_i m V;obtain⟨⟨hc,e⟩,h⟩:=AG h;refine .set h J (Afv J (by simp) λη H O a X i d A f _=>?_) λ_ _=>trivial;obtain⟨B,f,U,K,ms,D,E,p,rfl,q⟩:=f;obtain rfl:=C9.eq (N:=N) (P:=P) D;have s:EV a x=Ac (.map (Ac B)):=congrArg Ac ((F d).trans f);have w:EV a y=Ac (K.val m):=congrArg Ac ((m_ (DO (t:=fV) V (I d))).trans (E m).symm);have W:FU M H z (a.eval u):=DO (t:=M) hz (G d);refine⟨_,⟨B,f,U,K,_,D,E,p,rfl,q.put (κ:=Int×Int) (k:=fW m) W⟩,?_⟩;rcases c with c|c<;>rw[c];· exact(Ahj L s w rfl (p m hc) (by rw[q.len];exact e) A).mono λv Q T ⟨j,n⟩=>⟨j,n,trivial⟩
      ·exact(Ahh L s w rf (p m hc) (by rw[q.len];exact e) A).mono λv Q T ⟨j,n⟩=>⟨j,n,trivial⟩
     ·cases h
    grind
   grind
  grind
 grind
def qp(P:GO)(S:Nat->SV N.T)(Rr:Nat->Option (SR N.T))(nk:Nat)(x:Er)(t:Gn)(k:Bt N.T->Nat->Option R):Option R:=match Av S x with
 | .mp b=>match Rr b,P.underlying t with
  |some (.map g c _ l),Ac (.map a _)=>match Hg g a,c,l with
   |true, .str,l=>k ⟨.d (.int .i64) ((l.length:Nat):Int),[b],[]⟩ nk
   |true, .int .i64,l=>k ⟨.d (.int .i64) ((l.length:Nat):Int),[b],[]⟩ nk
   |_,_,_=>Dc
  |_,_=>Dc
 |_=>Dc
theorem pq[C9 N P](s:o.op= .call {callee:= .builtin .len,args:= #[x],argTypes:= #[t]})(h:qp P S Rr nk x t k=Ac r):A1 P C S Rr nk o k r:=by
 have u:∀ {η:Nat->Ce} {H:Hp} {a:Act},(∀x∈o.op.operands,(Av S x).is C η H (a.eval x))->(Av S x).is C η H (a.eval x):=λd=>d x (by grind[Z8,gj]);unfold qp at h;split at h
 ·rename_i b F;have j:∀ {η:Nat->Ce} {H:Hp} {a:Act},(∀x∈o.op.operands,(Av S x).is C η H (a.eval x))->a.eval x=η b:=λ{η H a} d=>by
   have:(SV.mp b:SV N.T).is C η H (a.eval x):=by grind
   exact this.1
  split at h
  ·rename_i g L M l J I w z;split at h
   ·rename_i l c;have:=AI c;subst this;refine .y h (Abu λη H O a d v=>?_) λ_ _=>trivial;rcases v b (by simp) _ w with e|⟨X,i,m,B,n,A,K,G,p,D,E,rfl,q⟩;· grind
    obtain rfl:=C9.eq (N:=N) (P:=P) p;refine⟨_,by rw[s];exact Ajd z (congrArg Ac ((j d).trans n)) m,?_⟩;rw[q.len];exact D8 trivial
   ·rename_i l c;have:=AI c;subst this;refine .y h (Abu λη H O a d v=>?_) λ_ _=>trivial;rcases v b (by simp) _ w with e|⟨X,i,m,B,n,A,K,G,p,D,E,rfl,q⟩;· cases e
    obtain rfl:=C9.eq (N:=N) (P:=P) p;refine⟨_,by rw[s];exact Ajd z (congrArg Ac ((j d).trans n)) m,?_⟩;rw[q.len];exact D8 trivial
   grind
  grind
 grind
end
end
section
variable {N : Df} {R : Type} {P : GO} {C : List (SV N.T)} {S : Nat -> SV N.T} {Rr : Nat -> Option (SR N.T)} {nk : Nat} {o : K5} {k : Bt N.T -> Nat -> Option R} {r : R}
section
variable{t:Gn}{H:Hp}{len:Nat}{ps:List (Nat×Er)}{x:Er}
theorem Ajq{T:Gn}{E:Er->Option Ce}{O:List GK.Aw}{e:Gn}{size bytes:Nat}{z:Ce}{cs:Array Ce}{vs:List (Nat×Ce)}(ht:P.underlying t=Ac (.slice e))(l:TI P e size bytes z)
  (j:len*size<=16777216) (h0:0<len*size) (h:YY E ps=Ac vs) (u:nF (λi=>Ac (i*size,size)) ((Array.range (len*size)).map (z.cells[· %z.cells.size]!)) vs=Ac cs):
  BP P (.buildSlice t len ps.toArray) T E H O (λv m n=>m=H/\∃B,v= .slice (Ac ⟨B,0,Dc⟩) len len/\n= .Af B (.cells cs e (0,0))::O):= .Ap λa w o y _ s A=>by
 have p:(ps.toArray.map λ(i,x)=>(i,a.eval x)).toList=vs:=by simpa using HD s h
 have c:¬len*size>2^24:=by omega
 have g:¬len*size=0:=by omega
 refine⟨.slice (Ac ⟨w.heap.size,0,Dc⟩) len len,w.alloc (.cells cs e),H,_,?_,Hp.le.refl H,⟨rf,_,rf,rf⟩,A.push (r:= .Af w.heap.size (.cells cs e (0,0))) (IK.grownBy_alloc w _ Dc) (heap_alloc_new w _) (λb q=>by grind[Aw.has])⟩;simp only[Kr,y,Instr.buildSlice,oO,AY ht,nt,l.sizeOf,if_neg c,if_neg g,l.zeroValue,Sem.run_pure,p,u];rfl
def cO(S:Nat->SV N.T):Nat->List (Nat×Er)->Option (SV N.T)
 |_,[]=>Ac .nl
 |i,(j,x)::b=>match Hg i j,Av S x,cO S (i+1) b with
  |true, .AA f l a,Ac r=>Ac (.lf 1 (.AA f l a) r)
  |_,_,_=>Dc
theorem WB{η:Nat->Ce}{H:Hp}{a:Act} :∀ {ps:List (Nat×Er)} {i:Nat} {l:SV N.T} {cs:List Ce},cO S i ps=Ac l->(∀p∈ps,(Av S p.2).is C η H (a.eval p.2))->cs.length=i+ps.length->
  ∃xs,nF (λi=>Ac (i*1,1)) cs.toArray (ps.map λp=>(p.1,a.eval p.2))=Ac (cs.take i++xs).toArray/\l.is C η H (.agg xs.toArray)/\xs.length=ps.length
 | [],i,l,cs,h,_,hc=>by cases h;refine⟨[],?_,rfl,rfl⟩;grind[nF,rC,Nat.le_of_eq]
 |(j,x)::ps,i,l,cs,h,t,hc=>by
  unfold cO at h;split at h
  ·rename_i f G F r A E B;cases h;have e:=AI A;subst e;have q:=t (i,x) (by simp);rw[E]at q;have s:(a.eval x).oneCell'=Br:=by obtain⟨I,e,_⟩:=q;rw[e];rfl
   have b:=A' s;simp only[Abo]at hc;have n:(a.eval x).cells.size=1:=by grind[Array.length_toList]
   have D:(CF cs (i*1) (a.eval x).cells.toList).length=i+1+ps.length:=by grind[CF]
   obtain⟨xs,v,w,z⟩:=WB B (λp m=>t p (by simp[m])) D;refine⟨a.eval x::xs,?_,⟨[a.eval x],xs,a.eval x,rfl,rfl,q,b,(λy u=>by simp at u;subst u;exact s),w⟩,by simp[z]⟩;rw[Aat,KA (off:=i*1) (size:=1) rfl n (by simp;omega)];rw[v];unfold CF;rw[b,Acz,Acf (by simp;omega),Abl (by simp;omega)];simp
  grind
def bcK(P:GO)(S:Nat->SV N.T)(nk:Nat)(t:Gn)(len:Nat)(ps:List (Nat×Er))(k:Bt N.T->Nat->Option R):Option R:=match P.underlying t with
 |some (.slice e)=>match Ps P e 1,Hg ps.length len&&(aT 0 len&&iJ len 1000),cO S 0 ps with
  |true,Br,Ac l=>match Cf l.AL nk with
   |false=>k ⟨.px [nk] (.hc len),[],[(nk, .Af e l)]⟩ (nk+1)
   |true=>Dc
  |_,_,_=>Dc
 |_=>Dc
theorem wz(y:o.op= .buildSlice t len ps.toArray)(F:∀k∈C3 C,k<nk)(G:∀j,nk<=j->Rr j=Dc)(h:bcK P S nk t len ps k=Ac r):A1 P C S Rr nk o k r:=by
 have n:∀ {η:Nat->Ce} {H:Hp} {a:Act},(∀x∈o.op.operands,(Av S x).is C η H (a.eval x))->∀p∈ps,(Av S p.2).is C η H (a.eval p.2):=λs p K=>s p.2 (by grind[Z8]);unfold bcK at h;split at h;case h_2=>grind
 rename_i e L;split at h;case h_2=>grind
 rename_i l E w I;split at h;case h_2=>cases h
 rename_i J;simp only[AS]at w;obtain⟨i,m,c⟩:=w;have A:=AI i;subst A;have c:=Aay c;obtain⟨bytes,z,q⟩:=Dt E;refine .new h (Afe (G nk (Aaf _)) λη H O a s U=>?_) λ_ _=>trivial;have d:(((Array.range (ps.length*1)).map (z.cells[· %z.cells.size]!)).toList:List Ce).length=0+ps.length:=by simp
 obtain⟨V,u,D,T⟩:=WB (C:=C) (η:=η) (H:=H) (a:=a) I (n s) d;rw[y];refine(Ajq L q (by omega) (by simpa using m) (JL ps) u).mono ?_;rintro v M Q ⟨rfl,B,rfl,rfl⟩;exact⟨rfl,_,ptr B 0,rfl,⟨B,_,AD _ _ _,rfl,bT F J D⟩,(show ps.length<=9223372036854775807 by omega),B,by simp[AD],rfl⟩
def qT(P:GO)(S:Nat->SV N.T)(nk:Nat)(t:Gn)(x y:Er)(k:Bt N.T->Nat->Option R):Option R:=match P.underlying t,intOf (Av S y),Av S x with
 |some (.slice e),Ac (_,j), .px [b] (.hc n)=>match Ps P e 1 with
  |true=>Ah (0<=j/\j<(n:Int)) (k ⟨.loc b j.toNat,[],[]⟩ nk)
  |false=>Dc
 |_,_,_=>Dc
theorem pG{y:Er}(g:o.op= .indexAddr t x y)(h:qT P S nk t x y k=Ac r):A1 P C S Rr nk o k r:=by
 have i:∀ {η:Nat->Ce} {H:Hp} {a:Act},(∀x∈o.op.operands,(Av S x).is C η H (a.eval x))->(Av S x).is C η H (a.eval x):=λc=>c x (by grind[Z8]);have l:∀ {η:Nat->Ce} {H:Hp} {a:Act},(∀x∈o.op.operands,(Av S x).is C η H (a.eval x))->(Av S y).is C η H (a.eval y):=λc=>c y (by grind[Z8]);unfold qT at h;split at h;case h_2=>cases h
 rename_i e D j b n A w z;split at h;case h_2=>cases h
 rename_i v;obtain⟨bytes,E,m⟩:=Dt v;obtain⟨⟨q,s⟩,h⟩:=AG h;refine .y h (Abu λη H O a c _=>?_) λ_ _=>trivial;obtain⟨_,B,d,p⟩:(SV.px [b] (.hc n):SV N.T).is C η H (a.eval x):=by rw[<-z];exact i c
 have d:η b=ptr B 0:=by simpa using d
 have u:=AU w (l c);refine⟨AX (a.eval x) (j.toNat*1),?_,B,d,?_⟩;· rw[g];exact Agf A m rfl (.inr ⟨_,_,p,Aaf _⟩) (congrArg Ac u) ⟨q,s⟩
 ·rw[p,Acz];show AX (.slice (Ac ⟨B,0,Dc⟩) n n) j.toNat= .pointer (Ac ⟨B,j.toNat,Dc⟩);simp only[AX,xX,Abm];split;· rename_i h;rw[h]
  ·rfl
def qt(P:GO)(S:Nat->SV N.T)(nk:Nat)(x:Er)(t:Gn)(k:Bt N.T->Nat->Option R):Option R:=match P.underlying t,Av S x with
 |some (.slice _), .px [_] (.hc n)=>k ⟨.na n,[],[]⟩ nk
 |_,_=>Dc
theorem pv(g:o.op= .call {callee:= .builtin .len,args:= #[x],argTypes:= #[t]})(h:qt P S nk x t k=Ac r):A1 P C S Rr nk o k r:=by
 have d:∀ {η:Nat->Ce} {H:Hp} {a:Act},(∀x∈o.op.operands,(Av S x).is C η H (a.eval x))->(Av S x).is C η H (a.eval x):=λf=>f x (by grind[Z8,gj]);unfold qt at h;split at h;case h_2=>grind
 rename_i e b n p m;refine .y h (Abu λη H O a f _=>?_) λ_ _=>trivial;obtain⟨j,B,q,i⟩:(SV.px [b] (.hc n):SV N.T).is C η H (a.eval x):=by grind
 exact⟨_,by rw[g];exact Aq.len p (congrArg Ac i) (.inr ⟨_,_,rf,Aaf _⟩),rf,j⟩
end
end
section
variable {P : GO}
section
variable{e:Gn}{n bytes:Nat}{z:Ce}
theorem Fi{d:Nat}{e:Gn}(c:P.underlying e=Ac .bool)(h1:P.cellsOf e=1)(w:IK)(xs ys:List Bool):∀(is:List Nat),(∀i∈is,i<xs.length/\i<ys.length)->
  (Op.eqItems (d+1) e (P.cellsOf e) (xs.map Ce.bool).toArray (ys.map Ce.bool).toArray is).run P w= .ok (is.all λi=>xs[i]?==ys[i]?) w
 | [],_=>by rfl
 |i::is,h=>by
  have b:=h i (by simp);have k:=Fi (d:=d) c h1 w xs ys is (λj g=>h j (by grind));have l:(part e (xs.map Ce.bool).toArray (i*P.cellsOf e)).run P w= .ok (.bool xs[i]) w:=by simp[part,Cm c,DP,h1,b.1]
  have m:(part e (ys.map Ce.bool).toArray (i*P.cellsOf e)).run P w= .ok (.bool ys[i]) w:=by simp[part,Cm c,DP,h1,b.2]
  have n:(lj (d+1) e (.bool xs[i]) (.bool ys[i])).run P w= .ok (xs[i]==ys[i]) w:=by simp[lj,AY c]
  simp only[Op.eqItems,oO,l,m,n,nt];by_cases f:xs[i]=ys[i];all_goals simp_all
theorem T5{t:Gn}(ht:P.underlying t=Ac (.array n e))(f:P.underlying e=Ac .bool)(l:TI P e 1 bytes z)(w:IK)(xs ys:List Bool)(m:xs.length=n)(o:ys.length=n):
  (rY t (.agg (xs.map Ce.bool).toArray) (.agg (ys.map Ce.bool).toArray)).run P w= .ok (Ds (xs=ys)) w:=by
 obtain⟨i,b,k,_⟩:=l.ex;have c:P.cellsOf e=1:=by grind[GO.cellsOf]
 have key:∀d,(lj (d+1+1) t (.agg (xs.map Ce.bool).toArray) (.agg (ys.map Ce.bool).toArray)).run P w= .ok (Ds (xs=ys)) w:=λd=>by
  rw[run_equalIn_array w (d+1) _ _ ht b,Fi f c w xs ys _ (λi b=>by grind)];congr 1;rw[Alc];simp only[IT,Abf,beq_iff_eq,decide_eq_true_iff];constructor
  ·intro h;apply Afz;intro j;by_cases g:j<n;· exact h j g
   ·rw[Acy (by omega),Acy (by omega)]
  grind
 grind[rY,Alu]
theorem Akj{T Tx Ty:Gn}{E:Er->Option Ce}{H:Hp}{O:List Aw}{x y:Er}{ne:Bool}{xs ys:List Bool}(i:P.eqGuardType P.depth Tx=Ak)(ht:P.underlying Tx=Ac (.array n e))(m:P.underlying e=Ac .bool)(p:TI P e 1 bytes z)(k:E x=Ac (.agg (xs.map Ce.bool).toArray))(l:E y=Ac (.agg (ys.map Ce.bool).toArray))(h1:xs.length=n)(h2:ys.length=n):
  Aq P (.binOp (match ne with|true=> .neq|false=> .eql) Tx x y Ty) T E H O (.bool (match ne with|true=> !decide (xs=ys)|false=>Ds (xs=ys))):= .Ap λa w o j _ c _=>by
 have h:=T5 ht m p w xs ys h1 h2;cases ne with
 |false=>
  have f:=run_eqGuard_agg w .eql Tx x y (xs.map Ce.bool).toArray (ys.map Ce.bool).toArray i;simp_all[binOp,bool,decide,pure,rY,Kr]
 |true=>
  have f:=run_eqGuard_agg w .neq Tx x y (xs.map Ce.bool).toArray (ys.map Ce.bool).toArray i;simp_all[binOp,bool,decide,pure,rY,Kr]
end
end
section
variable {N : Df} {R : Type} {P : GO} {C : List (SV N.T)} {S : Nat -> SV N.T} {Rr : Nat -> Option (SR N.T)} {nk : Nat} {o : K5} {k : Bt N.T -> Nat -> Option R} {r : R}
section
variable{t:Gn}{x y:Er}
def KJ:Ty->Option Nat
 | .bool=>Ac 1
 | .st t=>KJ t
 | .pr a b=>match KJ a,KJ b with
  |some x,Ac y=>Ac (x+y)
  |_,_=>Dc
 |_=>Dc
def FK:(t:Ty)->t.den N.T->List Bool
 | .bool,x=>[x]
 | .st t,x=>FK t x
 | .pr a b,x=>FK a x.1++FK b x.2
 |_,_=>[]
theorem E_{H:Hp} :∀ {t:Ty} {x:t.den N.T} {n:Nat} {cs:List Ce},KJ t=Ac n->(N.c t).BS H x cs->cs=(FK t x).map Ce.bool/\(FK t x).length=n
 | .bool,x,_,cs,h,d=>by cases h;trivial
 | .st t,x,_,cs,h,d=>E_ (t:=t) h d
 | .pr a b,x,_,cs,h,d=>by
  unfold KJ at h;split at h;· rename_i p q s u;obtain⟨v,w,rfl,l,m⟩:=d;obtain⟨f,g⟩:=E_ s l;obtain⟨i,j⟩:=E_ u m;grind[FK]
  grind
def jc(P:GO)(t:Gn):Bool:=match P.underlying t with
 |some (.array _ e)=>match P.underlying e with
  |some .bool=>Br
  |_=>Ak
 |_=>Ak
def ir(P:GO)(C:List (SV N.T))(S:Nat->SV N.T)(nk:Nat)(ne:Bool)(t:Gn)(x y:Er)(k:Bt N.T->Nat->Option R):Option R:=match P.underlying t,L6 N P t with
 |some (.array n e),Ac (.st u)=>match P.underlying e,Ps P e 1,P.eqGuardType P.depth t with
  |some .bool,Br,Ak=>match KJ u,two C (.st u) (Av S x) (Av S y)with
   |some m,Ac (a,b)=>match Hg m n with
    |true=>k ⟨.d .bool (match ne with|true=> !decide (FK u a=FK u b)|false=>Ds (FK u a=FK u b)),[],[]⟩ nk
    |false=>Dc
   |_,_=>Dc
  |_,_,_=>Dc
 |_,_=>Dc
theorem Z3{ne:Bool}{u:Gn}(i:o.op= .binOp (match ne with|true=> .neq|false=> .eql) t x y u)(h:ir P C S nk ne t x y k=Ac r):A1 P C S Rr nk o k r:=by
 have j:∀ {η:Nat->Ce} {H:Hp} {a:Act},(∀x∈o.op.operands,(Av S x).is C η H (a.eval x))->(Av S x).is C η H (a.eval x):=λd=>d x (by simp_all[Z8]);have l:∀ {η:Nat->Ce} {H:Hp} {a:Act},(∀x∈o.op.operands,(Av S x).is C η H (a.eval x))->(Av S y).is C η H (a.eval y):=λd=>d y (by rw[i];simp[Z8]);unfold ir at h;split at h;case h_2=>cases h
 rename_i n e s G T;split at h;case h_2=>cases h
 rename_i E I F;split at h;case h_2=>cases h
 rename_i m a b q B;split at h;case h_2=>cases h
 rename_i D;have v:=AI D;subst v;obtain⟨bytes,z,p⟩:=Dt I;refine .y h (Abu λη H O L d _=>?_) λ_ _=>trivial;obtain⟨⟨M,f,w⟩,Q,g,A⟩:=Po B (j d) (l d);obtain⟨f,J⟩:=E_ (t:=s) q f;obtain⟨g,K⟩:=E_ (t:=s) q g;subst f;subst g;exact⟨_,by rw[i];exact Akj (ne:=ne) F G E p (congrArg Ac w) (congrArg Ac A) J K,C0⟩
def iA(c:Ty):Nat->(t:Ty)->t.den N.T->Option (List (c.den N.T))
 |n+2, .pr a b,x=>match Qr N.T a c,iA c (n+1) b x.2 with
  |some f,Ac l=>Ac (f x.1::l)
  |_,_=>Dc
 |1,t,x=>(Qr N.T t c).map λf=>[f x]
 |_,_,_=>Dc
theorem SN{c:Ty}{H:Hp} :∀ {n:Nat} {t:Ty} {x:t.den N.T} {l:List (c.den N.T)} {cs:List Ce},iA c n t x=Ac l->(N.c t).BS H x cs->A2 (N.c c) H l cs/\l.length=n
 |n+2, .pr a b,x,l,cs,h,i=>by
  unfold iA at h;split at h;· rename_i f y g u;cases h;obtain⟨d,rfl⟩:=BB g;have e:=Adj d;subst e;obtain⟨m,p,rfl,q,s⟩:=i;obtain⟨v,w⟩:=SN u s;exact⟨⟨m,p,rfl,q,v⟩,by grind⟩
  grind
 |1,t,x,l,cs,h,i=>by obtain⟨f,g,rfl⟩:=Pd.1 h;obtain⟨d,rfl⟩:=BB g;have e:=Adj d;subst e;exact⟨⟨cs,[],by simp,i,rfl⟩,rfl⟩
def sE(P:GO)(S:Nat->SV N.T)(nk:Nat)(t:Gn)(x y:Er)(k:Bt N.T->Nat->Option R):Option R:=match P.underlying t,intOf (Av S y),Av S x with
 |some (.array n e),Ac (_,j), .d (.st u) z=>match P.underlying e,L6 N P e with
  |some d,Ac a=>match a.agg&&DP d&&Ps P e (a.sz N),iA a n u z with
   |true,Ac l=>Ah (0<=j/\j<(n:Int)) (Ab (idx l j) λz=>k ⟨.d a z,[],[]⟩ nk)
   |_,_=>Dc
  |_,_=>Dc
 |_,_,_=>Dc
theorem P4{c:Ty}{H:Hp} :∀ {l:List (c.den N.T)} {cs:List Ce} {i:Nat} {z:c.den N.T},A2 (N.c c) H l cs->l[i]?=Ac z->(N.c c).BS H z ((cs.drop (i*c.sz N)).take (c.sz N))
 | [],_,_,_,_,h=>by grind
 |a::l,_,0,z,⟨j,m,e,b,d⟩,h=>by cases h;subst e;rw[Aen,Afb,Acf (by grind[Bh]),Abl (by grind[Bh])];omega
 |a::l,_,i+1,z,⟨j,m,e,b,d⟩,h=>by have:=P4 (i:=i) d (by trivial);grind[Nat.succ_mul,Nat.add_comm,Bh,xI,List.drop_left]
theorem pR(g:o.op= .index t x y)(h:sE P S nk t x y k=Ac r):A1 P C S Rr nk o k r:=by
 have i:∀ {η:Nat->Ce} {H:Hp} {a:Act},(∀x∈o.op.operands,(Av S x).is C η H (a.eval x))->(Av S x).is C η H (a.eval x):=λb=>b x (by rw[g];simp[Z8]);have m:∀ {η:Nat->Ce} {H:Hp} {a:Act},(∀x∈o.op.operands,(Av S x).is C η H (a.eval x))->(Av S y).is C η H (a.eval y):=λb=>b y (by rw[g];simp[Z8]);unfold sE at h;split at h;case h_2=>cases h
 rename_i n e W j u U M K L;split at h;case h_2=>cases h
 rename_i d B I Q;split at h;case h_2=>cases h
 rename_i l w J;simp only[AS]at w;obtain⟨⟨D,E⟩,F⟩:=w;obtain⟨bytes,X,p⟩:=Dt F;obtain⟨hc,h⟩:=AG h;obtain⟨z,q,h⟩:=Bj h;refine .y h (Abu λη H O a b _=>?_) λ_ _=>trivial;obtain⟨v,G,f⟩:(SV.d (.st u) U:SV N.T).is C η H (a.eval x):=by rw[<-L];exact i b
 have f:a.eval x= .agg v.toArray:=f;obtain⟨T,V⟩:=SN J G;have s:l[j.toNat]?=Ac z:=by unfold idx at q;rw[if_pos hc.1]at q;exact q
 refine⟨_,by rw[g];exact Aq.qV M I E p (congrArg Ac f) (congrArg Ac (AU K (m b))) hc,(v.drop (j.toNat*B.sz N)).take (B.sz N),P4 T s,?_⟩;simp_all[CU]
end
end
section
variable {N : Df} {R : Type} {P : GO} {C : List (SV N.T)} {S : Nat -> SV N.T} {Rr : Nat -> Option (SR N.T)} {nk : Nat} {o : K5} {k : Bt N.T -> Nat -> Option R} {r : R}
section
variable{x:Er}{t T:Gn}{E:Er->Option Ce}{H:Hp}{O:List Aw}{y z:Er}
theorem fr(s:Ay)(i j:Nat):(⟨⟨s⟩⟩:ByteArray).extract i j=⟨⟨(s.drop i).take (j-i)⟩⟩:=by apply ByteArray.ext;simp
theorem Akr{s:Ay}{k d:Lm}{i j:Int}(ht:P.underlying t=Ac .string)(g:E x=Ac (sv s))(l:E y=Ac (.int k i))(m:E z=Ac (.int d j))(h0:0<=i)(h1:i<=j)(h2:j<=(s.length:Nat)):
  Aq P (.slice t x (Ac y) (Ac z) Dc) T E H O (sv ((s.drop i.toNat).take (j.toNat-i.toNat))):= .Ap λa w o f _ c _=>by
 have:=run_slice_string (P:=P) w t ⟨⟨s⟩⟩ k d i j ht h0 h1 h2;simp_all[sv,Kr,fr,run_sliceAt_string]
def oW(P:GO)(S:Nat->SV N.T)(nk:Nat)(t:Gn)(x y z:Er)(k:Bt N.T->Nat->Option R):Option R:=match P.underlying t,Tl (Av S x),intOf (Av S y),intOf (Av S z)with
 |some .string,Ac s,Ac (_,i),Ac (_,j)=>Ah ((0<=i/\i<=j)/\j<=((s.length:Nat):Int)) (k ⟨.d .str ((s.drop i.toNat).take (j.toNat-i.toNat)),[],[]⟩ nk)
 |_,_,_,_=>Dc
theorem o_(c:o.op= .slice t x (Ac y) (Ac z) Dc)(h:oW P S nk t x y z k=Ac r):A1 P C S Rr nk o k r:=by
 have d:∀ {η:Nat->Ce} {H:Hp} {a:Act},(∀x∈o.op.operands,(Av S x).is C η H (a.eval x))->(Av S x).is C η H (a.eval x):=λb=>b x (by grind[Z8]);have e:∀ {η:Nat->Ce} {H:Hp} {a:Act},(∀x∈o.op.operands,(Av S x).is C η H (a.eval x))->(Av S y).is C η H (a.eval y):=λb=>b y (by grind[Z8]);have f:∀ {η:Nat->Ce} {H:Hp} {a:Act},(∀x∈o.op.operands,(Av S x).is C η H (a.eval x))->(Av S z).is C η H (a.eval z):=λb=>b z (by grind[Z8]);unfold oW at h;split at h;case h_2=>grind
 rename_i s w i A j v u p q;obtain⟨⟨⟨g,l⟩,m⟩,h⟩:=AG h;exact .y h (Abu λη H O a b _=>⟨_,by rw[c];exact Akr v (congrArg Ac (I1 u (d b))) (congrArg Ac (AU p (e b))) (congrArg Ac (AU q (f b))) g l m,[_],rfl,rfl⟩) λ_ _=>trivial
theorem xm(n:Int):UE .u64 (n %18446744073709551616):=by show(0:Int)<=_/\_<=(18446744073709551615:Int);omega
def cwK(P:GO)(S:Nat->SV N.T)(nk:Nat)(s d:Gn)(x:Er)(k:Bt N.T->Nat->Option R):Option R:=match P.underlying s,P.underlying d,intOf (Av S x)with
 |some (.int .i64),Ac (.int .u64),Ac (.i64,n)=>k ⟨.d (.int .u64) (n %18446744073709551616),[],[]⟩ nk
 |_,_,_=>Dc
theorem wx{s d:Gn}(c:o.op= .convert s d x)(h:cwK P S nk s d x k=Ac r):A1 P C S Rr nk o k r:=by
 have b:∀ {η:Nat->Ce} {H:Hp} {a:Act},(∀x∈o.op.operands,(Av S x).is C η H (a.eval x))->(Av S x).is C η H (a.eval x):=λl=>l x (by grind[Z8]);unfold cwK at h;split at h;case h_2=>grind
 rename_i n j f i;exact .y h (Abu λη H O a g _=>⟨_,by rw[c];exact Aja j f (congrArg Ac (AU i (b g))),by exact D8 (xm n)⟩) λ_ _=>trivial
theorem Aih{Tx:Gn}{c:Lm}{n:Int}(f:E x=Ac (.int c n)):Aq P (.unOp .neg Tx x) T E H O (.int c (c.wrap (-n))):= .Ap λa w o e _ d _=>by simp_all[Kr,Op.unary,Op.intArith]
def qc(S:Nat->SV N.T)(nk:Nat)(x:Er)(k:Bt N.T->Nat->Option R):Option R:=match intOf (Av S x)with
 |some (.u64,n)=>k ⟨.d (.int .u64) ((-n) %18446744073709551616),[],[]⟩ nk
 |_=>qd S nk x k
theorem pe(b:o.op= .unOp .neg t x)(h:qc S nk x k=Ac r):A1 P C S Rr nk o k r:=by
 have c:∀ {η:Nat->Ce} {H:Hp} {a:Act},(∀x∈o.op.operands,(Av S x).is C η H (a.eval x))->(Av S x).is C η H (a.eval x):=λe=>e x (by grind[Z8]);unfold qc at h;split at h;· rename_i n d;exact .y h (Abu λη H O a g _=>⟨_,by rw[b];exact Aih (congrArg Ac (AU d (c g))),by exact D8 (xm _)⟩) λ_ _=>trivial
 grind[pf]
end
end
section
variable {P : GO} {w : IK} {H : Hp} {O : List Aw} {T : Gn} {E : Er -> Option Ce}
theorem Aia{o:K5}{a:Act}{v:Ce}{C D:IK->Prop}(h:o.quietAt P a C w v)(k:∀w',C w'->D w'):o.quietAt P a D w v:=by unfold K5.quietAt K5.quietUpon at*;split at h<;>rename_i heq;all_goals first|omega|(exact⟨h.1,k _ h.2⟩)|(exact⟨h.1,h.2.mono λ_ _ q=>⟨q.1,k _ q.2⟩⟩)|cases h
theorem Aq.sub{op:Op}{b:List Aw}{v:Ce}(h1:∀w,SH w H O->SH w H b)(h2:∀w,SH w H b->SH w H O)(h:Aq P op T E H b v):Aq P op T E H O v:=
 λa w o c d e f=>Aia (h a w o c d e (h1 w f)) h2
theorem BP.sub{op:Op}{b:List Aw}{R e:Ce->Hp->List Aw->Prop}(h1:∀w,SH w H O->SH w H b)(h2:∀v w c b,R v c b->SH w c b->∃d,e v c d/\SH w c d)(h:BP P op T E H b R):BP P op T E H O e:=
 λa w o next Q f g i j n=>h a w o next Q f g i (h1 w j) λv p c b k l m=>by grind
section
variable {i : Nat} {v : Ce} {g e' : Gn} {n sz : Nat} {xs : List Ce} {rs : List (Option (Nat × List Ce))}
section
variable{u:Ce}
theorem Ajn(hi:O[i]?=Ac (.Cr v g n xs e' sz rs))(h:SH w H (O.set i (.row v g 1 n xs)++FQ e' sz xs rs)):SH w H O:=by have:=h.TU (No.1 hi).1;grind[GK.Ru]
theorem bE(hi:O[i]?=Ac (.Cr v g n xs e' sz rs)):(O.set i (.row v g 1 n xs)++FQ e' sz xs rs)[i]?=Ac (.row v g 1 n xs):=by grind
theorem UC{a m:Nat}{ys:List Ce}(h1:xs[a]?=Ac u)(h2:rs[a]?=Ac (Ac (m,ys))):(O.set i (.row v g 1 n xs)++FQ e' sz xs rs)[O.length+a]?=Ac (.row u e' sz m ys):=by grind[List.length_set,Nat.add_sub_cancel_left,Qj]
theorem Aq.fl{op:Op}(hi:O[i]?=Ac (.Cr v g n xs e' sz rs))(h:Aq P op T E H (O.set i (.row v g 1 n xs)++FQ e' sz xs rs) u):Aq P op T E H O u:=Aq.sub (λ_ a=>a.flat hi) (λ_ a=>Ajn hi a) h
end
end
end
section
variable {N : Df} {R : Type} {P : GO} {C : List (SV N.T)} {S : Nat -> SV N.T} {Rr : Nat -> Option (SR N.T)} {nk : Nat} {o : K5} {k : Bt N.T -> Nat -> Option R} {r : R}
section
variable{t:Gn}{x y:Er}{H:Hp}{ys:List Ce}{rs:List (Option (Nat×List Ce))}{i sz:Nat}
theorem Agq{sv:SV N.T}{b:Nat}{f:SR N.T}(q:Rr b=Ac f)(h0:f≠ .gone)
  (h:∀(η:Nat->Ce) (H:Hp) (O:List Aw) (a:Act) (w:IK) (X:Aw) (i:Nat),(∀x∈o.op.operands,(Av S x).is C η H (a.eval x))->SH w H O->O[i]?=Ac X->f.is C η H b X->∃v,Aq P o.op o.type (EV a) H O v/\sv.is C η H v):
  Ao P C S Rr o ⟨sv,[b],[]⟩:=by
 intro η H j a w Y g c D y t _ K Q p;rcases t b (.inl (by simp)) _ q with e|⟨X,l,m⟩;· grind
 obtain⟨i,n,_⟩:=Jj j g l;obtain⟨v,z,A⟩:=h η H _ a w X i y c n m;refine Aeu (z a w o rfl rfl (λx u e=>by grind) c) c λB d=>?_;exact p v B H η Y (Hp.le.refl H) (λ_ _=>rfl) (λ_ _=>rfl) (λk E h=>by cases h) g (λk s=> .inl s) d A
def qS(P:GO)(S:Nat->SV N.T)(Rr:Nat->Option (SR N.T))(nk:Nat)(t:Gn)(x y:Er)(k:Bt N.T->Nat->Option R):Option R:=match P.underlying t,intOf (Av S y),Av S x with
 |some (.slice g),Ac (_,i), .AE b=>match Rr b,Ps P g 1 with
  |some (.Cr _ _ _ _ l),Br=>Ah (0<=i/\i<((l.length:Nat):Int)) (k ⟨.px [b] (.fo i.toNat),[b],[]⟩ nk)
  |_,_=>Dc
 |_,_,_=>Dc
theorem pF(I:o.op= .indexAddr t x y)(h:qS P S Rr nk t x y k=Ac r):A1 P C S Rr nk o k r:=by
 have p:∀ {η:Nat->Ce} {H:Hp} {a:Act},(∀x∈o.op.operands,(Av S x).is C η H (a.eval x))->(Av S x).is C η H (a.eval x):=λf=>f x (by grind[Z8]);have q:∀ {η:Nat->Ce} {H:Hp} {a:Act},(∀x∈o.op.operands,(Av S x).is C η H (a.eval x))->(Av S y).is C η H (a.eval y):=λf=>f y (by grind[Z8]);unfold qS at h;split at h;case h_2=>grind
 rename_i g U i b K G J;split at h;case h_2=>cases h
 rename_i L e W T l F D;obtain⟨bytes,Z,u⟩:=Dt D;obtain⟨hc,h⟩:=AG h;refine .y h (Agq F (by simp) λη H O a w X j f s z E=>?_) λ_ _=>trivial;obtain⟨Y,V,rfl,_,Q⟩:=E;have B:a.eval x=η b:=by
  have:(SV.AE b:SV N.T).is C η H (a.eval x):=by rw[<-J];exact p f
  exact this.1
 have d:=((s.flat z).IH (bE z)).1;refine⟨AX (η b) (i.toNat*1),?_,?_⟩;· rw[I];exact Agf K u (congrArg Ac B) d (congrArg Ac (AU G (q f))) hc
 ·rcases d with⟨_,M⟩|⟨A,c,v,_⟩;· omega
  ·exact⟨A,l.length,c,by simp[v],by omega,by rw[Acz,v]⟩
def qz(P:GO)(S:Nat->SV N.T)(Rr:Nat->Option (SR N.T))(nk:Nat)(t:Gn)(x:Er)(k:Bt N.T->Nat->Option R):Option R:=match P.underlying t,Av S x with
 |some d, .px [b] (.fo i)=>match Rr b,DP d with
  |some (.Cr _ _ _ h l),Ak=>Ab (idx l (i:Int)) λp=>Ah (p.1=Br) (k ⟨.px [h,b] (.fi i),[b],[]⟩ nk)
  |_,_=>Dc
 |_,_=>Dc
theorem pA(K:o.op= .load t x)(h:qz P S Rr nk t x k=Ac r):A1 P C S Rr nk o k r:=by
 have L:∀ {η:Nat->Ce} {H:Hp} {a:Act},(∀x∈o.op.operands,(Av S x).is C η H (a.eval x))->(Av S x).is C η H (a.eval x):=λB=>B x (by grind[Z8]);unfold qz at h;split at h;case h_2=>grind
 rename_i d b i T W;split at h;case h_2=>grind
 rename_i g e Z V l I J;obtain⟨p,M,h⟩:=Bj h;obtain⟨hc,h⟩:=AG h;refine .y h (Agq I (by simp) λη H O a w X j B Q A G=>?_) λ_ _=>trivial;obtain⟨u,Y,rfl,s,F⟩:=G;obtain⟨D,n,c,f,U,E⟩:(SV.px [b] (.fo i):SV N.T).is C η H (a.eval x):=by grind
 have f:η b= .slice (Ac D) n c:=by simpa using f
 have q:=(Dm M).2;have z:i<u.length:=by rw[F.len];simpa using(No.1 q).1
 refine⟨u[i],?_,u.toArray,η b,by simp[s],by simp[z]⟩;rw[K];exact Aq.fl A (Ahn T J (v:=η b) (congrArg Ac (by rw[E,f])) (bE A) (IN z))
def qR(P:GO)(S:Nat->SV N.T)(Rr:Nat->Option (SR N.T))(nk:Nat)(t:Gn)(x y:Er)(k:Bt N.T->Nat->Option R):Option R:=match P.underlying t,intOf (Av S y),Av S x with
 |some (.slice e),Ac (_,j), .px [h,b] (.fi i)=>match Rr b with
  |some (.Cr _ _ c d l)=>match Hg h d&&Ps P e (c.sz N)with
   |true=>Ab (idx l (i:Int)) λp=>Ah (p.1=Br/\0<=j/\j<((p.2.length:Nat):Int)) (k ⟨.px [h,b] (.fe i j.toNat c),[b],[]⟩ nk)
   |false=>Dc
  |_=>Dc
 |_,_,_=>Dc
theorem pE(Z:o.op= .indexAddr t x y)(h:qR P S Rr nk t x y k=Ac r):A1 P C S Rr nk o k r:=by
 have A:∀ {η:Nat->Ce} {H:Hp} {a:Act},(∀x∈o.op.operands,(Av S x).is C η H (a.eval x))->(Av S x).is C η H (a.eval x):=λc=>c x (by grind[Z8]);have B:∀ {η:Nat->Ce} {H:Hp} {a:Act},(∀x∈o.op.operands,(Av S x).is C η H (a.eval x))->(Av S y).is C η H (a.eval y):=λc=>c y (by grind[Z8]);unfold qR at h;split at h;case h_2=>cases h
 rename_i e kk j Q b i ht Y hs;split at h;case h_2=>cases h
 rename_i g e' te h' l V;split at h;case h_2=>cases h
 rename_i u;rw[AS]at u;have K:=AI u.1;subst K;obtain⟨bytes,zv,F⟩:=Dt u.2;obtain⟨p,hp,h⟩:=Bj h;obtain⟨⟨hc,z⟩,h⟩:=AG h;refine .y h (Agq V (by simp) λη H O a w X q c E W U=>?_) λ_ _=>trivial;obtain⟨G,rs,rfl,m,T⟩:=U;obtain⟨I,u',n,L⟩:(SV.px [Q,b] (.fi i):SV N.T).is C η H (a.eval x):=by rw[<-hs];exact A c
 have n:I=G.toArray:=by simp[m]at n;exact n.1.symm
 subst n;have D:l[i]?=Ac (Br,p.2):=by have:=(Dm hp).2;simp only[Acd]at this;rw[this,<-hc]
 obtain⟨ys,M,f2⟩:=T.own i p.2 D;have J:G[i]?=Ac (a.eval x):=by simpa using L
 have f:=((E.flat W).IH (UC J M)).1;exact⟨AX (a.eval x) (j.toNat*te.sz N),by rw[Z];exact Agf (v:=a.eval x) ht F rfl f (congrArg Ac (AU Y (B c))) z,G.toArray,η b,a.eval x,by simp[m],by simpa using J,rfl⟩
def Xx(P:GO)(t:Gn)(a:Ty):Bool:=match P.underlying t,L6 N P t with
 |some d,Ac b=>(b.JM a&&Hg (a.sz N) 1)&& !DP d
 |_,_=>Ak
theorem LH{a:Ty}(h:Xx (N:=N) P t a=Br):∃d,P.underlying t=Ac d/\DP d=Ak/\a.agg=Ak/\a.sz N=1/\∃bytes z,TI P t 1 bytes z:=by
 unfold Xx at h;split at h;· grind[bytes,Adj,aP,Ka]
 grind
def qA(P:GO)(S:Nat->SV N.T)(Rr:Nat->Option (SR N.T))(nk:Nat)(t:Gn)(x:Er)(k:Bt N.T->Nat->Option R):Option R:=match Av S x with
 | .px [h,b] (.fe i j e)=>match Rr b with
  |some (.Cr _ _ a c l)=>match(Hg h c&&e.JM a)&&Xx (N:=N) P t a with
   |true=>Ab (idx l (i:Int)) λp=>Ah (p.1=Br) (Ab (idx p.2 (j:Int)) λz=>k ⟨.d a z,[b],[]⟩ nk)
   |false=>Dc
  |_=>Dc
 |_=>Dc
theorem Sb{b:Ty}(h1:b.sz N=1){l:List (b.den N.T)}{j:Nat}{z:b.den N.T}(e:A2 (N.c b) H l ys)(f:l[j]?=Ac z):∃u,ys[j]?=Ac u/\(N.c b).BS H z [u]:=by
 have:=P4 e f;rw[h1,Acz]at this;have c:=Bh this;rw[h1]at c;match g:(ys.drop j).take 1,this,c with
 | [u],this,_=>
  have:((ys.drop j).take 1)[0]?=Ac u:=by grind
  grind
theorem pB(ho:o.op= .load t x)(h:qA P S Rr nk t x k=Ac r):A1 P C S Rr nk o k r:=by
 have s:∀ {η:Nat->Ce} {H:Hp} {a:Act},(∀x∈o.op.operands,(Av S x).is C η H (a.eval x))->(Av S x).is C η H (a.eval x):=λB=>B x (by grind[Z8]);unfold qA at h;split at h;case h_2=>grind
 rename_i Z b i j te hs;split at h;case h_2=>cases h
 rename_i g e' te' h' l hb;split at h;case h_2=>cases h
 rename_i G;simp only[AS]at G;obtain⟨⟨J,K⟩,L⟩:=G;have T:=AI J;subst T;have e:=Adj K;subst e;obtain⟨d,hd,ha,n,m,_⟩:=LH L;obtain⟨p,hp,h⟩:=Bj h;obtain⟨hc,h⟩:=AG h;obtain⟨z,hz,h⟩:=Bj h;refine .y h (Agq hb (by simp) λη H O a w X q B hsh hj hX=>?_) λ_ _=>trivial;obtain⟨I,rs,rfl,E,hF⟩:=hX;obtain⟨F,u',u,e,U,V⟩:(SV.px [Z,b] (.fe i j te):SV N.T).is C η H (a.eval x):=by rw[<-hs];exact s B
 have e:F=I.toArray:=by simp[E]at e;exact e.1.symm
 subst e;have A:l[i]?=Ac (Br,p.2):=by have:=(Dm hp).2;simp only[Acd]at this;rw[this,<-hc]
 obtain⟨ys,W,Y⟩:=hF.own i p.2 A;have hu:I[i]?=Ac u:=by simpa using U
 have D:p.2[j]?=Ac z:=by have:=(Dm hz).2;simpa using this
 obtain⟨c,M,Q⟩:=Sb m Y D;refine⟨c,?_,[c],Q,by unfold CU;rw[n]⟩;rw[ho];exact Aq.fl hj (Ahn hd ha (v:=u) (congrArg Ac V) (UC hu W) (by rw[m,Acz];exact M))
def oH(P:GO)(C:List (SV N.T))(S:Nat->SV N.T)(Rr:Nat->Option (SR N.T))(nk:Nat)(t:Gn)(x y:Er)(k:Bt N.T->Nat->Option R):Option R:=match Av S x with
 | .px [h,b] (.fe i j f)=>match Rr b with
  |some (.Cr g e a d l)=>match(Hg h d&&f.JM a)&&Xx (N:=N) P t a,TM C a (Av S y)with
   |true,Ac z=>Ab (idx l (i:Int)) λp=>Ah (p.1=Br/\j<p.2.length) (k ⟨.no,[],[(b, .Cr g e a d (l.set i (Br,p.2.set j z)))]⟩ nk)
   |_,_=>Dc
  |_=>Dc
 |_=>Dc
theorem NU.set{α:Type}{c:Cd α}{l:List (Bool×List α)}{xs:List Ce}(h:NU c H l xs rs){d:List α}(hi:i<l.length)(m:A2 c H d ys):NU c H (l.set i (Br,d)) xs (rs.set i (Ac (d.length,ys))):=by
 refine⟨by simp[h.len],by simp[h.Pz],λj a f=>?_,λj a f=>?_⟩
 ·rcases Cl f with⟨rfl,e⟩|⟨g,b⟩;· cases e;exact⟨ys,by simp[h.Pz,hi],m⟩
  ·obtain⟨n,p,q⟩:=h.own j a b;grind
 ·rcases Cl f with⟨rfl,e⟩|⟨g,b⟩;· grind
  ·rw[Aem,if_neg (λe=>g e.symm)];exact h.not j a b
theorem o8(ho:o.op= .store t x y)(h:oH P C S Rr nk t x y k=Ac r):A1 P C S Rr nk o k r:=by
 have K:∀ {η:Nat->Ce} {H:Hp} {a:Act},(∀x∈o.op.operands,(Av S x).is C η H (a.eval x))->(Av S x).is C η H (a.eval x):=λs=>s x (by grind[Z8]);have L:∀ {η:Nat->Ce} {H:Hp} {a:Act},(∀x∈o.op.operands,(Av S x).is C η H (a.eval x))->(Av S y).is C η H (a.eval y):=λs=>s y (by simp_all[Z8]);unfold oH at h;split at h;case h_2=>cases h
 rename_i h0 b i j E M;split at h;case h_2=>cases h
 rename_i g e' te' h' l hb;split at h;case h_2=>cases h
 rename_i z Z hz;simp only[AS]at Z;obtain⟨⟨b1,b2⟩,b3⟩:=Z;have e0:=AI b1;subst e0;have n:=Adj b2;subst n;obtain⟨d,hd,ha,hag,m,bytes,zv,Q⟩:=LH b3;obtain⟨p,hp,h⟩:=Bj h;obtain⟨⟨hc,I⟩,h⟩:=AG h;refine .set h hb (Afv hb (by simp) λη H O a X q s hj hX _=>?_) λ_ _=>trivial;obtain⟨F,rs,rfl,D,hF⟩:=hX;obtain⟨U,u',u,n,e2,e3⟩:(SV.px [h0,b] (.fe i j E):SV N.T).is C η H (a.eval x):=by rw[<-M];exact K s
 have n:U=F.toArray:=by simp[D]at n;exact n.1.symm
 subst n;have B:l[i]?=Ac (Br,p.2):=by have:=(Dm hp).2;simp only[Acd]at this;rw[this,<-hc]
 have J:=(No.1 B).1;obtain⟨V,W,Y⟩:=hF.own i p.2 B;have hu:F[i]?=Ac u:=by simpa using e2
 obtain⟨k1,k2⟩:=CZ (DO hz (L s));have e:=Bh k1;rw[m]at e;have T:V.length=p.2.length:=by have:=Y.len;rw[Bp,m,Acz]at this;exact this
 have G:A2 (N.c E) H (p.2.set j z) (CF V (j*E.sz N) (a.eval y).cells.toList):=by have:=Y.set I k1;rw[Bp]at this;exact this
 refine⟨.Cr (η b) g l.length F e' (E.sz N) (rs.set i (Ac ((p.2.set j z).length,CF V (j*E.sz N) (a.eval y).cells.toList))),⟨F,_,by rw[show(l.set i (Br,p.2.set j z)).length=l.length from Abp],D,hF.set J G⟩,?_⟩;rw[ho];refine BP.sub (λ_ M=>M.flat hj) ?_ (Ahg (i:=O.length+i) (congrArg Ac e3) rfl rfl Q e (by omega) k2 (UC hu W) (by rw[m,Acz,T,e];omega));rintro v w H' O' ⟨rfl,rfl⟩ f;refine⟨_,⟨rfl,rfl,trivial⟩,?_⟩;have hq:=(No.1 hj).1;rw[Acx _ _ (by simp)]at f;simp only[Abp,Acr]at f;rw[Qg hu W]at f;rw[Abp];exact f.TU hq
theorem MK:∀ {Z:List (Nat×Aw)} {p:Nat×Aw},(keys Z).Nodup->p∈Z->Ax Z p.1=Ac p.2
 |(q,y)::Z,p,a,d=>by
  have a:=Aba.1 a;rcases Aao.1 d with rfl|d;· grind[CM]
  ·have c:p.1≠q:=λe=>a.1 (by grind);rw[A3 λe=>c e.symm];exact MK a.2 d
theorem Qh{a:Gn}{sz:Nat} :∀ {xs:List Ce} {rs:List (Option (Nat×List Ce))} {i m:Nat} {u:Ce} {ys:List Ce},i<xs.length->i<rs.length->FQ a sz (xs.set i u) (rs.set i (Ac (m,ys)))=(FQ a sz xs rs).set i (.row u a sz m ys)
 |_::_,Ac (_,_)::_,0,_,_,_,_,_=>rfl
 |_::_,Dc::_,0,_,_,_,_,_=>rfl
 |_::xs,Ac (_,_)::rs,i+1,_,_,_,h,k=>by simp only[Afs,FQ];rw[Qh (by grind) (by grind)]
 |_::xs,Dc::rs,i+1,_,_,_,h,k=>by simp only[Afs,FQ];rw[Qh (by grind) (by grind)]
 | [],_,_,_,_,_,h,_=>by rfl
 |_::_,[],_,_,_,_,_,k=>by grind
theorem Ajl{w:IK}{A:List Aw}{v u:Ce}{g b:Gn}{n m:Nat}{xs:List Ce}(hi:i<xs.length)(q:xs.length=rs.length)(h:SH w H (.row v g 1 n (xs.set i u):: .row u b sz m ys::A++FQ b sz xs rs)):
  SH w H (.Cr v g n (xs.set i u) b sz (rs.set i (Ac (m,ys)))::A):=by
 have d:SH w H ((Aw.emp::A).set 0 (.row v g 1 n (xs.set i u))++FQ b sz (xs.set i u) (rs.set i (Ac (m,ys)))):=by
  rw[Qh hi (by omega)];refine h.pick (λj=>if j=0 then 0 else if j=A.length+1+i then 1 else j+1) (λj r p=>?_) λj k _ _ e=>?_
  ·rcases Pb p with⟨c,d⟩|⟨a,c,d⟩;· cases j with
    |zero=>grind
    |succ j=>
     have c:j<A.length:=by grind
     grind
   ·have c:j=A.length+1+a:=by trivial
    rw[if_neg (by omega)];rcases Cl d with⟨l,f⟩|⟨l,f⟩;· rw[if_pos (by omega),f];rfl
    ·rw[if_neg (by omega),c];show(Aw.row v g 1 n (xs.set i u)::Aw.row u b sz m ys::(A++FQ b sz xs rs))[A.length+1+a+1]?=_;rw[show A.length+1+a+1=(A.length+a)+1+1 by omega,Acs,Acs,Aac (by omega),Acr];exact f
  grind
 have:=d.TU (by simp);grind
def sU(P:GO)(S:Nat->SV N.T)(Rr:Nat->Option (SR N.T))(nk:Nat)(t:Gn)(x y:Er)(k:Bt N.T->Nat->Option R):Option R:=match Av S x,Av S y with
 | .px [b] (.fo i), .AE j=>match Rr b,Rr j with
  |some (.Cr g e c h l),Ac (.row m a d)=>match(Hg e m&&Ps P t 1)&& !Nat.beq b j,Qr N.T (.sl a) (.sl c)with
   |true,Ac f=>Ah (i<l.length) (k ⟨.no,[],[(b, .Cr g e c nk (l.set i (Br,f d))),(j, .gone),(nk, .gone)]⟩ (nk+1))
   |_,_=>Dc
  |_,_=>Dc
 |_,_=>Dc
theorem pW(ho:o.op= .store t x y)(hf:∀j,nk<=j->Rr j=Dc)(h:sU P S Rr nk t x y k=Ac r):A1 P C S Rr nk o k r:=by
 have hox:∀ {η:Nat->Ce} {H:Hp} {a:Act},(∀x∈o.op.operands,(Av S x).is C η H (a.eval x))->(Av S x).is C η H (a.eval x):=λL=>L x (by grind[Z8]);have hoy:∀ {η:Nat->Ce} {H:Hp} {a:Act},(∀x∈o.op.operands,(Av S x).is C η H (a.eval x))->(Av S y).is C η H (a.eval y):=λL=>L y (by grind[Z8]);unfold sU at h;split at h;case h_2=>grind
 rename_i b i j hsx hsy;split at h;case h_2=>cases h
 rename_i g e te hh l e2 s d hb hj;split at h;case h_2=>cases h
 rename_i f hB hfe;simp only[AS,Adz]at hB;obtain⟨⟨b1,b2⟩,b3⟩:=hB;have e0:=AI b1;subst e0;have hbj:=Abe b3;obtain⟨bytes,zv,hti⟩:=Dt b2;obtain⟨hE,rfl⟩:=BB hfe;have e1:=Adj hE;injection e1 with e1;subst e1;obtain⟨hc,h⟩:=AG h;have hnb:Rr nk=Dc:=hf nk (Aaf _);have nb:nk≠b:=λq=>by subst q;rw[hnb]at hb;cases hb
 refine⟨_,nk+1,h,?_,Agu _,λq m I=>?_,λτ _=>trivial⟩;case refine_2=>
  simp[keys]at m;rcases m with rfl|rfl|rfl;· rw[hb]at I;cases I
  ·rw[hj]at I;cases I
  ·omega
 intro η H Of a w Y I hs hi L hr hfr K Q hK;rcases hr b (.inr (by simp[keys])) _ hb with q|⟨X,x1,A,O,x2,x3,D⟩;· cases q
 subst x2;rcases hr j (.inr (by simp[keys])) _ hj with q|⟨X,y1,G,y2,y3⟩;· cases q
 subst y2;obtain⟨ad,n,c,p1,p2,p3⟩:(SV.px [b] (.fo i):SV N.T).is C η H (a.eval x):=by rw[<-hsx];exact hox L
 have p1:η b= .slice (Ac ad) n c:=by simpa using p1
 obtain⟨u1,u2⟩:(SV.AE j:SV N.T).is C η H (a.eval y):=by rw[<-hsy];exact hoy L
 let Z:=FF (FF Y b) j;have E:(keys Z).Nodup:=Ia (Ia I);have nin:∀ {Y:List (Nat×Aw)} {k:Nat},k∉keys (FF Y k):=λ{Y k} B=>by obtain⟨q,m,e⟩:=By.1 B;have:=(Aax.1 m).2;rw[e]at this;simp at this
 have F:b∉keys Z:=λB=>nin (CO B);have W:j∉keys Z:=nin;have hs2:SH w H (((b,Aw.Cr (η b) g l.length A e (s.sz N) O)::(j,Aw.row (η j) e (s.sz N) d.length G)::Z).map (·.2)++Of):=by
  refine Go.GV.SH.Rg hs (Aba.2 ⟨?_,Aba.2 ⟨W,E⟩⟩) λp J=>?_
  ·intro B;rcases Aao.1 B with q|q;· exact hbj q
   ·exact F q
  ·rcases Aao.1 J with rfl|J;· exact x1
   ·rcases Aao.1 J with rfl|J;· exact y1
    ·have B:p.1∈keys Z:=By.2 ⟨p,J,rfl⟩;have l1:Ax Z p.1=Ac p.2:=MK E J;rw[DJ (λq=>W (by rw[<-q];exact B)),DJ (λq=>F (by rw[<-q];exact B))]at l1;exact l1
 have hs3:=hs2.flat (i:=0) rfl;have V:i<A.length:=by rw[D.len];exact hc
 have hs4:SH w H (.row (η b) g 1 l.length A:: .row (η j) e (s.sz N) d.length G::(Z.map (·.2)++Of)++FQ e (s.sz N) A O):=hs3;have hone:(a.eval y).cells.toList=[a.eval y]:=A' u2;have op:BP P o.op o.type (EV a) H (.row (η b) g 1 l.length A:: .row (η j) e (s.sz N) d.length G::(Z.map (·.2)++Of)++FQ e (s.sz N) A O) (λ_ H' O'=>H'=H/\O'= .row (η b) g 1 l.length (A.set i (η j)):: .row (η j) e (s.sz N) d.length G::(Z.map (·.2)++Of)++FQ e (s.sz N) A O):=by rw[ho];refine(Ahg (i:=0) (v:=η b) (k:=i) (congrArg Ac (by rw[p3,p1])) rfl hone hti rfl (by omega) (λz hz=>by simp at hz;subst hz;exact u2) rfl (by simp;omega)).mono ?_;rintro v H' O' ⟨rfl,rfl⟩;refine⟨rfl,?_⟩;rw[u1,GK.fy V];rfl
 refine op a w o K Q rfl rfl (λx u e=>by simpa using e) hs4 λv w' H' O' hle ⟨q1,q2⟩ hw'=>?_;subst q1;subst q2;have U:=Ajl V (D.len.trans D.Pz.symm) hw';refine hK v w' H' (Ez η nk (.tuple (A.set i (η j)).toArray)) ((b,Aw.Cr (η b) g l.length (A.set i (η j)) e (s.sz N) (O.set i (Ac (d.length,G))))::Z) (Hp.le.refl _) (λq m=>EH λz=>by subst z;exact m hnb (by simp[keys])) (λq m=>?_) (λq sr m=>?_) (Aba.2 ⟨F,E⟩) (λq m=>?_) U trivial;· simp[keys]at m;rw[A3 (λz=>m.1 z.symm),DJ m.2.1,DJ m.1]
 ·simp only[Ax]at m;split at m
  ·rename_i hbq;have:=AI hbq;subst this;cases m;refine .inr ⟨_,CM _ _ _,A.set i (η j),O.set i (Ac (d.length,G)),?_,AD _ _ _,?_⟩;· rw[EH (λz=>nb z.symm),Abp]
   ·refine⟨by simp[D.len],by simp[D.Pz],λq d' m=>?_,λq d' m=>?_⟩
    ·rcases Cl m with⟨rfl,z⟩|⟨z1,z2⟩;· cases z;exact⟨G,by simp[D.Pz,hc,Td],y3⟩
     ·obtain⟨ys',k1,k2⟩:=D.own q d' z2;exact⟨ys',by rw[Aem,if_neg (λe=>z1 e.symm)];exact k1,k2⟩
    ·rcases Cl m with⟨rfl,z⟩|⟨z1,z2⟩;· cases z
     ·rw[Aem,if_neg (λe=>z1 e.symm)];exact D.not q d' z2
  ·split at m;· cases m;exact .inl rfl
   ·split at m;· cases m;exact .inl rfl
    ·cases m
 ·rcases Aao.1 m with z|z;· exact .inr (by simp[keys];exact .inl z)
  ·exact .inl (CO (CO z))
end
end
section
variable {N : Df} {R : Type} {P : GO} {C : List (SV N.T)} {S : Nat -> SV N.T} {Rr : Nat -> Option (SR N.T)} {nk : Nat} {o : K5} {k : Bt N.T -> Nat -> Option R} {r : R}
section
variable{η:Nat->Ce}{H:Hp}{b n:Nat}{g t:Gn}{x:Er}
def nP:Option (SR N.T)->Bool
 |some (.Af _ (.lf _ (.d (.ar _ _) _) .nl))=>Br
 |_=>Ak
theorem dh{s:Nat}{j:Ty}{l:List (j.den N.T)}{X:Aw}(h:(SR.Af g (.lf s (.d (.ar n j) l) .nl):SR N.T).is C η H b X):
  ∃B cs,η b=ptr B 0/\X= .Af B (.cells cs.toArray g (0,0))/\cs.length=s/\l.length=n/\A2 (N.c j) H l cs/\∀x∈cs,x.oneCell'=Br:=by
 obtain⟨B,cs,q,t,p,m,u,e,v,⟨a,⟨y,z⟩,i⟩,f,w,c⟩:=h;subst i;have f:a=p:=by trivial
 subst f;have c:Ce.agg m.toArray= .agg #[]:=c;grind
theorem sF{a:Ty}{l:List (a.den N.T)}{B:Nat}{cs:List Ce}(h1:η b=ptr B 0)(h2:l.length=n)(h3:A2 (N.c a) H l cs)(c:∀x∈cs,x.oneCell'=Br):
  (SR.Af g (.lf cs.length (.d (.ar n a) l) .nl):SR N.T).is C η H b (.Af B (.cells cs.toArray g (0,0))):=
 ⟨B,_,h1,rfl,cs,[], .agg cs.toArray,by simp,rfl,⟨cs,⟨h2,h3⟩,rfl⟩,by rfl,c,rfl⟩
def qB(P:GO)(S:Nat->SV N.T)(Rr:Nat->Option (SR N.T))(nk:Nat)(t:Gn)(x:Er)(k:Bt N.T->Nat->Option R):Option R:=match Av S x with
 | .loc b off=>match Rr b with
  |some (.Af _ (.lf _ (.d (.ar _ a) l) .nl))=>match Xx (N:=N) P t a with
   |true=>Ab (idx l (off:Int)) λz=>k ⟨.d a z,[b],[]⟩ nk
   |false=>Dc
  |_=>Dc
 |_=>Dc
theorem pC(u:o.op= .load t x)(h:qB P S Rr nk t x k=Ac r):A1 P C S Rr nk o k r:=by
 have m:∀ {η:Nat->Ce} {H:Hp} {a:Act},(∀x∈o.op.operands,(Av S x).is C η H (a.eval x))->(Av S x).is C η H (a.eval x):=λq=>q x (by grind[Z8]);unfold qB at h;split at h;case h_2=>cases h
 rename_i b off T;split at h;case h_2=>cases h
 rename_i g s n Z l L;split at h;case h_2=>cases h
 rename_i G;obtain⟨d,M,K,i,p,_⟩:=LH G;obtain⟨z,V,h⟩:=Bj h;refine .y h (Agq L (by simp) λη H O a w X j q U Q J=>?_) λ_ _=>trivial;obtain⟨B,cs,F,rfl,e3,e4,I,_⟩:=dh J;obtain⟨A,v,Y⟩:(SV.loc b off:SV N.T).is C η H (a.eval x):=by rw[<-T];exact m q
 have:A=B:=by rw[F]at v;simpa [ptr]using v.symm
 subst this;have f:=(Dm V).2;obtain⟨c,D,E⟩:=Sb p I f;refine⟨c,?_,[c],E,by unfold CU;rw[i]⟩;rw[u];exact Agg M K (congrArg Ac Y) Q (by simpa using D)
def oI(P:GO)(C:List (SV N.T))(S:Nat->SV N.T)(Rr:Nat->Option (SR N.T))(nk:Nat)(t:Gn)(x y:Er)(k:Bt N.T->Nat->Option R):Option R:=match Av S x with
 | .loc b off=>match Rr b with
  |some (.Af g (.lf s (.d (.ar n a) l) .nl))=>match Xx (N:=N) P t a,TM C a (Av S y)with
   |true,Ac z=>Ah (off<n) (k ⟨.no,[],[(b, .Af g (.lf s (.d (.ar n a) (l.set off z)) .nl))]⟩ nk)
   |_,_=>Dc
  |_=>Dc
 |_=>Dc
theorem o9{y:Er}(E:o.op= .store t x y)(h:oI P C S Rr nk t x y k=Ac r):A1 P C S Rr nk o k r:=by
 have F:∀ {η:Nat->Ce} {H:Hp} {a:Act},(∀x∈o.op.operands,(Av S x).is C η H (a.eval x))->(Av S x).is C η H (a.eval x):=λj=>j x (by grind[Z8]);have G:∀ {η:Nat->Ce} {H:Hp} {a:Act},(∀x∈o.op.operands,(Av S x).is C η H (a.eval x))->(Av S y).is C η H (a.eval y):=λj=>j y (by rw[E];simp[Z8]);unfold oI at h;split at h;case h_2=>cases h
 rename_i b off hs;split at h;case h_2=>cases h
 rename_i g s n W l Q;split at h;case h_2=>cases h
 rename_i z hB hz;obtain⟨d,hd,ha,hag,f,bytes,zv,J⟩:=LH hB;obtain⟨hc,h⟩:=AG h;refine .set h Q (Afv Q (by simp) λη H O a X q j hj hX _=>?_) λ_ _=>trivial;obtain⟨B,w,K,rfl,e3,Z,M,L⟩:=dh hX;obtain⟨Y,V,q2⟩:(SV.loc b off:SV N.T).is C η H (a.eval x):=by rw[<-hs];exact F j
 have:Y=B:=by rw[K]at V;simpa [ptr]using V.symm
 subst this;obtain⟨T,U⟩:=CZ (DO hz (G j));have c:=Bh T;rw[f]at c;have hcl:w.length=l.length:=by have:=M.len;rw[Bp,f,Acz]at this;exact this
 have D:A2 (N.c W) H (l.set off z) (CF w off (a.eval y).cells.toList):=by have:=M.set (i:=off) (by omega) T;rw[Bp,f,Acz]at this;exact this
 have I:(CF w off (a.eval y).cells.toList).length=s:=by unfold CF;simp only[Aab,Abh,Ajj,c];omega
 have u:∀v∈CF w off (a.eval y).cells.toList,v.oneCell'=Br:=by
  intro v e;rcases AT.1 e with e|e
  ·rcases AT.1 e with e|e;· exact L v (Ack e)
   ·exact U v e
  ·exact L v (List.mem_of_mem_drop e)
 rw[E];have p:=sF (C:=C) (b:=b) (g:=g) (n:=n) (l:=l.set off z) K ((Abp ..).trans Z) D u;rw[I]at p;refine⟨_,p,(BP.Ro (congrArg Ac q2) rfl rfl J c U hj (by rw[List.size_toArray];omega)).mono ?_⟩;rintro v H' O' ⟨rfl,rfl⟩;trivial
end
end
section
variable {N : Df} {R : Type} {P : GO} [C9 N P] {C : List (SV N.T)} {S : Nat -> SV N.T} {Rr : Nat -> Option (SR N.T)} {nk : Nat} {o : K5} {k : Bt N.T -> Nat -> Option R} {r : R}
section
variable{x:Er}
def qb(S:Nat->SV N.T)(nk:Nat)(x:Er)(k:Bt N.T->Nat->Option R):Option R:=match Av S x with
 | .loc b off=>k ⟨.loc b off,[],[]⟩ nk
 | .pd t y off=>k ⟨.pd t y off,[],[]⟩ nk
 |_=>Dc
theorem PS{T:Gn}{E:Er->Option Ce}{H:Hp}{O:List GK.Aw}{b:Addr}(f:E x=Ac (.pointer (Ac b))):Aq P (.nilCheck x) T E H O (.pointer (Ac b)):= .Ap λa w o e _ d _=>by simp_all[Kr]
theorem pc(c:o.op= .nilCheck x)(h:qb S nk x k=Ac r):A1 P C S Rr nk o k r:=by
 unfold qb at h;split at h
 ·rename_i b off f;refine .y h (Abu λη H O a g _=>?_) λ_ _=>trivial;obtain⟨B,d,e⟩:(SV.loc b off:SV N.T).is C η H (a.eval x):=by grind[Z8]
  exact⟨ptr B off,by rw[c];exact Aq.nilCheck (congrArg Ac e),B,d,rf⟩
 ·rename_i t y off f;refine .y h (Abu λη H O a g _=>?_) λ_ _=>trivial;obtain⟨B,q,i,d,e,j⟩:(SV.pd t y off:SV N.T).is C η H (a.eval x):=by grind[Z8]
  exact⟨_,by rw[c];exact PS (congrArg Ac d),B,q,i,rf,e,j⟩
 grind
def wq(P:GO)(Φ:Nat->Option (CQ N))(C:List (SV N.T))(S:Nat->SV N.T)(Rr:Nat->Option (SR N.T))(nk:Nat)(op:Op)(ty:Gn)(k:Bt N.T->Nat->Option R):Option R:=match op with
 | .move x=>k ⟨Av S x,[],[]⟩ nk
 | .assign x=>k ⟨Av S x,[],[]⟩ nk
 | .pick c x y=>match Av S c with
  | .lb Br=>k ⟨Av S x,[],[]⟩ nk
  | .lb Ak=>k ⟨Av S y,[],[]⟩ nk
  |_=>Dc
 | .alloc t=>UT P nk t k
 | .box t x=>sj P S nk t x k
 | .load t x=>match Av S x with
  | .px _ (.fo _)=>qz P S Rr nk t x k
  | .px _ (.fe _ _ _)=>qA P S Rr nk t x k
  | .loc b _=>(match nP (Rr b)&&Ps P t 1 with
   |true=>qB P S Rr nk t x k
   |false=>gH P C S Rr nk t x k)
  |_=>gH P C S Rr nk t x k
 | .store t x y=>match Av S x with
  | .px _ (.fo _)=>sU P S Rr nk t x y k
  | .px _ (.fe _ _ _)=>oH P C S Rr nk t x y k
  | .loc b _=>(match nP (Rr b)&&Ps P t 1 with
   |true=>oI P C S Rr nk t x y k
   |false=>stK P C S Rr nk t x y k)
  |_=>stK P C S Rr nk t x y k
 | .fieldAddr t x i=>q_ P C S nk t x i k
 | .field t x i=>fdK P S nk t x i k
 | .indexAddr t x y=>match Av S x with
  | .px _ (.hc _)=>qT P S nk t x y k
  | .px _ (.fi _)=>qR P S Rr nk t x y k
  | .AE b=>(match Rr b with
   |some (.Cr _ _ _ _ _)=>qS P S Rr nk t x y k
   |_=>ixK P S Rr nk t x y k)
  | .px _ _=>qP P S Rr nk t x y k
  |_=>ixK P S Rr nk t x y k
 | .index t x y=>match P.underlying t with
  |some (.array _ _)=>sE P S nk t x y k
  |_=>rX P S nk t x y k
 | .binOp .eql t x (.const (.slice Dc 0 0)) _=>qa P S nk t x k
 | .binOp b t x y _=>match jc P t with
  |true=>(match b with
   | .eql=>ir P C S nk Ak t x y k
   | .neq=>ir P C S nk Br t x y k
   |_=>Dc)
  |false=>c8 P C S nk b t x y k
 | .unOp .not _ x=>pY S nk x k
 | .unOp .neg _ x=>qc S nk x k
 | .nilCheck x=>qb S nk x k
 | .convert s d x=>match P.underlying d with
  |some .string=>sg P S nk s d x k
  |some (.int .u64)=>(match P.underlying s with
   |some (.int .i64)=>cwK P S nk s d x k
   |_=>cvK P S nk s d x k)
  |_=>cvK P S nk s d x k
 | .extract x i=>rl S nk x i λs n=>match EY s.sv with
  |true=>k s n
  |false=>Dc
 | .build t ⟨e⟩=>sw P C S nk t e k
 | .buildSlice t len ⟨e⟩=>match len,e with
  |0,[]=>si P nk t k
  |len,e=>match cO S 0 e with
   |some _=>bcK P S nk t len e k
   |none=>bsK P C S nk t len e k
 | .makeSlice t p q=>mkK P S nk t p q k
 | .slice t x Dc (Ac y) Dc=>match Av S x with
  | .raw _=>rJ P S nk t x y k
  |_=>rK P S Rr nk t x y k
 | .slice t x (Ac y) (Ac z) Dc=>oW P S nk t x y z k
 | .slice t x j (Ac y) (Ac z)=>ca P S Rr nk t x j y z k
 | .call {callee:= .builtin .append,args:=⟨[s,x]⟩,argTypes:=⟨[t,u]⟩} =>match Hg u t with
  |true=>match Av S s with
   | .px _ _=>sK P S Rr nk s x t k
   |_=>sM P S Rr nk s x t k
  |false=>match P.underlying u with
   |some .string=>sL P S Rr nk s x t u k
   |_=>sH P S nk s x t u k
 | .call {callee:= .builtin .cap,args:=⟨[x]⟩,argTypes:=⟨[t]⟩} =>rL P S nk x t k
 | .call {callee:= .builtin .len,args:=⟨[x]⟩,argTypes:=⟨[t]⟩} =>match Av S x with
  | .mp _=>qp P S Rr nk x t k
  | .px _ _=>qt P S nk x t k
  |_=>qx P S Rr nk x t k
 | .call {callee:= .builtin .unsafeSliceData,args:=⟨[x]⟩,argTypes:=⟨[_]⟩} =>ov P S Rr nk x ty k
 | .call {callee:= .builtin .unsafeString,args:=⟨[x,y]⟩,argTypes:=⟨[l,_]⟩} =>ou P S Rr nk x y l k
 | .call {callee:= .builtin .max,args:=⟨[x,y]⟩,argTypes:=_} =>qn S nk x y k
 | .call {callee:= .builtin .min,args:=⟨[x,y]⟩,argTypes:=_} =>ql S nk x y k
 | .call {callee:= .builtin .copy,args:=⟨[x,y]⟩,argTypes:=⟨[t,_]⟩} =>cp P S Rr nk x y t k
 | .call {callee:= .value x,args:=⟨m⟩,argTypes:=_} =>cT C Φ S Rr nk x m k
 | .makeFunc (.func f) ⟨h⟩ ⟨g⟩=>qj S nk f h g k
 | .makeMap t Dc=>qi P nk t k
 | .lookup t x y ok=>qu P C S Rr nk t x y ok k
 | .mapUpdate t x y u=>fT P C S Rr nk t x y u k
 | .insert t x y u=>fT P C S Rr nk t x y u k
 |_=>Dc
theorem Ud{Φ:Nat->Option (CQ N)}(d:∀f q,Φ f=Ac q->Bw P f q)(g:∀k∈C3 C,k<nk)(b:∀j,nk<=j->Rr j=Dc)(c:∃τ,Nr Rr S τ)(h:wq P Φ C S Rr nk o.op o.type k=Ac r):A1 P C S Rr nk o k r:=by
 unfold wq at h;split at h;· grind[VL]
 ·simp_all[VL]
 ·grind[Z0,Z1]
 ·simp_all[Z5]
 ·rename_i a;exact pO a g b h
 ·rename_i a;split at h;· exact pA a h
  ·exact pB a h
  ·split at h;· exact pC a h
   ·exact Z2 a c h
  ·exact Z2 a c h
 ·rename_i a;split at h;· exact pW a b h
  ·exact o8 a h
  ·split at h;· exact o9 a h
   ·exact ng a c h
  ·exact ng a c h
 ·rename_i a;exact pH a h
 ·rename_i a;exact wv a h
 ·rename_i a;split at h;· exact pG a h
  ·exact pE a h
  ·split at h;· exact pF a h
   ·exact ni a h
  ·exact pD a h
  ·exact ni a h
 ·rename_i a;split at h;· exact pR a h
  ·exact pL a h
 ·rename_i a;exact pb a h
 ·rename_i a;split at h
  ·split at h;· exact Z3 (ne:=Ak) a h
   ·exact Z3 (ne:=Br) a h
   ·cases h
  ·exact gh a h
 ·rename_i a;exact pa a h
 ·rename_i a;exact pe a h
 ·rename_i a;exact pc a h
 ·rename_i a;split at h;· exact pM a h
  ·split at h;· exact wx a h
   ·exact nn a h
  ·exact nn a h
 ·rename_i a;exact pI a h
 ·rename_i a;exact pP a h
 ·rename_i a;split at h;· exact pN a b h
  ·split at h;· exact wz a g b h
   ·exact wy a b h
 ·rename_i a;exact wu a b h
 ·rename_i a;split at h;· exact ga a h
  ·exact pJ a b h
 ·rename_i a;exact o_ a h
 ·rename_i a;exact gf a h
 ·rename_i a;split at h
  ·rename_i i;have e:=AI i;subst e;split at h;· exact pT a b h
   ·exact pV a b h
  ·split at h;· exact pU a b h
   ·exact pS a b h
 ·rename_i a;exact pK a h
 ·rename_i a;split at h;· exact pq a h
  ·exact pv a h
  ·exact pz a h
 ·rename_i a;exact o7 a h
 ·rename_i a;exact o6 a h
 ·rename_i a;exact pn a h
 ·rename_i a;exact pk a h
 ·rename_i a;exact gg a h
 ·rename_i a;exact Z4 d b a h
 ·rename_i a;exact pj a h
 ·rename_i a;exact ph a b h
 ·rename_i a;exact py a h
 ·rename_i a;exact ZZ (.inl a) h
 ·rename_i a;exact ZZ (.inr a) h
 grind
theorem Ao.fz{f:Nat}{g:Gn}{u:Ty}{l:List (u.den N.T)}{s:Bt N.T}(hk:Rr f=Ac (.row g u l))(h:Ao P C (λt=>GR f u l (S t)) (CH Rr f) o s)(hw:f∉keys s.wr):Ao P C S Rr o ⟨s.sv,f::s.rd,(f, .gone)::s.wr⟩:=by
 intro η H T a w Y W Z hi hx X m K Q hK;have d:∀j,j∈keys ((f,SR.gone)::s.wr)↔j=f\/j∈keys s.wr:=λj=>by simp[keys]
 rcases X f (.inl (by simp)) _ hk with e|⟨x,h1,xs,rfl,hL⟩;· grind
 obtain⟨i,V,h3⟩:=bS T W h1;obtain⟨O,p,U,g3⟩:=Z.freeze V;rw[h3]at U;have E:G5 (N.c u) O l (η f):=G5.of (by grind[Bp]) rfl (hL.mono p) (Z.Og V);refine h η O T a w (FF Y f) (Ia W) U (N.C5 p hi) (λx I=>nE E ((hx x I).mono p)) (λj c L n=>?_) (λj c b B=>?_) K Q λv w' H2 M Y' A J hY G D y q F=>?_
 ·unfold CH at n;split at n;· cases n;exact .inl rfl
  ·rename_i hb;have ne:=Abe hb;refine(X j (c.imp (Aag _) λc=>(d j).2 (.inr c)) L n).imp id λ⟨z,e1,e2⟩=>⟨z,by grind[ne,DJ],e2.mono p⟩
 ·unfold CH at b;split at b;· cases b
  ·exact m j ((d j).2 (.inr c)) b (CO B)
 ·refine hK v w' H2 M Y' (p.trans A) (λj c=>J j λb B=>?_) (λj c=>?_) (λj L c=>?_) D (λj c=>?_) q F
  ·unfold CH at b;split at b;· cases b
   ·exact c b ((d j).2 (.inr B))
  ·rw[d,not_or]at c;rw[hY j c.2,DJ c.1]
  ·simp only[Ax]at c;split at c;· cases c;exact .inl rfl
   ·exact G j L c
  ·rcases y j c with e|e;· exact .inl (CO e)
   ·exact .inr ((d j).2 (.inr e))
def Wb(S:Nat->SV N.T):List Er->Option Nat
 | []=>Dc
 |x::a=>match XT (Av S x)with
  |some k=>Ac k
  |none=>Wb S a
def xf(Φ:Nat->Option (CQ N))(S:Nat->SV N.T):Op->Option Nat
 | .buildSlice _ _ ⟨b⟩=>Wb S (b.map (·.2))
 | .convert _ _ x=>Wb S [x]
 | .store _ x y=>match Av S x with
  | .Ee _ _ _ _ _=>XT (Av S y)
  |_=>Dc
 | .call {callee:= .value (.func f),args:=⟨c⟩,argTypes:=_} =>match Φ f with
  |some (.PI [q])=>match q.pi.ro,(q.po.hs.all λ| .Ae t=>Hz t|_=>Br),(q.pi.sl.all λp=>match p.2 with| .v _ _=>Br|_=>Ak)with
   | [],Ak,Br=>Wb S c
   |_,_,_=>Dc
  |_=>Dc
 |_=>Dc
def fZ(P:GO)(Φ:Nat->Option (CQ N))(C:List (SV N.T)):Nat->(Nat->SV N.T)->(Nat->Option (SR N.T))->Nat->Op->Gn->(Bt N.T->Nat->Option R)->Option R
 |0,S,Rr,nk,op,b,k=>wq P Φ C S Rr nk op b k
 |n+1,S,Rr,nk,op,b,k=>match xf Φ S op with
  |some a=>match Rr a with
   |some (.row _ c l)=>fZ P Φ C n (λt=>GR a c l (S t)) (CH Rr a) nk op b λs nk=>match Cf (keys s.wr) a with
    |false=>k ⟨s.sv,a::s.rd,(a, .gone)::s.wr⟩ nk
    |true=>Dc
   |_=>wq P Φ C S Rr nk op b k
  |none=>wq P Φ C S Rr nk op b k
theorem Ue{Φ:Nat->Option (CQ N)}(m:∀f q,Φ f=Ac q->Bw P f q)(B:∀k∈C3 C,k<nk):∀(n:Nat) {S:Nat->SV N.T} {Rr:Nat->Option (SR N.T)} {k:Bt N.T->Nat->Option R},(∀j,nk<=j->Rr j=Dc)->(∃τ,Nr Rr S τ)->fZ P Φ C n S Rr nk o.op o.type k=Ac r->A1 P C S Rr nk o k r
 |0,S,Rr,k,v,y,h=>Ud m B v y h
 |n+1,S,Rr,k,v,y,h=>by
  unfold fZ at h;split at h
  ·rename_i a Y;split at h
   ·rename_i g J l D;have A:∀τ,Nr Rr S τ->Nr (CH Rr a) (λt=>GR a J l (S t)) τ:=λτ d t=>by
     have p:=d t;generalize G:S t=sv at p⊢;show D' τ (CH Rr a) (GR a J l (S t));rw[G];cases sv with
     |AE j=>unfold GR;split<;>trivial
     |Ee j i off X x=>
      unfold GR;split;· trivial
      ·rename_i b;intro L W V u;unfold CH at u;rw[b]at u;exact p L W V u
     |_=>exact p
    obtain⟨s,I,p,M,O,Q,T⟩:=Ue m B n (S:=λt=>GR a J l (S t)) (Rr:=CH Rr a) (λj w=>by grind[CH,Hg,aP]) (by obtain⟨τ,d⟩:=y;exact⟨τ,A τ d⟩) h;split at p
    ·rename_i K;have H:a∉keys s.wr:=λe=>by rw[AR.2 e]at K;cases K
     refine⟨_,I,p,M.fz D H,O,λj w c=>?_,λτ d=>?_⟩
     ·simp only[keys,Aat,Aao]at w;rcases w with e|z;· subst e;rw[D]at c;cases c
      ·refine Q j z ?_;unfold CH;cases b:Hg j a with
       |true=>have:=AI b;subst this;exact absurd z H
       |false=>exact c
     ·have e:PL ((a,SR.gone)::s.wr) Rr=PL s.wr (CH Rr a):=funext λj=>by
       unfold PL CH;simp only[Ax];cases b:Hg a j with
       |true=>
        have:=AI b;subst this;rw[CG H];simp
       |false=>
        have ne:=Abe b;have:Hg j a=Ak:=by
         cases E:Hg j a with
         |true=>exact absurd (AI E).symm ne
         |false=>rfl
        rw[this]
      show D' τ (PL ((a,SR.gone)::s.wr) Rr) s.sv;rw[e];exact T τ (A τ d)
    grind
   grind[Ud]
  grind[Ud]
end
end
end Go.GV
