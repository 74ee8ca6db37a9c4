/- Part 2 of the texts of this claim: what its theorem leans on. -/
import Derived.Test.YtimbbibpghnipaaGreatDoorZLookupPaths1
import Derived.Lib.AppendZerosOnto
import Derived.Laws.Runes
import Derived.ArgAppend
import Derived.Laws.IdiomStrings
import Derived.Laws.CopyRow
import Derived.RangeFuncRecord
import Derived.Laws.Strings2
set_option linter.all false
open Option renaming some→Ac,none→C7
open Bool renaming false→Aj,true→Bp
open Go renaming Value→BZ,Operand→Dn,TypeId→Gs,Program→GQ,World→IW,execOp→Kt,Oper→K_,IntKind→Lr
open Decidable renaming decide→Di
open List renaming length→EW,replicate→Uh,take_of_length_le→ru,drop_drop→xr
open Nat renaming beq→Hj,eq_of_beq_eq_true→ba,blt→bg,ble→iT
open Go.Op renaming operands→ax,equalIn→lE,equal→rS,maxDepth→Alr
open Go.Call renaming operands→gB
open Go.Result renaming andThen→iX,andThen_ok→nw
open Go.Instr renaming fill→nF,sliceAt→sL
open Go.Builtin renaming zeroCells→nJ,copy_→wH,firstCells→wU
open Go.Sem renaming run_bind→oJ
open Go.Addr renaming add_lit→rv,add→xz
open Go renaming sizeOf→rU
namespace Go.GV
open Go Go.GK
section
variable{off:Nat}
theorem Xf(off:Nat)(l:List BZ):∀(k:Nat) (acc:Array BZ),(l.zipIdx k).foldl (λcs (p:BZ×Nat)=>cs.setIfInBounds (off+p.2) p.1) acc=(l.zipIdx (off+k)).foldl (λcs (p:BZ×Nat)=>cs.setIfInBounds p.2 p.1) acc:=by
 induction l with
 |nil=>simp
 |cons v l b=>
  grind[List.zipIdx_cons,Nat.add_assoc]
theorem fP{cs:Array BZ}{v:Array BZ}(h:off+v.size<=cs.size):(v.zipIdx.foldl (λcs (x:BZ×Nat)=>match x with|(c,j)=>cs.setIfInBounds (off+j) c) cs)=(Cy cs.toList off v.toList).toArray:=by
 have g:(v.zipIdx.foldl (λcs (x:BZ×Nat)=>match x with|(c,j)=>cs.setIfInBounds (off+j) c) cs)=((v.toList.zipIdx 0).foldl (λcs (p:BZ×Nat)=>cs.setIfInBounds (off+p.2) p.1) cs):=by grind[Array.toList_zipIdx]
 rw[g,Xf];apply Array.ext_getElem?;intro i;rw[X_];simp only[Nat.add_zero,Ahc,List.getElem?_toArray];unfold Cy;have k:(cs.toList.take off).length=off:=by grind
 by_cases e:i<off;· grind
 ·by_cases f:i<off+v.size;· rw[if_pos ⟨by omega,f,by omega⟩,Aal,Aab (by omega),k,Pe (by simp;omega)]
  ·rw[if_neg (by omega),Aab (by simp;omega),Aft];have:off+v.toList.length+(i-(cs.toList.take off++v.toList).length)=i:=by simp;omega
   rw[this];simp
theorem KD{place:Nat->Option (Nat×Nat)}{cells:Array BZ}{i size:Nat}{v:BZ}{a:List (Nat×BZ)}(d:place i=Ac (off,size))(e:v.cells.size=size)(c:off+v.cells.size<=cells.size):nF place cells ((i,v)::a)=nF place (Cy cells.toList off v.cells.toList).toArray a:=by
 have:(v.cells.size≠size||decide (off+v.cells.size>cells.size))=Aj:=by grind
 simp only[nF,d];rw[this];simp only[Aeh,if_false];rw[fP c]
theorem JP{a:Act} :∀ps:List (Nat×Dn),Zg (EV a) ps=Ac (ps.map λp=>(p.1,a.eval p.2))
 | []=>rfl
 |(i,x)::r=>by simp only[Zg,EV,JP r,Aas]
end
section
variable {N : C9} {R : Type} {P : GQ} {C : List (SV N.T)} {S : Nat -> SV N.T} {Rr : Nat -> Option (SR N.T)} {nk : Nat} {o : K_} {k : Bx N.T -> Nat -> Option R} {r : R}
section
variable{η:Nat->BZ}{H:Hp}{t:Gs}
def SM(P:GQ)(C:List (SV N.T))(S:Nat->SV N.T)(place:Nat->Option (Nat×Nat×Gs)):List (Nat×Dn)->SV N.T->Option (SV N.T)
 | [],l=>Ac l
 |(i,x)::b,l=>match place i with
  |some (off,size,t)=>match iT off (Se l),gf C l off (wC P t (Aw S x))with
   |true,Ac (a,n)=>match Hj n size with
    |true=>SM P C S place b a
    |false=>C7
   |_,_=>C7
  |none=>C7
theorem M7{place:Nat->Option (Nat×Nat×Gs)}{η:Nat->BZ}{H:Hp}{a:Act} :∀ {ps:List (Nat×Dn)} {l d:SV N.T} {cs:List BZ},SM P C S place ps l=Ac d->l.is C η H (.agg cs.toArray)->(∀p∈ps,(Aw S p.2).is C η H (a.eval p.2))->
  ∃cs':List BZ,nF (λi=>(place i).map λq=>(q.1,q.2.1)) cs.toArray (ps.map λp=>(p.1,a.eval p.2))=Ac cs'.toArray/\d.is C η H (.agg cs'.toArray)
 | [],l,d,cs,h,c,_=>by cases h;exact⟨cs,rfl,c⟩
 |(i,x)::ps,l,d,cs,h,c,m=>by
  unfold SM at h;split at h
  ·rename_i off size t j;split at h
   ·rename_i A n f b;split at h;· rename_i v;have e:=AI v;subst e;obtain⟨w,y,z,B⟩:=VR b (Aan (Abc f) (Sb c)) (Us (m (i,x) (by simp))) c;subst z;obtain⟨cs',s,u⟩:=M7 h w λp g=>m p (by simp[g]);refine⟨cs',?_,u⟩;rw[Aas,KD (off:=off) (size:=(a.eval x).cells.toList.length) (by simp[j]) (by simp) (by simpa using y)];omega
    grind
   grind
  grind
def wE:SV N.T->Bool
 | .lf _ a l=>match a with
  | .raw (.slice C7 0 0)=>Bp
  | .AH _=>Bp
  |_=>wE l
 |_=>Aj
def vy(P:GQ)(C:List (SV N.T))(t:Gs)(l:SV N.T):SV N.T:=match Mb N P t with
 |some a=>match a.agg with
  |true=>match wE l,KR N C 64 a l with
   |false,Ac (x, .nl)=> .d a x
   |_,_=>l
  |false=>l
 |none=>l
theorem dI{l:SV N.T}{cs:List BZ}(h:l.is C η H (.agg cs.toArray)):(vy P C t l).is C η H (.agg cs.toArray):=by
 unfold vy;split
 ·split
  ·rename_i d;split
   ·rename_i x _ f;obtain⟨g,b,e,c,a⟩:=EK f h;have a:BZ.agg b.toArray= .agg #[]:=a;have a:b=[]:=by simpa using a
    subst a;rw[Adh]at e;subst e;refine⟨cs,c,?_⟩;unfold CL;rw[d]
   trivial
  omega
 omega
def vq(P:GQ)(fs:List Field)(i:Nat):Option (Nat×Nat×Gs):=match fs[i]? with
 |some f=>match P.info? f.type with
  |some a=>Ac (f.offset,a.size,f.type)
  |none=>C7
 |none=>C7
def se(
     P:GQ) (C:List (SV N.T)) (S:Nat->SV N.T) (nk:Nat) (t:Gs) (ps:List (Nat×Dn)) (k:Bx N.T->Nat->Option R):Option R:=match P.info? t with
 |some c=>
       match c.zero with
  |some z=>match fr N P 64 [t] z.cells.toList with
   |some d=>match P.underlying t with
    |some (.struct f)=>match(placesOf P t).isSome,SM P C S (vq P f.toList) ps d with
     |true,Ac l=>match EY (vy P C t l)with
      |true=>k ⟨vy P C t l,[],[]⟩ nk
      |false=>C7
     |_,_=>C7
    |some (.array _ e)=>match P.info? e with
     |some b=>match b.zero.isSome,SM P C S (λi=>Ac (i*b.size,b.size,e)) ps d with
      |true,Ac l=>match EY (vy P C t l)with
       |true=>k ⟨vy P C t l,[],[]⟩ nk
       |false=>C7
      |_,_=>C7
     |none=>C7
    |_=>C7
   |none=>C7
  |none=>C7
 |none=>C7
theorem MF:∀(l:List Field) (ps:List (Nat×Nat)),(l.mapM λf=>(P.info? f.type).map λi=>(f.offset,i.size))=Ac ps->∀i,ps[i]?=(vq P l i).map λq=>(q.1,q.2.1)
 | [],ps,h,i=>by grind[vq]
 |f::l,ps,h,i=>by
  cases a:P.info? f.type with
  |none=>grind
  |some c=>
   cases b:(l.mapM λf=>(P.info? f.type).map λi=>(f.offset,i.size))with
   |none=>grind
   |some d=>
    simp[a,b]at h;subst h;cases i with
    |zero=>grind[vq]
    |succ i=>
     have:=MF l d b i;simpa [vq]using this
theorem pL{ps:List (Nat×Dn)}(D:o.op= .build t ps.toArray)(h:se P C S nk t ps k=Ac r):A1 P C S Rr nk o k r:=by
 have m:∀ {η:Nat->BZ} {H:Hp} {a:Act},(∀x∈o.op.operands,(Aw S x).is C η H (a.eval x))->∀p∈ps,(Aw S p.2).is C η H (a.eval p.2):=λs p I=>s p.2 (by grind[ax]);unfold se at h;split at h
 ·rename_i g G;split at h
  ·rename_i z J;split at h
   ·rename_i Q j;have n:TI P t g.size g.bytes z:=⟨g,G,rfl,rfl,J⟩;split at h
    ·rename_i F E;split at h
     ·rename_i l b B;split at h;· rename_i d;refine .y h (Abu λη H O a s _=>?_) λ_ _=>DC d;have f:=J' (C:=C) (η:=η) (H:=H) j;obtain⟨u,v,w⟩:=M7 (a:=a) B f (m s);obtain⟨L,b⟩:=Abk.1 b;refine⟨.agg u.toArray,?_,dI w⟩;rw[D];refine Akj (vcs:=_) (zs:=z.cells) b n rfl (JP ps) rfl ?_;rw[<-fill_eq];unfold placesOf at b;rw[E]at b;have e:(λi=>L[i]?)=λi=>(vq P F.toList i).map λq=>(q.1,q.2.1):=funext λi=>MF _ _ b i;rw[e];simpa using v
      ·cases h
     ·cases h
    ·rename_i len e E;split at h
     ·rename_i K A;split at h
      ·rename_i l c B;split at h;· rename_i d;refine .y h (Abu λη H O a s _=>?_) λ_ _=>DC d;have f:=J' (C:=C) (η:=η) (H:=H) j;obtain⟨u,v,w⟩:=M7 (a:=a) B f (m s);obtain⟨M,c⟩:=Abk.1 c;refine⟨.agg u.toArray,?_,dI w⟩;rw[D];refine Au.rV (zs:=z.cells) E n ⟨K,A,rfl,rfl,c⟩ rfl (JP ps) ?_;simpa using v
       ·cases h
      ·cases h
     ·cases h
    trivial
   grind
  grind
 grind
def fE(C:List (SV N.T)):Nat->SV N.T->Nat->Option (SV N.T)
 |0,_,_=>C7
 |b+1,l,n=>match Hj n 0 with
  |true=>Ac .nl
  |false=>match l with
   | .lf s a r=>match iT s n with
    |true=>(fE C b r (n-s)).map (.lf s (res C a))
    |false=>C7
   |_=>C7
theorem VD{η:Nat->BZ}{H:Hp} :∀ {fu:Nat} {l r:SV N.T} {n:Nat} {cs:List BZ},fE C fu l n=Ac r->l.is C η H (.agg cs.toArray)->r.is C η H (.agg (cs.take n).toArray)/\n<=cs.length
 |0,_,_,_,_,h,_=>by cases h
 |fu+1,l,r,n,cs,h,m=>by
  unfold fE at h;split at h;· rename_i c;have:=AI c;cases h;simp_all[Aec,aE,Abe]
  ·split at h
   ·split at h;· rename_i c;obtain⟨x,f,rfl⟩:=Pd.1 h;have c:=Abc c;obtain⟨t,v,u,rfl,e,g,d,i,j⟩:=FG m;obtain⟨p,w⟩:=VD f j;grind[Ld,EU,List.take_append,ru]
    grind
   grind
def xK(P:GQ)(t:Gs):Bool:=match P.underlying t with
 |some d=>DM d
 |none=>Aj
def qt(P:GQ)(C:List (SV N.T))(nk:Nat)(b off:Nat)(l:SV N.T)(t:Gs)(k:Bx N.T->Nat->Option R):Option R:=match P.underlying t,P.info? t with
 |some d,Ac c=>match DM d&&c.zero.isSome,SU N 64 l off with
  |true,Ac e=>match fE C 64 e c.size with
   |some (.lf s a f)=>k ⟨.lf s a f,[b],[]⟩ nk
   |_=>C7
  |_,_=>C7
 |_,_=>C7
def gV(P:GQ)(C:List (SV N.T))(S:Nat->SV N.T)(Rr:Nat->Option (SR N.T))(nk:Nat)(t:Gs)(x:Dn)(k:Bx N.T->Nat->Option R):Option R:=match Aw S x with
 | .loc b off=>match Rr b with
  |some (.Ah _ l)=>match xK P t with
   |false=>wO P C S Rr nk t x k
   |true=>match E0 N C l off (Mb N P t)with
    |some (.d _ _)=>wO P C S Rr nk t x k
    |_=>qt P C nk b off l t k
  |_=>C7
 |_=>wO P C S Rr nk t x k
theorem ak{x:Dn}(j:o.op= .load t x)(v:∃τ,Ny Rr S τ)(h:gV P C S Rr nk t x k=Ac r):A1 P C S Rr nk o k r:=by
 have D:∀ {η:Nat->BZ} {H:Hp} {a:Act},(∀x∈o.op.operands,(Aw S x).is C η H (a.eval x))->(Aw S x).is C η H (a.eval x):=λE=>E x (by grind[ax]);unfold gV at h;split at h
 ·rename_i b off Z;split at h
  ·rename_i g l U;have u:qt P C nk b off l t k=Ac r->A1 P C S Rr nk o k r:=λh=>by
    unfold qt at h;split at h
    ·rename_i d c V W;split at h
     ·rename_i l1 F w;split at h
      ·rename_i s a l2 A;rw[AT]at F;obtain⟨z,G⟩:=Abk.1 F.2;refine .y h (Abu λη H O J E Y=>?_) λ_ _=>trivial;obtain⟨B,K,L⟩:(SV.loc b off:SV N.T).is C η H (J.eval x):=by rw[<-Z];exact D E
       rcases Y b (by simp) _ U with e|⟨X,i,Q,I,cs,p,M,T⟩;· cases e
       rw[K]at p;have p:B=I:=by simpa [ptr]using p
       subst p;subst M;obtain⟨k1,k2⟩:=M_ (cs:=cs.toList) w T;obtain⟨k3,k4⟩:=VD A k1;have f:((cs.toList.drop off).take c.size).length=c.size:=by rw[Abh];exact Aei k4
       refine⟨.agg ((cs.toList.drop off).take c.size).toArray,?_,k3⟩;rw[j];exact Aiz V F.1 (by rw[f];exact⟨c,W,rf,rf,G⟩) (congrArg Ac L) Q (by rw[f])
      trivial
     grind
    grind
   grind[ni]
  grind
 grind[ni]
end
end
section
variable{Y:List (Nat×Ax)}{k:Nat}{r:Ax}{b j a:Nat}
def Jv(Y:List (Nat×Ax))(k a:Nat)(r:Ax):List (Nat×Ax):=Y.map λp=>match Hj p.1 k with
 |true=>(a,r)
 |false=>p
theorem aH(Y:List (Nat×Ax))(k a:Nat)(r:Ax):(Jv Y k a r).map (·.2)=(Ik Y k r).map (·.2):=by grind[Jv,Ik,List.map_map,List.map_congr_left]
theorem Ow(h:j∈keys (Jv Y k b r)):j=b\/(j∈keys Y/\j≠k):=by
 unfold keys Jv at h;rw[Aaj]at h;obtain⟨p,c,e⟩:=By.1 h;simp only[Function.comp]at e;cases a:Hj p.1 k with
 |true=>grind
 |false=>rw[a]at e;subst e;exact .inr ⟨By.2 ⟨p,c,rfl⟩,Abf a⟩
theorem gM(c:(keys Y).Nodup)(i:b∉keys Y):(keys (Jv Y k b r)).Nodup:=by
 induction Y with
 |nil=>exact c
 |cons p Y d=>
  obtain⟨q,y⟩:=p;simp only[keys,Aas,Aay,Aav,not_or]at c i;have d:=d c.2 i.2;have tail:∀j,j∈keys (Jv Y k b r)->j=b->k∈keys Y:=λj g e=>by
   unfold keys Jv at g;rw[Aaj]at g;obtain⟨p,l,m⟩:=By.1 g;cases f:Hj p.1 k with
   |true=>rw[<-AI f];exact By.2 ⟨p,l,rfl⟩
   |false=>grind
  show(keys ((match Hj q k with|true=>(b,r)|false=>(q,y))::Jv Y k b r)).Nodup;cases f:Hj q k with
  |true=>
   have:=AI f;subst this;exact Aay.2 ⟨λh=>c.1 (tail _ h rfl),d⟩
  |false=>
   refine Aay.2 ⟨λh=>?_,d⟩;rcases Ow h with e|⟨e,_⟩;· grind
   ·exact c.1 e
theorem aI{x:Ax}(h:Ay Y k=Ac x)(b:a∉keys Y):Ay (Jv Y k a r) a=Ac r:=by
 induction Y with
 |nil=>cases h
 |cons p Y d=>
  obtain⟨q,y⟩:=p;simp only[keys,Aas,Aav,not_or]at b;simp only[Ay]at h;show Ay ((match Hj q k with|true=>(a,r)|false=>(q,y))::Jv Y k a r) a=Ac r;cases c:Hj q k with
  |true=>grind[CF]
  |false=>
   rw[c]at h;rw[A3 (λe=>b.1 e.symm)];exact d h b.2
theorem gK(h1:j≠k)(h2:j≠a):Ay (Jv Y k a r) j=Ay Y j:=by
 induction Y with
 |nil=>rfl
 |cons p Y c=>
  obtain⟨q,y⟩:=p;show Ay ((match Hj q k with|true=>(a,r)|false=>(q,y))::Jv Y k a r) j=Ay ((q,y)::Y) j;cases b:Hj q k with
  |true=>
   have:=AI b;subst this;simp_all[A3,Ne.symm]
  |false=>
   grind[Ay,Jv,Hj]
end
section
variable {N : C9} {R : Type} {P : GQ} {C : List (SV N.T)} {S : Nat -> SV N.T} {Rr : Nat -> Option (SR N.T)} {nk : Nat} {o : K_} {k : Bx N.T -> Nat -> Option R} {r : R}
section
variable{H:Hp}{t:Gs}{O:List Ax}{a:Act}{T:Gs}{x:Dn}{e:Gs}{E:Dn->Option BZ}{q:Dn}{n:Nat}{op:Op}{X:BZ->Hp->List Ax->Prop}{s:Dn}{η:Nat->BZ}{p:Dn}
theorem Ahp{sv:SV N.T}{E:List Nat}{k f:Nat}{q F:SR N.T}(X:Rr k=Ac q)(h0:q≠ .gone)(l:Rr f=C7)
  (h:∀(η:Nat->BZ) (H:Hp) (O:List Ax) (a:Act) (x:Ax) (i:Nat),(∀x∈o.op.operands,(Aw S x).is C η H (a.eval x))->O[i]?=Ac x->q.is C η H k x->(∀k∈E,∀g,Rr k=Ac g->g= .gone\/∃(x:Ax) (i:Nat),O[i]?=Ac x/\g.is C η H k x)->
   BM P o.op o.type (EV a) H O (λv s A=>s=H/\∃p b,A=O.set i p/\F.is C (EA η f b) H f p/\sv.is C (EA η f b) H v)):
  Ap P C S Rr o ⟨sv,E,[(f,F),(k, .gone)]⟩:=by
 intro η H t a w Y y hs hi hx D d K Q V;have m:=d f (by simp[keys]) l;rcases D k (.inr (by simp[keys])) q X with e|⟨x,B,M⟩;· grind
 obtain⟨i,T,U⟩:=Jk t y B;refine h η H (Y.map (·.2)++t) a x i hx T M (λj c g z=>(D j (.inl c) g z).imp id λ⟨x,q1,q2⟩=>by obtain⟨i,q3,_⟩:=Jk t y q1;grind) a w o K Q rfl rfl (λx u e=>by grind) hs λv w' s A Z ⟨G,p,b,I,J,L⟩ n=>?_;subst G;subst I;rw[U,<-aH Y k f]at n;refine V v w' s (EA η f b) (Jv Y k f p) (Hp.le.refl _) (λj c=>EH λe=>?_) (λj c=>gK (λe=>c (by subst e;simp[keys])) (λe=>c (by subst e;simp[keys]))) (λj g c=>?_) (gM y m) (λj c=>?_) n L;· subst e;exact c l (by simp[keys])
 ·simp only[Ay]at c;split at c;· rename_i W;have:=AI W;subst this;cases c;exact .inr ⟨p,aI B m,J⟩
  ·split at c;· cases c;exact .inl rfl
   trivial
 ·rcases Ow c with e|⟨e,_⟩;· subst e;exact .inr (by simp[keys])
  ·exact .inl e
theorem A1.mov{sv:SV N.T}{a:List Nat}{b:Nat}{f c:SR N.T}(h:k ⟨sv,a,[(nk,c),(b, .gone)]⟩ (nk+1)=Ac r)(h0:Rr b=Ac f)(d:Ap P C S Rr o ⟨sv,a,[(nk,c),(b, .gone)]⟩)(e:∀τ Rr,D9 τ Rr sv):A1 P C S Rr nk o k r:=
 ⟨_,nk+1,h,d,Agt _,λj g i=>(by grind[keys]),λτ _=>e τ _⟩
def Ni(P:GQ)(e:Gs):Nat:=match P.info? e with
 |some a=>match iT a.bytes 64 with
  |true=>Ai
  |false=>4294967296
 |none=>4294967296
def Dc(P:GQ)(e:Gs)(n:Nat):Bool:=match P.info? e with
 |some a=>match a.zero with
  |some z=>(Hj a.size n&&Hj z.cells.size n)&&(iT a.bytes 16384&&(bg 0 n&&iT n 16777216))
  |none=>Aj
 |none=>Aj
theorem Eb{e:Nat}(h:Dc P e n=Bp):∃bytes z,TI P e n bytes z/\z.cells.size=n/\0<n/\(∀m,m<=Ni P e->m<=Ai/\m*bytes<=70368744177664)/\n<=16777216:=by
 unfold Dc at h;split at h
 ·rename_i a d;split at h
  ·rename_i z j;simp only[AT]at h;obtain⟨⟨f,g⟩,c,l,p⟩:=h;refine⟨a.bytes,z,⟨a,d,AI f,rfl,j⟩,AI g,by simp_all,λm b=>?_,by simp_all⟩;unfold Ni at b;rw[d]at b;simp only at b;have c:a.bytes<=16384:=Abc c;split at b;· rename_i i;have:=Abv b (Abc i);grind
   ·have:=Abv b c;grind
  grind
 grind
theorem BM.IP{size:Nat}(h:BM P op T E H (.row (.slice C7 0 0) e size 0 []::O) X):BM P op T E H O X:=
 λa w o next Q d b c f k=>h a w o next Q d b c (f.IP e size) k
theorem BM.emp(h:BM P op T E H (.emp::O) X):BM P op T E H O X:=
 λa w o next Q f c e g k=>h a w o next Q f c e (g.push (IW.grownBy.refl w C7) trivial (λb d=>by cases d)) k
def Xw(S:Nat->SV N.T)(Rr:Nat->Option (SR N.T))(b:Ty)(x:Dn):Option (List (b.den N.T)×List Nat):=match Aw S x with
 | .AH j=>match Rr j with
  |some (.row _ t2 a)=>(Qu N.T (.sl t2) (.sl b)).map λf=>(f a,[j])
  |_=>C7
 | .d (.sl t2) a=>(Qu N.T (.sl t2) (.sl b)).map λf=>(f a,[])
 |_=>C7
theorem LK{d:Ty}{s:List (d.den N.T)}{y:List Nat}(h:Xw S Rr d x=Ac (s,y))(m:(Aw S x).is C η H (a.eval x))(G:∀k∈y,∀t,Rr k=Ac t->t= .gone\/∃(x:Ax) (i:Nat),O[i]?=Ac x/\t.is C η H k x):
  ∃ys,A2 (N.c d) H s ys/\∀w,SH w H O->GK.Src w (a.eval x) (d.sz N) s.length ys:=by
 unfold Xw at h;split at h
 ·rename_i j b;rw[b]at m;split at h
  ·rename_i g t2 l F;obtain⟨f,q,e⟩:=Pd.1 h;cases e;obtain⟨p,rfl⟩:=BB q;have A:=Adl p;have n:t2=d:=by grind
   subst n;rcases G j (by simp) _ F with e|⟨X,i,c,ys,z,E⟩;· grind
   subst z;rw[<-m.1]at c;exact⟨ys,E,λw b=>b.oG c⟩
  grind
 ·rename_i t2 l b;rw[b]at m;obtain⟨f,q,e⟩:=Pd.1 h;cases e;obtain⟨p,rfl⟩:=BB q;have A:=Adl p;have n:t2=d:=by grind
  subst n;obtain⟨J,c,D⟩:=m;subst D;obtain⟨v,I,c⟩:∃v,[a.eval x]=[v]/\G8 (N.c t2) H l v:=c;cases I;obtain⟨⟨ys,u,B⟩,_⟩:=c;rw[Bn]at u;exact⟨ys,B,λw b=>b.T7 u⟩
 grind
def sH(P:GQ)(S:Nat->SV N.T)(Rr:Nat->Option (SR N.T))(nk:Nat)(s x:Dn)(t:Gs)(k:Bx N.T->Nat->Option R):Option R:=match P.underlying t with
 |some (.slice e)=>match Aw S s with
  | .AH b=>match Rr b with
   |some (.row g a l)=>match Hj g e&&Dc P e (a.sz N),Xw S Rr a x with
    |true,Ac (c,f)=>Ag (l.length+c.length<=Ni P e) (k ⟨.AH nk,f,[(nk, .row g a (l++c)),(b, .gone)]⟩ (nk+1))
    |_,_=>C7
   |_=>C7
  | .raw (.slice C7 0 0)=>match Mb N P e with
   |some a=>match Dc P e (a.sz N),Xw S Rr a x with
    |true,Ac (c,f)=>Ag (([]:List (a.den N.T)).length+c.length<=Ni P e) (k ⟨.AH nk,f,[(nk, .row e a ([]++c))]⟩ (nk+1))
    |_,_=>C7
   |none=>C7
  |_=>C7
 |_=>C7
theorem QQ{b:Ty}{l f:List (b.den N.T)}{xs ys:List BZ}{i:Nat}{v:BZ}(ht:P.underlying t=Ac (.slice e))(p:Dc P e (b.sz N)=Bp)(y:a.eval s=v)
  (hi:O[i]?=Ac (.row v e (b.sz N) l.length xs)) (D:A2 (N.c b) H l xs) (A:A2 (N.c b) H f ys) (d:∀w,SH w H O->GK.Src w (a.eval x) (b.sz N) f.length ys) (hc:l.length+f.length<=Ni P e):
  BM P (.call {callee:= .builtin .append,args:= #[s,x],argTypes:= #[t,t]}) T (EV a) H O (λv' j m=>(j=H/\m=O.set i (.row v' e (b.sz N) (l++f).length (xs++ys)))/\v'.oneCell'=Bp):=by
 obtain⟨bytes,z,B,h,n,q,_⟩:=Eb p;obtain⟨hc,u⟩:=q _ hc;refine Aga i ((BM.append ht B h n (congrArg Ac y) rfl hi d A.one (by omega) (by grind)).mono ?_) ?_;all_goals grind
theorem pR(I:o.op= .call {callee:= .builtin .append,args:= #[s,x],argTypes:= #[t,t]})(G:∀j,nk<=j->Rr j=C7)(h:sH P S Rr nk s x t k=Ac r):A1 P C S Rr nk o k r:=by
 have q:∀ {η:Nat->BZ} {H:Hp} {a:Act},(∀x∈o.op.operands,(Aw S x).is C η H (a.eval x))->(Aw S s).is C η H (a.eval s):=λf=>f s (by grind[ax,gB]);have u:∀ {η:Nat->BZ} {H:Hp} {a:Act},(∀x∈o.op.operands,(Aw S x).is C η H (a.eval x))->(Aw S x).is C η H (a.eval x):=λf=>f x (by simp_all[ax,gB]);unfold sH at h;split at h
 ·rename_i e J;split at h
  ·rename_i b v;split at h
   ·rename_i g K l F;split at h;· rename_i Z rd p d;replace h:=AF h;obtain⟨hc,h⟩:=h;rw[AT]at p;have T:=AI p.1;subst T;refine .mov h F (Ahp F (by simp) (G nk (Aac _)) λη H O a X i f V W B=>?_) λ_ _=>trivial;obtain⟨xs,U,E⟩:=W;subst U;have y:=q f;rw[v]at y;obtain⟨L,z,m⟩:=LK d (u f) B;rw[I];refine(QQ J p.2 y.1 V E z m hc).mono ?_;rintro D M Q ⟨⟨rfl,rfl⟩,A⟩;exact⟨rfl,_,D,rfl,⟨_,by rw[AA],E.app z⟩,by rw[AA],A⟩
    grind
   grind
  ·rename_i v;split at h
   ·rename_i K Y;split at h
    ·rename_i Z rd p d;replace h:=AF h;obtain⟨hc,h⟩:=h;refine .new h (Afd (G nk (Aac _)) λη H O a f B=>?_) λ_ _=>trivial;have y:=q f;rw[v]at y;obtain⟨L,z,m⟩:=LK d (u f) B;rw[I];refine BM.IP ((QQ (i:=0) (l:=[]) (xs:=[]) J p y rfl rfl z (λw v=>m w ?_) hc).mono ?_);· have:=v.nG 1;simpa using this
     ·rintro D M Q ⟨⟨rfl,rfl⟩,A⟩;exact⟨rfl,_,D,rfl,⟨[]++L,by rw[AA],A2.app (c:=N.c K) (l:=[]) (xs:=[]) rfl z⟩,by rw[AA],A⟩
    ·cases h
   trivial
  grind
 grind
theorem aJ{c:Ty}{x:c.den N.T}{kl n:Lr}{m bytes:Nat}{z:BZ}(ht:P.underlying t=Ac (.slice e))(I:TI P e (c.sz N) bytes z)(h:∀m,m<=Ni P e->m<=Ai/\m*bytes<=70368744177664)(h0:0<c.sz N)(V:a.eval p= .int kl (m:Int))(hc:a.eval q= .int n (m:Int))
  (l:m<=Ni P e) (j:(N.c c).BO H x z.cells.toList):
  BM P (.makeSlice t p q) T (EV a) H O (λv s y=>(s=H/\∃xs,y= .row v e (c.sz N) (Uh m x).length xs::O/\A2 (N.c c) H (Uh m x) xs)/\v.oneCell'=Bp):=by
 refine Aga 0 (.Ao λM w o W _ U G=>?_) ?_
 ·obtain⟨i,F,A,Q,B⟩:=I.ex;obtain⟨l,E⟩:=h _ l;obtain⟨L,X,J,K⟩:=run_make_full (P:=P) (w:=w) 0 t e i z (c.sz N) ht F B A kl n m (by grind) (by simp only[maxLen,Ai]at*;omega) (Abe _);have D:A2 (N.c c) H (Uh m x) (madeCells z.cells (m*c.sz N)).toList:=by
   grind[Ahq,Bn]
  refine⟨_,L,H,_,?_,Hp.le.refl H,⟨rf,_,by rw[Afe],D⟩,G.push (r:= .row (.slice (Ac ⟨w.heap.size,0,C7⟩) m m) e (c.sz N) m (madeCells z.cells (m*c.sz N)).toList) K J (λb h=>by grind[Ax.has,BZ.ownBlock])⟩;simp_all[Kt]
 grind
def natI(y:Int)(k:Nat->Option R):Option R:=Ag (0<=y) (k y.toNat)
def gJ(s:SV N.T)(k:Nat->Option R):Option R:=match s with
 | .na n| .ct _ n| .cb _ n=>k n
 | .raw (.int _ (.ofNat n))=>k n
 | .d (.int _) y=>natI y k
 |_=>C7
theorem Ov{s:SV N.T}{c:Nat->Option R}(h:gJ s c=Ac r):∃n,c n=Ac r/\∀ {η:Nat->BZ} {H:Hp} {v:BZ},s.is C η H v->∃b,v= .int b (n:Int):=by
 unfold gJ at h;split at h;· exact⟨_,h,λa=>⟨_,a.1⟩⟩
 ·exact⟨_,h,λa=>⟨_,a.1⟩⟩
 ·exact⟨_,h,λa=>⟨_,a.1⟩⟩
 ·exact⟨_,h,λa=>⟨_,a⟩⟩
 ·rename_i b y;obtain⟨g,f⟩:=AF (p:=(0:Int)<=(show Int from y)) h;refine⟨_,f,λa=>⟨b,?_⟩⟩;have e:=AU (C:=C) (s:= .d (.int b) y) rfl a;grind
 grind
def mkK(P:GQ)(S:Nat->SV N.T)(nk:Nat)(t:Gs)(p q:Dn)(k:Bx N.T->Nat->Option R):Option R:=match P.underlying t with
 |some (.slice e)=>match Mb N P e,P.info? e with
  |some b,Ac a=>match a.zero with
   |some z=>match parse N 16 b z.cells.toList,Dc P e (b.sz N),sameO p q with
    |some (x,[]),Bp,Bp=>gJ (Aw S p) λm=>Ag (m<=Ni P e) (k ⟨.AH nk,[],[(nk, .row e b (Uh m x))]⟩ (nk+1))
    |_,_,_=>C7
   |none=>C7
  |_,_=>C7
 |_=>C7
 where
 sameO:Dn->Dn->Bool
  | .tmp i, .tmp j=>Hj i j
  | .const (.int _ i), .const (.int _ j)=>match i,j with
   | .ofNat i, .ofNat j=>Hj i j
   |_,_=>Aj
  |_,_=>Aj
theorem wu(T:o.op= .makeSlice t p q)(L:∀j,nk<=j->Rr j=C7)(h:mkK P S nk t p q k=Ac r):A1 P C S Rr nk o k r:=by
 have i:∀ {η:Nat->BZ} {H:Hp} {a:Act},(∀x∈o.op.operands,(Aw S x).is C η H (a.eval x))->(Aw S p).is C η H (a.eval p):=λs=>s p (by grind[ax]);unfold mkK at h;split at h
 ·rename_i e U;split at h
  ·rename_i te u V M;split at h
   ·rename_i z W;split at h
    ·rename_i x l I b;obtain⟨m,h,Q⟩:=Ov (C:=C) h;replace h:=AF h;obtain⟨hc,h⟩:=h;obtain⟨bytes,z',f,_,E,K,_⟩:=Eb I;refine .new h (Afd (L nk (Aac _)) λη H O a s hr=>?_) λ_ _=>trivial;obtain⟨Y,n⟩:=Q (i s);have c:∃g,a.eval q= .int g (m:Int):=by
      unfold mkK.sameO at b;split at b;· have:=AI b;subst this;exact⟨Y,n⟩
      ·split at b;· have:=AI b;subst this;injection n with h1 F;exact⟨_,by show BZ.int _ _=_;rw[F]⟩
       ·cases b
      grind
     obtain⟨g,c⟩:=c;obtain⟨X,y,g1,g2,A⟩:=f.ex;have B:X=u:=by rw[M]at y;exact(Abs y).symm
     subst B;have D:z'=z:=by rw[W]at A;exact(Abs A).symm
     subst D;obtain⟨pre,w,d⟩:=CE (H:=H) l;rw[Adh]at w;rw[T];refine(aJ U f K E n c hc (by rw[w];exact d)).mono ?_;rintro v H' O' ⟨⟨rfl,Z,rfl,J⟩,G⟩;exact⟨rfl,_,v,rfl,⟨Z,by rw[AA],J⟩,by rw[AA],G⟩
    grind
   grind
  grind
 grind
def iQ(C:List (SV N.T))(S:Nat->SV N.T)(a:Ty):Nat->List (Nat×Dn)->Option (List (a.den N.T))
 |_,[]=>Ac []
 |i,(j,x)::ps=>match Hj i j,TW C a (Aw S x),iQ C S a (i+1) ps with
  |true,Ac y,Ac l=>Ac (y::l)
  |_,_,_=>C7
theorem Wz{f:Ty}{n:Nat}(g:f.sz N=n){η:Nat->BZ}{H:Hp}{a:Act} :∀ {ps:List (Nat×Dn)} {i:Nat} {l:List (f.den N.T)} {cs:List BZ},iQ C S f i ps=Ac l->(∀p∈ps,(Aw S p.2).is C η H (a.eval p.2))->cs.length=(i+ps.length)*n->
  ∃xs,nF (λi=>Ac (i*n,n)) cs.toArray (ps.map λp=>(p.1,a.eval p.2))=Ac (cs.take (i*n)++xs).toArray/\A2 (N.c f) H l xs/\l.length=ps.length
 | [],i,l,cs,h,_,hc=>by cases h;refine⟨[],?_,rfl,rfl⟩;grind[nF]
 |(j,x)::ps,i,l,cs,h,m,hc=>by
  unfold iQ at h;split at h
  ·rename_i y F v D w;cases h;have e:=AI v;subst e;obtain⟨q,E⟩:=CP (DL D (m (i,x) (by simp)));have b:=Bg q;rw[g]at b;simp only[Abo]at hc;have z:i*n+n<=cs.length:=by grind
   have B:(Cy cs (i*n) (a.eval x).cells.toList).length=(i+1+ps.length)*n:=by grind[Cy]
   obtain⟨xs,s,t,u⟩:=Wz g w (λp A=>m p (by grind)) B;refine⟨(a.eval x).cells.toList++xs,?_,⟨_,xs,rfl,q,t⟩,by simp[u]⟩;rw[Aas,KD (off:=i*n) (size:=n) rfl (by simpa using b) (by simp at b⊢;omega)];rw[s];rw[<-Aal];unfold Cy;rw[Acf (by simp[b,Ady];omega),Abl (by simp[b,Ady];omega)]
  grind
def bsK(P:GQ)(C:List (SV N.T))(S:Nat->SV N.T)(nk:Nat)(t:Gs)(len:Nat)(ps:List (Nat×Dn))(k:Bx N.T->Nat->Option R):Option R:=match P.underlying t with
 |some (.slice e)=>match Mb N P e with
  |some a=>match Dc P e (a.sz N),Hj ps.length len&&(bg 0 len&&iT (len*a.sz N) 16777216),iQ C S a 0 ps with
   |true,Bp,Ac l=>k ⟨.AH nk,[],[(nk, .row e a l)]⟩ (nk+1)
   |_,_,_=>C7
  |none=>C7
 |_=>C7
theorem wy{len:Nat}{ps:List (Nat×Dn)}(U:o.op= .buildSlice t len ps.toArray)(Q:∀j,nk<=j->Rr j=C7)(h:bsK P C S nk t len ps k=Ac r):A1 P C S Rr nk o k r:=by
 have n:∀ {η:Nat->BZ} {H:Hp} {a:Act},(∀x∈o.op.operands,(Aw S x).is C η H (a.eval x))->∀p∈ps,(Aw S p.2).is C η H (a.eval p.2):=λs p Y=>s p.2 (by grind[ax]);unfold bsK at h;split at h
 ·rename_i e V;split at h
  ·rename_i w W;split at h
   ·rename_i l L f T;simp only[AT]at f;obtain⟨g,m,M⟩:=f;have I:=AI g;subst I;obtain⟨bytes,z,q,X,J,f,_⟩:=Eb L;refine .new h (Afd (Q nk (Aac _)) λη H O a s Z=>?_) λ_ _=>trivial;have b:(((Array.range (ps.length*w.sz N)).map (z.cells[· %z.cells.size]!)).toList:List BZ).length=(0+ps.length)*w.sz N:=by simp
    obtain⟨E,y,A,B⟩:=Wz (C:=C) (η:=η) (H:=H) (a:=a) rfl T (n s) b;rw[Aeo,Aec,Ach,Array.toArray_toList]at y;have u:=A.len;rw[Bn,B]at u;rw[U];refine BM.emp ((Aga 0 (Ajq (ρ:=λ_=>undef) (i:=0) 0 V q rfl (by omega) (by simpa using Nat.mul_pos (by simpa using m) J) (JP ps) y (by omega) rfl) ?_).mono ?_);· rintro v F G ⟨rfl,rfl,D⟩;refine⟨e,w.sz N,ps.length,E,?_⟩;rfl
    ·rintro v F G ⟨⟨rfl,rfl,D⟩,K⟩;rw[D];exact⟨rfl,_,v,rfl,⟨E,by rw[AA,B],A⟩,by rw[AA],K⟩
   grind
  grind
 grind
def rE(P:GQ)(S:Nat->SV N.T)(Rr:Nat->Option (SR N.T))(nk:Nat)(t:Gs)(x y:Dn)(k:Bx N.T->Nat->Option R):Option R:=match P.underlying t,Aw S x with
 |some (.slice e), .AH b=>match Rr b,intOf (Aw S y)with
  |some (.row g a l),Ac (_,h)=>match Hj g e&&Dc P e (a.sz N)with
   |true=>Ag (0<=h/\h<=((l.length:Nat):Int)) (k ⟨.AH nk,[],[(nk, .row g a (l.take h.toNat)),(b, .gone)]⟩ (nk+1))
   |false=>C7
  |_,_=>C7
 |_,_=>C7
theorem pF{y:Dn}(Q:o.op= .slice t x C7 (Ac y) C7)(K:∀j,nk<=j->Rr j=C7)(h:rE P S Rr nk t x y k=Ac r):A1 P C S Rr nk o k r:=by
 have p:∀ {η:Nat->BZ} {H:Hp} {a:Act},(∀x∈o.op.operands,(Aw S x).is C η H (a.eval x))->(Aw S x).is C η H (a.eval x):=λd=>d x (by grind[ax]);have q:∀ {η:Nat->BZ} {H:Hp} {a:Act},(∀x∈o.op.operands,(Aw S x).is C η H (a.eval x))->(Aw S y).is C η H (a.eval y):=λd=>d y (by grind[ax]);unfold rE at h;split at h
 ·rename_i e b U T;split at h
  ·rename_i g te l ik L u M;split at h
   ·rename_i m;replace h:=AF h;obtain⟨hc,h⟩:=h;rw[AT]at m;have D:=AI m.1;subst D;obtain⟨bytes,z,V,Y,h0,J,_⟩:=Eb m.2;refine .mov h u (Ahp u (by simp) (K nk (Aac _)) λη H O a X i d f F hr=>?_) λ_ _=>trivial;obtain⟨xs,E,I⟩:=F;subst E;have v:=p d;rw[T]at v;have W:=AU (C:=C) M (q d);rw[<-v.1,<-Bn]at f;have n:i<O.length:=(No.1 f).1;rw[Q];refine(Aga i (Ajr (c:=N.c te) (l:=l) U (by rw[Bn];omega) rfl (congrArg Ac W) f hc) ?_).mono ?_;· rintro w A B ⟨rfl,rfl⟩;exact⟨_,_,_,_,by rw[List.getElem?_set_self n]⟩
    ·rintro w A B ⟨⟨rfl,rfl⟩,G⟩;have s:=I.take L.toNat;refine⟨rfl,_,w,rfl,⟨_,by rw[AA,Bn,Abh,Aei (by omega)],?_⟩,by rw[AA],G⟩;rw[Bn]at s;exact s
   grind
  grind
 grind
end
end
section
variable {N : C9} {R : Type} {P : GQ} {C : List (SV N.T)} {S : Nat -> SV N.T} {Rr : Nat -> Option (SR N.T)} {nk : Nat} {o : K_} {k : Bx N.T -> Nat -> Option R} {r : R}
section
variable{t tn:Gs}{x p q:Dn}
theorem dC{e:Gs}{T:Gs}{a:Act}{d:Ty}{x:d.den N.T}{kn A:Lr}{m bytes:Nat}{z:BZ}{H:Hp}{O:List Ax}(ht:P.underlying t=Ac (.slice e))(y:P.underlying tn=Ac (.int kn))(hz:TI P e (d.sz N) bytes z)(j:z.cells.size=d.sz N)(Z:m+1<=Ai)(G:(m+1)*bytes<=140737488355328)
  (h0:0<d.sz N) (hp:a.eval p= .slice C7 0 0) (hq:a.eval q= .int A ((m+1:Nat):Int)) (h:(N.c d).BO H x z.cells.toList):
  BM P (.call {callee:= .builtin .append,args:= #[p,q],argTypes:= #[t,tn]}) T (EV a) H O (λv B D=>(B=H/\∃xs,D= .row v e (d.sz N) (Uh (m+1) x).length xs::O/\A2 (N.c d) H (Uh (m+1) x) xs)/\v.oneCell'=Bp):=by
 refine Aga 0 (.Ao λE w o ho W I hs=>?_) ?_
 ·obtain⟨i,Y,g1,F,M⟩:=hz.ex;have J:=Go.Lib.run_append_grow_zeros (P:=P) w t tn T e i z A kn ht y Y M C7 0 0 [] (by rfl) (m+1) (by omega) (by omega) (by omega) (by grind) (by grind) (by grind[Builtin.nextslicecap]);have V:A2 (N.c d) H (Uh (m+1) x) (madeCells z.cells ((m+1)*d.sz N)).toList:=by
   grind[Ahq,Bn]
  have L:nJ z.cells (m+1)=madeCells z.cells ((m+1)*d.sz N):=by simp_all[nJ,madeCells]
  have s:=grownCap_ge w (0+(m+1)) 0 e;have u:=grownCap_le_maxLen w (0+(m+1)) 0 e (by simp only[maxLen,Ai]at*;omega);have X:w.grownBy (w.drew.alloc (.cells (([]:List BZ).toArray++nJ z.cells (m+1)++nJ z.cells (grownCap w (0+(m+1)) 0 e-(0+(m+1)))) e)) C7:=by have:=IW.grownBy_alloc w.drew (.cells (([]:List BZ).toArray++nJ z.cells (m+1)++nJ z.cells (grownCap w (0+(m+1)) 0 e-(0+(m+1)))) e) C7;exact⟨this.os,this.tape,this.output,this.size,this.block⟩
  refine⟨.slice (Ac ⟨w.heap.size,0,C7⟩) (0+(m+1)) (grownCap w (0+(m+1)) 0 e),_,H,_,?_,Hp.le.refl H,⟨rf,_,by rw[Afe],V⟩,hs.push (r:= .row (.slice (Ac ⟨w.heap.size,0,C7⟩) (0+(m+1)) (grownCap w (0+(m+1)) 0 e)) e (d.sz N) (m+1) (madeCells z.cells ((m+1)*d.sz N)).toList) X ?_ (λb G=>by simp[Ax.has,BZ.ownBlock]at G;omega)⟩;· have Q:E.eval p= .slice C7 0 0:=I p _ (congrArg Ac hp);have U:E.eval q= .int A ((m+1:Nat):Int):=I q _ (congrArg Ac hq);simp only[Kt,ho,resolve,invoke,builtin];simp[Q,U,resolve,invoke,builtin,W]at J⊢;rw[J];rfl
  ·refine⟨by simp[size_madeCells], .inr ⟨w.heap.size,grownCap w (0+(m+1)) 0 e,([]:List BZ).toArray++nJ z.cells (m+1)++nJ z.cells (grownCap w (0+(m+1)) 0 e-(0+(m+1))),by rw[Abm],Abe _,(by show(w.heap.push _)[w.heap.size]?=_;simp),by omega,u,?_,?_⟩⟩;· simp[size_zeroCells,j];rw[<-Adm];congr 1;rw[Abm]at s;omega
   ·rw[L];simp[Adu,size_madeCells]
 grind
def sE(
     P:GQ) (S:Nat->SV N.T) (nk:Nat) (p q:Dn) (t tn:Gs) (k:Bx N.T->Nat->Option R):Option R:=match P.underlying t,P.underlying tn,Aw S p with
 |some (
     .slice e),Ac (.int _), .raw (.slice C7 0 0)=>match Mb N P e,P.info? e with
  |some b,Ac a=>match a.zero with
   |some z=>match parse N 16 b z.cells.toList,Dc P e (b.sz N)with
    |some (x,[]),Bp=>gJ (Aw S q) λm=>match m with
     |0=>C7
     |m+1=>Ag (m+1<=Ni P e) (k ⟨.AH nk,[],[(nk, .row e b (Uh (m+1) x))]⟩ (nk+1))
    |_,_=>C7
   |none=>C7
  |_,_=>C7
 |_,_,_=>C7
theorem pO(l:o.op= .call {callee:= .builtin .append,args:= #[p,q],argTypes:= #[t,tn]})(T:∀j,nk<=j->Rr j=C7)(h:sE P S nk p q t tn k=Ac r):A1 P C S Rr nk o k r:=by
 have n:∀ {η:Nat->BZ} {H:Hp} {a:Act},(∀x∈o.op.operands,(Aw S x).is C η H (a.eval x))->(Aw S p).is C η H (a.eval p):=λd=>d p (by grind[ax,gB]);have s:∀ {η:Nat->BZ} {H:Hp} {a:Act},(∀x∈o.op.operands,(Aw S x).is C η H (a.eval x))->(Aw S q).is C η H (a.eval q):=λd=>d q (by simp_all[ax,gB]);unfold sE at h;split at h
 ·rename_i e kn X w W;split at h
  ·rename_i te A Y U;split at h
   ·rename_i z hz;split at h
    ·rename_i x u K;obtain⟨m,h,V⟩:=Ov (C:=C) h;split at h;· cases h
     ·replace h:=AF h;obtain⟨hc,h⟩:=h;obtain⟨bytes,z',g,y,I,M,_⟩:=Eb K;obtain⟨i,Q⟩:=M _ hc;refine .new h (Afd (T nk (Aac _)) λη H O a d hr=>?_) λ_ _=>trivial;obtain⟨ik,Z⟩:=V (s d);have b:=n d;rw[W]at b;obtain⟨i',D,g1,g2,E⟩:=g.ex;have F:i'=A:=by rw[U]at D;exact(Abs D).symm
      subst F;have G:z'=z:=by rw[hz]at E;exact(Abs E).symm
      subst G;obtain⟨pre,B,f⟩:=CE (H:=H) u;rw[Adh]at B;rw[l];refine(dC X w g y i (by omega) I b Z (by rw[B];exact f)).mono ?_;rintro v H' O' ⟨⟨rfl,xs,rfl,L⟩,J⟩;exact⟨rfl,_,v,rfl,⟨xs,by rw[AA],L⟩,by rw[AA],J⟩
    trivial
   grind
  grind
 grind
def rF(P:GQ)(S:Nat->SV N.T)(nk:Nat)(x:Dn)(t:Gs)(k:Bx N.T->Nat->Option R):Option R:=match P.underlying t,Aw S x with
 |some (.slice _), .raw (.slice C7 0 0)=>k ⟨.na 0,[],[]⟩ nk
 |_,_=>C7
theorem pG(f:o.op= .call {callee:= .builtin .cap,args:= #[x],argTypes:= #[t]})(h:rF P S nk x t k=Ac r):A1 P C S Rr nk o k r:=by
 unfold rF at h;split at h;· rename_i e j i;refine .y h (Abu λη H O a l _=>?_) λ_ _=>trivial;have c:=l x (by grind[ax,gB]);rw[i]at c;refine⟨.int .i64 ((0:Nat):Int),?_,rfl,Abe _⟩;rw[f];refine Au.Ao λm w n d _ g _=>?_;have:=g x _ (congrArg Ac c);simp[Kt,d,this,resolve,invoke,builtin,Builtin.cap_,AX j,goInt]
 grind
def rD(P:GQ)(S:Nat->SV N.T)(nk:Nat)(t:Gs)(x y:Dn)(k:Bx N.T->Nat->Option R):Option R:=match P.underlying t,Aw S x,Aw S y with
 |some (.slice e), .raw (.slice C7 0 0), .na 0=>match(P.info? e).isSome with
  |true=>k ⟨.raw (.slice C7 0 0),[],[]⟩ nk
  |false=>C7
 |_,_,_=>C7
theorem gx{y:Dn}(f:o.op= .slice t x C7 (Ac y) C7)(h:rD P S nk t x y k=Ac r):A1 P C S Rr nk o k r:=by
 unfold rD at h;split at h
 ·rename_i e p n q;split at h;· rename_i d;obtain⟨s,d⟩:=Abk.1 d;refine .y h (Abu λη H O a j _=>?_) λ_ _=>trivial;have b:=j x (by grind[ax]);have c:=j y (by rw[f];simp[ax]);rw[n]at b;rw[q]at c;have c:a.eval y= .int .i64 ((0:Nat):Int):=c.1;refine⟨.slice C7 0 0,?_,rfl⟩;rw[f];refine Au.Ao λu w v g _ i _=>?_;have l:=i x _ (congrArg Ac b);have m:=i y _ (congrArg Ac c);simp[Kt,g,l,m,sL,Instr.slice,Instr.sliceBounds,Instr.sliceBound,AX p,sizeOf,typeInfo,d,asIntOf,asInt]
  grind
 grind
end
end
section
variable {N : C9} {R : Type} {P : GQ} {C : List (SV N.T)} {S : Nat -> SV N.T} {Rr : Nat -> Option (SR N.T)} {nk : Nat} {o : K_} {k : Bx N.T -> Nat -> Option R} {r : R}
section
variable{t:Gs}{x:Dn}{e:Gs}{H:Hp}{a:Option Addr}{n:Nat}{T:Gs}{O:List Ax}{size bytes:Nat}{z:BZ}{cap:Nat}{kh km:Lr}{h m:Int}{s:Dn}{d:Gs}{E:Dn->Option BZ}
theorem fR{kl:Lr}{l:Int}(ht:P.underlying t=Ac (.slice e))(d:TI P e size bytes z)(h0:0<=l)(h1:l<=h)(h2:h<=m)(h3:m<=(cap:Nat))(w:IW):
  (sL t (.slice a n cap) (Ac (.int kl l)) (Ac (.int kh h)) (Ac (.int km m))).run P w= .ok (sliced a l.toNat h.toNat m.toNat size) w:=by
 have b:=Qv ht;have c:(rU (P.elem t)).run P w= .ok size w:=by rw[Qw ht];exact d.sizeOf
 grind[iX,run_sliceAt_slice,run_slice_lhm]
theorem fS(ht:P.underlying t=Ac (.slice e))(d:TI P e size bytes z)(h0:0<=h)(h2:h<=m)(h3:m<=(cap:Nat))(w:IW):
  (sL t (.slice a n cap) C7 (Ac (.int kh h)) (Ac (.int km m))).run P w= .ok (sliced a 0 h.toNat m.toNat size) w:=by
 have b:=Qv ht;have c:(rU (P.elem t)).run P w= .ok size w:=by rw[Qw ht];exact d.sizeOf
 grind[iX,run_sliceAt_slice,run_slice_hm]
def cJ(P:GQ)(S:Nat->SV N.T)(Rr:Nat->Option (SR N.T))(nk:Nat)(t:Gs)(x:Dn)(lo:Option Dn)(hi f:Dn)(k:Bx N.T->Nat->Option R):Option R:=match P.underlying t,intOf (Aw S hi),intOf (Aw S f)with
 |some (.slice e),Ac (_,h),Ac (_,m)=>match lo,Aw S x with
  |some lo, .AH b=>match Rr b,intOf (Aw S lo)with
   |some (.row g c l),Ac (_,a)=>match Hj g e&&Dc P e (c.sz N)with
    |true=>Ag ((0<=a/\a<h)/\(h=m/\m<=((l.length:Nat):Int))) (k ⟨.px [b] (.sub a.toNat (h-a).toNat c),[b],[]⟩ nk)
    |false=>C7
   |_,_=>C7
  |none, .d (.sl c) l=>match Dc P e (c.sz N)with
   |true=>Ag (h=((EW (show List (c.den N.T)from l):Nat):Int)/\m=h) (k ⟨.px [] (.dx c l),[],[]⟩ nk)
   |false=>C7
  |_,_=>C7
 |_,_,_=>C7
theorem gy{lo:Option Dn}{hi V:Dn}(ho:o.op= .slice t x lo (Ac hi) (Ac V))(h:cJ P S Rr nk t x lo hi V k=Ac r):A1 P C S Rr nk o k r:=by
 have f:∀ {η:Nat->BZ} {H:Hp} {a:Act} {y:Dn},y=x\/y=hi\/y=V\/Ac y=lo->(∀x∈o.op.operands,(Aw S x).is C η H (a.eval x))->(Aw S y).is C η H (a.eval y):=λ{η H a y} Z s=>s y (by
  rw[ho];cases lo with
  |none=>rcases Z with rfl|rfl|rfl|Z<;>first|(cases Z)|simp[ax]
  |some z=>rcases Z with rfl|rfl|rfl|Z<;>first|grind[ax]|simp[ax]);unfold cJ at h;split at h;case h_2=>grind
 rename_i e kh q km mm ht hhi hmx;split at h
 ·rename_i lo b hs;split at h
  ·rename_i g J l ka A hb hlo;split at h
   ·rename_i hI;obtain⟨⟨⟨W,c2⟩,c3,c4⟩,h⟩:=AF h;rw[AT]at hI;obtain⟨bytes,z,U,hzs,M,hbb,_⟩:=Eb hI.2;refine .y h (λη H Of a w Y hn' T hinv s G hfr K Q hK=>?_) λτ _=>trivial;rcases G b (.inl (by simp)) _ hb with e|⟨X,h1,xs,e3,hL⟩;· grind
    subst e3;obtain⟨i,h2,_⟩:=Jk Of hn' h1;have e1:a.eval x=η b:=by
     have:(SV.AH b:SV N.T).is C η H (a.eval x):=by grind
     exact this.1
    have L:=AU hhi (f (.inr (.inl rfl)) s);have e3:=AU hmx (f (.inr (.inr (.inl rfl))) s);have e4:=AU hlo (f (.inr (.inr (.inr rfl))) s);obtain⟨d,c,e5,hle⟩:∃d c,η b= .slice (Ac d) l.length c/\l.length<=c:=by
     rcases(T.IM h2).1 with⟨_,M⟩|⟨d,c,e,hc⟩;· omega
     grind
    have hop:Au P o.op o.type (EV a) H (Y.map (·.2)++Of) (.slice (Ac (d.add (A.toNat*J.sz N))) (q-A).toNat (q-A).toNat):= .Ao λE w o B _ F _=>by
     have G:=fR (a:=Ac d) (n:=l.length) (cap:=c) (kl:=ka) (kh:=kh) (km:=km) ht U W (by omega:A<=q) (by omega:q<=mm) (by omega) w;have hsl:sliced (Ac d) A.toNat q.toNat mm.toNat (J.sz N)= .slice (Ac (d.add (A.toNat*J.sz N))) (q-A).toNat (q-A).toNat:=by unfold sliced;rw[if_neg (by omega)];simp only[Adp,BZ.slice.injEq,true_and];omega
     rw[hsl]at G;have I:E.eval x= .slice (Ac d) l.length c:=F x _ (congrArg Ac (e1.trans e5));have q2:E.eval hi= .int kh q:=F hi _ (congrArg Ac L);have q3:E.eval V= .int km mm:=F V _ (congrArg Ac e3);have q4:E.eval lo= .int ka A:=F lo _ (congrArg Ac e4);rw[ho]at B;simp[Kt,B,I,q2,q3,q4,G]
    refine Aet (hop a w o rfl rfl (λx u e=>by simpa using e) T) T λw' hw'=>?_;refine hK _ w' H η Y (Hp.le.refl H) (λ_ _=>rfl) (λ_ _=>rfl) (λk sr h=>by cases h) hn' (λk hk=> .inl hk) hw' ⟨d,l.length,c,?_,by omega,rfl⟩;grind
   grind
  grind
 ·rename_i J l hs;split at h
  ·rename_i hI;obtain⟨⟨W,c2⟩,h⟩:=AF h;obtain⟨bytes,z,U,hzs,M,hbb,_⟩:=Eb hI;refine .y h (Abu λη H O a s _=>?_) λ_ _=>trivial;obtain⟨cs,⟨v,rfl,hv⟩,L⟩:(SV.d (.sl J) l:SV N.T).is C η H (a.eval x):=by rw[<-hs];exact f (.inl rfl) s
   have L:[v]=[a.eval x]:=L;cases L;have L:=AU hhi (f (.inr (.inl rfl)) s);have e3:=AU hmx (f (.inr (.inr (.inl rfl))) s);obtain⟨d,c,e5,hle⟩:∃d c,a.eval x= .slice d l.length c/\l.length<=c:=by
    rcases hv.sl with⟨e,M⟩|⟨d,c,e,hc⟩;· exact⟨C7,0,by rw[e,M],by omega⟩
    ·exact⟨Ac d,c,e,hc⟩
   obtain⟨p,hv',e6⟩:∃p,G8 (N.c J) H l (.slice p l.length l.length)/\sliced d 0 l.length l.length (J.sz N)= .slice p l.length l.length:=by
    obtain⟨⟨xs,I,q2⟩,q3⟩:=hv;rw[e5]at I;refine⟨d,⟨⟨xs,⟨I.len,?_,?_⟩,q2⟩,q3⟩,?_⟩
    ·rcases I.sl with⟨e,M⟩|⟨a',c',e,hc⟩;· left;injection e with e _ _;exact⟨by rw[e,M],M⟩
     ·right;injection e with e _ e';exact⟨a',l.length,by rw[e],Aac _⟩
    ·intro j u hj;have:=I.cells j u hj;cases d<;>exact this
    ·unfold sliced;cases d with
     |none=>simp
     |some d=>
      simp only[Adp,Aeo,Nat.sub_zero];have:d.add 0=d:=ID d;rw[this];simp
   refine⟨.slice p l.length l.length,?_,⟨p,rf⟩,[_],⟨_,rf,hv'⟩,rf⟩;rw[ho];refine .Ao λE w o B _ F _=>?_;have G:=fS (a:=d) (n:=l.length) (cap:=c) (kh:=kh) (km:=km) (h:=q) (m:=mm) ht U (by omega) (by omega) (by rw[c2,W];exact_mod_cast hle) w;rw[c2,W]at G;rw[show((l.length:Nat):Int).toNat=l.length from rfl,e6]at G;have I:E.eval x= .slice d l.length c:=F x _ (congrArg Ac e5);have q2:E.eval hi= .int kh q:=F hi _ (congrArg Ac L);have q3:E.eval V= .int km mm:=F V _ (congrArg Ac e3);rw[W]at q2;rw[c2,W]at q3;simp[Kt,B,I,q2,q3,G]
  ·cases h
 grind
def qK(P:GQ)(S:Nat->SV N.T)(Rr:Nat->Option (SR N.T))(nk:Nat)(t:Gs)(x y:Dn)(k:Bx N.T->Nat->Option R):Option R:=match P.underlying t,intOf (Aw S y),Aw S x with
 |some (.slice e),Ac (_,j), .px [b] (.sub i m c)=>match Rr b with
  |some (.row _ a l)=>match PA P e (c.sz N)&&c.JR a with
   |true=>Ag (0<=j/\j<(m:Int)) (Ab (idx l ((i:Int)+j)) λz=>k ⟨.Ec b ((i:Int)+j) 0 a z,[b],[]⟩ nk)
   |false=>C7
  |_=>C7
 |_,_,_=>C7
theorem pz{y:Dn}(u:o.op= .indexAddr t x y)(h:qK P S Rr nk t x y k=Ac r):A1 P C S Rr nk o k r:=by
 have v:∀ {η:Nat->BZ} {H:Hp} {a:Act},(∀x∈o.op.operands,(Aw S x).is C η H (a.eval x))->(Aw S x).is C η H (a.eval x):=λd=>d x (by grind[ax]);have w:∀ {η:Nat->BZ} {H:Hp} {a:Act},(∀x∈o.op.operands,(Aw S x).is C η H (a.eval x))->(Aw S y).is C η H (a.eval y):=λd=>d y (by grind[ax]);unfold qK at h;split at h;case h_2=>grind
 rename_i e X j b i m B Q L M;split at h;case h_2=>grind
 rename_i g U l K;split at h;case h_2=>grind
 rename_i s;rw[AT]at s;have I:=Adl s.2;subst I;obtain⟨bytes,zv,A⟩:=Ds s.1;obtain⟨⟨F,G⟩,h⟩:=AF h;obtain⟨z,T,h⟩:=Bi h;refine .y h (Abu λη H O a d _=>?_) λτ _ W Z Y p=>?_
 ·obtain⟨D,n,c,q,V,E⟩:(SV.px [b] (.sub i m B):SV N.T).is C η H (a.eval x):=by rw[<-M];exact v d
  have q:η b= .slice (Ac D) n c:=by simpa using q
  have J:=AU L (w d);refine⟨AW (a.eval x) (j.toNat*B.sz N),?_,?_,D,n,c,q⟩;· rw[u];exact Agf Q A rfl (.inr ⟨_,_,E,Aac _⟩) (congrArg Ac J) ⟨F,G⟩
  ·rw[E,q];simp only[AW,BZ.pointer.injEq,Aem,Nat.add_zero];rw[C8,<-Adm];congr 2;omega
 ·rw[K]at p;cases p;exact⟨Ty.SO B,by rw[T];rfl⟩
theorem jy{a:Act}{f:Ty}{l d:List (f.den N.T)}{ys:List BZ}{u:Option Addr}(ht:P.underlying t=Ac (.slice e))(hI:Dc P e (f.sz N)=Bp)(A:a.eval s= .slice u l.length l.length)(hv:G8 (N.c f) H l (.slice u l.length l.length))
  (W:A2 (N.c f) H d ys) (n:∀w,SH w H O->GK.Src w (a.eval x) (f.sz N) d.length ys) (hc:l.length+d.length<=Ni P e) (h2:d≠ []):
  BM P (.call {callee:= .builtin .append,args:= #[s,x],argTypes:= #[t,t]}) T (EV a) H O (λv' D E=>(D=H/\∃xs,E= .row v' e (f.sz N) (l++d).length xs::O/\A2 (N.c f) H (l++d) xs)/\v'.oneCell'=Bp):=by
 obtain⟨bytes,z,hz,X,G,J,_⟩:=Eb hI;obtain⟨xs,q,V⟩:=hv.ex;rw[Bn]at q;cases u with
 |none=>
  have hl:l=[]:=by rcases q.sl with⟨_,G⟩|⟨F,c',e,hc⟩;all_goals grind
  subst hl;refine BM.IP ((QQ (i:=0) (l:=[]) (xs:=[]) ht hI A rfl rfl W (λw A=>n w ?_) hc).mono ?_);· have:=A.nG 1;grind
  grind
 |some u=>
  obtain⟨hc,hbm⟩:=J _ hc;refine Aga 0 (.Ao λF w o ho hT he U=>?_) ?_
  ·obtain⟨ii,K,g1,g2,g3⟩:=hz.ex;obtain⟨y,Q⟩:=n w U;have hpos:0<d.length:=by grind
   rcases Q with⟨_,h0'⟩|⟨Z,cx,I,j⟩;· omega
   obtain⟨L,M⟩:=U.T7 q;rcases M with⟨e,_⟩|⟨ad',c',e,p⟩;· grind
   injection e with e _ _;injection e with e;subst e;obtain⟨v',w',hr,Y,k2⟩:=run_append_arg_grows (P:=P) w t o.type e ii z (f.sz N) bytes ht K g3 g1 g2 X G u l.length l.length xs L p Z d.length cx ys y j (by omega) (by simp only[maxLen,Ai]at*;omega) (by omega);refine⟨v',w',H,_,?_,Hp.le.refl H,⟨rfl,xs++ys,rfl,V.app W⟩,U.push (r:= .row v' e (f.sz N) (l++d).length (xs++ys)) k2 ?_ (λb J=>?_)⟩;· have q1:F.eval s= .slice (Ac u) l.length l.length:=he s _ (congrArg Ac A);have q2:F.eval x= .slice (Ac Z) d.length cx:=he x _ (congrArg Ac I);simp[Kt,ho,resolve,invoke,builtin,q1,q2,hr,iX]
   ·rw[Aaa];exact⟨Y.1,Y.2.imp id λ⟨g,cap,cur,e,_,h⟩=>⟨g,cap,cur,e,Abe _,h⟩⟩
   ·exact(IW.ownsRow.lt Y b J).1
  grind
def sF(P:GQ)(S:Nat->SV N.T)(Rr:Nat->Option (SR N.T))(nk:Nat)(s x:Dn)(t:Gs)(k:Bx N.T->Nat->Option R):Option R:=match P.underlying t,Aw S s with
 |some (.slice e), .px _ (.dx b l)=>match Dc P e (b.sz N),Xw S Rr b x with
  |true,Ac (a,c)=>Ag (l.length+a.length<=Ni P e/\0<a.length) (k ⟨.AH nk,c,[(nk, .row e b (l++a))]⟩ (nk+1))
  |_,_=>C7
 |_,_=>C7
theorem pP(i:o.op= .call {callee:= .builtin .append,args:= #[s,x],argTypes:= #[t,t]})(B:∀j,nk<=j->Rr j=C7)(h:sF P S Rr nk s x t k=Ac r):A1 P C S Rr nk o k r:=by
 have m:∀ {η:Nat->BZ} {H:Hp} {a:Act},(∀x∈o.op.operands,(Aw S x).is C η H (a.eval x))->(Aw S s).is C η H (a.eval s):=λc=>c s (by grind[ax,gB]);have n:∀ {η:Nat->BZ} {H:Hp} {a:Act},(∀x∈o.op.operands,(Aw S x).is C η H (a.eval x))->(Aw S x).is C η H (a.eval x):=λc=>c x (by simp_all[ax,gB]);unfold sF at h;split at h;case h_2=>grind
 rename_i e I J l F E;split at h;case h_2=>grind
 rename_i V W z d;obtain⟨⟨hc,u⟩,h⟩:=AF h;refine .new h (Afd (B nk (Aac _)) λη H O a c D=>?_) λ_ _=>trivial;obtain⟨⟨T,q⟩,U,⟨v,rfl,w⟩,f⟩:(SV.px I (.dx J l):SV N.T).is C η H (a.eval s):=by rw[<-E];exact m c
 have f:[v]=[a.eval s]:=f;cases f;obtain⟨X,G,p⟩:=LK d (n c) D;rw[i];rw[q]at w;refine(jy F z q w G p hc (λe=>by rw[e]at u;simp at u)).mono ?_;rintro K M Q ⟨⟨rfl,L,rfl,A⟩,y⟩;exact⟨rfl,_,K,rfl,⟨L,by rw[AA],A⟩,by rw[AA],y⟩
def pY(P:GQ)(S:Nat->SV N.T)(nk:Nat)(t:Gs)(x:Dn)(k:Bx N.T->Nat->Option R):Option R:=match P.underlying t,Aw S x with
 |some (.slice _), .d (.sl a) l=>match(show List (a.den N.T)from l)with
  | []=>k ⟨.px [] .ub,[],[]⟩ nk
  |_::_=>k ⟨.lb Aj,[],[]⟩ nk
 |_,_=>C7
theorem V2{b:BinOp}(j:b= .eql){Ty:Gs}{c:Nat}(ht:P.underlying t=Ac (.slice e))(m:E x=Ac (.slice a n c)):Au P (.binOp b t x (.const (.slice C7 0 0)) Ty) T E H O (.bool a.isNone):= .Ao λg w o l _ i p=>by
 have h:(binOp .eql t (.slice a n c) (.slice C7 0 0)).run P w= .ok (.bool a.isNone) w:=by
  have h:∀d:Nat,(lE (d+1) t (.slice a n c) (.slice C7 0 0)).run P w= .ok a.isNone w:=λd=>by cases a<;>simp[lE,AX ht]
  simp_all[binOp,pure,bool,rS,Alr]
 have hc:g.eval (.const (.slice C7 0 0))= .slice C7 0 0:=rfl;simp_all[Kt,eqGuard]
theorem o8{Ty:Gs}(m:o.op= .binOp .eql t x (.const (.slice C7 0 0)) Ty)(h:pY P S nk t x k=Ac r):A1 P C S Rr nk o k r:=by
 have p:∀ {η:Nat->BZ} {H:Hp} {a:Act},(∀x∈o.op.operands,(Aw S x).is C η H (a.eval x))->(Aw S x).is C η H (a.eval x):=λd=>d x (by grind[ax]);unfold pY at h;split at h;case h_2=>grind
 rename_i e q l u B;have key:∀ {η:Nat->BZ} {H:Hp} {a:Act},(∀x∈o.op.operands,(Aw S x).is C η H (a.eval x))->∃b n c,a.eval x= .slice b n c/\(b=C7->n=0)/\n=(show List (q.den N.T)from l).length:=λ{η H a} d=>by
  obtain⟨F,⟨v,rfl,D⟩,f⟩:(SV.d (.sl q) l:SV N.T).is C η H (a.eval x):=by grind
  have f:[v]=[a.eval x]:=f;rcases D.sl with⟨e,w⟩|⟨b,c,e,_⟩;all_goals grind
 split at h;· refine .y h (Abu λη H O a d _=>?_) λ_ _=>trivial;obtain⟨b,n,c,i,_,_⟩:=key d;exact⟨_,by rw[m];exact V2 rfl u (congrArg Ac i),_,rfl⟩
 ·refine .y h (Abu λη H O a d _=>?_) λ_ _=>trivial;obtain⟨b,n,c,i,f,s⟩:=key d;refine⟨_,by rw[m];exact V2 rfl u (congrArg Ac i),?_⟩;cases b with
  |some b=>rfl
  |none=>
   grind
def Yz:List Int->Aq:=λl=>l.map λn=>UInt8.ofNat n.toNat
theorem bj{H:Hp} :∀ {l:List Int} {xs:List BZ},A2 (N.c (.int .u8)) H l xs->xs=(Yz l).map λb=>BZ.int .u8 (b.toNat:Int)
 | [],_,h=>h
 |n::l,_,⟨g,xs,e,a,f⟩=>by
  obtain⟨a,c⟩:=D4.1 a;have c:0<=n/\n<=255:=c;subst e;subst a;have d:((UInt8.ofNat n.toNat).toNat:Int)=n:=by grind[UInt8.toNat_ofNat']
  rw[bj f];show [BZ.int .u8 n]++_=BZ.int .u8 ((UInt8.ofNat n.toNat).toNat:Int)::_;rw[d];rfl
def rW(P:GQ)(S:Nat->SV N.T)(nk:Nat)(s d:Gs)(x:Dn)(k:Bx N.T->Nat->Option R):Option R:=match P.underlying s,P.underlying d,Aw S x with
 |some (.slice e),Ac .string, .d (.sl (.int .u8)) l=>match P.underlying e with
  |some (.int .u8)=>k ⟨.d .str (Yz l),[],[]⟩ nk
  |_=>C7
 |some (.slice e),Ac .string, .raw (.slice C7 0 0)=>match P.underlying e with
  |some (.int .u8)=>k ⟨.d .str [],[],[]⟩ nk
  |_=>C7
 |some (.int _),Ac .string,s=>match intOf s with
  |some (_,n)=>Ag (0<=n/\n<128) (k ⟨.d .str [UInt8.ofNat n.toNat],[],[]⟩ nk)
  |none=>C7
 |_,_,_=>C7
theorem Yi{n:Int}(h0:0<=n)(h1:n<128):Utf8.encode n=⟨⟨[UInt8.ofNat n.toNat]⟩⟩:=by grind[Utf8.valid,validRune,Utf8.encode]
theorem WX{s:Gs}{l:List Int}{v:BZ}(u:P.underlying s=Ac (.slice e))(n:P.underlying d=Ac .string)(p:P.underlying e=Ac (.int .u8))(y:E x=Ac v)(G:G8 (N.c (.int .u8)) H l v):Au P (.convert s d x) T E H O (sv (Yz l)):= .Ao λJ w o t _ m I=>by
 obtain⟨K,B,g⟩:=G.ex;have i:=bj g;obtain⟨q,hc⟩:=I.T7 B;rcases hc with⟨rfl,A⟩|⟨z,c,rfl,a⟩
 ·have F:l=[]:=OF.1 A;subst F;have:=run_convert_bytes_string (P:=P) w s d e C7 0 0 u p n;have g:(Conv.bytesToString (.slice C7 0 0)).run P w= .ok (.string ByteArray.empty) w:=by rfl
  rw[g]at this;simp[Kt,t,m x _ y,this];rfl
 ·have h:(Yz l).length=l.length:=by simp[Yz]
  have:=run_convert_bytes_back (P:=P) w s d e z c (Yz l) u p n (λj D=>a j _ (by grind));rw[h]at this;simp only[Kt,t,m x _ y];simp;erw [this];rfl
theorem pI{s:Gs}(g:o.op= .convert s d x)(h:rW P S nk s d x k=Ac r):A1 P C S Rr nk o k r:=by
 have b:∀ {η:Nat->BZ} {H:Hp} {a:Act},(∀x∈o.op.operands,(Aw S x).is C η H (a.eval x))->(Aw S x).is C η H (a.eval x):=λc=>c x (by grind[ax]);unfold rW at h;split at h
 ·rename_i e l j i f;split at h
  ·rename_i u;refine .y h (Abu λη H O a c _=>?_) λ_ _=>trivial;obtain⟨E,⟨v,rfl,m⟩,t⟩:(SV.d (.sl (.int .u8)) l:SV N.T).is C η H (a.eval x):=by grind
   have t:[v]=[a.eval x]:=t;cases t;exact⟨_,by rw[g];exact WX j i u rfl m,[_],rfl,rfl⟩
  grind
 ·rename_i e j i f;split at h
  ·rename_i u;refine .y h (Abu λη H O a c _=>?_) λ_ _=>trivial;have m:a.eval x= .slice C7 0 0:=by
    have:(SV.raw (.slice C7 0 0):SV N.T).is C η H (a.eval x):=by grind
    trivial
   exact⟨_,by rw[g];exact WX (N:=N) (l:=[]) j i u (congrArg Ac m) G8.nil,[_],rf,rf⟩
  grind
 ·rename_i q j i;split at h;· rename_i B n A;obtain⟨hc,h⟩:=AF h;refine .y h (Abu λη H O a c _=>?_) λ_ _=>trivial;have m:=AU A (b c);refine⟨sv [UInt8.ofNat n.toNat],?_,[_],rfl,rfl⟩;rw[g];refine .Ao λD w o g _ z F=>?_;have:=run_convert_int_string (P:=P) w s d B n (by rw[j];rfl) i;rw[Yi hc.1 hc.2]at this;simp[Kt,g,z x _ (congrArg Ac m),this];rfl
  trivial
 grind
end
end
section
variable {P : GQ} {T : Gs} {E : Dn -> Option BZ} {H : Hp} {O : List Ax}
theorem Ajs{s x:Dn}{t u e:Gs}{v:BZ}{i m:Nat}{str:Aq}{xs:List BZ}(ht:P.underlying t=Ac (.slice e))(y:P.underlying u=Ac .string)(Z:TI P e 1 1 (.int .u8 0))(Y:E s=Ac v)(L:E x=Ac (sv str))
  (hi:O[i]?=Ac (.row v e 1 m xs)) (hb:m+str.length<=Ai):
  BM P (.call {callee:= .builtin .append,args:= #[s,x],argTypes:= #[t,u]}) T E H O (λv' N R=>N=H/\R=O.set i (.row v' e 1 (m+str.length) (xs++Lib.byteCells str))):=by
 intro a w o next Q X hT J K k;have c:=K.ok i _ hi;obtain⟨ii,j,q,A,B⟩:=Z.ex;have d:(ByteArray.mk (Array.mk str)).size=str.length:=rfl;have F:Lib.strCells (ByteArray.mk (Array.mk str))=Lib.byteCells str:=rfl;obtain⟨v',w',r,M,k2,k3⟩:=Lib.run_append_own_string (P:=P) w 0 t u o.type e ii ht y j B q A v m xs c ⟨⟨str⟩⟩ (by simp only[maxLen,Ai]at*;omega) (by grind) (Abe _);unfold K_.wp;simp only[sv]at L;simp[Kt,X,resolve,invoke,builtin,J s _ Y,J x _ L,r,iX];refine k v' w' H _ (Hp.le.refl H) ⟨rfl,rfl⟩ (K.set hi k2 M (λb h=>?_));rcases c.2 with⟨rfl,D⟩|⟨g,cap,cur,rfl,_,V,W,U,C,G⟩;· right;subst D;have I:xs=[]:=Abb (by rw[c.1,Aeo]);obtain⟨v2,w2,f,q1,_,_⟩:=Lib.run_append_own_string (P:=P) w w.heap.size t u o.type e ii ht y j B q A (.slice C7 0 0) 0 [] (IW.ownsRow_nil w _ e _) ⟨⟨str⟩⟩ (by simp only[maxLen,Ai]at*;omega) (by grind) (Aac _);rw[r]at f;injection f with p z;subst p;exact(IW.ownsRow.lt q1 b h).1
 ·by_cases l:m+str.length<=cap;· left;have f:=Lib.run_append_room_string (P:=P) w t u o.type e ii ht y j q g m cap cur V ⟨⟨str⟩⟩ l (by omega);rw[r]at f;injection f with p z;rw[p]at h;exact h
  ·have f:=Lib.run_append_grow_string (P:=P) w t u o.type e ii (.int .u8 0) ht y j B ⟨g,0,C7⟩ m cap xs (by rw[c.1,q]) (c.cells (g:=g) rfl) ⟨⟨str⟩⟩ (by omega) (by simp only[Ai]at*;omega) (by rw[A,d];exact growslice_fits (by omega) (by simp only[Ai]at*;omega));grind[Ax.has,BZ.ownBlock]
end
section
variable {N : C9} {R : Type} {P : GQ} {C : List (SV N.T)} {S : Nat -> SV N.T} {Rr : Nat -> Option (SR N.T)} {nk : Nat} {o : K_} {k : Bx N.T -> Nat -> Option R} {r : R}
section
variable{t:Gs}{x:Dn}{H:Hp}{e:Gs}
def dm:Aq->List Int:=λl=>l.map λb=>(b.toNat:Int)
theorem V'{H:Hp} :∀l:Aq,A2 (N.c (.int .u8)) H (dm l) (Lib.byteCells l)
 | []=>rfl
 |b::l=>⟨[.int .u8 (b.toNat:Int)],Lib.byteCells l,rfl,D4.2 ⟨rfl,by have:=b.toNat_lt;show(0:Int)<=b.toNat/\(b.toNat:Int)<=255;omega⟩,V' l⟩
def u8I(P:GQ)(e:Gs):Bool:=match P.info? e with
 |some a=>Hj a.size 1&&(Hj a.bytes 1&&match a.zero with
  |some (.int .u8 0)=>Bp
  |_=>Aj)
 |none=>Aj
theorem oo(h:u8I P e=Bp):TI P e 1 1 (.int .u8 0):=by
 unfold u8I at h;split at h
 ·rename_i a f;simp only[AT]at h;obtain⟨c,d,b⟩:=h;split at b;· rename_i g;exact⟨a,f,AI c,AI d,g⟩
  grind
 grind
def sG(P:GQ)(S:Nat->SV N.T)(Rr:Nat->Option (SR N.T))(nk:Nat)(s x:Dn)(t u:Gs)(k:Bx N.T->Nat->Option R):Option R:=match P.underlying t,P.underlying u,Aw S s,To (Aw S x)with
 |some (.slice e),Ac .string, .AH b,Ac str=>match Rr b with
  |some (.row g (.int .u8) l)=>match Hj g e&&u8I P e with
   |true=>Ag (EW (show List Int from l)+str.length<=Ai) (k ⟨.AH nk,[],[(nk, .row g (.int .u8) (show List Int from(show List Int from l)++dm str)),(b, .gone)]⟩ (nk+1))
   |false=>C7
  |_=>C7
 |_,_,_,_=>C7
theorem pQ{s:Dn}{u:Gs}(w:o.op= .call {callee:= .builtin .append,args:= #[s,x],argTypes:= #[t,u]})(Q:∀j,nk<=j->Rr j=C7)(h:sG P S Rr nk s x t u k=Ac r):A1 P C S Rr nk o k r:=by
 have y:∀ {η:Nat->BZ} {H:Hp} {a:Act},(∀x∈o.op.operands,(Aw S x).is C η H (a.eval x))->(Aw S s).is C η H (a.eval s):=λd=>d s (by grind[ax,gB]);have z:∀ {η:Nat->BZ} {H:Hp} {a:Act},(∀x∈o.op.operands,(Aw S x).is C η H (a.eval x))->(Aw S x).is C η H (a.eval x):=λd=>d x (by simp_all[ax,gB]);unfold sG at h;split at h;case h_2=>grind
 rename_i e b str U V T n;split at h;case h_2=>cases h
 rename_i g l A;split at h;case h_2=>cases h
 rename_i q;rw[AT]at q;have F:=AI q.1;subst F;obtain⟨hc,h⟩:=AF h;change List Int at l;refine .mov h A (Ahp A (by simp) (Q nk (Aac _)) λη H O a X i d f K Z=>?_) λ_ _=>trivial;obtain⟨Y,G,M⟩:=K;subst G;have B:=y d;rw[T]at B;have I:a.eval x=sv str:=I4 n (z d);rw[<-B.1]at f;have v:i<O.length:=(No.1 f).1;rw[w];refine(Aga i (Ajs U V (oo q.2) rfl (congrArg Ac I) f hc) ?_).mono ?_;· rintro p D E ⟨rfl,rfl⟩;exact⟨_,_,_,_,by rw[List.getElem?_set_self v]⟩
 ·rintro p D E ⟨⟨rfl,rfl⟩,L⟩;refine⟨rfl,_,p,rfl,⟨_,?_,M.app (V' str)⟩,by rw[AA],L⟩;rw[AA];have J:EW (l++dm str)=l.length+str.length:=by simp[dm]
  show Ax.row p g 1 (l.length+str.length) _=Ax.row p g 1 (EW (l++dm str)) _;rw[J]
def rX(P:GQ)(nk:Nat)(t:Gs)(k:Bx N.T->Nat->Option R):Option R:=match P.underlying t with
 |some (.slice e)=>match Mb N P e with
  |some a=>match Dc P e (a.sz N)with
   |true=>k ⟨.AH nk,[],[(nk, .row e a [])]⟩ (nk+1)
   |false=>C7
  |none=>C7
 |_=>C7
theorem jq{size bytes:Nat}{z:BZ}{T:Gs}{E:Dn->Option BZ}{O:List Ax}(ht:P.underlying t=Ac (.slice e))(l:TI P e size bytes z):
  BM P (.buildSlice t 0 #[]) T E H O (λv d f=>d=H/\v.oneCell'=Bp/\f= .row v e size 0 []::O):= .Ao λa w o i _ m j=>by
 refine⟨.slice (Ac ⟨w.heap.size,0,C7⟩) 0 0,w.alloc (.cells #[] e),H,_,?_,Hp.le.refl H,⟨rf,rf,rf⟩,j.push (IW.grownBy_alloc w _ C7) ?_ (λb h=>by grind[Ax.has,BZ.ownBlock])⟩;· simp[Kt,i,Instr.buildSlice,AX ht,l.sizeOf,nF,newRow];grind
 ·exact⟨by simp, .inr ⟨w.heap.size,0, #[],rf,Abe _,heap_alloc_new w _,Aac _,Abe _,by simp,by simp⟩⟩
theorem pJ(i:o.op= .buildSlice t 0 #[])(g:∀j,nk<=j->Rr j=C7)(h:rX P nk t k=Ac r):A1 P C S Rr nk o k r:=by
 unfold rX at h;split at h;case h_2=>grind
 rename_i e l;split at h;case h_2=>grind
 rename_i u m;split at h;case h_2=>grind
 rename_i f;obtain⟨bytes,z,c,_⟩:=Eb f;refine .new h (Afd (g nk (Aac _)) λη H O a s q=>?_) λ_ _=>trivial;rw[i];refine(jq l c).mono ?_;rintro v n p ⟨rfl,d,rfl⟩;exact⟨rfl,_,v,rfl,⟨[],by grind[AA],rfl⟩,by rw[AA],d⟩
def oj(P:GQ)(S:Nat->SV N.T)(Rr:Nat->Option (SR N.T))(nk:Nat)(x:Dn)(T:Gs)(k:Bx N.T->Nat->Option R):Option R:=match Aw S x,P.underlying T with
 | .AH b,Ac (.pointer _)=>match Rr b with
  |some (.row _ (.int .u8) l)=>k ⟨.px [b] (.sd (EW (show List Int from l))),[b],[]⟩ nk
  |_=>C7
 |_,_=>C7
theorem o0(A:o.op= .call {callee:= .builtin .unsafeSliceData,args:= #[x],argTypes:= #[t]})(h:oj P S Rr nk x o.type k=Ac r):A1 P C S Rr nk o k r:=by
 have E:∀ {η:Nat->BZ} {H:Hp} {a:Act},(∀x∈o.op.operands,(Aw S x).is C η H (a.eval x))->(Aw S x).is C η H (a.eval x):=λI=>I x (by grind[ax,gB]);unfold oj at h;split at h;case h_2=>grind
 rename_i b J hs W;split at h;case h_2=>grind
 rename_i g l Z;refine .y h (λη H L a w Y q d M I hr hfr K Q V=>?_) λτ _=>trivial;rcases hr b (.inl (by simp)) _ Z with e|⟨X,T,xs,O,hL⟩;· grind
 subst O;obtain⟨i,U,_⟩:=Jk L q T;have m:a.eval x=η b:=by
  have:(SV.AH b:SV N.T).is C η H (a.eval x):=by grind
  exact this.1
 have c:=d.ok i _ U;have f:∀v B,SH B H (Y.map (·.2)++L)->(∃p,v= .pointer p)->(0<l.length->v=AW (η b) 0)->(Kt a.eval o).run P w= .ok (.value v) B->o.wp P a w K Q:=λv B G q1 q2 s=>by unfold K_.wp;rw[s];exact V v B H η Y (Hp.le.refl H) (λ_ _=>rfl) (λ_ _=>rfl) (λk sr h=>by cases h) q (λk hk=> .inl hk) G ⟨q1,λh=>⟨η b,rfl,q2 h⟩⟩
 rcases c.2 with⟨u,h0⟩|⟨z,cap,cur,u,_,hg,hnc,hcm,hcs,F⟩;· refine f (.pointer C7) w d ⟨C7,rfl⟩ (λh=>by omega) ?_;have h:=Lib.run_unsafeSliceData_nil (P:=P) w #[t] o.type 0 0;rw[u]at m;simp[Kt,A,resolve,invoke,builtin,m,h]
 ·by_cases n:cap=0
  ·subst n;refine f (.pointer (Ac ⟨w.heap.size,0,C7⟩)) (w.alloc (.view ⟨z,0,C7⟩ J)) ?_ ⟨_,rfl⟩ (λh=>by omega) ?_;· have:=(d.alloc (.view ⟨z,0,C7⟩ J)).drop 0;simpa using this
   ·have h:=Lib.run_unsafeSliceData_zero (P:=P) w #[t] o.type J W ⟨z,0,C7⟩ l.length (sh:=(g,cur.size)) (by simp[IW.shape?,hg]);rw[u]at m;simp[Kt,A,resolve,invoke,builtin,m,h]
  ·refine f (AW (η b) 0) w d ⟨_,by rw[u];rfl⟩ (λ_=>rfl) ?_;have h:=Lib.run_unsafeSliceData_row (P:=P) w #[t] o.type ⟨z,0,C7⟩ l.length cap n;rw[u]at m⊢;simp[Kt,A,resolve,invoke,builtin,m,h,AW,xz]
def oh(P:GQ)(S:Nat->SV N.T)(Rr:Nat->Option (SR N.T))(nk:Nat)(x y:Dn)(pt:Gs)(k:Bx N.T->Nat->Option R):Option R:=match Aw S x,intOf (Aw S y),P.underlying pt with
 | .px [b] (.sd m),Ac (.i64,n),Ac (.pointer e)=>match Rr b,Hj (P.cellsOf e) 1 with
  |some (.row g (.int .u8) l),Bp=>match Hj g e with
   |true=>Ag (n=((EW (show List Int from l):Nat):Int)/\m=EW (show List Int from l)) (k ⟨.d .str (Yz l),[],[(b, .gone)]⟩ nk)
   |false=>C7
  |_,_=>C7
 |_,_,_=>C7
theorem oZ{y:Dn}{pt it:Gs}(U:o.op= .call {callee:= .builtin .unsafeString,args:= #[x,y],argTypes:= #[pt,it]})(h:oh P S Rr nk x y pt k=Ac r):A1 P C S Rr nk o k r:=by
 have hox:∀ {η:Nat->BZ} {H:Hp} {a:Act},(∀x∈o.op.operands,(Aw S x).is C η H (a.eval x))->(Aw S x).is C η H (a.eval x):=λD=>D x (by grind[ax,gB]);have hoy:∀ {η:Nat->BZ} {H:Hp} {a:Act},(∀x∈o.op.operands,(Aw S x).is C η H (a.eval x))->(Aw S y).is C η H (a.eval y):=λD=>D y (by simp_all[ax,gB]);unfold oh at h;split at h;case h_2=>grind
 rename_i b m n e hs hn hpt;split at h;case h_2=>grind
 rename_i g l O hce;split at h;case h_2=>grind
 rename_i hge;have:=AI hge;subst this;change List Int at l;obtain⟨⟨V,W⟩,h⟩:=AF h;have t:(Yz l).length=l.length:=by simp[Yz]
 refine⟨_,nk,h,λη H L a w Y I A hinv D hr hfr K Q hK=>?_,Aac _,λj d f=>?_,λτ _=>trivial⟩
 ·rcases hr b (.inr (by simp[keys])) _ O with e|⟨X,h1,xs,e3,hL⟩;· grind
  subst e3;obtain⟨i,M,h3⟩:=Jk L I h1;obtain⟨⟨p,hp⟩,hsd⟩:(SV.px [b] (.sd m):SV N.T).is C η H (a.eval x):=by rw[<-hs];exact hox D
  have ey:=AU hn (hoy D);rw[V,<-t]at ey;have F:∀s,SH s H ((Ik Y b .emp).map (·.2)++L)->K (a.put o.dst (sv (Yz l))) s:=λs c=>
   hK _ s H η (Ik Y b .emp) (Hp.le.refl H) (λ_ _=>rfl) (λj d=>Pu λe=>d (by subst e;simp[keys])) (λj sr d=>by
    simp only[Ay]at d;split at d;· cases d;exact .inl rfl
    ·cases d) (by rw[EM];exact I) (λj d=> .inl (by rw[EM]at d;exact d)) c ⟨[_],rfl,rfl⟩;by_cases h0:l=[]
  ·subst h0;have z:Au P o.op o.type (EV a) H (Y.map (·.2)++L) (sv (Yz [])):=by
    rw[U];exact Aku (congrArg Ac hp) (congrArg Ac ey)
   refine Aet (z a w o rfl rfl (λx u e=>by simpa using e) A) A λs c=>F s ?_;rw[<-h3];exact c.set M ⟨rfl,rfl,rfl,Aac _,λ_ _ _=>rfl⟩ trivial (λb O=>by cases O)
  ·have J:0<m:=by rw[W];exact Aeb.2 h0
   obtain⟨u,Z,e6⟩:=hsd J;have Z:u=η b:=by simpa using Z.symm
   subst Z;have hLB:A2 cBy H (Yz l) xs:=Wa.2 (bj hL);have M:(Y.map (·.2)++L)[i]?=Ac (.row (η b) g 1 (Yz l).length xs):=by rw[t];exact M
   have z:=BM.unsafeString (P:=P) (T:=o.type) (E:=EV a) (x:=x) (y:=y) (pt:=pt) (it:=it) (e:=g) hpt (AI hce) (congrArg Ac e6) (congrArg Ac ey) M hLB (λe=>h0 (by have:=congrArg EW e;rw[t]at this;exact OF.1 this));refine z a w o K Q U rfl (λx u e=>by simpa using e) A λv s H' O' hle ⟨e7,e8,e9⟩ c=>?_;subst e7;subst e8;subst e9;rw[h3]at c;exact F s c
 grind[keys]
end
end
section
variable {P : GQ} {H : Hp} {O : List Ax} {E : Dn -> Option BZ} {T : Gs} {x y : Dn} {kk : Lr} {m n : Int} {tys : Array Gs}
theorem Au.max2(f:E x=Ac (.int kk m))(g:E y=Ac (.int kk n)):Au P (.call {callee:= .builtin .max,args:= #[x,y],argTypes:=tys}) T E H O (.int kk (if n>m then n else m)):= .Ao λa w o e _ d _=>by simp[Kt,e,d x _ f,d y _ g,resolve,invoke,builtin,Builtin.max_,Builtin.max2]
theorem Au.min2(f:E x=Ac (.int kk m))(g:E y=Ac (.int kk n)):Au P (.call {callee:= .builtin .min,args:= #[x,y],argTypes:=tys}) T E H O (.int kk (if n<m then n else m)):= .Ao λa w o e _ d _=>by simp[Kt,e,d x _ f,d y _ g,resolve,invoke,builtin,Builtin.min_,Builtin.min2]
theorem Aju{t e:Gs}{size:Nat}{ii:TypeInfo}{v z:BZ}{i m f:Nat}{xs d:List BZ}(ht:P.underlying t=Ac (.slice e))(B:P.info? e=Ac ii)(Y:ii.size=size)(C:tys[0]?=Ac t)(hx:E x=Ac v)(hy:E y=Ac z)
  (hi:O[i]?=Ac (.row v e size m xs)) (q:∀w,SH w H O->GK.Src w z size f d) (h1:∀u∈d,u.oneCell'=Bp):
  BM P (.call {callee:= .builtin .copy,args:= #[x,y],argTypes:=tys}) T E H O (λv' H' O'=>H'=H/\O'=O.set i (.row v e size m (d.take (min f m*size)++xs.drop (min f m*size)))/\v'= .int .i64 (min f m:Nat)):=by
 intro a w o next Q ho hT he N k;have r:=N.ok i _ hi;obtain⟨J,q⟩:=q w N;have Z:=r.1;have sx:=he x _ hx;have sy:=he y _ hy;have s:min f m=0->(wH tys o.type #[v,z]).run P w= .ok (goInt 0) w->o.wp P a w next Q:=λh0 X=>by
  unfold K_.wp;simp[Kt,ho,resolve,invoke,builtin,sx,sy,X,iX];refine k _ w H _ (Hp.le.refl H) ⟨rfl,rfl,?_⟩ ?_;· rw[h0];rfl
  ·rw[h0];simp_all[Aeo,Aec,Afa,Ach,Rx]
 rcases r.2 with⟨rfl,rfl⟩|⟨g,cap,cur,rfl,U,hg,W,G,S,D⟩
 ·refine s (by simp) ?_;rcases q with⟨rfl,rfl⟩|⟨L,c,rfl,p⟩;· simp[wH,C,run_underlying ht,Builtin.lenOf,wU,sizeOf,typeInfo,B]
  ·have:=run_loadCells_list (P:=P) w L [] (λj v h=>by grind);simp at this;simp[wH,C,run_underlying ht,Builtin.lenOf,wU,sizeOf,typeInfo,B,this]
 ·rcases q with⟨rfl,rfl⟩|⟨L,c,rfl,p⟩;· refine s (by simp) ?_;simp[wH,C,run_underlying ht,Builtin.lenOf,wU,sizeOf,typeInfo,B,storeCells]
  ·have hle:min f m*size<=d.length:=by rw[J];exact Abi _ (Nat.min_le_left _ _)
   have l:(d.take (min f m*size)).length=min f m*size:=by rw[Abh];omega
   have hl:=run_loadCells_list (P:=P) w L (d.take (min f m*size)) (λj u M=>p j u (by
    rw[Aht]at M;split at M;· exact M
    ·cases M));rw[l]at hl;have I:min f m*size<=cur.size:=by rw[S];exact Abi _ (by omega)
   have K:=run_storeCells_at P g 0 e (d.take (min f m*size)) 0 cur w hg (by simpa [l]using I) (λu hu=>h1 u (Acj hu));simp only[Abm,Aec,Ach,l]at K;have X:(wH tys o.type #[.slice (Ac ⟨g,0,C7⟩) m cap, .slice (Ac L) f c]).run P w= .ok (goInt (Nat.min f m:Nat)) (w.setRow g (d.take (min f m*size)++cur.toList.drop (min f m*size)).toArray):=by simp[wH,C,run_underlying ht,Builtin.lenOf,wU,sizeOf,typeInfo,B,Y,hl,K]
   unfold K_.wp;simp[Kt,ho,resolve,invoke,builtin,sx,sy,X,iX];refine k _ _ H _ (Hp.le.refl H) ⟨rfl,rfl,by simp[goInt,Nat.min_def]⟩ (N.set hi (E4 w g _) ?_ (λb hb=> .inl hb));refine⟨?_, .inr ⟨g,cap,(d.take (min f m*size)++cur.toList.drop (min f m*size)).toArray,rfl,U,setRow_heap w g cur _ e _ hg,W,G,?_,?_⟩⟩;· rw[Aaa,l,Ajh,Z];have:min f m*size<=m*size:=Abi _ (Nat.min_le_right _ _);omega
   ·simp[l];omega
   ·have V:min f m*size<=m*size:=Abi _ (Nat.min_le_right _ _);simp only[Adu,l];rw[Abl (by rw[l];exact V),<-D,Agw]
end
section
variable {N : C9} {R : Type} {P : GQ} {C : List (SV N.T)} {S : Nat -> SV N.T} {Rr : Nat -> Option (SR N.T)} {nk : Nat} {o : K_} {k : Bx N.T -> Nat -> Option R} {r : R}
section
variable{x y:Dn}{tys:Array Gs}{α:Type}{t:Gs}
def qi(S:Nat->SV N.T)(nk:Nat)(x y:Dn)(k:Bx N.T->Nat->Option R):Option R:=match intOf (Aw S x),intOf (Aw S y)with
 |some (a,m),Ac (b,n)=>match kb a b with
  |true=>Aa a (if n>m then n else m) (k ⟨.d (.int a) (if n>m then n else m),[],[]⟩ nk)
  |false=>C7
 |_,_=>C7
def qg(S:Nat->SV N.T)(nk:Nat)(x y:Dn)(k:Bx N.T->Nat->Option R):Option R:=match intOf (Aw S x),intOf (Aw S y)with
 |some (a,m),Ac (b,n)=>match kb a b with
  |true=>Aa a (if n<m then n else m) (k ⟨.d (.int a) (if n<m then n else m),[],[]⟩ nk)
  |false=>C7
 |_,_=>C7
theorem pf(c:o.op= .call {callee:= .builtin .max,args:= #[x,y],argTypes:=tys})(h:qi S nk x y k=Ac r):A1 P C S Rr nk o k r:=by
 unfold qi at h;split at h
 ·rename_i q m p n j l;split at h;· rename_i i;have e:=OO i;subst e;obtain⟨_,d,f⟩:=BV h;refine .y f (Abu λη H O a g _=>⟨_,?_,D6 d⟩) λ_ _=>trivial;rw[c];exact Au.max2 (congrArg Ac (AU j (g x (by simp_all[ax,gB])))) (congrArg Ac (AU l (g y (by rw[c];simp[ax,gB]))))
  grind
 grind
theorem pe(c:o.op= .call {callee:= .builtin .min,args:= #[x,y],argTypes:=tys})(h:qg S nk x y k=Ac r):A1 P C S Rr nk o k r:=by
 unfold qg at h;split at h
 ·rename_i q m p n j l;split at h;· rename_i i;have e:=OO i;subst e;obtain⟨_,d,f⟩:=BV h;refine .y f (Abu λη H O a g _=>⟨_,?_,D6 d⟩) λ_ _=>trivial;rw[c];exact Au.min2 (congrArg Ac (AU j (g x (by simp_all[ax,gB])))) (congrArg Ac (AU l (g y (by rw[c];simp[ax,gB]))))
  grind
 grind
def iW{α:Type}(l a:List α):List α:=a.take (min a.length l.length)++l.drop (min a.length l.length)
theorem cO(l b:List α):(iW l b).length=l.length:=by grind[iW]
theorem OI{α:Type}{c:Cd α}{H:Hp} :∀ {l:List α} {xs:List BZ} (m:Nat),A2 c H l xs->A2 c H (l.drop m) (xs.drop (m*c.sz))
 |l,xs,0,h=>by grind
 | [],xs,m+1,h=>by grind[A2]
 |a::l,_,m+1,⟨b,d,e,g,i⟩=>by
  have:=OI m i;have e:(b++d).drop ((m+1)*c.sz)=d.drop (m*c.sz):=by
   have j:=c.len g;have f:(m+1)*c.sz=b.length+m*c.sz:=by grind
   grind[xr,List.drop_left]
  grind
def cQ(P:GQ)(S:Nat->SV N.T)(Rr:Nat->Option (SR N.T))(nk:Nat)(x y:Dn)(t:Gs)(k:Bx N.T->Nat->Option R):Option R:=match P.underlying t,Aw S x with
 |some (.slice e), .AH b=>match Rr b with
  |some (.row g c l)=>match Hj g e&&Dc P e (c.sz N),Xw S Rr c y with
   |true,Ac (a,d)=>Ag (min a.length l.length<=Ai) (k ⟨.na (min a.length l.length),d,[(b, .row g c (iW l a))]⟩ nk)
   |_,_=>C7
  |_=>C7
 |_,_=>C7
theorem gz{t2:Gs}(q:o.op= .call {callee:= .builtin .copy,args:= #[x,y],argTypes:= #[t,t2]})(h:cQ P S Rr nk x y t k=Ac r):A1 P C S Rr nk o k r:=by
 unfold cQ at h;split at h
 ·rename_i e b U T;split at h
  ·rename_i g f l A;split at h
   ·rename_i c rd n m;obtain⟨hc,h⟩:=AF h;refine .set h A (Afv A (by simp) λη H O a X i D w L Q=>?_) λ_ _=>trivial;rw[AT]at n;have I:=AI n.1;subst I;obtain⟨F,J,M⟩:=L;subst J;have B:(SV.AH b:SV N.T).is C η H (a.eval x):=by rw[<-T];exact D x (by rw[q];simp[ax,gB])
    obtain⟨G,E,s⟩:=LK m (D y (by rw[q];simp[ax,gB])) Q;obtain⟨bytes,z,V,W,_,_,_⟩:=Eb n.2;obtain⟨ii,p,K,_,_⟩:=V.ex;have j:A2 (N.c f) H (iW l c) (G.take (min c.length l.length*f.sz N)++F.drop (min c.length l.length*f.sz N)):=by have u:=A2.take (min c.length l.length) E;have v:=OI (min c.length l.length) M;rw[Bn]at u v;exact u.app v
    refine⟨.row (η b) g (f.sz N) l.length (G.take (min c.length l.length*f.sz N)++F.drop (min c.length l.length*f.sz N)),⟨_,by rw[cO],j⟩,?_⟩;rw[q];rw[<-B.1]at w;refine(Aju (tys:= #[t,t2]) U p K rfl rfl rfl w s E.one).mono ?_;rintro v' Y Z ⟨rfl,rfl,rfl⟩;refine⟨rfl,by rw[B.1],rfl,?_⟩;grind
   grind
  grind
 grind
theorem Zw{b:Ty}(a:b.agg=Aj):b.sz N=1:=by unfold Ty.agg at a;grind[Ty.sz]
def fdK(P:GQ)(S:Nat->SV N.T)(nk:Nat)(t:Gs)(x:Dn)(i:Nat)(k:Bx N.T->Nat->Option R):Option R:=match iG P t i with
 |some (off,c,m+1)=>match Mb N P c,Aw S x with
  |some b, .d a y=>match a.agg,Fj N 16 a y off b with
   |true,Ac z=>k ⟨.d b z,[],[]⟩ nk
   |_,_=>C7
  |_,_=>C7
 |_=>C7
theorem wv{i:Nat}(A:o.op= .field t x i)(h:fdK P S nk t x i k=Ac r):A1 P C S Rr nk o k r:=by
 unfold fdK at h;split at h
 ·rename_i off ft m U;obtain⟨Z,f,F,G,I,J,_⟩:=(jK.of U).ex;split at h
  ·rename_i E L y B V;split at h
   ·rename_i z s n;refine .y h (Abu λη H O a W _=>?_) λ_ _=>trivial;obtain⟨c,Q,e⟩:(SV.d L y:SV N.T).is C η H (a.eval x):=by grind[ax]
    have e:(match L.agg with|true=>a.eval x= .agg c.toArray|false=>c=[a.eval x]):=e;rw[s]at e;obtain⟨d,K,j,bytes,zz,D⟩:=Ke B;obtain⟨q,v⟩:=C5 n Q;cases b:E.agg with
    |true=>
     refine⟨.agg (c.toArray.extract off (off+E.sz N)),?_,(c.drop off).take (E.sz N),q,?_⟩;· rw[A];refine Au.Ao λM w X g _ u _=>?_;have:=u x _ rf;simp[Kt,g,this,e,Instr.field,AX F,G,asAgg,part,J,I,Cg K,j,b,D.sizeOf]
     ·unfold CL;rw[b];simp only[BZ.agg.injEq];simp[List.extract_eq_take_drop]
    |false=>
     have T:=Zw (N:=N) b;rw[T]at q v;have l:off<c.length:=by omega
     have hc:(c.drop off).take 1=[c[off]]:=by rw[Aak l];rfl
     rw[hc]at q;refine⟨c[off],?_,[c[off]],q,?_⟩;· rw[A];refine Au.Ao λM w X g _ u _=>?_;have:=u x _ rfl;simp[Kt,g,this,e,Instr.field,AX F,G,asAgg,part,J,I,Cg K,j,b,l]
     ·unfold CL;rw[b]
   grind
  grind
 grind
end
end
section
variable {N : C9} {R : Type} {P : GQ} {C : List (SV N.T)} {S : Nat -> SV N.T} {Rr : Nat -> Option (SR N.T)} {nk : Nat} {o : K_} {k : Bx N.T -> Nat -> Option R} {r : R}
section
variable{H:Hp}{u t:Gs}{x y:Dn}
def Lf:Ty->Option (List Lr)
 | .int k=>Ac [k]
 | .st t=>Lf t
 | .pr a b=>match Lf a,Lf b with
  |some x,Ac y=>Ac (x++y)
  |_,_=>C7
 |_=>C7
def DE:(t:Ty)->t.den N.T->List Int
 | .int _,x=>[x]
 | .st t,x=>DE t x
 | .pr a b,x=>DE a x.1++DE b x.2
 |_,_=>[]
theorem CG:∀ {t:Ty} {x:t.den N.T} {d:List Lr},Lf t=Ac d->(DE t x).length=d.length
 | .int _,_,_,h=>by cases h;rfl
 | .st t,x,_,h=>CG (t:=t) h
 | .pr a b,x,d,h=>by
  unfold Lf at h;split at h;· rename_i p q e f;cases h;show(DE a x.1++DE b x.2).length=_;rw[Aaa,Aaa,CG e,CG f]
  grind
theorem Zl:∀ {b:List Lr} {xs:List Int} {a:List Lr} {ys:List Int},xs.length=b.length->C4 (b++a) (xs++ys)=C4 b xs++C4 a ys
 | [],[],_,_,_=>rfl
 |k::b,x::xs,_,_,h=>by grind[C4]
 | [],_::_,_,_,h=>by grind
 |_::_,[],_,_,h=>by grind
theorem D5{H:Hp} :∀ {t:Ty} {x:t.den N.T} {d:List Lr} {cs:List BZ},Lf t=Ac d->(N.c t).BO H x cs->cs=C4 d (DE t x)
 | .int k,x,_,cs,h,c=>by cases h;exact(D4.1 c).1
 | .st t,x,_,cs,h,c=>D5 (t:=t) h c
 | .pr a b,x,d,cs,h,c=>by
  unfold Lf at h;split at h;· rename_i p q e j;cases h;obtain⟨l,m,rfl,g,i⟩:=c;show _=C4 (p++q) (DE a x.1++DE b x.2);rw[Zl (CG e),<-D5 e g,<-D5 j i]
  grind
def two(C:List (SV N.T))(t:Ty)(x y:SV N.T):Option (t.den N.T×t.den N.T):=match TW C t x,TW C t y with
 |some a,Ac b=>Ac (a,b)
 |_,_=>C7
def sD(P:GQ)(t:Gs)(a:List Lr):Bool:=match P.underlying t with
 |some (.array n e)=>match P.underlying e with
  |some (.int k)=>(PA P e 1&& !P.eqGuardType P.depth t)&&(Hj a.length n&&a.all λj=>kb j k)
  |_=>Aj
 |_=>Aj
theorem L4{k:Lr} :∀ {a:List Lr} {xs:List Int},(∀j∈a,j=k)->xs.length=a.length->C4 a xs=xs.map (BZ.int k)
 | [],[],_,_=>rfl
 |j::a,x::xs,h,c=>by simp only[C4,List.zipWith_cons_cons,Aas,h j (by simp)];congr 1;exact L4 (λj b=>h j (by grind)) (by grind)
 | [],_::_,_,h=>by grind
 |_::_,[],_,h=>by rfl
theorem Akg{O:List Ax}{E:Dn->Option BZ}{T:Gs}{ne:Bool}{d:List Lr}{xs ys:List Int}(b:sD P t d=Bp)(g:E x=Ac (.agg (C4 d xs).toArray))(h:E y=Ac (.agg (C4 d ys).toArray))(h1:xs.length=d.length)(h2:ys.length=d.length):
  Au P (.binOp (match ne with|true=> .neq|false=> .eql) t x y u) T E H O (.bool (match ne with|true=> !decide (xs=ys)|false=>Di (xs=ys))):=by
 unfold sD at b;split at b
 ·rename_i n e p;split at b;· rename_i k l;simp only[AT,Aea]at b;obtain⟨⟨q,i⟩,c,s⟩:=b;have c:=AI c;have m:∀j∈d,j=k:=λj v=>OO (IT.1 s j v);obtain⟨bytes,z,f⟩:=Ds q;rw[L4 m h1]at g;rw[L4 m h2]at h;cases ne with
   |true=>grind[Aiw]
   |false=>exact Aiy i p l f g h (h1.trans c) (h2.trans c)
  grind
 grind
def eqK(P:GQ)(C:List (SV N.T))(S:Nat->SV N.T)(nk:Nat)(ne:Bool)(t:Gs)(x y:Dn)(k:Bx N.T->Nat->Option R):Option R:=match Mb N P t with
 |some .bs=>match P.underlying t with
  |some (.array 4 e)=>match P.underlying e,PA P e 1,P.eqGuardType P.depth t,two C .bs (Aw S x) (Aw S y)with
   |some (.int .u64),Bp,Aj,Ac (a,b)=>match ne with
    |false=>k ⟨.d .bool (fh a b),[],[]⟩ nk
    |true=>k ⟨.d .bool (!fh a b),[],[]⟩ nk
   |_,_,_,_=>C7
  |_=>C7
 |some (.st u)=>match Lf u,two C (.st u) (Aw S x) (Aw S y)with
  |some c,Ac (a,b)=>match Ss P t c with
   |true=>match ne with
    |false=>k ⟨.d .bool (Di (DE u a=DE u b)),[],[]⟩ nk
    |true=>k ⟨.d .bool (!decide (DE u a=DE u b)),[],[]⟩ nk
   |false=>match sD P t c with
    |true=>k ⟨.d .bool (match ne with|true=> !decide (DE u a=DE u b)|false=>Di (DE u a=DE u b)),[],[]⟩ nk
    |false=>C7
  |_,_=>C7
 |_=>C7
theorem Pv{t:Ty}{x y:SV N.T}{a b:t.den N.T}{η:Nat->BZ}{v w:BZ}(h:two C t x y=Ac (a,b))(e:x.is C η H v)(f:y.is C η H w):(SV.d t a).is C η H v/\(SV.d t b).is C η H w:=by grind[two,DL]
theorem ok_eq{ne:Bool}(s:o.op= .binOp (match ne with|true=> .neq|false=> .eql) t x y u)(h:eqK P C S nk ne t x y k=Ac r):A1 P C S Rr nk o k r:=by
 have v:∀ {η:Nat->BZ} {H:Hp} {a:Act},(∀x∈o.op.operands,(Aw S x).is C η H (a.eval x))->(Aw S x).is C η H (a.eval x):=λc=>c x (by grind[ax]);have A:∀ {η:Nat->BZ} {H:Hp} {a:Act},(∀x∈o.op.operands,(Aw S x).is C η H (a.eval x))->(Aw S y).is C η H (a.eval y):=λc=>c y (by grind[ax]);unfold eqK at h;split at h
 ·split at h
  ·rename_i e K;split at h
   ·rename_i a b I Q J D;obtain⟨bytes,z,B⟩:=Ds Q;have val:∀ {η:Nat->BZ} {H:Hp} {f:Act},(∀x∈o.op.operands,(Aw S x).is C η H (f.eval x))->f.eval x= .agg (Pj a)/\f.eval y= .agg (Pj b):=λc=>by
     obtain⟨⟨F,g,m⟩,G,i,n⟩:=Pv D (v c) (A c);subst g;subst i;have m:_=BZ.agg (Pj a).toList.toArray:=m;have n:_=BZ.agg (Pj b).toList.toArray:=n;exact⟨m,n⟩
    split at h;· refine .y h (Abu λη H O f c _=>?_) λ_ _=>trivial;obtain⟨p,q⟩:=val c;exact⟨_,by rw[s];exact Aik J K I B (congrArg Ac p) (congrArg Ac q),CS⟩
    ·refine .y h (Abu λη H O f c _=>?_) λ_ _=>trivial;obtain⟨p,q⟩:=val c;exact⟨_,by rw[s];exact Aig J K I B (congrArg Ac p) (congrArg Ac q),CS⟩
   grind
  grind
 ·rename_i w M;split at h
  ·rename_i L a b l D;split at h
   ·rename_i E;have val:∀ {η:Nat->BZ} {H:Hp} {f:Act},(∀x∈o.op.operands,(Aw S x).is C η H (f.eval x))->f.eval x= .agg (C4 L (DE w a)).toArray/\f.eval y= .agg (C4 L (DE w b)).toArray:=λc=>by
     obtain⟨⟨F,g,m⟩,G,i,n⟩:=Pv D (v c) (A c);have g:=D5 (t:=w) l g;have i:=D5 (t:=w) l i;subst g;subst i;exact⟨m,n⟩
    split at h;· refine .y h (Abu λη H O f c _=>?_) λ_ _=>trivial;obtain⟨p,q⟩:=val c;exact⟨_,by rw[s];exact Akh E (congrArg Ac p) (congrArg Ac q) (CG l) (CG l),CS⟩
    ·refine .y h (Abu λη H O f c _=>?_) λ_ _=>trivial;obtain⟨p,q⟩:=val c;exact⟨_,by rw[s];exact Akn E (congrArg Ac p) (congrArg Ac q) (CG l) (CG l),CS⟩
   ·split at h;· rename_i E;refine .y h (Abu λη H O f c _=>?_) λ_ _=>trivial;obtain⟨⟨F,g,m⟩,G,i,n⟩:=Pv D (v c) (A c);have g:=D5 (t:=w) l g;have i:=D5 (t:=w) l i;subst g;subst i;exact⟨_,by rw[s];exact Akg (ne:=ne) E (congrArg Ac m) (congrArg Ac n) (CG l) (CG l),CS⟩
    ·cases h
  ·cases h
 grind
def du(P:GQ)(C:List (SV N.T))(S:Nat->SV N.T)(nk:Nat)(b:BinOp)(t:Gs)(x y:Dn)(k:Bx N.T->Nat->Option R):Option R:=match xK P t with
 |true=>match b with
  | .eql=>eqK P C S nk Aj t x y k
  | .neq=>eqK P C S nk Bp t x y k
  |_=>C7
 |false=>sg P S nk b t x y k
theorem gA{b:BinOp}(a:o.op= .binOp b t x y u)(h:du P C S nk b t x y k=Ac r):A1 P C S Rr nk o k r:=by
 unfold du at h;split at h
 ·split at h;· exact ok_eq (ne:=Aj) a h
  ·exact ok_eq (ne:=Bp) a h
  grind
 grind[pM]
end
end
section
variable{Y:List (Nat×Ax)}{k:Nat}
def FJ(Y:List (Nat×Ax))(k:Nat):List (Nat×Ax):=Y.filter λp=> !Nat.beq p.1 k
theorem DG{Y:List (Nat×Ax)}{k j:Nat}(h:j≠k):Ay (FJ Y k) j=Ay Y j:=by
 induction Y with
 |nil=>rfl
 |cons p Y b=>
  obtain⟨q,y⟩:=p;simp only[FJ,Afg]at b⊢;cases c:Hj q k with
  |true=>
   have:=AI c;simp only[Alj,Aeh,if_false,b,Ay];grind[Hj,absurd,ba]
  |false=>
   grind[Ay]
theorem CH{Y:List (Nat×Ax)}{k j:Nat}(h:j∈keys (FJ Y k)):j∈keys Y:=by obtain⟨p,a,e⟩:=By.1 h;exact By.2 ⟨p,(Aaz.1 a).1,e⟩
theorem Ie(h:(keys Y).Nodup):(keys (FJ Y k)).Nodup:=by grind[keys,FJ]
theorem Yj(h:k∉keys Y):FJ Y k=Y:=by
 unfold FJ;rw[List.filter_eq_self];intro p b;cases a:Hj p.1 k with
 |true=>exact absurd (By.2 ⟨p,b,AI a⟩) h
 |false=>rfl
theorem cf(Of:List Ax){x:Ax}(d:(keys Y).Nodup)(h:Ay Y k=Ac x):∃i,(Y.map (·.2)++Of)[i]?=Ac x/\(Y.map (·.2)++Of).eraseIdx i=(FJ Y k).map (·.2)++Of:=by
 induction Y with
 |nil=>cases h
 |cons p Y g=>
  obtain⟨q,y⟩:=p;simp only[Ay]at h;simp only[keys,Aas,Aay]at d;cases b:Hj q k with
  |true=>
   rw[b]at h;cases h;have:=AI b;refine⟨0,rfl,?_⟩;have:FJ ((q,x)::Y) q=Y:=by unfold FJ;rw[Afg];simp only[Agk,Alj,Aeh,if_false];exact Yj d.1
   grind
  |false=>
   rw[b]at h;obtain⟨i,e,f⟩:=g d.2 h;refine⟨i+1,by simpa using e,?_⟩;simp_all[FJ]
end
section
variable {N : C9}
def GU(k:Nat)(t:Ty)(l:List (t.den N.T)):SV N.T->SV N.T
 | .AH j=>match Hj j k with
  |true=> .d (.sl t) l
  |false=> .AH j
 | .Ec j i off g x=>match Hj j k with
  |true=> .no
  |false=> .Ec j i off g x
 | .lf s a r=> .lf s (GU k t l a) (GU k t l r)
 | .t2 a b=> .t2 (GU k t l a) (GU k t l b)
 | .t3 a b c=> .t3 (GU k t l a) (GU k t l b) (GU k t l c)
 | .AK f r e=> .AK f (GU k t l r) e
 | .vc a r=> .vc (GU k t l a) (GU k t l r)
 |s=>s
variable {C : List (SV N.T)} {η : Nat -> BZ} {H : Hp}
theorem CN{g:Nat->BZ->Prop}{k:Nat}{t:Ty}{l:List (t.den N.T)}(h:G8 (N.c t) H l (η k)):∀ {s:SV N.T} {v:BZ},s.BS g η H v->(GU k t l s).BS g η H v
 | .AH j,v,o=>by
  unfold GU;split;· rename_i E;have:=AI E;subst this;exact⟨[v],⟨v,rfl,by rw[o.1];omega⟩,rfl⟩
  omega
 | .Ec j i off I x,v,o=>by unfold GU;split;all_goals trivial
 | .lf s a r,v,⟨w,A,u,e,m,n,p,B,D⟩=>⟨w,A,u,e,m,CN h n,p,B,CN h D⟩
 | .t2 a b,v,⟨x,y,e,m,n⟩=>⟨x,y,e,CN h m,CN h n⟩
 | .t3 a b c,v,⟨x,y,z,e,m,n,p⟩=>⟨x,y,z,e,CN h m,CN h n,CN h p⟩
 | .AK f r G,v,⟨q,e,m⟩=>⟨q,e,CN h m⟩
 | .vn,_,h=>h
 | .vc a r,v,⟨u,q,e,m,n⟩=>⟨u,q,e,CN h m,CN h n⟩
 | .d _ _,_,h=>h
 | .na _,_,h=>h
 | .ct _ _,_,h=>h
 | .cb _ _,_,h=>h
 | .lt _ _ _,_,h=>h
 | .lb _,_,h=>h
 | .raw _,_,h=>h
 | .ud,_,h=>h
 | .no,_,h=>h
 | .loc _ _,_,h=>h
 | .pd _ _ _,_,h=>h
 | .mp _,_,h=>h
 | .nl,_,h=>h
 | .px _ _,_,h=>h
 | .Cv _,_,h=>h
end
theorem LR{Y:List (Nat×Ax)}(Of:List Ax){k:Nat}{x:Ax}(h:Ay Y k=Ac x):(Y.map (·.2)++Of)[(keys Y).idxOf k]?=Ac x/\(keys Y).idxOf k<Y.length:=by
 induction Y with
 |nil=>cases h
 |cons p Y f=>
  obtain⟨q,y⟩:=p;simp only[Ay]at h;simp only[keys,Aas];rw[List.idxOf_cons];cases b:Hj q k with
  |true=>
   simp_all
  |false=>
   rw[b]at h;have c:(q==k)=Aj:=by simpa using Abf b
   obtain⟨d,e⟩:=f h;rw[c];unfold keys at d e;exact⟨by simpa using d,by simpa using e⟩
inductive PP where
 |sub (j n:Nat) (t:Ty)
 |sf
 |hc (n:Nat)
inductive SP where
 |v (j:Nat) (t:Ty)
 |AD (j i:Nat)
 |nat (j:Nat)
 |Am
 |kp (t:Ty)
 |c (j:Nat)
 |AH (k:Nat)
 |loc (k off:Nat)
 |AK (f:Nat) (fs:List (Nat×Ty)) (cs:List Nat)
 |nl
 |sv (ls:List (Nat×Nat×Ty))
 |mp (k:Nat)
 |px (ks:List Nat) (p:PP)
 |pd (j:Nat) (t:Ty) (off:Nat)
inductive RP where
 |row (g:Gs) (j:Nat)
 |Ah (g:Gs) (ls:List (Nat×SP))
 |c (j:Nat)
 |map (g:Gs) (j:Nat)
 |Ck (g e:Gs) (h j:Nat)
inductive HT where
 |Ae (t:Ty)
 |nat
structure A' where
 hs:List HT
 sl:List (Nat×SP)
 ro:List (Nat×RP)
 nk:Nat
section
variable (N : C9)
section
variable{T:Nat->Type}
def HT.den:HT->Type
 | .Ae t=>t.den N.T
 | .nat=>Nat
def BJ:List HT->Type
 | []=>Unit
 | [t]=>t.den N
 |t::u::a=>t.den N×BJ (u::a)
def asN:SV T->Option Nat
 | .na n| .ct _ n| .cb _ n=>Ac n
 | .raw (.int .i64 (.ofNat n))=>match iT n Re with
  |true=>Ac n
  |false=>C7
 |_=>C7
def vx(C:List (SV N.T)):(h:HT)->SV N.T->Option (h.den N)
 | .Ae t,s=>TW C t s
 | .nat,s=>asN s
def e_:(h:HT)->h.den N->SV N.T
 | .Ae t,x=> .d t x
 | .nat,n=> .na n
def xb(C:List (SV N.T))(f:Nat->SV N.T):Nat->(a:List HT)->Option (BJ N a)
 |_,[]=>Ac ()
 |j,[t]=>vx N C t (f j)
 |j,t::u::b=>match vx N C t (f j),xb C f (j+1) (u::b)with
  |some x,Ac y=>Ac (x,y)
  |_,_=>C7
def Ct:(a:List HT)->BJ N a->Nat->SV N.T
 | [],_,_=> .no
 | [t],x,0=>e_ N t x
 | [_],_,_+1=> .no
 |t::_::_,x,0=>e_ N t x.1
 |_::u::b,x,j+1=>Ct (u::b) x.2 j
def vP(a:List HT)(x:BJ N a):List (Nat×Ty)->SV N.T
 | []=> .vn
 |(j,_)::l=> .vc (Ct N a x j) (vP a x l)
def oz(a:List HT)(x:BJ N a):List (Nat×Nat×Ty)->SV N.T
 | []=> .nl
 |(s,j,_)::l=> .lf s (Ct N a x j) (oz a x l)
def inst(a:List HT)(x:BJ N a):SP->SV N.T
 | .v j _| .nat j=>Ct N a x j
 | .AD j i=>match Ct N a x j with
  | .na n=> .ct i n
  |s=>s
 | .c j=> .Cv j
 | .AH k=> .AH k
 | .loc k off=> .loc k off
 | .AK f g e=> .AK f (vP N a x g) e
 | .nl=> .raw (.slice C7 0 0)
 | .sv h=>oz N a x h
 | .mp k=> .mp k
 | .px b (.sub j n t)=>match Ct N a x j,Ct N a x n with
  | .na i, .na m=> .px b (.sub i m t)
  |_,_=> .px b .any
 | .px b .sf=> .px b .sf
 | .px b (.hc n)=> .px b (.hc n)
 | .pd j _ off=>match Ct N a x j with
  | .d t x=> .pd t x off
  |_=> .no
 |_=> .no
def instL(a:List HT)(x:BJ N a):List (Nat×SP)->SV N.T
 | []=> .nl
 |(s,p)::b=> .lf s (inst N a x p) (instL a x b)
def instR(a:List HT)(x:BJ N a):RP->SR N.T
 | .row g j=>match Ct N a x j with
  | .d (.sl t) l=> .row g t l
  |_=> .gone
 | .Ah g f=> .Ah g (instL N a x f)
 | .c j=> .Cv j
 | .map g j=>match Ct N a x j with
  | .d (.sl (.st (.pr b i))) l=> .map g b i l
  |_=> .gone
 | .Ck g e h j=>match Ct N a x j with
  | .d (.sl (.pr .bool (.sl t))) l=> .Ck g e t h l
  |_=> .gone
def FI(p:A')(x:BJ N p.hs):St N.T:=⟨p.sl.map λq=>(q.1,inst N p.hs x q.2),p.ro.map λq=>(q.1,instR N p.hs x q.2),p.nk⟩
def Sg:SV N.T->Nat->Nat->Option (SV N.T)
 | .lf s a l,off,n=>match bg off s with
  |true=>match Hj off 0&&Hj s n with
   |true=>Ac a
   |false=>C7
  |false=>Sg l (off-s) n
 |_,_,_=>C7
def T9:SV N.T->Nat
 | .lf s _ l=>s+T9 l
 |_=>0
def whole{T:Nat->Type} :SV T->Bool
 | .lf _ _ r=>whole r
 | .nl=>Bp
 |_=>Aj
def Xq:SV N.T->Nat
 | .d t _=>t.sz N
 |_=>1
def zY(f:Nat->Nat)(c:Nat):Option (SV N.T)->Bool
 |some (.px [k] .sf)=>Hj (f c) k
 |some (.loc k 0)=>Hj (f c) k
 |some (.raw (.pointer C7))=>Bp
 |_=>Aj
def NS:Nat->List (Nat×SP)->List (Nat×Nat×SP)
 |_,[]=>[]
 |off,(s,p)::l=>(off,s,p)::NS (off+s) l
def AZ(m:List (Nat×Nat))(c:Nat):Nat:=match Ay m c with
 |some k=>k
 |none=>c
def PB(l:List (Nat×SP)):Nat:=l.foldr (λq n=>q.1+n) 0
def kmL(C:List (SV N.T))(b:SV N.T)(l:List (Nat×SP)):List (Nat×Nat):=(NS 0 l).flatMap λq=>match q.2.2,E0 N C b q.1 C7 with
 | .AH c,Ac (.AH k)=>[(c,k)]
 | .mp c,Ac (.mp k)=>[(c,k)]
 | .px d .sf,Ac (.px e .sf)=>d.zip e
 | .px [c] .sf,Ac (.loc k _)=>[(c,k)]
 | .AK _ _ d,Ac (.AK _ _ e)=>d.zip e
 |_,_=>[]
def qV(C:List (SV N.T))(b:SV N.T)(l:List (Nat×SP)):List (Nat×SV N.T):=(NS 0 l).flatMap λq=>match q.2.2 with
 | .v j t=>[(j,(E0 N C b q.1 (Ac t)).getD .no)]
 | .nat j=>[(j,(E0 N C b q.1 C7).getD .no)]
 |_=>[]
end
end
section
variable {N : C9} {C : List (SV N.T)} {CR : List (SR N.T)} {n : Nat} {Of : List Ax} {bs : List (Nat × BZ)} {st : St N.T} {η : Nat -> BZ} {H : Hp} {a : Act} {w : IW}
section
variable{s:SV N.T}{v:BZ}{C':List (SV N.T)}{m:Nat}{h:HT}{x:h.den N}{η':Nat->BZ}{c:List BZ}
theorem sw(h:asN s=Ac m)(b:s.is C η H v):(SV.na m:SV N.T).is C η H v:=by
 unfold asN at h;split at h;· grind
 ·cases h;exact b
 ·cases h;exact⟨b.1,Agj b.2⟩
 ·split at h;· rename_i c;cases h;exact⟨b,Abc c⟩
  grind
 grind
theorem sA(c:vx N C h s=Ac x)(b:s.is C η H v):(e_ N h x).is C η H v:=by
 cases h with
 |Ae t=>exact DL (t:=t) c b
 |nat=>exact sw c b
theorem fD(b:(e_ N h x).is C η H v):(e_ N h x).is C' η' H v:=by cases h<;>exact b
theorem JL{f:Nat->SV N.T} :∀(b:List HT) (i:Nat) (x:BJ N b),xb N C f i b=Ac x->∀j,Ct N b x j= .no\/∃h y,vx N C h (f (i+j))=Ac y/\Ct N b x j=e_ N h y
 | [],_,_,_,_=> .inl rfl
 | [t],i,x,h,j=>by
  cases j with
  |zero=>exact .inr ⟨t,x,h,rfl⟩
  |succ j=>exact .inl rfl
 |t::u::c,i,x,h,j=>by
  have h:(match vx N C t (f i),xb N C f (i+1) (u::c)with
   |some x,Ac y=>Ac (x,y)
   |_,_=>C7)=Ac x:=h;split at h;· rename_i y z d e;cases h;cases j with
   |zero=>exact .inr ⟨t,y,d,rfl⟩
   |succ j=>
    have:=JL (u::c) (i+1) z e j;rw[show i+1+j=i+(j+1) by omega]at this;trivial
  grind
theorem BK:∀ {l:List Nat},Ci l=Bp->l.Nodup
 | [],_=>Aew
 |k::l,h=>by simp only[Ci,AT,Aea]at h;refine Aay.2 ⟨λb=>?_,BK h.2⟩;grind[AR]
theorem Qd{α:Type}{f:α->Nat} :∀ {l:List α},(l.map f).Nodup->∀ {a b:α},a∈l->b∈l->f a=f b->a=b
 | [],_,_,_,h,_,_=>by grind
 |x::l,c,a,b,m,o,e=>by
  rw[Aas,Aay]at c;rcases Aav.1 m with g|j<;>rcases Aav.1 o with i|k;· grind
  ·grind
  ·grind
  ·exact Qd c.2 j k e
theorem GH{b:SV N.T}{q:Nat×Nat×SP}{l:List (Nat×SP)}(h:q∈NS 0 l):(∀j t,q.2.2= .v j t->(j,(E0 N C b q.1 (Ac t)).getD .no)∈qV N C b l)/\∀j,q.2.2= .nat j->(j,(E0 N C b q.1 C7).getD .no)∈qV N C b l:=
 ⟨λj t e=>Aad.2 ⟨q,h,by grind⟩,λj e=>Aad.2 ⟨q,h,by grind⟩⟩
theorem Ka:∀ {l:SV N.T} {cs:List BZ},whole l=Bp->l.is C η H (.agg cs.toArray)->∀x∈cs,x.oneCell'=Bp:=by
 intro l;induction l with
 |lf s a r _ f=>
  intro cs c h x b;obtain⟨g,i,u,rfl,j,k,m,d,e⟩:=FG h;rcases AS.1 b with b|b;· grind
  ·exact f c e x b
 |nl=>
  intro cs _ h x b;have:cs=[]:=by have h:BZ.agg cs.toArray= .agg #[]:=h;grind
  grind
 |_=>intro cs c _;cases c
theorem HU:∀ {l:SV N.T} {cs:List BZ},whole l=Bp->l.is C η H (.agg cs.toArray)->T9 N l=cs.length:=by
 intro l;induction l with
 |lf s a r _ d=>
  intro cs b h;obtain⟨e,f,u,rfl,g,i,j,k,c⟩:=FG h;have:=d b c;grind[T9]
 |nl=>
  intro cs _ h;have:cs=[]:=by have h:BZ.agg cs.toArray= .agg #[]:=h;grind
  subst this;rfl
 |_=>intro cs b _;cases b
theorem aY:∀ {l s:SV N.T} {off m:Nat} {cs:List BZ},Sg N l off m=Ac s->l.is C η H (.agg cs.toArray)->∃u,s.is C η H u/\u.cells.toList=(cs.drop off).take m/\u.cells.toList.length=m:=by
 intro l;induction l with
 |lf s a r _ p=>
  intro sv off m cs h o;obtain⟨y,z,u,rfl,c,j,e,A,k⟩:=FG o;unfold Sg at h;split at h
  ·split at h;· rename_i b;cases h;simp only[AT]at b;have g:=AI b.1;have i:=AI b.2;subst g;subst i;exact⟨u,j,by rw[e,Afa,Acf (by omega),<-c,Aar],by rw[e];exact c⟩
   grind
  ·rename_i b;have b:s<=off:=by
    rcases Aam off s with d|d;· rw[show bg off s=Bp by simpa using d]at b;cases b
    ·exact d
   obtain⟨x,q,t,v⟩:=p h k;refine⟨x,q,?_,v⟩;rw[Acw,Aax (by omega),Ach,c];exact t
 |_=>intro sv off m cs h _;simp[Sg]at h
structure dT(C:List (SV N.T))(Hs:List (Nat×SV N.T))(P:Nat->SV N.T):Prop where
 ok:∀j s,(j,s)∈Hs->P j= .no\/∃h y,vx N C h s=Ac y/\P j=e_ N h y
theorem dT.is{Hs:List (Nat×SV N.T)}{P:Nat->SV N.T}(h:dT C Hs P){j:Nat}(d:(j,s)∈Hs)(f:s.is C η H v):(P j).is C' η' H v:=by
 rcases h.ok j s d with e|⟨g,y,b,c⟩;· rw[e];trivial
 ·rw[c];exact fD (sA b f)
theorem ZG{cs:List BZ}{off:Nat}(h:(cs.drop off).take m=c)(d:c.length=m):cs.drop off=c++cs.drop (off+m):=by grind[xr,List.take_append_drop]
theorem ZM{f:Nat->Nat}{c:Nat}{u:BZ}(b:zY N f c (Ac s)=Bp)(h:s.is C η H u) :(SV.px [c] .sf:SV N.T).is C' (λc=>η (f c)) H u/\Xq N s=1:=by
 unfold zY at b;split at b;· rename_i k e;cases e;have:=AI b;subst this;trivial
 ·rename_i k e;cases e;have:=AI b;obtain⟨B,d,g⟩:=h;exact⟨.inr ⟨B,by grind,g⟩,rfl⟩
 ·rename_i e;cases e;exact⟨.inl h,rfl⟩
 grind
theorem Cw{sv:SV N.T}(h:xP C η H sv c):c.length=Xq N sv:=by
 obtain⟨u,i,b,d⟩:=h;rcases d with⟨j,y,rfl,e⟩|⟨g,f⟩;· exact e
 ·rw[<-b,A_ g];cases sv<;>first|rfl|grind
end
end
def SV.DP{T:Nat->Type}(ρ:Nat->Nat):SV T->SV T
 | .loc k o=> .loc (ρ k) o
 | .AH k=> .AH (ρ k)
 | .mp k=> .mp (ρ k)
 | .Ec _ _ _ _ _=> .no
 | .lf s a l=> .lf s (a.DP ρ) (l.DP ρ)
 | .t2 a b=> .t2 (a.DP ρ) (b.DP ρ)
 | .t3 a b c=> .t3 (a.DP ρ) (b.DP ρ) (c.DP ρ)
 | .AK f l cs=> .AK f (l.DP ρ) (cs.map ρ)
 | .vc a l=> .vc (a.DP ρ) (l.DP ρ)
 | .px e p=> .px (e.map ρ) p
 |s=>s
def SR.DP{T:Nat->Type}(ρ:Nat->Nat):SR T->SR T
 | .Ah g l=> .Ah g (l.DP ρ)
 | .row g t l=> .row g t l
 | .map g a b l=> .map g a b l
 | .Ck g e t h l=> .Ck g e t (ρ h) l
 |_=> .gone
section
variable {N : C9} {C : List (SV N.T)} {η η' : Nat -> BZ} {H : Hp}
section
variable{ρ:Nat->Nat}{C':List (SV N.T)}
theorem Afc{g:Nat->BZ->Prop}{ρ:Nat->Nat} :∀ {s:SV N.T} {v:BZ},(∀k∈s.AJ,η' (ρ k)=η k)->s.BS g η H v->(s.DP ρ).BS g η' H v
 | .d t x,v,_,h=>h
 | .na _,_,_,h=>h
 | .ct _ _,_,_,h=>h
 | .cb _ _,_,_,h=>h
 | .lt _ _ _,_,_,h=>h
 | .lb _,_,_,h=>h
 | .raw _,_,_,h=>h
 | .ud,_,_,h=>h
 | .no,_,_,h=>h
 | .loc k o,_,e,h=>by grind[SV.DP,SV.BS,SV.AJ]
 | .AH k,_,e,h=>by grind[SV.DP,SV.BS,SV.AJ]
 | .Ec _ _ _ _ _,_,_,_=>trivial
 | .pd t x off,v,_,h=>h
 | .mp k,_,e,h=>by grind[SV.DP,SV.BS,SV.AJ]
 | .lf s a l,v,e,⟨A,B,u,m,i,n,q,E,F⟩=>⟨A,B,u,m,i,Afc (λk j=>e k (by grind[SV.AJ])) n,q,E,Afc (λk j=>e k (by grind[SV.AJ])) F⟩
 | .nl,_,_,h=>h
 | .t2 a b,v,e,⟨x,y,m,i,n⟩=>⟨x,y,m,Afc (λk j=>e k (by grind[SV.AJ])) i,Afc (λk j=>e k (by grind[SV.AJ])) n⟩
 | .t3 a b c,v,e,⟨x,y,z,m,i,n,q⟩=>⟨x,y,z,m,Afc (λk j=>e k (by grind[SV.AJ])) i,Afc (λk j=>e k (by grind[SV.AJ])) n,Afc (λk j=>e k (by grind[SV.AJ])) q⟩
 | .AK f l I,v,e,⟨w,m,i⟩=>⟨w,by simp_all[SV.AJ],Afc (λk j=>e k (by grind[SV.AJ])) i⟩
 | .vn,_,_,h=>h
 | .vc a l,v,e,⟨u,w,m,i,n⟩=>⟨u,w,m,Afc (λk j=>e k (by grind[SV.AJ])) i,Afc (λk j=>e k (by grind[SV.AJ])) n⟩
 | .px r p,v,e,h=>by
  have D:(r.map ρ).map η'=r.map η:=by simp_all[SV.AJ]
  show p.is ((r.map ρ).map η') H v;rw[D];exact h
 | .Cv _,_,_,h=>h
theorem SR.MA{k:Nat}{s:SR N.T}{r:Ax}(f:η' (ρ k)=η k)(e:∀j∈s.AJ,η' (ρ j)=η j)(h:s.is [] η H k r):(s.DP ρ).is C' η' H (ρ k) r:=by
 cases s with
 |Ah g l=>
  obtain⟨B,i,b,a,c⟩:=h;exact⟨B,i,f.trans b,a,SV.BS.imp (λ_ _ ⟨_,h,_⟩=>by grind) (Afc e c)⟩
 |row g t l=>obtain⟨d,b,a⟩:=h;exact⟨d,by grind,a⟩
 |Cv j=>trivial
 |gone=>trivial
 |map g p q l=>obtain⟨B,b,a⟩:=h;exact⟨B,f.trans b,a⟩
 |Ck g o t m l=>obtain⟨d,n,b,a,c⟩:=h;exact⟨d,n,by grind,(e m (by simp[SR.AJ])).trans a,c⟩
theorem SV.MA{s:SV N.T}{v:BZ}(e:∀k∈s.AJ,η' (ρ k)=η k)(h:s.is [] η H v):(s.DP ρ).is C' η' H v:=
 SV.BS.imp (λ_ _ ⟨_,h,_⟩=>by grind) (Afc e h)
theorem SH.Ri{w:IW}{Y Z:List (Nat×Ax)}{Of:List Ax}(h:SH w H (Y.map (·.2)++Of))(t:(keys Z).Nodup)(u:∀p∈Z,Ay Y p.1=Ac p.2):SH w H (Z.map (·.2)++Of):=by
 refine h.pick (λi=>match Z[i]? with
  |some p=>(keys Y).idxOf p.1
  |none=>Y.length+(i-Z.length)) (λi r E=>?_) λi j B D e=>?_;· cases s:Z[i]? with
  |some p=>
   grind[List.getElem?_append_left,LR,List.mem_of_getElem?]
  |none=>
   grind
 ·have lt:∀ {i:Nat} {p:Nat×Ax},Z[i]?=Ac p->(keys Y).idxOf p.1<Y.length:=λ{i} {p} s=>(LR Of (u p (Aai s))).2;cases b:Z[i]? with
  |some p=>
   cases a:Z[j]? with
   |some q=>
    simp only[b,a]at e;have y:=Dp (u q (Aai a));have n:(keys Y)[(keys Y).idxOf p.1]?=Ac p.1:=by grind
    have x:(keys Y)[(keys Y).idxOf q.1]?=Ac q.1:=by grind
    rw[e,x]at n;have o:=Abs n;have k:(keys Z)[i]?=Ac p.1:=by unfold keys;rw[Acb,b];rfl
    have l:(keys Z)[j]?=Ac q.1:=by unfold keys;rw[Acb,a];rfl
    obtain⟨f,k⟩:=No.1 k;obtain⟨g,l⟩:=No.1 l;rcases Acx i j with d|v|d;· exact(Aaw.1 t i j f g d (by rw[k,l];exact o.symm)).elim
    ·exact v
    ·exact(Aaw.1 t j i g f d (by rw[k,l];exact o)).elim
   |none=>
    simp only[b,a]at e;have:=lt b;omega
  |none=>
   cases a:Z[j]? with
   |some q=>
    simp only[b,a]at e;have:=lt a;omega
   |none=>
    simp only[b,a]at e;have z:=Afw.1 b;have A:=Afw.1 a;omega
end
end
structure PQ(N:C9)where
 pi:A'
 po:A'
 rk:Nat
 gone:List Nat
 F:BJ N pi.hs->Option (BJ N po.hs)
def Il:List (Nat×SP)->Nat->SP:=λl i=>match Ay l i with
 |some p=>p
 |none=> .Am
section
variable {N : C9}
def Jn(q:PQ N)(y:BJ N q.po.hs):SV N.T:=match q.rk with
 |0=> .raw (.tuple #[])
 |1=>inst N q.po.hs y (Il q.po.sl 0)
 |2=> .t2 (inst N q.po.hs y (Il q.po.sl 0)) (inst N q.po.hs y (Il q.po.sl 1))
 |_=> .t3 (inst N q.po.hs y (Il q.po.sl 0)) (inst N q.po.hs y (Il q.po.sl 1)) (inst N q.po.hs y (Il q.po.sl 2))
structure PIn(q:PQ N)(x:BJ N q.pi.hs)(η:Nat->BZ)(H:Hp)(Y:List (Nat×Ax))(vs:List BZ):Prop where
 len:vs.length=q.pi.sl.length
 sl:∀p∈q.pi.sl,∃v,vs[p.1]?=Ac v/\(inst N q.pi.hs x p.2).is [] η H v
 ks:keys Y=q.pi.ro.map (·.1)
 ro:∀p∈q.pi.ro,∃X,Ay Y p.1=Ac X/\(instR N q.pi.hs x p.2).is [] η H p.1 X
 inv:N.inv H
structure xQ(q:PQ N)(y:BJ N q.po.hs)(η η':Nat->BZ)(H':Hp)(Y Y':List (Nat×Ax))(v:BZ):Prop where
 env:∀k,k<q.pi.nk->η' k=η k
 nd:(keys Y').Nodup
 ks:∀k∈keys Y',k∈keys Y\/k∈q.po.ro.map (·.1)
 ro:∀p∈q.po.ro,∃X,Ay Y' p.1=Ac X/\(instR N q.po.hs y p.2).is [] η' H' p.1 X
 st:∀k∈keys Y,k∉q.po.ro.map (·.1)->k∉q.gone->Ay Y' k=Ay Y k
 res:(Jn q y).is [] η' H' v
structure Cr(P:GQ)(f:Nat)(q:PQ N):Prop where
 cq:TY P f
 ok:∀x y,q.F x=Ac y->∀(η:Nat->BZ) (H:Hp) (Of:List Ax) (Y:List (Nat×Ax)) (vs:List BZ),(keys Y).Nodup->PIn q x η H Y vs->
  TB P f vs H (Y.map (·.2)++Of) (λv H' O'=> ∃η' Y',O'=Y'.map (·.2)++Of/\xQ q y η η' H' Y Y' v)
def zV(q:PQ N):Bool:=((q.pi.ro.map (·.1)).all λk=>bg k q.pi.nk)&&(Ci (q.pi.ro.map (·.1))&&(Ci (q.po.ro.map (·.1))&&(iT q.pi.nk q.po.nk&&(((q.po.ro.map (·.1)).all λk=>B_ (q.pi.ro.map (·.1)) k||(iT q.pi.nk k&&bg k q.po.nk))&&(q.gone.all λk=>B_ (q.pi.ro.map (·.1)) k)))))
def qkS(A:Nat->SV N.T)(l:List (Nat×SP)):List (Nat×Nat):=l.flatMap λq=>match q.2,A q.1 with
 | .AH c, .AH k=>[(c,k)]
 | .loc c _, .loc k _=>[(c,k)]
 | .AK _ _ a, .AK _ _ b=>a.zip b
 | .mp c, .mp k=>[(c,k)]
 | .px a _, .px b _=>a.zip b
 |_,_=>[]
def qkR(C:List (SV N.T))(Rr:Nat->Option (SR N.T))(m:List (Nat×Nat))(l:List (Nat×RP)):List (Nat×Nat):=l.flatMap λq=>match q.2,Rr (AZ m q.1)with
 | .Ah _ a,Ac (.Ah _ b)=>kmL N C b a
 |_,_=>[]
def vQ:List (Nat×Ty)->SV N.T->List (Nat×SV N.T)
 |(j,_)::l, .vc a r=>(j,a)::vQ l r
 |_,_=>[]
def vcB:List (Nat×Ty)->SV N.T->Bool
 | [], .vn=>Bp
 |_::l, .vc _ r=>vcB l r
 |_,_=>Aj
def vp(ls:List (Nat×Nat×Ty)):List (Nat×SP):=ls.map λq=>(q.1, .v q.2.1 q.2.2)
def ff(C:List (SV N.T))(A:Nat->SV N.T)(l:List (Nat×SP)):List (Nat×SV N.T):=l.flatMap λq=>match q.2,A q.1 with
 | .v j _,s=>[(j,s)]
 | .nat j,s=>[(j,s)]
 | .AK _ a _, .AK _ r _=>vQ a r
 | .sv b,s=>qV N C s (vp b)
 | .px _ (.sub j n _), .px _ (.sub i m _)=>[(j, .na i),(n, .na m)]
 | .pd j _ _, .pd t x _=>[(j, .d t x)]
 |_,_=>[]
def fg(C:List (SV N.T))(Rr:Nat->Option (SR N.T))(m:List (Nat×Nat))(l:List (Nat×RP)):List (Nat×SV N.T):=l.flatMap λq=>match q.2,Rr (AZ m q.1)with
 | .row _ j,Ac (.row _ t x)=>[(j, .d (.sl t) x)]
 | .map _ j,Ac (.map _ a e x)=>[(j, .d (.sl (.st (.pr a e))) x)]
 | .Ah _ c,Ac (.Ah _ b)=>qV N C b c
 |_,_=>[]
def Np:List Nat->List Nat->Bool
 | [],[]=>Bp
 |a::l,b::m=>Hj a b&&Np l m
 |_,_=>Aj
theorem FA:∀ {l m:List Nat},Np l m=Bp->l=m
 | [],[],_=>rfl
 | [],_::_,h=>by cases h
 |_::_,[],h=>by cases h
 |a::l,b::m,h=>by simp only[Np,AT]at h;rw[AI h.1,FA h.2]
def z8(C:List (SV N.T))(b:SV N.T)(m:List (Nat×Nat))(q:Nat×Nat×SP):Bool:=match q.2.2 with
 | .v _ t=>match E0 N C b q.1 (Ac t)with
  |some sv=>Hj (Xq N sv) q.2.1
  |none=>Aj
 | .nat _=>match E0 N C b q.1 C7 with
  |some sv=>Hj (Xq N sv) q.2.1
  |none=>Aj
 | .AH c=>match E0 N C b q.1 C7 with
  |some (.AH k)=>Hj (AZ m c) k&&Hj q.2.1 1
  |_=>Aj
 | .AK f [] a=>match E0 N C b q.1 C7 with
  |some (.AK g .vn d)=>Hj f g&&(Np (a.map (AZ m)) d&&Hj q.2.1 1)
  |_=>Aj
 | .mp c=>match E0 N C b q.1 C7 with
  |some (.mp k)=>Hj (AZ m c) k&&Hj q.2.1 1
  |_=>Aj
 | .px [c] .sf=>zY N (AZ m) c (E0 N C b q.1 C7)&&Hj q.2.1 1
 |_=>Aj
def qcS(C:List (SV N.T))(A:Nat->SV N.T)(m:List (Nat×Nat))(q:Nat×SP):Bool:=match q.2 with
 | .v _ _=>Bp
 | .nat _=>Bp
 | .Am=>Bp
 | .AH c=>match A q.1 with
  | .AH k=>Hj (AZ m c) k
  |_=>Aj
 | .loc c off=>match A q.1 with
  | .loc k o=>Hj (AZ m c) k&&Hj off o
  |_=>Aj
 | .AK f e a=>match A q.1 with
  | .AK g r b=>Hj f g&&(vcB e r&&Np (a.map (AZ m)) b)
  |_=>Aj
 | .sv d=>whole (A q.1)&&Hj (PB (vp d)) (T9 N (A q.1))&&(NS 0 (vp d)).all (z8 C (A q.1) m)
 | .nl=>match A q.1 with
  | .raw (.slice C7 0 0)=>Bp
  |_=>Aj
 | .mp c=>match A q.1 with
  | .mp k=>Hj (AZ m c) k
  |_=>Aj
 | .pd _ _ off=>match A q.1 with
  | .pd _ _ o=>Hj off o
  |_=>Aj
 | .px a (.sub _ _ t)=>match A q.1 with
  | .px b (.sub _ _ i)=>Np (a.map (AZ m)) b&&t.JR i
  |_=>Aj
 | .px a (.hc n)=>match A q.1 with
  | .px b (.hc h)=>Np (a.map (AZ m)) b&&Hj n h
  |_=>Aj
 |_=>Aj
def qcR(C:List (SV N.T))(Rr:Nat->Option (SR N.T))(m:List (Nat×Nat))(n:Nat)(q:Nat×RP):Bool:=match q.2 with
 | .row g j=>match Rr (AZ m q.1)with
  |some (.row a _ _)=>Hj g a&&bg j n
  |_=>Aj
 | .map g j=>match Rr (AZ m q.1)with
  |some (.map a _ _ _)=>Hj g a&&bg j n
  |_=>Aj
 | .Ah g c=>match Rr (AZ m q.1)with
  |some (.Ah a b)=>Hj g a&&(whole b&&Hj (PB c) (T9 N b)&&(NS 0 c).all (z8 C b m))
  |_=>Aj
 |_=>Aj
def Hk(C:List (SV N.T))(Rr:Nat->Option (SR N.T))(A:Nat->SV N.T)(q:A'):List (Nat×Nat):=
 let a:=qkS A q.sl
 a++qkR C Rr a q.ro
def JS(C:List (SV N.T))(Rr:Nat->Option (SR N.T))(A:Nat->SV N.T)(m:List (Nat×Nat))(q:A'):Option (BJ N q.hs):=
 match Ci (q.ro.map λp=>AZ m p.1)&&(q.sl.all (qcS C A m)&&(q.ro.all (qcR C Rr m q.hs.length)&&Ci ((ff C A q.sl++fg C Rr m q.ro).map (·.1))))with
 |true=>xb N C (λj=>(Ay (ff C A q.sl++fg C Rr m q.ro) j).getD .no) 0 q.hs
 |false=>C7
variable {C : List (SV N.T)} {η : Nat -> BZ} {H : Hp} {Rr : Nat -> Option (SR N.T)} {A : Nat -> SV N.T}
section
variable{m:List (Nat×Nat)}
theorem instQ_ok{M:List HT}{x:BJ N M}{b:SV N.T}{m:List (Nat×Nat)}{Hs:List (Nat×SV N.T)}{cs:List BZ}(O:dT C Hs (Ct N M x))(E:b.is C η H (.agg cs.toArray))(B:∀y∈cs,y.oneCell'=Bp):
  ∀(ls:List (Nat×SP)) (off:Nat),(∀q∈NS off ls,z8 C b m q=Bp/\(∀j t,q.2.2= .v j t->(j,(E0 N C b q.1 (Ac t)).getD .no)∈Hs)/\∀j,q.2.2= .nat j->(j,(E0 N C b q.1 C7).getD .no)∈Hs)->off+PB ls=cs.length->
   (instL N M x ls).is [] (λc=>η (AZ m c)) H (.agg (cs.drop off).toArray)
 | [],off,_,P=>by have:cs.drop off=[]:=Aax (by grind[PB]);rw[this];rfl
 |(s,p)::ls,off,S,P=>by
  have P:off+(s+PB ls)=cs.length:=P;have Z:=instQ_ok O E B ls (off+s) (λq Q=>S q (Aag _ Q)) (by omega);obtain⟨a,Y,L⟩:=S (off,s,p) (Aau ..);have n:∀ {u:BZ},(inst N M x p).is [] (λc=>η (AZ m c)) H u->u.cells.toList=(cs.drop off).take s->u.cells.toList.length=s->(instL N M x ((s,p)::ls)).is [] (λc=>η (AZ m c)) H (.agg (cs.drop off).toArray):=λ{u} l e J=>by have K:=Ld (s:=s) l J (λy hy=>B y (by grind)) Z;rw[e]at J K;rw[<-ZG rfl J]at K;exact K
  unfold z8 at a;cases p with
  |v j t=>
   simp only at a;split at a;· rename_i sv o;have R:=AI a;obtain⟨c,i,hc⟩:=Dv o E;have d:=Cw i;obtain⟨u,l,e,_⟩:=i;have h:=Y j t rfl;rw[o]at h;exact n (O.is h l) (by grind) (by grind)
   grind
  |nat j=>
   simp only at a;split at a
   ·rename_i sv o;have R:=AI a;obtain⟨c,i,hc⟩:=Dv o E;have d:=Cw i;obtain⟨u,l,e,_⟩:=i;have h:=L j rfl;rw[o]at h;have d:c.length=s:=by omega
    rw[d]at hc;exact n (O.is h l) (by rw[e,hc]) (by rw[e];exact d)
   grind
  |AH c=>
   simp only at a;split at a;· rename_i k w;rw[AT]at a;have G:=AI a.1;have D:=AI a.2;subst D;obtain⟨F,i,hc⟩:=Dv w E;have d:=Cw i;obtain⟨u,l,e,_⟩:=i;have d:F.length=1:=d;rw[d]at hc;exact n (u:=u) ⟨by show u=η (AZ m c);rw[G];exact l.1,l.2⟩ (by rw[e,hc]) (by rw[e];exact d)
   ·cases a
  |AK f X cs=>
   cases X with
   |cons _ _=>cases a
   |nil=>
    simp only at a;split at a;· rename_i g ks w;simp only[AT]at a;have G:=AI a.1;have D:=AI a.2.2;have W:=FA a.2.1;subst G;subst D;subst W;obtain⟨F,i,hc⟩:=Dv w E;have d:=Cw i;obtain⟨u,l,e,_⟩:=i;have d:F.length=1:=d;rw[d]at hc;obtain⟨us,U,V⟩:=l;exact n (u:=u) ⟨us,by rw[U,Aaj];rfl,V⟩ (by rw[e,hc]) (by rw[e];exact d)
    ·cases a
  |mp c=>
   simp only at a;split at a;· rename_i k w;rw[AT]at a;have G:=AI a.1;have D:=AI a.2;subst D;obtain⟨F,i,hc⟩:=Dv w E;have d:=Cw i;obtain⟨u,l,e,_⟩:=i;have d:F.length=1:=d;rw[d]at hc;exact n (u:=u) ⟨by show u=η (AZ m c);rw[G];exact l.1,l.2⟩ (by rw[e,hc]) (by rw[e];exact d)
   ·cases a
  |px cs z=>
   cases z with
   |sub _ _ _=>cases cs with
    |nil=>cases a
    |cons c cs=>cases cs<;>cases a
   |hc _=>cases cs with
    |nil=>cases a
    |cons c cs=>cases cs<;>cases a
   |sf=>
    match cs,a with
    | [],a=>cases a
    | [c],a=>
     rw[AT]at a;cases w:E0 N C b off C7 with
     |none=>rw[w]at a;cases a.1
     |some s0=>
      rw[w]at a;have D:=AI a.2;subst D;obtain⟨F,i,hc⟩:=Dv w E;have d:=Cw i;obtain⟨u,l,e,_⟩:=i;obtain⟨J,K⟩:=ZM a.1 l;rw[K]at d;rw[d]at hc;exact n (u:=u) J (by rw[e,hc]) (by rw[e];exact d)
    |_::_::_,a=>cases a
  |_=>cases a
theorem lu{b:List HT}{x:BJ N b}{Hs:List (Nat×SV N.T)}{η':Nat->BZ}(f:dT C Hs (Ct N b x)):∀ {fs:List (Nat×Ty)} {r:SV N.T} {us:List BZ},vcB fs r=Bp->(∀p∈vQ fs r,p∈Hs)->r.is C η H (.tuple us.toArray)->(vP N b x fs).is [] η' H (.tuple us.toArray)
 | [], .vn,us,_,_,h=>h
 | [], .d _ _,_,h,_,_=>by cases h
 |(j,t)::l, .vc a r,us,m,g,⟨u,c,e,i,k⟩=>by refine⟨u,c,e,f.is (g (j,a) (by simp[vQ])) i,lu (fs:=l) f m (λp n=>g p (by grind[vQ])) k⟩
theorem ZC(a:List HT)(x:BJ N a):∀ls,oz N a x ls=instL N a x (vp ls)
 | []=>rfl
 |(s,j,t)::ls=>by show SV.lf s (Ct N a x j) (oz N a x ls)=SV.lf s (Ct N a x j) (instL N a x (vp ls));rw[ZC a x ls]
theorem Xj:∀ {l:SV N.T} {v:BZ},whole l=Bp->l.is C η H v->∃cs:List BZ,v= .agg cs.toArray:=by
 intro l v b h;cases l with
 |lf s a r=>obtain⟨c,d,u,e,_⟩:=h;grind
 |nl=>exact⟨[],h⟩
 |_=>cases b
theorem Ui:∀(a:List HT) (x:BJ N a) (j:Nat),j<a.length->Ct N a x j≠ .no
 | [],_,_,h,_=>by grind
 | [t],x,0,_,e=>by cases t<;>cases e
 | [_],_,j+1,h,_=>by grind
 |t::u::b,x,0,_,e=>by cases t<;>cases e
 |t::u::b,x,j+1,h,e=>Ui (u::b) x.2 j (by grind) e
theorem LZ{q:A'}{x:BJ N q.hs}{Y:List (Nat×Ax)}{vs:List BZ}(hx:JS C Rr A m q=Ac x)(hlen:vs.length=q.sl.length)(hsl:∀p∈q.sl,∃v,vs[p.1]?=Ac v/\(A p.1).is C η H v)
  (hr:∀p∈q.ro,∀Z,Rr (AZ m p.1)=Ac Z->DU C η H Y (AZ m p.1) Z):
  (q.ro.map λp=>AZ m p.1).Nodup/\(∀p∈q.sl,∃v,vs[p.1]?=Ac v/\(inst N q.hs x p.2).is [] (λc=>η (AZ m c)) H v)/\∀p∈q.ro,(∃Z,Rr (AZ m p.1)=Ac Z)/\∃X,Ay Y (AZ m p.1)=Ac X/\(instR N q.hs x p.2).is [] (λc=>η (AZ m c)) H p.1 X:=by
 unfold JS at hx;split at hx
 ·rename_i Q;simp only[AT]at Q;obtain⟨hnd,hS,hR,hN⟩:=Q;have U:=BK hN;have D:dT C (ff C A q.sl++fg C Rr m q.ro) (Ct N q.hs x):=⟨λj s T=>by
   rcases JL q.hs 0 x hx j with e|⟨K,y,F,G⟩;· grind
   ·rw[Abm,CK U T]at F;grind⟩;refine⟨BK hnd,λp E=>?_,λp E=>?_⟩;· obtain⟨v,hv,h⟩:=hsl p E;refine⟨v,hv,?_⟩;have hc:=IT.1 hS p E;unfold qcS at hc;cases u:p.2 with
   |v j t=>exact D.is (Abt _ (Aad.2 ⟨p,E,by simp[u]⟩)) h
   |nat j=>exact D.is (Abt _ (Aad.2 ⟨p,E,by simp[u]⟩)) h
   |Am=>trivial
   |sv W=>
    rw[u]at hc;simp only[AT]at hc;obtain⟨cs,rfl⟩:=Xj hc.1.1 h;have hlen2:=HU (cs:=cs) hc.1.1 h;have:=instQ_ok (m:=m) D h (Ka hc.1.1 h) (vp W) 0 (λz O=>⟨IT.1 hc.2 z O,λj t e=>Abt _ (Aad.2 ⟨p,E,by simp_all[GH]⟩),λj e=>Abt _ (Aad.2 ⟨p,E,by simp_all[GH]⟩)⟩) (by simp_all);show(oz N q.hs x W).is [] _ H _;grind[ZC]
   |nl=>
    rw[u]at hc;simp only at hc;split at hc;· rename_i a;rw[a]at h;exact h
    grind
   |AH c=>
    rw[u]at hc;simp only at hc;split at hc;· rename_i k a;have e:=AI hc;rw[a]at h;exact⟨by show v=η (AZ m c);rw[e];exact h.1,h.2⟩
    trivial
   |loc c off=>
    rw[u]at hc;simp only at hc;split at hc;· rename_i k o a;rw[AT]at hc;have e:=AI hc.1;have G:=AI hc.2;subst G;rw[a]at h;obtain⟨B,b1,b2⟩:=h;exact⟨B,by show η (AZ m c)=_;rw[e];exact b1,b2⟩
    ·cases hc
   |AK f fs cs=>
    rw[u]at hc;simp only at hc;split at hc;· rename_i g r ks a;simp only[AT]at hc;have e:=AI hc.1;subst e;have G:=FA hc.2.2;rw[a]at h;obtain⟨us,J,L⟩:=h;refine⟨us,?_,lu D hc.2.1 (λz O=>Abt _ (Aad.2 ⟨p,E,by simp[u,a,O]⟩)) L⟩;rw[J,<-G,Aaj];rfl
    ·cases hc
   |mp c=>
    rw[u]at hc;simp only at hc;split at hc;· rename_i k a;have e:=AI hc;rw[a]at h;exact⟨by show v=η (AZ m c);rw[e];exact h.1,h.2⟩
    ·cases hc
   |pd j t off=>
    rw[u]at hc;simp only at hc;split at hc
    ·rename_i t' y' o a;have F:=AI hc;subst F;rw[a]at h;have w:(j,(SV.d t' y':SV N.T))∈ff C A q.sl++fg C Rr m q.ro:=Abt _ (Aad.2 ⟨p,E,by simp[u,a]⟩);show(match Ct N q.hs x j with| .d t x=>SV.pd t x off|_=> .no).is [] _ H v;rcases D.ok j _ w with e|⟨K,y,F,G⟩;· rw[e];trivial
     ·rw[G];cases K with
      |nat=>trivial
      |Ae P=>
       obtain⟨f,S,I⟩:=Pd.1 (show(Qu N.T t' P).map (· y')=Ac y from F);obtain⟨R,rfl⟩:=BB S;have:=Adl R;subst this;cases I;exact h
    ·cases hc
   |px cs z=>
    cases z with
    |sf=>rw[u]at hc;cases hc
    |sub j n t=>
     rw[u]at hc;simp only at hc;split at hc
     ·rename_i ks i n' t' a;simp only[AT]at hc;have F:=FA hc.1;have I:=Adl hc.2;subst F;subst I;rw[a]at h;have w:(j,(SV.na i:SV N.T))∈ff C A q.sl++fg C Rr m q.ro:=Abt _ (Aad.2 ⟨p,E,by simp[u,a]⟩);have M:(n,(SV.na n':SV N.T))∈ff C A q.sl++fg C Rr m q.ro:=Abt _ (Aad.2 ⟨p,E,by simp[u,a]⟩);have na:∀ {j i:Nat},(j,(SV.na i:SV N.T))∈ff C A q.sl++fg C Rr m q.ro->Ct N q.hs x j= .na i\/∀i',Ct N q.hs x j≠ .na i':=λ{j i} hm=>by
       rcases D.ok j _ hm with e|⟨K,y,F,G⟩;· rw[e];exact .inr λ_ e=>by cases e
       ·rw[G];cases K with
        |nat=>
         cases F;exact .inl rfl
        |Ae P=>exact .inr λ_ e=>by cases e
      show(match Ct N q.hs x j,Ct N q.hs x n with| .na i, .na m=>SV.px cs (.sub i m t)|_,_=> .px cs .any).is [] _ H v;rcases na w with e|e
      ·rcases na M with G|G;· rw[e,G];have h:PX.is ((cs.map (AZ m)).map η) H (.sub i n' t) v:=h;rw[Aaj]at h;exact h
       ·split;· rename_i L;exact absurd L (G _)
        ·trivial
      ·split;· rename_i J _;exact absurd J (e _)
       ·trivial
     ·cases hc
    |hc n=>
     rw[u]at hc;simp only at hc;split at hc;· rename_i ks n' a;simp only[AT]at hc;have F:=FA hc.1;have I:=AI hc.2;subst F;subst I;rw[a]at h;have h:PX.is ((cs.map (AZ m)).map η) H (.hc n:PX N.T) v:=h;rw[Aaj]at h;exact h
     ·cases hc
   |_=>rw[u]at hc;cases hc
  ·have hc:=IT.1 hR p E;unfold qcR at hc;cases u:p.2 with
   |Ck _ _ _ _=>rw[u]at hc;cases hc
   |row g j=>
    rw[u]at hc;simp only at hc;split at hc
    ·rename_i g' t l a;rw[AT]at hc;have e:=AI hc.1;have T:j<q.hs.length:=by simpa using hc.2
     subst e;refine⟨⟨_,a⟩,?_⟩;rcases hr p E _ a with e|⟨X,J,L⟩;· cases e
     refine⟨X,J,?_⟩;have w:(j,SV.d (.sl t) l)∈ff C A q.sl++fg C Rr m q.ro:=Abz _ (Aad.2 ⟨p,E,by simp[u,a]⟩);show(match Ct N q.hs x j with| .d (.sl t) l=>SR.row g t l|_=> .gone).is [] _ H _ X;rcases D.ok j _ w with e|⟨K,y,F,G⟩;· exact(Ui q.hs x j T e).elim
     ·rw[G];cases K with
      |nat=>cases F
      |Ae P=>
       obtain⟨f,S,I⟩:=Pd.1 (show(Qu N.T (.sl t) P).map (· l)=Ac y from F);obtain⟨R,rfl⟩:=BB S;have:=Adl R;subst this;cases I;exact L
    ·cases hc
   |Ah g W=>
    rw[u]at hc;simp only at hc;split at hc
    ·rename_i g' b a;simp only[AT]at hc;have e:=AI hc.1;subst e;refine⟨⟨_,a⟩,?_⟩;rcases hr p E _ a with e|⟨X,J,B,cs,b1,b2,b3⟩;· cases e
     refine⟨X,J,B,cs,b1,b2,?_⟩;have hl:=HU (cs:=cs.toList) hc.2.1.1 b3;have:=instQ_ok (η:=η) (m:=m) (cs:=cs.toList) D b3 (Ka hc.2.1.1 b3) W 0 (λz O=>⟨IT.1 hc.2.2 z O,λj t e=>Abz _ (Aad.2 ⟨p,E,by simp only[u,a];exact(GH O).1 j t e⟩),λj e=>Abz _ (Aad.2 ⟨p,E,by simp only[u,a];exact(GH O).2 j e⟩)⟩)
      (by rw[Abm,AI hc.2.1.2,hl]);simpa using this
    ·cases hc
   |c j=>rw[u]at hc;cases hc
   |map g j=>
    rw[u]at hc;simp only at hc;split at hc
    ·rename_i g' V vt l a;rw[AT]at hc;have e:=AI hc.1;have T:j<q.hs.length:=by simpa using hc.2
     subst e;refine⟨⟨_,a⟩,?_⟩;rcases hr p E _ a with e|⟨X,J,L⟩;· cases e
     refine⟨X,J,?_⟩;have w:(j,SV.d (.sl (.st (.pr V vt))) l)∈ff C A q.sl++fg C Rr m q.ro:=Abz _ (Aad.2 ⟨p,E,by simp[u,a]⟩);show(match Ct N q.hs x j with| .d (.sl (.st (.pr V vt))) l=>SR.map g V vt l|_=> .gone).is [] _ H _ X;rcases D.ok j _ w with e|⟨K,y,F,G⟩;· exact(Ui q.hs x j T e).elim
     ·rw[G];cases K with
      |nat=>cases F
      |Ae P=>
       obtain⟨f,S,I⟩:=Pd.1 (show(Qu N.T (.sl (.st (.pr V vt))) P).map (· l)=Ac y from F);obtain⟨R,rfl⟩:=BB S;have:=Adl R;subst this;cases I;exact L
    ·cases hc
 grind
end
end
def SP.ks:SP->List Nat
 | .AH k=>[k]
 | .loc k _=>[k]
 | .AK _ _ a=>a
 | .mp k=>[k]
 | .px b _=>b
 |_=>[]
section
variable {N : C9}
theorem Rf(h:HT)(x:h.den N):(e_ N h x).AJ=[]:=by cases h<;>rfl
theorem Gc:∀(a:List HT) (x:BJ N a) (j:Nat),(Ct N a x j).AJ=[]
 | [],_,_=>rfl
 | [t],x,0=>Rf t x
 | [_],_,_+1=>rfl
 |t::_::_,x,0=>Rf t x.1
 |_::u::c,x,j+1=>Gc (u::c) x.2 j
theorem Ra(a:List HT)(x:BJ N a):∀fs:List (Nat×Ty),(vP N a x fs).AJ=[]
 | []=>rfl
 |(j,_)::l=>by simp[vP,SV.AJ,Gc,Ra a x l]
theorem Rh(a:List HT)(x:BJ N a):∀ls:List (Nat×Nat×Ty),(oz N a x ls).AJ=[]
 | []=>rfl
 |(s,j,t)::l=>by simp[oz,SV.AJ,Gc,Rh a x l]
theorem inst_ment(a:List HT)(x:BJ N a):∀p:SP,(inst N a x p).AJ=p.ks
 | .v j _=>Gc a x j
 | .nat j=>Gc a x j
 | .AD j i=>by
  show SV.AJ (match Ct N a x j with| .na n=> .ct i n|s=>s)=[];split;· rfl
  grind[Gc]
 | .c _=>rfl
 | .AH _=>rfl
 | .loc _ _=>rfl
 | .AK _ h g=>by grind[inst,SV.AJ,SP.ks,Ra]
 | .Am=>rfl
 | .nl=>rfl
 | .sv f=>Rh a x f
 | .kp _=>rfl
 | .mp _=>rfl
 | .px b .sf=>rfl
 | .px b (.hc _)=>rfl
 | .pd j t off=>by show SV.AJ (match Ct N a x j with| .d t x=>SV.pd t x off|_=> .no)=[];split<;>rfl
 | .px b (.sub j n t)=>by show SV.AJ (match Ct N a x j,Ct N a x n with| .na i, .na m=>SV.px b (.sub i m t)|_,_=> .px b .any)=b;split<;>rfl
theorem instL_ment(a:List HT)(x:BJ N a):∀ls:List (Nat×SP),(instL N a x ls).AJ=ls.flatMap λp=>p.2.ks
 | []=>rfl
 |(s,p)::ls=>by simp[instL,SV.AJ,inst_ment,instL_ment a x ls]
end
def SP.pl:SP->Bool
 | .v _ _=>Bp
 | .nat _=>Bp
 | .AH _=>Bp
 | .loc _ _=>Bp
 | .AK _ _ _=>Bp
 | .Am=>Bp
 | .nl=>Bp
 | .sv _=>Bp
 | .mp _=>Bp
 | .px _ _=>Bp
 | .pd _ _ _=>Bp
 |_=>Aj
def RP.ks:RP->List Nat
 | .Ah _ a=>a.flatMap λp=>p.2.ks
 | .Ck _ _ h _=>[h]
 |_=>[]
section
variable {N : C9}
theorem instR_ment(a:List HT)(x:BJ N a):∀p:RP,∀k∈(instR N a x p).AJ,k∈p.ks
 | .row g j=>by show∀k∈SR.AJ (match Ct N a x j with| .d (.sl t) l=>SR.row g t l|_=> .gone),k∈[];split<;>exact λ_ h=>h
 | .Ah _ b=>λk i=>by have e:=instL_ment a x b;show k∈b.flatMap λp=>p.2.ks;rw[<-e];exact i
 | .c _=>λ_ h=>h
 | .map g j=>by show∀k∈SR.AJ (match Ct N a x j with| .d (.sl (.st (.pr m n))) l=>SR.map g m n l|_=> .gone),k∈[];split<;>exact λ_ h=>h
 | .Ck g e h j=>by
  show∀k∈SR.AJ (match Ct N a x j with| .d (.sl (.pr .bool (.sl t))) l=>SR.Ck g e t h l|_=> .gone),k∈[h];split;· exact λ_ h=>h
  ·exact λ_ h=>by cases h
def Z2(q:PQ N):List SP:=match q.rk with
 |0=>[]
 |1=>[Il q.po.sl 0]
 |2=>[Il q.po.sl 0,Il q.po.sl 1]
 |_=>[Il q.po.sl 0,Il q.po.sl 1,Il q.po.sl 2]
theorem XE(q:PQ N)(y:BJ N q.po.hs):∀k∈(Jn q y).AJ,∃p∈Z2 q,k∈p.ks:=by intro k a;unfold Jn at a;unfold Z2;all_goals grind[SV.AJ,Il,absurd,inst_ment]
def vm(q:PQ N):Bool:=((Z2 q).all λp=>p.pl&&p.ks.all λk=>B_ (q.pi.ro.map (·.1)) k||B_ (q.po.ro.map (·.1)) k)&&q.po.ro.all λp=>p.2.ks.all λk=>B_ (q.pi.ro.map (·.1)) k||B_ (q.po.ro.map (·.1)) k
def G0(m:List (Nat×Nat))(b nk c:Nat):Nat:=match bg c b with
 |true=>AZ m c
 |false=>nk+(c-b)
def Pr(q:PQ N)(ρ:Nat->Nat)(y:BJ N q.po.hs):List (Nat×SR N.T):=(q.po.ro.map λp=>(ρ p.1,(instR N q.po.hs y p.2).DP ρ))++q.gone.map λc=>(ρ c, .gone)
variable {R : Type} {P : GQ} {C : List (SV N.T)} {S : Nat -> SV N.T} {Rr : Nat -> Option (SR N.T)} {nk : Nat} {o : K_} {r : R}
section
variable{m:List (Nat×Nat)}{ρ:Nat->Nat}{q:PQ N}{x:BJ N q.pi.hs}{f:Nat}{ex:List Nat}{y:BJ N q.po.hs}
def WV(C:List (SV N.T))(Rr:Nat->Option (SR N.T))(nk:Nat)(q:PQ N)(a:List (SV N.T))(ex:List Nat)(k:Bx N.T->Nat->Option R):Option (Option R):=
 let m:=Hk C Rr (λi=>a.getD i .no) q.pi
 match Hj a.length q.pi.sl.length&&(q.pi.sl.all (λp=>bg p.1 a.length)&&(zV q&&vm q))with
 |true=>match JS C Rr (λi=>a.getD i .no) m q.pi with
  |some x=>Ac (Ab (q.F x) λy=>k ⟨(Jn q y).DP (G0 m q.pi.nk nk),q.pi.ro.map (λp=>AZ m p.1)++ex,Pr q (G0 m q.pi.nk nk) y⟩ (nk+(q.po.nk-q.pi.nk)))
  |none=>C7
 |false=>C7
theorem LS{Y:List (Nat×Ax)}{D:List Nat}{k:Nat}(h:k∉D):Ay (Y.filter λp=> !B_ D p.1) k=Ay Y k:=by
 induction Y with
 |nil=>rfl
 |cons p Y b=>
  grind[Ay,Hj,absurd,AR,ba]
theorem V7{Y:List (Nat×Ax)}{c:Nat}(h:∀d∈keys Y,ρ d=ρ c->d=c):Ay (Y.map λp=>(ρ p.1,p.2)) (ρ c)=Ay Y c:=by
 induction Y with
 |nil=>rfl
 |cons p Y f=>
  obtain⟨q,y⟩:=p;simp only[Aas,Ay];cases b:Hj q c with
  |true=>simp_all
  |false=>
   have:Hj (ρ q) (ρ c)=Aj:=by
    cases a:Hj (ρ q) (ρ c)with
    |false=>rfl
    |true=>
     have:=h q (by simp[keys]) (AI a);simp_all
   grind[keys]
theorem aF{ρ:Nat->Nat} :∀ {l:List Nat},(∀c d,c∈l->d∈l->ρ c=ρ d->c=d)->l.Nodup->(l.map ρ).Nodup
 | [],_,_=>Aew
 |x::l,f,b=>by rw[Aay]at b;rw[Aas,Aay];refine⟨λh=>?_,aF (λc d hc i=>f c d (Aag _ hc) (Aag _ i)) b.2⟩;grind
theorem rZ{a b:Nat}(h:b<=a):bg a b=Aj:=by
 cases c:bg a b with
 |false=>rfl
 |true=>
  have:a<b:=by simp_all
  omega
theorem r_{a b:Nat}(h:b<a):iT a b=Aj:=by
 cases c:iT a b with
 |false=>rfl
 |true=>have:=Abc c;omega
theorem iN{q:A'}{A:Nat->SV N.T}{x:BJ N q.hs}(b:JS C Rr A m q=Ac x):∀p∈q.ro,∃d,Rr (AZ m p.1)=Ac d:=by
 unfold JS at b;split at b
 all_goals grind[qcR]
theorem Nn{W:List (SV N.T)}(hs:Cr P f q)(hq1:zV q=Bp)(hq2:vm q=Bp)(hlen:W.length=q.pi.sl.length)(hlt:∀p∈q.pi.sl,p.1<W.length)
  (hx:JS C Rr (λi=>W.getD i .no) m q.pi=Ac x) (hy:q.F x=Ac y) (hf:∀j,nk<=j->Rr j=C7):
  (∀(
    η:Nat->BZ) (H:Hp) (Of:List Ax) (w:IW) (Y:List (Nat×Ax)),(keys Y).Nodup->SH w H (Y.map (·.2)++Of)->N.inv H->
   (∀k,(k∈q.pi.ro.map (λp=>AZ m p.1)++ex\/k∈keys (Pr q (G0 m q.pi.nk nk) y))->∀M,Rr k=Ac M->DU C η H Y k M)->(∀k∈keys (Pr q (G0 m q.pi.nk nk) y),Rr k=C7->k∉keys Y)->
   ∀(vs:List BZ),vs.length=W.length->(∀(i:Nat) (s:SV N.T),W[i]?=Ac s->∃v,vs[i]?=Ac v/\s.is C η H v)->
   ∀(goal:Prop) (K:BZ->IW->Prop),(∀O R,TB P f vs H O R->SH w H O->(∀v w' T O',H.le T->R v T O'->SH w' T O'->K v w')->goal)->
   (∀(v:BZ) (w':IW) (T:Hp) (η':Nat->BZ) (D:List (Nat×Ax)),H.le T->(∀k,(Rr k=C7->k∉keys (Pr q (G0 m q.pi.nk nk) y))->η' k=η k)->(∀k,k∉keys (Pr q (G0 m q.pi.nk nk) y)->Ay D k=Ay Y k)->
    (∀k M,Ay (Pr q (G0 m q.pi.nk nk) y) k=Ac M->DU C η' T D k M)->(keys D).Nodup->(∀k∈keys D,k∈keys Y\/k∈keys (Pr q (G0 m q.pi.nk nk) y))->SH w' T (D.map (·.2)++Of)->((Jn q y).DP (G0 m q.pi.nk nk)).is C η' T v->K v w')->goal)/\
  (∀j∈keys (Pr q (G0 m q.pi.nk nk) y),Rr j=C7->nk<=j/\j<nk+(q.po.nk-q.pi.nk)):=by
 unfold zV at hq1;simp only[AT]at hq1;obtain⟨w1,w2,w3,w4,w5,w6⟩:=hq1;have w1:∀p∈q.pi.ro,p.1<q.pi.nk:=λp a=>by simpa using IT.1 w1 p.1 (By.2 ⟨p,a,rfl⟩)
 have w4:=Abc w4;have w5:∀p∈q.po.ro,p.1∈q.pi.ro.map (·.1)\/(q.pi.nk<=p.1/\p.1<q.po.nk):=λp a=>by have:=IT.1 w5 p.1 (By.2 ⟨p,a,rfl⟩);rw[Adx,AT]at this;exact this.imp AR.1 λh=>⟨Abc h.1,by simp_all⟩
 have w6:∀c∈q.gone,c∈q.pi.ro.map (·.1):=λc hc=>AR.1 (IT.1 w6 c hc);unfold vm at hq2;rw[AT]at hq2;obtain⟨o1,o2⟩:=hq2;have kn:∀ {k:Nat},(B_ (q.pi.ro.map (·.1)) k||B_ (q.po.ro.map (·.1)) k)=Bp->k∈q.pi.ro.map (·.1)\/k∈q.po.ro.map (·.1):=λh=>by grind[AR]
 generalize hρ:G0 m q.pi.nk nk=ρ;have t:∀p∈q.pi.ro,ρ p.1=AZ m p.1:=λp a=>by rw[<-hρ];grind[G0,bg]
 have ρo:∀c,q.pi.nk<=c->ρ c=nk+(c-q.pi.nk):=λc hc=>by rw[<-hρ];grind[G0,rZ]
 have kwr:∀j,j∈keys (Pr q ρ y)↔(∃p∈q.po.ro,j=ρ p.1)\/∃c∈q.gone,j=ρ c:=λj=>by unfold Pr keys;grind
 have hall:=λ(η:Nat->BZ) (H:Hp) (Y:List (Nat×Ax)) (vs:List BZ) n U h3=>LZ (C:=C) (η:=η) (H:=H) (Y:=Y) (vs:=vs) (A:=λi=>W.getD i .no) hx n U h3;refine⟨λη H Of w Y hn hw hiv hr hfresh vs v1 v2 goal K run hK=>?_,λj hj u=>?_⟩
 ·obtain⟨
      hnd,hsl,F⟩:=hall η H Y vs (v1.trans hlen) (λp a=>by
   have hl:=hlt p a;obtain⟨v,e1,e2⟩:=v2 p.1 W[p.1] (IS hl);refine⟨v,e1,?_⟩;rw[Aae,IS hl];exact e2) (λp a M B=>hr _ (.inl (Abt _ (By.2 ⟨p,a,rfl⟩))) M B);have lt:∀p∈q.pi.ro,AZ m p.1<nk:=λp a=>by
   grind
  generalize hηc:(λc=>η (AZ m c))=ηc at hsl F;generalize hYc:(q.pi.ro.map λp=>(p.1,(Ay Y (AZ m p.1)).getD .emp))=Yc;generalize E:(Y.filter λp=> !B_ (q.pi.ro.map λp=>AZ m p.1) p.1)=Yr;have kYc:keys Yc=q.pi.ro.map (·.1):=by rw[<-hYc];simp[keys]
  have ndc:(keys Yc).Nodup:=by rw[kYc];exact BK w2
  have lYc:∀p∈q.pi.ro,Ay Yc p.1=Ay Y (AZ m p.1):=λp a=>by
   obtain⟨_,X,V,_⟩:=F p a;have:(p.1,(Ay Y (AZ m p.1)).getD .emp)∈Yc:=by rw[<-hYc];exact By.2 ⟨p,a,rfl⟩
   rw[CK ndc this,V];rfl
  have pin:PIn q x ηc H Yc vs:=⟨v1.trans hlen,hsl,kYc,λp a=>by
   obtain⟨_,X,V,U⟩:=F p a;exact⟨X,by rw[lYc p a];omega,U⟩,hiv⟩;have hsh:SH w H (Yc.map (·.2)++(Yr.map (·.2)++Of)):=by
   have G:=SH.Ri hw (Z:=(q.pi.ro.map λp=>(AZ m p.1,(Ay Y (AZ m p.1)).getD .emp))++Yr) (by
    unfold keys;rw[Aap,Aaj];refine Acq.2 ⟨hnd,?_,λk b k' L e=>?_⟩;· rw[<-E];exact(Aco.map _).nodup hn
    ·subst e;rw[<-E]at L;obtain⟨p,a,rfl⟩:=By.1 L;have h3:=(Aaz.1 a).2;have b:p.1∈q.pi.ro.map λp=>AZ m p.1:=b;rw[AR.2 b]at h3;cases h3) (λp a=>by
    rcases AS.1 a with a|a;· obtain⟨z,G,rfl⟩:=By.1 a;obtain⟨_,X,V,_⟩:=F z G;simp only[V,Acv]
    ·rw[<-E]at a;exact CK hn (Aaz.1 a).1);rw[Aap,Aaj,Aal]at G;rw[<-hYc,Aaj];exact G
  refine run _ _ (hs.ok x y hy ηc H (Yr.map (·.2)++Of) Yc vs ndc pin) hsh λv w' T O' hle ⟨η',D,eO,po⟩ hw'=>?_;subst eO;have I:∀c∈keys D,c∈q.pi.ro.map (·.1)\/c∈q.po.ro.map (·.1):=λc hc=>by rw[<-kYc];exact po.ks c hc
  have Q:∀ {c},c∈q.pi.ro.map (·.1)->ρ c<nk/\c<q.pi.nk/\ρ c=AZ m c:=λhc=>by obtain⟨p,a,rfl⟩:=By.1 hc;rw[t p a];exact⟨lt p a,w1 p a,rfl⟩
  have l:∀ {c},c∈q.po.ro.map (·.1)->c∉q.pi.ro.map (·.1)->nk<=ρ c/\q.pi.nk<=c/\ρ c=nk+(c-q.pi.nk)/\ρ c∈keys (Pr q ρ y)/\Rr (ρ c)=C7:=λhc hn=>by
   obtain⟨p,a,rfl⟩:=By.1 hc;rcases w5 p a with h|h;· trivial
   ·rw[ρo _ h.1];exact⟨by omega,h.1,rfl,(kwr _).2 (.inl ⟨p,a,(ρo _ h.1).symm⟩),hf _ (by omega)⟩
  have inj:∀c d,(c∈q.pi.ro.map (·.1)\/c∈q.po.ro.map (·.1))->(d∈q.pi.ro.map (·.1)\/d∈q.po.ro.map (·.1))->ρ c=ρ d->c=d:=λc d hc hd e=>by
   by_cases n:c∈q.pi.ro.map (·.1)<;>by_cases U:d∈q.pi.ro.map (·.1);· obtain⟨p,a,rfl⟩:=By.1 n;obtain⟨p',hp',rfl⟩:=By.1 U;rw[t p a,t p' hp']at e;rw[Qd (f:=λp:Nat×RP=>AZ m p.1) hnd a hp' e]
   ·have:=(Q n).1;have:=(l (hd.resolve_left U) U).1;omega
   ·have:=(Q U).1;have:=(l (hc.resolve_left n) n).1;omega
   ·have:=(l (hc.resolve_left n) n);have:=(l (hd.resolve_left U) U);omega
  let ηn:Nat->BZ:=λj=>match iT nk j&&B_ (keys (Pr q ρ y)) j with
   |true=>η' (q.pi.nk+(j-nk))
   |false=>η j;have ηk:∀c,(c∈q.pi.ro.map (·.1)\/c∈q.po.ro.map (·.1))->ηn (ρ c)=η' c:=λc hc=>by
   by_cases n:c∈q.pi.ro.map (·.1);· obtain⟨g1,g2,g3⟩:=Q n;show(match iT nk (ρ c)&&B_ (keys (Pr q ρ y)) (ρ c)with|true=>η' (q.pi.nk+(ρ c-nk))|false=>η (ρ c))=η' c;rw[r_ g1,Bool.false_and,po.env c g2,<-hηc,g3]
   ·obtain⟨g1,g2,g3,g4,_⟩:=l (hc.resolve_left n) n;show(match iT nk (ρ c)&&B_ (keys (Pr q ρ y)) (ρ c)with|true=>η' (q.pi.nk+(ρ c-nk))|false=>η (ρ c))=η' c;rw[show iT nk (ρ c)=Bp by simpa using g1,AR.2 g4];show η' (q.pi.nk+(ρ c-nk))=η' c;congr 1;omega
  have lkρ:∀c,(c∈q.pi.ro.map (·.1)\/c∈q.po.ro.map (·.1))->Ay (D.map λp=>(ρ p.1,p.2)) (ρ c)=Ay D c:=λc hc=>V7 λd hd e=>inj d c (I d hd) hc e;have kρ:∀k∈keys (D.map λp=>(ρ p.1,p.2)),∃c∈keys D,k=ρ c:=λk b=>by unfold keys at b;rw[Aaj]at b;obtain⟨p,a,rfl⟩:=By.1 b;exact⟨p.1,By.2 ⟨p,a,rfl⟩,rfl⟩
  refine hK v w' T ηn ((D.map λp=>(ρ p.1,p.2))++Yr) hle (λk b=>?_) (λk b=>?_) (λk M b=>?_) ?_ (λk b=>?_) ?_ ?_
  ·show(match iT nk k&&B_ (keys (Pr q ρ y)) k with|true=>η' (q.pi.nk+(k-nk))|false=>η k)=η k;split;· rename_i hb;rw[AT]at hb;exact absurd (AR.1 hb.2) (b (hf _ (Abc hb.1)))
   ·rfl
  ·rw[BT];by_cases hD:k∈q.pi.ro.map λp=>AZ m p.1;· obtain⟨p,a,rfl⟩:=By.1 hD;have hc:p.1∈q.pi.ro.map (·.1):=By.2 ⟨p,a,rfl⟩;obtain⟨_,X,V,_⟩:=F p a;have e1:=lkρ p.1 (.inl hc);rw[t p a,po.st p.1 (by rw[kYc];exact hc) (λh=>b ((kwr _).2 (.inl (by obtain⟨z,G,e⟩:=By.1 h;exact⟨z,G,by rw[e,t p a]⟩)))) (λh=>b ((kwr _).2 (.inr ⟨p.1,h,(t p a).symm⟩))),lYc p a,V]at e1;rw[e1,V]
   ·have:Ay (D.map λp=>(ρ p.1,p.2)) k=C7:=Cz λhm=>by
     obtain⟨c,hc,rfl⟩:=kρ k hm;by_cases n:c∈q.pi.ro.map (·.1);· obtain⟨p,a,rfl⟩:=By.1 n;exact hD (By.2 ⟨p,a,(t p a).symm⟩)
     ·exact b (l ((I c hc).resolve_left n) n).2.2.2.1
    rw[this,<-E];exact LS hD
  ·unfold Pr at b;rw[BT]at b;split at b;· rename_i sr' hs';cases b;obtain⟨p,a,e⟩:=By.1 (A4 hs');cases e;obtain⟨X,x1,x2⟩:=po.ro p a;have hc:p.1∈q.pi.ro.map (·.1)\/p.1∈q.po.ro.map (·.1):= .inr (By.2 ⟨p,a,rfl⟩);refine .inr ⟨X,by rw[BT,lkρ p.1 hc,x1],?_⟩;exact SR.MA (ηk p.1 hc) (λj hj=>ηk j (by have hj:=instR_ment _ _ _ j hj;exact kn (IT.1 (IT.1 o2 p a) j hj))) x2
   ·obtain⟨c,_,e⟩:=By.1 (A4 b);cases e;exact .inl rfl
  ·unfold keys;rw[Aap];refine Acq.2 ⟨?_,?_,λk b k' L e=>?_⟩
   ·rw[Aaj];have:=po.nd;have e:(D.map ((·.1)∘λp=>(ρ p.1,p.2)))=(D.map (·.1)).map ρ:=by rw[Aaj];rfl
    rw[e];exact aF (λc d hc hd e=>inj c d (I c hc) (I d hd) e) this
   ·rw[<-E];exact(Aco.map _).nodup hn
   ·subst e;obtain⟨c,hc,rfl⟩:=kρ k b;rw[<-E]at L;obtain⟨p,a,e⟩:=By.1 L;by_cases n:c∈q.pi.ro.map (·.1)
    ·have h3:=(Aaz.1 a).2;have:p.1∈q.pi.ro.map λp=>AZ m p.1:=by
      obtain⟨z,G,rfl⟩:=By.1 n;rw[e,t z G];exact By.2 ⟨z,G,rfl⟩
     rw[AR.2 this]at h3;cases h3
    ·obtain⟨_,_,_,g4,g5⟩:=l ((I c hc).resolve_left n) n;exact hfresh _ g4 g5 (by rw[<-e];exact By.2 ⟨p,(Aaz.1 a).1,rfl⟩)
  ·unfold keys at b;rw[Aap]at b;rcases AS.1 b with b|b
   ·obtain⟨c,hc,rfl⟩:=kρ k b;by_cases n:c∈q.pi.ro.map (·.1);· obtain⟨p,a,rfl⟩:=By.1 n;obtain⟨_,X,V,_⟩:=F p a;rw[t p a];exact .inl (Dp V)
    ·exact .inr (l ((I c hc).resolve_left n) n).2.2.2.1
   ·rw[<-E]at b;obtain⟨p,a,rfl⟩:=By.1 b;exact .inl (By.2 ⟨p,(Aaz.1 a).1,rfl⟩)
  ·rw[Aap,Aaj,Aal];exact hw'
  ·refine SV.MA (λk b=>ηk k ?_) po.res;obtain⟨p,a,b⟩:=XE q y k b;have:=IT.1 o1 p a;rw[AT]at this;exact kn (IT.1 this.2 k b)
 ·have rr:=iN hx;rcases(kwr j).1 hj with⟨p,a,rfl⟩|⟨c,hc,rfl⟩
  ·rcases w5 p a with h|h;· obtain⟨z,G,e⟩:=By.1 h;obtain⟨M,B⟩:=rr z G;rw[<-e,t z G,B]at u;cases u
   ·rw[ρo _ h.1];omega
  ·obtain⟨z,G,rfl⟩:=By.1 (w6 c hc);obtain⟨M,B⟩:=rr z G;rw[t z G,B]at u;cases u
theorem Yx{d:List (SV N.T)}(U:Cr P f q)(l:zV q=Bp)(n:vm q=Bp)(g:d.length=q.pi.sl.length)(k:∀p∈q.pi.sl,p.1<d.length)
  (X:JS C Rr (λi=>d.getD i .no) m q.pi=Ac x) (Z:q.F x=Ac y) (J:∀j,nk<=j->Rr j=C7)
  (G:∀(η:Nat->BZ) (H:Hp) (Y:List (Nat×Ax)) (a:Act),(∀x∈o.op.operands,(Aw S x).is C η H (a.eval x))->(∀c∈q.pi.ro.map (λp=>AZ m p.1)++ex,∀h,Rr c=Ac h->DU C η H Y c h)->
   ∃vs:List BZ,vs.length=d.length/\(∀(i:Nat) (s:SV N.T),d[i]?=Ac s->∃v,vs[i]?=Ac v/\s.is C η H v)/\∀H O R,TB P f vs H O R->BM P o.op o.type (EV a) H O R):
  Ap P C S Rr o ⟨(Jn q y).DP (G0 m q.pi.nk nk),q.pi.ro.map (λp=>AZ m p.1)++ex,Pr q (G0 m q.pi.nk nk) y⟩/\
  (∀j∈keys (Pr q (G0 m q.pi.nk nk) y),Rr j=C7->nk<=j/\j<nk+(q.po.nk-q.pi.nk)):=by
 obtain⟨E,F⟩:=Nn (P:=P) (ex:=ex) U l n g k X Z J;refine⟨λη H D a w Y T W L A B b K Q I=>?_,F⟩;obtain⟨vs,v1,v2,v3⟩:=G η H Y a A λc hc h z=>B _ (.inl hc) h z;exact E η H D w Y T W L B b vs v1 v2 (o.wp P a w K Q) (λv w'=>K (a.put o.dst v) w') (λO R V t M=>v3 _ _ _ V a w o K Q rfl rfl (λx u e=>by simpa using e) t M) I
end
end
section
variable (N : C9)
def DQ:List Ty->Type
 | []=>Unit
 | [t]=>t.den N.T
 |t::u::a=>t.den N.T×DQ (u::a)
def U3(C:List (SV N.T)):(ps:List Ty)->List (SV N.T)->Option (DQ N ps)
 | [],[]=>Ac ()
 | [t],[s]=>TW C t s
 |t::u::b,s::a=>match TW C t s,U3 C (u::b) a with
  |some x,Ac y=>Ac (x,y)
  |_,_=>C7
 |_,_=>C7
variable {N}
abbrev η0:Nat->BZ:=λ_=>undef
def Zc(H:Hp):(ps:List Ty)->DQ N ps->List BZ->Prop
 | [],_,a=>a=[]
 | [t],x,a=> ∃v,a=[v]/\(SV.d t x:SV N.T).is [] η0 H v
 |t::u::c,x,a=> ∃v b,a=v::b/\(SV.d t x.1:SV N.T).is [] η0 H v/\Zc H (u::c) x.2 b
theorem WA{C C':List (SV N.T)}{η η':Nat->BZ}{H:Hp}{v:BZ}{t:Ty}{x:t.den N.T}(h:(SV.d t x).is C η H v):(SV.d t x).is C' η' H v:=h
variable {R : Type} {P : GQ} {C : List (SV N.T)} {S : Nat -> SV N.T} {Rr : Nat -> Option (SR N.T)} {nk : Nat} {o : K_} {k : Bx N.T -> Nat -> Option R} {r : R}
theorem LY{a:Act} :∀xs:List Dn,NV (EV a) xs=Ac (xs.map a.eval)
 | []=>rfl
 |x::xs=>by simp only[NV,EV,LY xs,Aas]
theorem HA:∀ {t:Ty} {H f:Hp} {x:t.den N.T} {cs:List BZ},HB t=Bp->(N.c t).BO H x cs->(N.c t).BO f x cs
 | .int k,H,f,x,cs,_,h=>D4.2 (D4.1 h)
 | .bool,_,_,_,_,_,h=>h
 | .str,_,_,_,_,_,h=>h
 | .un,_,_,_,_,_,h=>h
 | .bs,_,_,_,_,_,h=>h
 | .st t,_,_,_,_,c,h=>HA (t:=t) c h
 | .pr a b,_,_,_,_,c,⟨g,i,e,j,l⟩=>by have c:(HB a&&HB b)=Bp:=c;rw[AT]at c;exact⟨g,i,e,HA c.1 j,HA c.2 l⟩
def CA(Rr:Nat->Option (SR N.T))(k:Nat):Nat->Option (SR N.T):=λj=>match Hj j k with
 |true=>Ac .gone
 |false=>Rr j
theorem nE{k:Nat}{a:Ty}{l:List (a.den N.T)}{x:Dn}{η:Nat->BZ}{H:Hp}{v:BZ}(h:G8 (N.c a) H l (η k))(b:(Aw S x).is C η H v):(Aw (λt=>GU k a l (S t)) x).is C η H v:=by
 cases x with
 |tmp t=>exact CN h b
 |_=>exact b
end
section
variable {N : C9}
def I7(P:GQ)(yv:BZ)(vs:List BZ)(w:IW)(K:Bool->IW->Prop):Prop:= ∃l f c d a,yv= .func (.yield l) #[] #[]/\(Instr.yield l vs.toArray).run P w= .ok (.round l f c d a) w/\RoundIn Fence.wide 0 P l f c d a w λe g=> ∃b,e= .returned (.bool b)/\K b g
theorem I7.mono{P:GQ}{yv:BZ}{vs:List BZ}{w:IW}{K g:Bool->IW->Prop}(h:I7 P yv vs w K)(o:∀b w',K b w'->g b w'):I7 P yv vs w g:=by obtain⟨l,f,c,d,a,k,m,n⟩:=h;exact⟨l,f,c,d,a,k,m,n.mono λe w' ⟨b,i,j⟩=>⟨b,i,o _ _ j⟩⟩
structure IQ(N:C9)where
 pi:A'
 yi:Nat
 ts:List Ty
 F:BJ N pi.hs->Option (List (DQ N ts)×Bool)
def Lo{α:Type}(r:List α×Bool):Bool->List α×Bool
 |true=>r
 |false=>([],Bp)
structure I9(P:GQ)(f:Nat)(q:IQ N):Prop where
 cq:TY P f
 ok:∀x ys,q.F x=Ac ys->∀(G:Hp->List Ax->List (DQ N q.ts)×Bool->Prop) (yv:BZ),yv.oneCell'=Bp->
  (∀H H' O r,H.le H'->G H O r->G H' O r)->(∀H O,¬G H O ([],Aj))->
  (∀H O y l e,N.inv H->G H O (y::l,e)->∀A vs w,Zc H q.ts y vs->SH w H (A++O)->I7 P yv vs w λb w'=> ∃H' O',H.le H'/\SH w' H' (A++O')/\G H' O' (Lo (l,e) b))->
  ∀(η:Nat->BZ) (H:Hp) (O:List Ax) (Y:List (Nat×Ax)) (vs:List BZ) (w:IW),(keys Y).Nodup->vs.length=q.pi.sl.length->(∀p∈q.pi.sl,∃v,vs[p.1]?=Ac v/\(inst N q.pi.hs x p.2).is [] η H v)->vs[q.yi]?=Ac yv->
   keys Y=q.pi.ro.map (·.1)->(∀p∈q.pi.ro,∃X,Ay Y p.1=Ac X/\(instR N q.pi.hs x p.2).is [] η H p.1 X)->G H O ys->N.inv H->SH w H (Y.map (·.2)++O)->
  Calls P f vs.toArray w λe w'=> ∃v H' O' Y',e= .returned v/\H.le H'/\SH w' H' (Y'.map (·.2)++O')/\keys Y'=q.pi.ro.map (·.1)/\(∀p∈q.pi.ro,∃X,Ay Y' p.1=Ac X/\(instR N q.pi.hs x p.2).is [] η H' p.1 X)/\G H' O' ([],Bp)
structure JQ(N:C9)where
 pi:A'
 ky:Nat
 ts:List Ty
 rb:Bool
 F:BJ N pi.hs->Option (List (DQ N ts)×Option Bool)
def xM{α:Type}(r:List α)(b:Option Bool):Bool->List α×Option Bool
 |true=>(r,b)
 |false=>([],Ac Aj)
structure I8(P:GQ)(f:Nat)(q:JQ N):Prop where
 cq:TY P f
 ok:∀x r,q.F x=Ac r->∀(η:Nat->BZ) (G:Hp->List Ax->List (DQ N q.ts)×Option Bool->Prop),
  (∀H H' O r,H.le H'->G H O r->G H' O r)->(∀H O,¬G H O ([],C7))->
  (∀H O y r b,N.inv H->G H O (y::r,b)->∀A vs w,Zc H q.ts y vs->SH w H (A++O)->I7 P (η q.ky) vs w λc w'=> ∃H' O',H.le H'/\SH w' H' (A++O')/\G H' O' (xM r b c))->
  ∀(H:Hp) (O:List Ax) (Y:List (Nat×Ax)) (vs:List BZ) (w:IW),(keys Y).Nodup->vs.length=q.pi.sl.length->(∀p∈q.pi.sl,∃v,vs[p.1]?=Ac v/\(inst N q.pi.hs x p.2).is [] η H v)->
   keys Y=q.pi.ro.map (·.1)->(∀p∈q.pi.ro,∃X,Ay Y p.1=Ac X/\(instR N q.pi.hs x p.2).is [] η H p.1 X)->G H O r->N.inv H->SH w H (Y.map (·.2)++O)->
  Calls P f vs.toArray w λe w'=> ∃v H' O' Y' b,e= .returned v/\H.le H'/\SH w' H' (Y'.map (·.2)++O')/\keys Y'=q.pi.ro.map (·.1)/\(∀p∈q.pi.ro,∃X,Ay Y' p.1=Ac X/\(instR N q.pi.hs x p.2).is [] η H' p.1 X)/\G H' O' ([],Ac b)/\(q.rb=Bp->v= .bool b)
end
theorem Ajk{w:IW}{H:Hp}{O:List Ax}(m:SH w H O){i:Nat}{v:BZ}{e:Gs}{size n:Nat}{xs:List BZ}(hi:O[i]?=Ac (.row v e size n xs)):
  ∃k,H.le k/\SH w k (O.eraseIdx i)/\Sl k v size n xs/\∀w' l,SH w' k l->SH w' H (.row v e size n xs::l):=by
 have h:=m.ok i _ hi;rcases h.2 with⟨rfl,rfl⟩|⟨g,cap,cur,rfl,q,y,s,d,p,a⟩;· have:xs=[]:=Abb (by simpa using h.1);subst this;exact⟨H,Hp.le.refl H,m.drop i,Sl.nil H size,λw' l c=>c.IP e size⟩
 ·obtain⟨t,x⟩:=m.PN hi (b:=g) rfl y;refine⟨_,t,x,⟨h.1, .inr ⟨_,_,rfl,s⟩,λj u A=>⟨⟨g,0+j,C7⟩,cur,e,(0,0),by grind[AW,rv],rfl,by simp[Hp.put],?_⟩⟩,λw' l c=>?_⟩;· grind
  ·exact Aiu (i:=0) (r:= .row (.slice (Ac ⟨g,0,C7⟩) n cap) e size n xs) (o:= .cells cur e (0,0)) rf rf (m.Iz i _ g hi rf) (λz f=>⟨h.1, .inr ⟨g,cap,cur,rf,q,f,s,d,p,a⟩⟩) c
section
variable {N : C9}
section
variable{H:Hp}{η:Nat->BZ}{C:List (SV N.T)}{t:Ty}{k:Nat}
def CO:SV N.T->Bool
 | .d t _=>HB t
 | .Ec _ _ _ _ _=>Aj
 | .pd _ _ _=>Aj
 | .Cv _=>Aj
 | .lf _ a l=>CO a&&CO l
 | .t2 a b=>CO a&&CO b
 | .t3 a b c=>CO a&&(CO b&&CO c)
 | .AK _ l _=>CO l
 | .vc a l=>CO a&&CO l
 | .px _ (.dx _ _)=>Aj
 |_=>Bp
def Wq:SR N.T->Bool
 | .Ah _ l=>CO l
 | .row _ t _=>HB t
 | .Cv _=>Aj
 | .gone=>Bp
 | .map _ _ _ _=>Aj
 | .Ck _ _ _ _ _=>Aj
theorem Cj{g w:Nat->BZ->Prop}{η:Nat->BZ}{H p:Hp} :∀ {s:SV N.T} {v:BZ},CO s=Bp->s.BS g η H v->s.BS w η p v
 | .d t x,v,e,⟨o,i,j⟩=>⟨o,HA e i,j⟩
 | .na _,_,_,h=>h
 | .ct _ _,_,_,h=>h
 | .cb _ _,_,_,h=>h
 | .lt _ _ _,_,_,h=>h
 | .lb _,_,_,h=>h
 | .raw _,_,_,h=>h
 | .ud,_,_,h=>h
 | .no,_,_,h=>h
 | .loc _ _,_,_,h=>h
 | .AH _,_,_,h=>h
 | .Ec _ _ _ _ _,_,e,_=>by cases e
 | .pd t x off,v,e,_=>by cases e
 | .mp _,_,_,h=>h
 | .lf s a l,v,e,⟨q,r,u,i,j,k,m,A,B⟩=>by have e:(CO a&&CO l)=Bp:=e;rw[AT]at e;exact⟨q,r,u,i,j,Cj e.1 k,m,A,Cj e.2 B⟩
 | .nl,_,_,h=>h
 | .t2 a b,v,e,⟨x,y,i,j,k⟩=>by have e:(CO a&&CO b)=Bp:=e;rw[AT]at e;exact⟨x,y,i,Cj e.1 j,Cj e.2 k⟩
 | .t3 a b c,v,e,⟨x,y,z,i,j,k,m⟩=>by have e:(CO a&&(CO b&&CO c))=Bp:=e;rw[AT,AT]at e;exact⟨x,y,z,i,Cj e.1 j,Cj e.2.1 k,Cj e.2.2 m⟩
 | .AK f l o,v,e,⟨n,i,j⟩=>⟨n,i,Cj (s:=l) e j⟩
 | .vn,_,_,h=>h
 | .vc a l,v,e,⟨u,n,i,j,k⟩=>by have e:(CO a&&CO l)=Bp:=e;rw[AT]at e;exact⟨u,n,i,Cj e.1 j,Cj e.2 k⟩
 | .px _ (.sub _ _ _),_,_,h=>h
 | .px _ .sf,_,_,h=>h
 | .px _ (.hc _),_,_,h=>h
 | .px _ (.fo _),_,_,h=>h
 | .px _ (.fi _),_,_,h=>h
 | .px _ (.fe _ _ _),_,_,h=>h
 | .px _ .any,_,_,h=>h
 | .px _ .ub,_,_,h=>h
 | .px _ (.sd _),_,_,h=>h
 | .px _ (.dx _ _),_,e,_=>by cases e
 | .Cv _,_,e,_=>by cases e
theorem OX{t:Ty}{H b:Hp}(a:HB t=Bp):∀ {l:List (t.den N.T)} {xs:List BZ},A2 (N.c t) H l xs->A2 (N.c t) b l xs
 | [],_,h=>h
 |_::_,_,⟨c,xs,e,d,f⟩=>⟨c,xs,e,HA a d,OX a f⟩
theorem SK{d:Hp}{s:SR N.T}{r:Ax}(a:Wq s=Bp)(h:s.is C η H k r):s.is C η d k r:=by
 cases s with
 |Ah g l=>
  obtain⟨B,e,b,c,f⟩:=h;exact⟨B,e,b,c,Cj (s:=l) a f⟩
 |row g t l=>obtain⟨i,b,c⟩:=h;exact⟨i,b,OX a c⟩
 |Cv j=>cases a
 |gone=>exact h
 |map g m n l=>cases a
 |Ck _ _ _ _ _=>cases a
def qZ(k:Nat)(t:Ty)(l:List (t.den N.T)):SR N.T->SR N.T
 | .Ah g r=> .Ah g (GU k t l r)
 |r=>r
def z7(C:List (SV N.T)):SV N.T->SV N.T
 | .lf s a l=> .lf s (res C a) (z7 C l)
 |s=>s
theorem oO:∀ {s:SV N.T} {v:BZ},s.is C η H v->(z7 C s).is C η H v:=by
 intro s;induction s with
 |lf n a l _ k=>exact λ⟨b,c,u,d,e,f,g,i,j⟩=>⟨b,c,u,d,e,EU f,g,i,k j⟩
 |_=>exact λh=>h
def rlR(C:List (SV N.T)):SR N.T->SR N.T
 | .Ah g l=> .Ah g (z7 C l)
 |r=>r
def Ku(C:List (SV N.T))(Rr:Nat->Option (SR N.T))(k:Nat)(t:Ty)(l:List (t.den N.T)):Nat->Option (SR N.T):=λj=>match Hj j k with
 |true=>Ac .gone
 |false=>(Rr j).map λr=>qZ k t l (rlR C r)
theorem gU{a:Hp}(c:H.le a){j:Nat}{l:List (t.den N.T)}(h:G8 (N.c t) a l (η k)){r:SR N.T}{X:Ax}(d:r.is C η H j X):(qZ k t l (rlR C r)).is C η a j X:=by
 cases r with
 |Ah g b=>
  obtain⟨B,e,f,i,m⟩:=d;exact⟨B,e,f,i,CN h (oO (m.mono c))⟩
 |_=>exact SR.is.mono c d
end
variable {R : Type} {P : GQ} {C : List (SV N.T)} {S : Nat -> SV N.T} {Rr : Nat -> Option (SR N.T)} {nk : Nat} {o : K_} {k : Bx N.T -> Nat -> Option R} {r : R}
section
variable{g:Gs}{s:Bx N.T}{c:Nat}{b:Ty}{l:List (b.den N.T)}{τ:Nat->Nat}{a:Nat}{η:Nat->BZ}{H:Hp}{t:Ty}{x:t.den N.T}{B:Nat}{cs:List BZ}
theorem Ap.gT{d:Nat}{n:Ty}{l:List (n.den N.T)}(hk:Rr d=Ac (.row g n l))(h:Ap P C (λt=>GU d n l (S t)) (Ku C Rr d n l) o s)(hw:d∉keys s.wr)(hf:CO s.sv=Bp)(I:s.wr.all (λp=>Wq p.2)=Bp):Ap P C S Rr o ⟨s.sv,d::s.rd,s.wr⟩:=by
 intro η H Of a w Y hn hs hi hx hr E K Q hK;rcases hr d (.inl (by simp)) _ hk with e|⟨x,G,xs,rfl,hL⟩;· grind
 obtain⟨i,h2,h3⟩:=cf Of hn G;obtain⟨Z,D,g2,g3,g4⟩:=Ajk hs h2;rw[h3]at g2;have A:G8 (N.c n) Z l (η d):=G8.of (by grind[Bn]) rfl (hL.mono D) (hs.On h2);have J:d∉keys (FJ Y d):=λm=>by obtain⟨p,hp,e⟩:=By.1 m;have:=(Aaz.1 hp).2;rw[e]at this;simp at this
 refine h η Z Of a w (FJ Y d) (Ie hn) g2 (N.CY D hi) (λx V=>nE A ((hx x V).mono D)) (λj c sr f=>?_) (λj c b m=>?_) K Q λv w' H2 X Y' L W hY U M q B T=>?_
 ·unfold Ku at f;split at f;· cases f;exact .inl rfl
  ·rename_i u;have ne:=Abf u;obtain⟨s0,O,rfl⟩:=Pd.1 f;rcases hr j (c.imp (Aag _) id) s0 O with e|⟨z,e1,F⟩;· subst e;exact .inl rfl
   ·exact .inr ⟨z,by grind[ne,DG],gU D A F⟩
 ·grind[Ku,Option.map_eq_none_iff,CH]
 ·have y:d∉keys Y':=λm=>(q d m).elim J hw;refine hK v w' H X ((d, .row (η d) g (n.sz N) l.length xs)::Y') (Hp.le.refl H) (λj c=>W j λb m=>?_) (λj c=>?_) (λj sr c=>?_) (Aay.2 ⟨y,M⟩) (λj c=>?_) ?_ (Cj hf T)
  ·unfold Ku at b;split at b;· cases b
   ·exact c (Option.map_eq_none_iff.1 b) m
  ·simp only[Ay];split;· rename_i u;have:=AI u;subst this;exact G.symm
   ·rename_i u;rw[hY j c,DG (λe=>Abf u e.symm)]
  ·have ne:d≠j:=λe=>by subst e;exact hw (Dp c)
   refine(U j sr c).imp id λ⟨z,e1,F⟩=>⟨z,by rw[A3 ne];exact e1,SK (IT.1 I _ (A4 c)) F⟩
  ·simp only[keys,Aas,Aav]at c;rcases c with rfl|c;· exact .inl (Dp G)
   ·rcases q j c with e|e;· exact .inl (CH e)
    ·exact .inr e
  ·exact g4 w' _ (B.weaken L)
theorem xc(h:Ny Rr S τ):Ny (Ku C Rr c b l) (λt=>GU c b l (S t)) τ:=λt=>by
 have d:=h t;generalize g:S t=sv at d⊢;show D9 τ (Ku C Rr c b l) (GU c b l (S t));rw[g];cases sv with
 |AH j=>unfold GU;split<;>trivial
 |Ec j i off p x=>
  unfold GU;split;· trivial
  ·rename_i e;intro q u s a;unfold Ku at a;rw[e]at a;obtain⟨n,f,m⟩:=Pd.1 a;cases n<;>first|(cases m;exact d _ _ _ f)|cases m
 |_=>exact d
theorem UI(c:∀j,nk<=j->Rr j=C7)(b:a<nk):∀j,nk<=j->CA Rr a j=C7:=λj d=>by grind[CA,Hj,ba]
theorem OC(d:∀j,nk<=j->Rr j=C7)(c:a<nk):∀j,nk<=j->Ku C Rr a b l j=C7:=λj e=>by grind[Ku,Hj,ba]
def MS(a:Nat)(k:Bx N.T->Nat->Option R)(s:Bx N.T)(nk:Nat):Option R:=match B_ (keys s.wr) a,CO s.sv&&s.wr.all (λp=>Wq p.2)with
 |false,Bp=>k ⟨s.sv,a::s.rd,s.wr⟩ nk
 |_,_=>C7
theorem A1.gT{b:Nat}{c:Ty}{l:List (c.den N.T)}(w:Rr b=Ac (.row g c l))(h:A1 P C (λt=>GU b c l (S t)) (Ku C Rr b c l) nk o (MS b k) r):A1 P C S Rr nk o k r:=by
 obtain⟨s,m,d,p,q,u,v⟩:=h;unfold MS at d;split at d
 ·rename_i z a;rw[AT]at a;have y:b∉keys s.wr:=λe=>by grind[AR]
  refine⟨_,m,d,p.gT w y a.1 a.2,q,λj x f=>u j x ?_,λτ i=>?_⟩;· grind[Ku,Hj,absurd,ba]
  ·have n:=v τ (xc i);have a:=a.1;generalize s.sv=sv at n a;cases sv with
   |Ec _ _ _ _ _=>trivial
   |_=>exact n
 grind
def QO(k:Nat)(t:Ty)(x:t.den N.T):SV N.T->SV N.T
 | .loc j off=>match Hj j k with
  |true=> .pd t x off
  |false=> .loc j off
 | .lf s a r=> .lf s (QO k t x a) (QO k t x r)
 | .t2 a b=> .t2 (QO k t x a) (QO k t x b)
 | .t3 a b c=> .t3 (QO k t x a) (QO k t x b) (QO k t x c)
 | .AK f r d=> .AK f (QO k t x r) d
 | .vc a r=> .vc (QO k t x a) (QO k t x r)
 |s=>s
theorem jt{C:List (SV N.T)}{η:Nat->BZ}{H:Hp}{g:Nat->BZ->Prop}{k:Nat}{t:Ty}{x:t.den N.T}{B:Nat}{cs:List BZ}(U:η k=ptr B 0)(J:(N.c t).BO H x cs)(hc:∀j u,cs[j]?=Ac u->DV H (ptr B j) u):∀ {s:SV N.T} {v:BZ},s.BS g η H v->(QO k t x s).BS g η H v:=by
 intro s;induction s with
 |loc j off=>
  intro v M;unfold QO;split
  ·rename_i K;have:=AI K;obtain⟨D,d,rfl⟩:=M;have:B=D:=by grind[ptr]
   subst this;exact⟨⟨B,0,C7⟩,0,cs,by simp[ptr,xz],J,λj u L=>by have:=hc j u L;rw[rv,Abm,Abm];trivial⟩
  omega
 |lf n a l d m=>exact λ⟨F,G,u,e,i,p,q,Q,T⟩=>⟨F,G,u,e,i,d p,q,Q,m T⟩
 |t2 a b d m=>exact λ⟨y,z,e,i,p⟩=>⟨y,z,e,d i,m p⟩
 |t3 a b c d m I=>exact λ⟨y,z,w,e,i,p,q⟩=>⟨y,z,w,e,d i,m p,I q⟩
 |AK f r cs d=>exact λ⟨A,e,i⟩=>⟨A,e,d i⟩
 |vc a r d m=>exact λ⟨u,A,e,i,p⟩=>⟨u,A,e,d i,m p⟩
 |_=>exact λh=>h
theorem xE{k:Nat}(b:η k=ptr B 0)(c:(N.c t).BO H x cs)(hc:∀j u,cs[j]?=Ac u->DV H (ptr B j) u){y:Dn}{v:BZ}(h:(Aw S y).is C η H v):(Aw (λu=>QO k t x (S u)) y).is C η H v:=by
 cases y with
 |tmp u=>exact jt (C:=C) b c hc h
 |_=>exact h
theorem Ap.aU{f:Nat}{b:SV N.T}{L:Ty}{y:L.den N.T}(hk:Rr f=Ac (.Ah g b))(hy:KR N C 64 L b=Ac (y, .nl))(h:Ap P C (λt=>QO f L y (S t)) (CA Rr f) o s)(hw:f∉keys s.wr)(hf:CO s.sv=Bp)(W:s.wr.all (λp=>Wq p.2)=Bp):Ap P C S Rr o ⟨s.sv,f::s.rd,s.wr⟩:=by
 intro η H Of a w Y hn hs hi hx hr l K Q hK;rcases hr f (.inl (by simp)) _ hk with e|⟨x,T,B,cs,hB,rfl,hl⟩;· grind
 obtain⟨i,U,h3⟩:=cf Of hn T;obtain⟨c1,c2,M,hL,J⟩:=EK (cs:=cs.toList) hy hl;have J:BZ.agg c2.toArray= .agg #[]:=J;have J:c2=[]:=by grind
 subst J;obtain⟨I,g2⟩:=hs.PN U (b:=B) rfl (hs.ok i _ U);have D:H.at_ B=C7:=hs.Iz i _ B U rfl;rw[h3]at g2;have V:=(N.c L).mono I hL;have hc:∀j u,c1[j]?=Ac u->DV (H.put B (.cells cs g (0,0))) (ptr B j) u:=λj u d=>by refine⟨⟨B,j,C7⟩,cs,g,(0,0),rf,rf,by simp[Hp.put],?_⟩;grind
 have X:f∉keys (FJ Y f):=λn=>by obtain⟨p,hp,e⟩:=By.1 n;have:=(Aaz.1 hp).2;rw[e]at this;simp at this
 refine h η _ Of a w (FJ Y f) (Ie hn) g2 (N.CY I hi) (λx hx'=>xE hB V hc ((hx x hx').mono I)) (λj d sr m=>?_) (λj d c n=>?_) K Q λv w' H2 η' Y' Z hη hY hwr hn' q F hsv=>?_
 ·unfold CA at m;split at m;· cases m;exact .inl rfl
  ·rename_i A;have ne:=Abf A;exact(hr j (d.imp (Aag _) id) sr m).imp id λ⟨z,M,O⟩=>⟨z,by grind[ne,DG],O.mono I⟩
 ·unfold CA at c;split at c;· cases c
  ·exact l j d c (CH n)
 ·have E:f∉keys Y':=λn=>(q f n).elim X hw;refine hK v w' H η' ((f, .Ah B (.cells cs g (0,0)))::Y') (Hp.le.refl H) (λj d=>hη j λc n=>?_) (λj d=>?_) (λj sr d=>?_) (Aay.2 ⟨E,hn'⟩) (λj d=>?_) ?_ (Cj hf hsv)
  ·unfold CA at c;split at c;· cases c
   ·exact d c n
  ·simp only[Ay];split;· rename_i A;have:=AI A;subst this;exact T.symm
   ·rename_i A;rw[hY j d,DG (λe=>Abf A e.symm)]
  ·have ne:f≠j:=λe=>by subst e;exact hw (Dp d)
   refine(hwr j sr d).imp id λ⟨z,M,O⟩=>⟨z,by rw[A3 ne];exact M,SK (IT.1 W _ (A4 d)) O⟩
  ·simp only[keys,Aas,Aav]at d;rcases d with rfl|d;· exact .inl (Dp T)
   ·rcases q j d with e|e;· exact .inl (CH e)
    ·exact .inr e
  ·exact Aiu (i:=0) (r:= .Ah B (.cells cs g (0,0))) (o:= .cells cs g (0,0)) rf rf D (λw'' G=>G) (F.weaken Z)
theorem xD{b:Nat}{f:Ty}{y:f.den N.T}(e:Ny Rr S τ):Ny (CA Rr b) (λt=>QO b f y (S t)) τ:=λt=>by
 have c:=e t;generalize d:S t=sv at c⊢;show D9 τ (CA Rr b) (QO b f y (S t));rw[d];cases sv with
 |loc j off=>unfold QO;split<;>trivial
 |Ec j i off m x=>
  intro g l h a;unfold CA at a;split at a;· grind
  ·exact c g l h a
 |_=>exact c
theorem A1.aU{b:SV N.T}{m:Ty}{y:m.den N.T}(w:Rr c=Ac (.Ah g b))(A:KR N C 64 m b=Ac (y, .nl))(h:A1 P C (λt=>QO c m y (S t)) (CA Rr c) nk o (MS c k) r):A1 P C S Rr nk o k r:=by
 obtain⟨s,l,d,p,q,u,v⟩:=h;unfold MS at d;split at d
 ·rename_i B a;rw[AT]at a;have z:c∉keys s.wr:=λe=>by grind[AR]
  refine⟨_,l,d,p.aU w A z a.1 a.2,q,λj x f=>u j x ?_,λτ i=>?_⟩;· grind[CA,Hj,absurd,ba]
  ·have n:=v τ (xD i);have a:=a.1;generalize s.sv=sv at n a;cases sv with
   |Ec _ _ _ _ _=>trivial
   |_=>exact n
 grind
def Te:SV N.T->List (SV N.T)
 | .vc a l=>a::Te l
 |_=>[]
def vv:SV N.T->Bool
 | .vc _ l=>vv l
 | .vn=>Bp
 |_=>Aj
structure Ca(T:Nat->Type)where
 f:Nat
 As:List (SV T)
 cs:List Nat
end
section
variable{η:Nat->BZ}{H:Hp}{x:Dn}{xs:List Dn}{tys:Array Gs}{q:PQ N}
def Tm(S:Nat->SV N.T)(Rr:Nat->Option (SR N.T))(x:Dn)(xs:List Dn):Option (Ca N.T):=match Aw S x with
 | .AK f l a=>match vv l&&a.all λc=>match Rr c with|some (.Ah _ _)=>Bp|_=>Aj with
  |true=>Ac ⟨f,Te l++xs.map (Aw S)++a.map (λc=> .loc c 0),a⟩
  |false=>C7
 |_=>C7
theorem Nh{C:List (SV N.T)}{η:Nat->BZ}{H:Hp} :∀ {l:SV N.T} {us:List BZ},vv l=Bp->l.is C η H (.tuple us.toArray)->us.length=(Te l).length/\∀(i:Nat) (s:SV N.T),(Te l)[i]?=Ac s->∃v,us[i]?=Ac v/\s.is C η H v
 | .vn,us,_,h=>by
  have h:BZ.tuple us.toArray= .tuple #[]:=h;have:us=[]:=by grind
  subst this;exact⟨rfl,λi s h=>by trivial⟩
 | .vc a l,us,g,⟨u,c,e,d,f⟩=>by
  have e:us=u::c:=by grind
  subst e;obtain⟨j,m⟩:=Nh (l:=l) g f;refine⟨by grind[Te],λi s h=>?_⟩;cases i with
  |zero=>simp[Te]at h;subst h;exact⟨u,rfl,d⟩
  |succ i=>grind[Te]
theorem jo{q:Ca N.T}(E:o.op= .call {callee:= .value x,args:=xs.toArray,argTypes:=tys})(h:Tm S Rr x xs=Ac q)(t:TY P q.f){Y:List (Nat×Ax)}{a:Act}(F:∀x∈o.op.operands,(Aw S x).is C η H (a.eval x))(Q:∀c∈q.cs,∀I,Rr c=Ac I->DU C η H Y c I):
  ∃vs:List BZ,vs.length=q.As.length/\(∀(i:Nat) (s:SV N.T),q.As[i]?=Ac s->∃v,vs[i]?=Ac v/\s.is C η H v)/\∀H O R,TB P q.f vs H O R->BM P o.op o.type (EV a) H O R:=by
 unfold Tm at h;split at h
 ·rename_i f l D T;split at h
  ·rename_i y;cases h;rw[AT]at y;have u:(Aw S x).is C η H (a.eval x):=F x (by grind[ax,gB]);rw[T]at u;obtain⟨J,e,M⟩:=u;obtain⟨K,W⟩:=Nh y.1 M;refine⟨J++xs.map a.eval++D.map η,by grind,λi s j=>?_,λH O R U=>?_⟩
   ·rw[Aal]at j⊢;by_cases V:i<(Te l).length;· grind
    ·rw[Aab (by omega)]at j;rw[Aab (by omega),K];by_cases w:i-(Te l).length<xs.length;· rw[Pe (by simpa using w),Acb]at j;rw[Pe (by simpa using w),Acb];obtain⟨z,G,rfl⟩:=Pd.1 j;refine⟨_,by rw[G];rfl,F z (by rw[E];simp[ax,gB];exact .inr (Aai G))⟩
     ·rw[Aab (by simpa using w),Acb]at j;rw[Aab (by simpa using w),Acb];simp only[Aaq]at j⊢;obtain⟨c,hc,rfl⟩:=Pd.1 j;have p:=Aai hc;have n:=IT.1 y.2 c p;refine⟨η c,by rw[hc];rfl,?_⟩;split at n
      ·rename_i g b L;rcases Q c p _ L with e|⟨X,_,B,_,A,_⟩;· cases e
       ·exact⟨B,A,A⟩
      ·cases n
   ·rw[E];exact Ajt (first:=J) (caps:=D.map η) t (congrArg Ac e) (LY xs) U
  grind
 grind
def X9{T:Nat->Type} :SV T->Option Nat
 | .AH k=>Ac k
 | .lf _ a l=>match X9 a with
  |some k=>Ac k
  |none=>X9 l
 |_=>C7
def V9(a:List (SV N.T)):List (Nat×SP)->Option Nat
 | []=>C7
 |(i, .v _ _)::l=>match X9 (a.getD i .no)with
  |some k=>Ac k
  |none=>V9 a l
 |_::l=>V9 a l
def aT(a:List (SV N.T)):List (Nat×SP)->Option (Nat×Ty)
 | []=>C7
 |(i, .pd _ t _)::l=>match a.getD i .no with
  | .loc k _=>Ac (k,t)
  |_=>aT a l
 |_::l=>aT a l
def Pg(C:List (SV N.T))(f:Nat)(q:PQ N)(x:Dn)(xs:List Dn)(nk:Nat):Nat->(Nat->SV N.T)->(Nat->Option (SR N.T))->(Bx N.T->Nat->Option R)->Option (Option R)
 |0,_,_,_=>C7
 |n+1,S,Rr,k=>match Tm S Rr x xs with
  |some c=>
        match Hj c.f f with
   |true=>
        match V9 c.As q.pi.sl with
    |some a=>match Rr a with
     |some (.row _ d l)=>Pg C f q x xs nk n (λt=>GU a d l (S t)) (Ku C Rr a d l) (MS a k)
     |_=>C7
    |none=>match aT c.As q.pi.sl with
     |some (kb,e)=>match Rr kb with
      |some (.Ah _ b)=>match X9 (z7 C b)with
       |some a=>match Rr a with
        |some (.row _ d l)=>Pg C f q x xs nk n (λt=>GU a d l (S t)) (Ku C Rr a d l) (MS a k)
        |_=>C7
       |none=>match KR N C 64 e b with
        |some (y, .nl)=>Pg C f q x xs nk n (λt=>QO kb e y (S t)) (CA Rr kb) (MS kb k)
        |_=>C7
      |_=>C7
     |none=>WV C Rr nk q c.As c.cs k
   |false=>C7
  |none=>C7
theorem VO{y:BJ N q.po.hs}{τ:Nat->Nat}{Rr:Nat->Option (SR N.T)}{ρ:Nat->Nat}(c:vm q=Bp):D9 τ Rr ((Jn q y).DP ρ):=by
 unfold vm at c;rw[AT]at c;have B:∀p∈Z2 q,∀ {ρ:Nat->Nat} {Rr:Nat->Option (SR N.T)},D9 τ Rr ((inst N q.po.hs y p).DP ρ):=λp l {ρ Rr} =>by
  have:=
      IT.1 c.1 p l;rw[AT]at this;have s:=this.1;have pr:∀(a:List HT) (x:BJ N a) (j:Nat),D9 τ Rr ((Ct N a x j).DP ρ):=λa x j=>by
   have:∀(a:List HT) (x:BJ N a) (j:Nat),Ct N a x j= .no\/∃h y,Ct N a x j=e_ N h y:=by
    intro a;induction a with
    |nil=>exact λ_ _=> .inl rfl
    |cons t g w=>
     intro x j;cases g with
     |nil=>cases j with
      |zero=>exact .inr ⟨t,x,rfl⟩
      |succ j=>exact .inl rfl
     |cons u g=>cases j with
      |zero=>exact .inr ⟨t,x.1,rfl⟩
      |succ j=>exact w x.2 j
   rcases this a x j with e|⟨h,y,e⟩;· rw[e];trivial
   ·rw[e];cases h<;>trivial
  cases p with
  |v j t=>exact pr _ _ _
  |nat j=>exact pr _ _ _
  |AH _=>trivial
  |loc _ _=>trivial
  |AK _ _ _=>trivial
  |Am=>trivial
  |nl=>trivial
  |mp _=>trivial
  |pd j t off=>
   show D9 τ Rr (SV.DP ρ (match Ct N q.po.hs y j with| .d t x=>SV.pd t x off|_=> .no));split<;>trivial
  |px f z=>cases z with
   |sf=>trivial
   |hc _=>trivial
   |sub j n t=>
    show D9 τ Rr (SV.DP ρ (match Ct N q.po.hs y j,Ct N q.po.hs y n with| .na i, .na m=>SV.px f (.sub i m t)|_,_=> .px f .any));split<;>trivial
  |sv A=>cases A<;>trivial
  |_=>trivial
 unfold Jn;unfold Z2 at B;split;· trivial
 ·simp_all
 all_goals trivial
theorem J1{f:Nat}{q:PQ N}{x:Dn}{xs:List Dn}{tys:Array Gs}(D:o.op= .call {callee:= .value x,args:=xs.toArray,argTypes:=tys})(A:Cr P f q):∀ {n:Nat} {S:Nat->SV N.T} {Rr:Nat->Option (SR N.T)} {k:Bx N.T->Nat->Option R},(∀j,nk<=j->Rr j=C7)->Pg C f q x xs nk n S Rr k=Ac (Ac r)->A1 P C S Rr nk o k r
 |0,_,_,_,_,h=>by cases h
 |n+1,S,Rr,k,t,h=>by
  unfold Pg at h;split at h
  ·rename_i c hc;split at h
   ·rename_i T;have e:=AI T;split at h
    ·rename_i E hk;split at h
     ·rename_i g te l u;have m:E<nk:=Aby λi=>by grind
      exact .gT u (J1 D A (OC t m) h)
     grind
    ·split at h
     ·rename_i kb tb V;split at h;case h_2=>cases h
      rename_i g b w;have v:kb<nk:=Aby λi=>by have:=t kb i;rw[w]at this;cases this
      split at h
      ·rename_i E U;split at h
       ·rename_i g te l u;have m:E<nk:=Aby λi=>by have:=t E i;rw[u]at this;cases this
        exact .gT u (J1 D A (OC t m) h)
       ·cases h
      ·split at h;· rename_i y I;exact .aU w I (J1 D A (UI t v) h)
       ·cases h
     unfold WV at h;simp only at h;split at h
     ·rename_i d;simp only[AT]at d;split at h
      ·rename_i z hz;obtain⟨y,I,h⟩:=Bi (Abs h);obtain⟨L,M⟩:=Yx (S:=S) (o:=o) (f:=f) (ex:=c.cs) A d.2.2.1 d.2.2.2 (AI d.1) (λp W=>by simpa using IT.1 d.2.1 p W) hz I t λη H Y a Z u=>by
        obtain⟨vs,k1,k2,k3⟩:=jo D hc (by rw[e];exact A.cq) Z (λK F sr G=>u K (Abz _ F) sr G);exact⟨vs,k1,k2,λH O R X=>k3 H O R (by rw[e];exact X)⟩
       refine⟨_,_,h,L,Nat.le_add_right _ _,M,λτ _=>?_⟩;exact VO d.2.2.2
      ·cases h
     ·cases h
   grind
  grind
inductive CQ(N:C9)where
 |PS (l:List (PQ N))
 |its (l:List (IQ N))
 |qH (l:List (JQ N))
end
section
variable{f:Nat}{x:Dn}{tys:Array Gs}
def Bu(P:GQ)(f:Nat):CQ N->Prop
 | .PS l=> ∀q∈l,Cr P f q
 | .its l=> ∀q∈l,I9 P f q
 | .qH l=> ∀q∈l,I8 P f q
def Tl(C:List (SV N.T))(f:Nat)(x:Dn)(xs:List Dn)(S:Nat->SV N.T)(Rr:Nat->Option (SR N.T))(nk:Nat)(k:Bx N.T->Nat->Option R):List (PQ N)->Option R
 | []=>C7
 |q::l=>match Pg C f q x xs nk 9 S Rr k with
  |some z=>z
  |none=>Tl C f x xs S Rr nk k l
theorem Nl{f:Nat}{x:Dn}{xs:List Dn}{tys:Array Gs}(c:o.op= .call {callee:= .value x,args:=xs.toArray,argTypes:=tys})(b:∀j,nk<=j->Rr j=C7):∀ {l:List (PQ N)},(∀q∈l,Cr P f q)->Tl C f x xs S Rr nk k l=Ac r->A1 P C S Rr nk o k r
 | [],_,h=>by cases h
 |q::l,d,h=>by
  unfold Tl at h;split at h;· rename_i z e;subst h;exact J1 c (d q (by simp)) b e
  ·exact Nl c b (λq g=>d q (by grind)) h
theorem J4{C:List (SV N.T)}{η:Nat->BZ}{H:Hp} :∀(ps:List Ty) (d:List (SV N.T)) (vs:List BZ) (x:DQ N ps),U3 N C ps d=Ac x->vs.length=d.length->(∀(i:Nat) (s:SV N.T),d[i]?=Ac s->∃v,vs[i]?=Ac v/\s.is C η H v)->Zc H ps x vs
 | [],[],vs,x,h,a,_=>Abb a
 | [],_::_,_,x,h,_,_=>by cases h
 | [t],[],_,x,h,_,_=>by cases h
 | [t],[s],vs,x,h,a,b=>by obtain⟨v,e,f⟩:=b 0 s rfl;obtain⟨j,rfl⟩:∃j,vs=[j]:=Adc.1 a;cases e;exact⟨_,rfl,WA (DL (t:=t) h f)⟩
 | [t],_::_::_,_,x,h,_,_=>by cases h
 |t::u::c,[],_,x,h,_,_=>by cases h
 |t::u::c,s::g,[],x,h,a,b=>by grind
 |t::u::c,s::g,v::vs,x,h,a,b=>by
  have h:(match TW C t s,U3 N C (u::c) g with
   |some x,Ac y=>Ac (x,y)
   |_,_=>C7)=Ac x:=h;split at h;· rename_i z w f l;cases h;obtain⟨j,e,m⟩:=b 0 s rfl;cases e;exact⟨_,_,rfl,WA (DL (t:=t) f m),J4 (u::c) g vs w l (by grind) λi s n=>b (i+1) s n⟩
  grind
def dj(C:List (SV N.T))(Φ:Nat->Option (CQ N))(S:Nat->SV N.T)(Rr:Nat->Option (SR N.T))(nk:Nat)(x:Dn)(xs:List Dn)(k:Bx N.T->Nat->Option R):Option R:=match x with
 | .func f=>match Φ f with
  |some (.PS l)=>Tl C f (.func f) xs S Rr nk k l
  |_=>C7
 |x=>match Tm S Rr x xs with
  |some c=>match Φ c.f with
   |some (.PS l)=>Tl C c.f x xs S Rr nk k l
   |_=>C7
  |none=>C7
theorem aq{Φ:Nat->Option (CQ N)}(d:∀f q,Φ f=Ac q->Bu P f q)(D:∀j,nk<=j->Rr j=C7){xs:Array Dn}(Z:o.op= .call {callee:= .value x,args:=xs,argTypes:=tys})(h:dj C Φ S Rr nk x xs.toList k=Ac r):A1 P C S Rr nk o k r:=by
 have i:o.op= .call {callee:= .value x,args:=xs.toList.toArray,argTypes:=tys} :=by omega
 unfold dj at h;split at h
 ·rename_i f;split at h
  ·rename_i l n;exact Nl i D (d _ _ n) h
  ·cases h
 ·split at h
  ·rename_i c hc;split at h
   ·rename_i l n;exact Nl i D (d _ _ n) h
   ·cases h
  ·cases h
def qd:List (SV N.T)->SV N.T
 | []=> .vn
 |a::l=> .vc a (qd l)
def jg(S:Nat->SV N.T):List Dn->Option (List Nat)
 | []=>Ac []
 |x::a=>match Aw S x,jg S a with
  | .loc c 0,Ac l=>Ac (c::l)
  |_,_=>C7
def qf(S:Nat->SV N.T)(nk f:Nat)(fs cs:List Dn)(k:Bx N.T->Nat->Option R):Option R:=match jg S cs with
 |some l=>k ⟨.AK f (qd (fs.map (Aw S))) l,[],[]⟩ nk
 |none=>C7
theorem V5{C:List (SV N.T)}{η:Nat->BZ}{H:Hp}{a:Act} :∀ {fs:List Dn},(∀x∈fs,(Aw S x).is C η H (a.eval x))->(qd (fs.map (Aw S))).is C η H (.tuple (fs.map a.eval).toArray)
 | [],_=>rfl
 |x::c,h=>⟨a.eval x,c.map a.eval,rfl,h x (by simp),V5 λy d=>h y (by grind)⟩
theorem WQ{C:List (SV N.T)}{η:Nat->BZ}{H:Hp}{a:Act} :∀ {cs:List Dn} {l:List Nat},jg S cs=Ac l->(∀x∈cs,(Aw S x).is C η H (a.eval x))->cs.map a.eval=l.map η
 | [],l,h,_=>by cases h;rfl
 |x::m,l,h,b=>by
  unfold jg at h;split at h;· rename_i c j f g;cases h;have:=b x (by simp);rw[f]at this;obtain⟨B,d,e⟩:=this;rw[Aas,Aas,WQ g (λy i=>b y (by grind)),d,e]
  grind
theorem pc{fs cs:Array Dn}(j:o.op= .makeFunc (.func f) fs cs)(h:qf S nk f fs.toList cs.toList k=Ac r):A1 P C S Rr nk o k r:=by
 unfold qf at h;split at h;· rename_i l i;refine .y h (Abu λη H O a d _=>?_) λ_ _=>trivial;have e:∀x∈fs.toList,(Aw S x).is C η H (a.eval x):=λx c=>d x (by grind[ax]);have g:∀x∈cs.toList,(Aw S x).is C η H (a.eval x):=λx c=>d x (by grind[ax]);refine⟨.func (.func f) (fs.toList.map a.eval).toArray (cs.toList.map a.eval).toArray,?_,fs.toList.map a.eval,by rw[WQ i g],V5 e⟩;rw[j];exact Au.makeFunc (fs:=fs.toList) (cs:=cs.toList) (LY _) (LY _)
 grind
end
end
class C3 (N:C9) (P:GQ):Prop where
 eq:∀ {P'},N.prog=Ac P'->P'=P
 laid:laidOutB P=Bp
abbrev gn:Ty:= .st (.pr (.int .i64) (.int .i64))
abbrev gp{T:Nat->Type}(m:gn.den T):Int×Int:=m
section
variable {N : C9}
section
variable{H:Hp}{κ:Type}{a:Ty}{k:κ}{x:a.den N.T}{v:BZ}
theorem Ev.len{a:Ty}{H:Hp}{κ:Type} :∀ {l:List (κ×a.den N.T)} {m:List (κ×BZ)},Ev a H l m->m.length=l.length
 | [],[],_=>rfl
 |_::l,_::m,⟨_,_,h⟩=>congrArg (· +1) (Ev.len h)
 | [],_::_,h=>h.elim
 |_::_,[],h=>h.elim
abbrev FY(a:Ty)(H:Hp)(x:a.den N.T)(v:BZ):Prop:= ∃b,(N.c a).BO H x b/\CL a b v
theorem Ev.get{b:Ty}{H:Hp}{κ:Type} [DecidableEq κ](k:κ):∀ {l:List (κ×b.den N.T)} {m:List (κ×BZ)},Ev b H l m->(AB l k=C7/\AB m k=C7)\/∃x v,AB l k=Ac x/\AB m k=Ac v/\FY b H x v
 | [],[],_=> .inl ⟨rfl,rfl⟩
 |(j,x)::l,(f,v)::m,⟨a,c,d⟩=>by
  subst a;unfold AB;by_cases e:j=k;· grind
  ·rw[if_neg e,if_neg e];exact Ev.get k d
 | [],_::_,h=>h.elim
 |_::_,[],h=>h.elim
theorem Ev.set{a:Ty}{H:Hp}{κ:Type} [DecidableEq κ]{k:κ}{x:a.den N.T}{v:BZ}(d:FY a H x v):∀ {l:List (κ×a.den N.T)} {m:List (κ×BZ)},Ev a H l m->Ev a H (Iw l k x) (Iw m k v)
 | [],[],_=>trivial
 |(j,y)::l,(g,u)::m,⟨b,f,c⟩=>by
  subst b;unfold Iw;by_cases e:j=k;· rw[if_pos e,if_pos e];trivial
  ·rw[if_neg e,if_neg e];exact⟨rfl,f,Ev.set d c⟩
 | [],_::_,h=>h.elim
 |_::_,[],h=>h.elim
theorem Ev.app{a:Ty}{H:Hp}{κ:Type}{k:κ}{x:a.den N.T}{v:BZ}(b:FY a H x v):∀ {l:List (κ×a.den N.T)} {m:List (κ×BZ)},Ev a H l m->Ev a H (l++[(k,x)]) (m++[(k,v)])
 | [],[],_=>⟨rfl,b,trivial⟩
 |_::l,_::m,⟨c,d,e⟩=>⟨c,d,Ev.app b e⟩
 | [],_::_,h=>h.elim
 |_::_,[],h=>h.elim
theorem Ev.put[DecidableEq κ](d:FY a H x v){l:List (κ×a.den N.T)}{m:List (κ×BZ)}(h:Ev a H l m):Ev a H (Bw l k x) (Bw m k v):=by
 unfold Bw;rcases h.get k with⟨b,c⟩|⟨_,_,b,c,_⟩;· rw[b,c];exact h.app d
 ·rw[b,c];exact h.set d
def zcs(b:Ty)(z:BZ):Option (List BZ):=match b.agg,z with
 |true, .agg a=>Ac a.toList
 |true,_=>C7
 |false,z=>Ac [z]
def zdK(N:C9)(P:GQ)(d:Gs)(b:Ty):Option (b.den N.T):=match P.info? d with
 |some a=>match a.zero with
  |some z=>match zcs b z with
   |some c=>match parse N 16 b c with
    |some (x,[])=>Ac x
    |_=>C7
   |none=>C7
  |none=>C7
 |none=>C7
theorem oc{P:GQ}{f:Gs}{d:Ty}{x:d.den N.T}(h:zdK N P f d=Ac x):∃n b z,TI P f n b z/\∀H,FY d H x z:=by
 unfold zdK at h;split at h
 ·rename_i c i;split at h
  ·rename_i z l;split at h
   ·rename_i g hc;split at h
    ·rename_i y k;refine⟨_,_,z,⟨c,i,rfl,rfl,l⟩,λH=>⟨g,?_,?_⟩⟩;· obtain⟨pre,e,j⟩:=CE (H:=H) k;grind
     ·unfold zcs at hc;unfold CL;split at hc;· rename_i a;cases hc;rw[a]
      all_goals grind
    grind
   grind
  grind
 grind
end
variable {R : Type} {P : GQ} {C : List (SV N.T)} {S : Nat -> SV N.T} {Rr : Nat -> Option (SR N.T)} {nk : Nat} {o : K_} {k : Bx N.T -> Nat -> Option R} {r : R}
section
variable{t:Gs}{x:Dn}{H:Hp}{y:Dn}
def qe(P:GQ)(nk:Nat)(t:Gs)(k:Bx N.T->Nat->Option R):Option R:=match N.prog with
 |none=>C7
 |some _=>match P.underlying t with
  |some (.map g b)=>match Mb N P b,P.underlying g with
   |some a,Ac .string=>k ⟨.mp nk,[],[(nk, .map g .str a [])]⟩ (nk+1)
   |some a,Ac (.int .i64)=>k ⟨.mp nk,[],[(nk, .map g (.int .i64) a [])]⟩ (nk+1)
   |some a,Ac (.struct _)=>match OM P g with
    |true=>k ⟨.mp nk,[],[(nk, .map g gn a [])]⟩ (nk+1)
    |false=>C7
   |_,_=>C7
  |_=>C7
theorem pb[C3 N P](f:o.op= .makeMap t C7)(e:∀j,nk<=j->Rr j=C7)(h:qe P nk t k=Ac r):A1 P C S Rr nk o k r:=by
 unfold qe at h;split at h;· grind
 ·rename_i d c;obtain rfl:=C3.eq (N:=N) (P:=P) c;split at h
  ·split at h;· rename_i q n b;refine .new h (Afd (e nk (Aac _)) λη H O a p _=>?_) λ_ _=>trivial;rw[f];refine(Ahh (mkS b)).mono ?_;rintro v i l ⟨B,rfl,rfl,rfl⟩;exact⟨rfl,_, .map (Ac B),rfl,⟨B,AA _ _ _,d,mkS b,[],c,λ_=>rfl,λ_ h=>h,rfl,trivial⟩,(AA _ _ _).symm,rfl⟩
   ·rename_i q n b;refine .new h (Afd (e nk (Aac _)) λη H O a p _=>?_) λ_ _=>trivial;rw[f];refine(Ahh (mkI b)).mono ?_;rintro v i l ⟨B,rfl,rfl,rfl⟩;exact⟨rfl,_, .map (Ac B),rfl,⟨B,AA _ _ _,d,mkI b,[],c,λ_=>rfl,λ_ h=>h,rfl,trivial⟩,(AA _ _ _).symm,rfl⟩
   ·split at h;· rename_i m;refine .new h (Afd (e nk (Aac _)) λη H O a p _=>?_) λ_ _=>trivial;rw[f];refine(Ahh (mkP (C3.laid N) m)).mono ?_;rintro v i l ⟨B,rfl,rfl,rfl⟩;exact⟨rfl,_, .map (Ac B),rfl,⟨B,AA _ _ _,d,mkP (C3.laid N) m,[],c,λ_=>rfl,λ_ h=>h,rfl,trivial⟩,(AA _ _ _).symm,rfl⟩
    grind
   grind
  grind
theorem ng{η:Nat->BZ}{m:(gn.den N.T)}{v:BZ}(h:(SV.d gn m:SV N.T).is C η H v):v= .agg #[.int .i64 m.1, .int .i64 m.2]:=by obtain⟨g,i,c⟩:=h;have c:v= .agg g.toArray:=c;obtain⟨d,f,e,a,b⟩:=i;have a:d=[.int .i64 m.1]:=a;have b:f=[.int .i64 m.2]:=b;grind
def qm(
     P:GQ) (C:List (SV N.T)) (S:Nat->SV N.T) (Rr:Nat->Option (SR N.T)) (nk:Nat) (t:Gs) (x y:Dn) (ok:Bool) (k:Bx N.T->Nat->Option R):Option R:=match Aw S x with
 | .mp b=>match Rr b,P.underlying t with
  |some (
      .map g i e l),Ac (.map h f)=>match Hj g h,zdK N P f e with
   |true,Ac z=>match i,l with
    | .str,l=>match To (Aw S y)with
     |some m=>Ag (m.length<=Ai) (match ok with
      |true=>k ⟨.t2 (.d e ((AB (κ:=Aq) l m).getD z)) (.d .bool (AB (κ:=Aq) l m).isSome),[b],[]⟩ nk
      |false=>k ⟨.d e ((AB (κ:=Aq) l m).getD z),[b],[]⟩ nk)
     |none=>C7
    | .int .i64,l=>match intOf (Aw S y)with
     |some (.i64,m)=>Aa .i64 m (match ok with
      |true=>k ⟨.t2 (.d e ((AB (κ:=Int) l m).getD z)) (.d .bool (AB (κ:=Int) l m).isSome),[b],[]⟩ nk
      |false=>k ⟨.d e ((AB (κ:=Int) l m).getD z),[b],[]⟩ nk)
     |_=>C7
    | .st (.pr (.int .i64) (.int .i64)),l=>match TW C gn (Aw S y)with
     |some m=>Ag (DW (gp m).1/\DW (gp m).2) (match ok with
      |true=>k ⟨.t2 (.d e ((AB (κ:=Int×Int) l (gp m)).getD z)) (.d .bool (AB (κ:=Int×Int) l (gp m)).isSome),[b],[]⟩ nk
      |false=>k ⟨.d e ((AB (κ:=Int×Int) l (gp m)).getD z),[b],[]⟩ nk)
     |none=>C7
    |_,_=>C7
   |_,_=>C7
  |_,_=>C7
 |_=>C7
theorem Ky{c:Ty}{κ:Type} [DecidableEq κ]{l:List (κ×c.den N.T)}{f:List (κ×BZ)}(h:Ev c H l f){z:c.den N.T}{g:BZ}(j:FY c H z g)(m:κ):
  FY c H ((AB l m).getD z) ((AB f m).getD g)/\(AB f m).isSome=(AB l m).isSome:=by
 rcases h.get m with⟨d,e⟩|⟨_,_,d,e,i⟩;all_goals grind
theorem pk[C3 N P]{ok:Bool}(E:o.op= .lookup t x y ok)(h:qm P C S Rr nk t x y ok k=Ac r):A1 P C S Rr nk o k r:=by
 have Z:∀ {η:Nat->BZ} {H:Hp} {a:Act},(∀x∈o.op.operands,(Aw S x).is C η H (a.eval x))->(Aw S x).is C η H (a.eval x):=λc=>c x (by grind[ax]);have G:∀ {η:Nat->BZ} {H:Hp} {a:Act},(∀x∈o.op.operands,(Aw S x).is C η H (a.eval x))->(Aw S y).is C η H (a.eval y):=λc=>c y (by grind[ax]);unfold qm at h;split at h
 ·rename_i b hs;have F:∀ {η:Nat->BZ} {H:Hp} {a:Act},(∀x∈o.op.operands,(Aw S x).is C η H (a.eval x))->a.eval x=η b:=λ{η H a} c=>by
   have:(SV.mp b:SV N.T).is C η H (a.eval x):=by simp_all
   exact this.1
  split at h
  ·rename_i g kt vt l g' et W J;split at h
   ·rename_i z Y hz;have:=AI Y;subst this;obtain⟨n,by_,zv,q,I⟩:=oc hz;split at h
    ·rename_i l;split at h
     ·rename_i m V;obtain⟨hc,h⟩:=AF h;have key:∀(η:Nat->BZ) (H:Hp) (O:List Ax) (a:Act),(∀x∈o.op.operands,(Aw S x).is C η H (a.eval x))->(∀k∈[b],∀s,Rr k=Ac s->s= .gone\/∃(x:Ax) (i:Nat),O[i]?=Ac x/\s.is C η H k x)->
        ∃u e,FY vt H ((AB (κ:=Aq) l m).getD z) u/\e=(AB (κ:=Aq) l m).isSome/\Au P (.lookup t x y Bp) o.type (EV a) H O (.tuple #[u, .bool e])/\Au P (.lookup t x y Aj) o.type (EV a) H O u:=λη H O a c j=>by
       rcases j b (by simp) _ W with e|⟨X,i,d,B,Q,P',K,ms,f,T,D,rfl,U⟩;· grind
       obtain rfl:=C3.eq (N:=N) (P:=P) f;obtain⟨L,M⟩:=Ky U (I H) m;have v:EV a x=Ac (.map (Ac B)):=congrArg Ac ((F c).trans Q);have w:EV a y=Ac (K.val m):=congrArg Ac ((I4 V (G c)).trans (T m).symm);exact⟨_,_,L,M,Ahn J q v w (D m hc) d,Ahm J q v w (D m hc) d⟩
      split at h;· refine .y h (Abu λη H O a c j=>?_) λ_ _=>trivial;obtain⟨u,e,d,rfl,f,_⟩:=key η H O a c j;exact⟨_,by rw[E];exact f,_,_,rfl,d,CS⟩
      ·refine .y h (Abu λη H O a c j=>?_) λ_ _=>trivial;obtain⟨u,e,d,rfl,_,f⟩:=key η H O a c j;exact⟨_,by rw[E];exact f,d⟩
     grind
    ·rename_i l;split at h
     ·rename_i m V;obtain⟨hc,_,h⟩:=BV h;have key:∀(η:Nat->BZ) (H:Hp) (O:List Ax) (a:Act),(∀x∈o.op.operands,(Aw S x).is C η H (a.eval x))->(∀k∈[b],∀s,Rr k=Ac s->s= .gone\/∃(x:Ax) (i:Nat),O[i]?=Ac x/\s.is C η H k x)->
        ∃u e,FY vt H ((AB (κ:=Int) l m).getD z) u/\e=(AB (κ:=Int) l m).isSome/\Au P (.lookup t x y Bp) o.type (EV a) H O (.tuple #[u, .bool e])/\Au P (.lookup t x y Aj) o.type (EV a) H O u:=λη H O a c j=>by
       rcases j b (by simp) _ W with e|⟨X,i,d,B,Q,P',K,ms,f,T,D,rfl,U⟩;· cases e
       obtain rfl:=C3.eq (N:=N) (P:=P) f;obtain⟨L,M⟩:=Ky U (I H) m;have v:EV a x=Ac (.map (Ac B)):=congrArg Ac ((F c).trans Q);have w:EV a y=Ac (K.val m):=congrArg Ac ((AU V (G c)).trans (T m).symm);exact⟨_,_,L,M,Ahn J q v w (D m hc) d,Ahm J q v w (D m hc) d⟩
      split at h;· refine .y h (Abu λη H O a c j=>?_) λ_ _=>trivial;obtain⟨u,e,d,rfl,f,_⟩:=key η H O a c j;exact⟨_,by rw[E];exact f,_,_,rfl,d,CS⟩
      ·refine .y h (Abu λη H O a c j=>?_) λ_ _=>trivial;obtain⟨u,e,d,rfl,_,f⟩:=key η H O a c j;exact⟨_,by rw[E];exact f,d⟩
     ·cases h
    ·rename_i l;split at h
     ·rename_i m V;obtain⟨hc,h⟩:=AF h;have key:∀(η:Nat->BZ) (H:Hp) (O:List Ax) (a:Act),(∀x∈o.op.operands,(Aw S x).is C η H (a.eval x))->(∀k∈[b],∀s,Rr k=Ac s->s= .gone\/∃(x:Ax) (i:Nat),O[i]?=Ac x/\s.is C η H k x)->
        ∃u e,FY vt H ((AB (κ:=Int×Int) l m).getD z) u/\e=(AB (κ:=Int×Int) l m).isSome/\Au P (.lookup t x y Bp) o.type (EV a) H O (.tuple #[u, .bool e])/\Au P (.lookup t x y Aj) o.type (EV a) H O u:=λη H O a c j=>by
       rcases j b (by simp) _ W with e|⟨X,i,d,B,Q,P',K,ms,f,T,D,rfl,U⟩;· cases e
       obtain rfl:=C3.eq (N:=N) (P:=P) f;obtain⟨L,M⟩:=Ky U (I H) m;have v:EV a x=Ac (.map (Ac B)):=congrArg Ac ((F c).trans Q);have w:EV a y=Ac (K.val m):=congrArg Ac ((ng (DL (t:=gn) V (G c))).trans (T m).symm);exact⟨_,_,L,M,Ahn J q v w (D m hc) d,Ahm J q v w (D m hc) d⟩
      split at h;· refine .y h (Abu λη H O a c j=>?_) λ_ _=>trivial;obtain⟨u,e,d,rfl,f,_⟩:=key η H O a c j;exact⟨_,by rw[E];exact f,_,_,rfl,d,CS⟩
      ·refine .y h (Abu λη H O a c j=>?_) λ_ _=>trivial;obtain⟨u,e,d,rfl,_,f⟩:=key η H O a c j;exact⟨_,by rw[E];exact f,d⟩
     ·cases h
    grind
   grind
  grind
 grind
def gk(
     P:GQ) (C:List (SV N.T)) (S:Nat->SV N.T) (Rr:Nat->Option (SR N.T)) (nk:Nat) (t:Gs) (x y u:Dn) (k:Bx N.T->Nat->Option R):Option R:=match Aw S x with
 | .mp b=>match Rr b,P.underlying t with
  |some (.map g d a l),Ac (.map c _)=>match Hj g c,TW C a (Aw S u)with
   |true,Ac z=>match d,l with
    | .str,l=>match To (Aw S y)with
     |some m=>Ag (m.length<=Ai/\l.length<=Ai) (k ⟨.no,[],[(b, .map g .str a (Bw (κ:=Aq) l m z))]⟩ nk)
     |none=>C7
    | .int .i64,l=>match intOf (Aw S y)with
     |some (.i64,m)=>Aa .i64 m (Ag (l.length<=Ai) (k ⟨.no,[],[(b, .map g (.int .i64) a (Bw (κ:=Int) l m z))]⟩ nk))
     |_=>C7
    | .st (.pr (.int .i64) (.int .i64)),l=>match TW C gn (Aw S y)with
     |some m=>Ag ((DW (gp m).1/\DW (gp m).2)/\l.length<=Ai) (k ⟨.no,[],[(b, .map g gn a (Bw (κ:=Int×Int) l (gp m) z))]⟩ nk)
     |none=>C7
    |_,_=>C7
   |_,_=>C7
  |_,_=>C7
 |_=>C7
theorem ah[C3 N P]{u:Dn}(c:o.op= .mapUpdate t x y u\/o.op= .insert t x y u)(h:gk P C S Rr nk t x y u k=Ac r):A1 P C S Rr nk o k r:=by
 have Z:∀ {η:Nat->BZ} {H:Hp} {a:Act},(∀x∈o.op.operands,(Aw S x).is C η H (a.eval x))->(Aw S x).is C η H (a.eval x):=λd=>d x (by grind[ax]);have I:∀ {η:Nat->BZ} {H:Hp} {a:Act},(∀x∈o.op.operands,(Aw S x).is C η H (a.eval x))->(Aw S y).is C η H (a.eval y):=λd=>d y (by grind[ax]);have G:∀ {η:Nat->BZ} {H:Hp} {a:Act},(∀x∈o.op.operands,(Aw S x).is C η H (a.eval x))->(Aw S u).is C η H (a.eval u):=λd=>d u (by grind[ax]);unfold gk at h;split at h
 ·rename_i b hs;have F:∀ {η:Nat->BZ} {H:Hp} {a:Act},(∀x∈o.op.operands,(Aw S x).is C η H (a.eval x))->a.eval x=η b:=λ{η H a} d=>by
   have:(SV.mp b:SV N.T).is C η H (a.eval x):=by simp_all
   exact this.1
  split at h
  ·rename_i g kt M l g' et J L;split at h
   ·rename_i z Y hz;have:=AI Y;subst this;split at h
    ·split at h
     ·rename_i m V;obtain⟨⟨hc,e⟩,h⟩:=AF h;refine .set h J (Afv J (by simp) λη H O a X i d A f _=>?_) λ_ _=>trivial;obtain⟨B,f,U,K,ms,D,E,p,rfl,q⟩:=f;obtain rfl:=C3.eq (N:=N) (P:=P) D;have s:EV a x=Ac (.map (Ac B)):=congrArg Ac ((F d).trans f);have w:EV a y=Ac (K.val m):=congrArg Ac ((I4 V (I d)).trans (E m).symm);have W:FY M H z (a.eval u):=DL (t:=M) hz (G d);refine⟨_,⟨B,f,U,K,_,D,E,p,rfl,q.put (k:=m) W⟩,?_⟩;rcases c with c|c<;>rw[c];· exact(Ahi L s w rfl (p m hc) (by rw[q.len];exact e) A).mono λv Q T ⟨j,n⟩=>⟨j,n,trivial⟩
      ·exact(Ahg L s w rf (p m hc) (by rw[q.len];exact e) A).mono λv Q T ⟨j,n⟩=>⟨j,n,trivial⟩
     grind
    ·split at h
     ·rename_i m V;obtain⟨hc,_,h⟩:=BV h;obtain⟨e,h⟩:=AF h;refine .set h J (Afv J (by simp) λη H O a X i d A f _=>?_) λ_ _=>trivial;obtain⟨B,f,U,K,ms,D,E,p,rfl,q⟩:=f;obtain rfl:=C3.eq (N:=N) (P:=P) D;have s:EV a x=Ac (.map (Ac B)):=congrArg Ac ((F d).trans f);have w:EV a y=Ac (K.val m):=congrArg Ac ((AU V (I d)).trans (E m).symm);have W:FY M H z (a.eval u):=DL (t:=M) hz (G d);refine⟨_,⟨B,f,U,K,_,D,E,p,rfl,q.put (k:=m) W⟩,?_⟩;rcases c with c|c<;>rw[c];· exact(Ahi L s w rfl (p m hc) (by rw[q.len];exact e) A).mono λv Q T ⟨j,n⟩=>⟨j,n,trivial⟩
      ·exact(Ahg L s w rf (p m hc) (by rw[q.len];exact e) A).mono λv Q T ⟨j,n⟩=>⟨j,n,trivial⟩
     ·cases h
    ·split at h
     ·rename_i m V;obtain⟨⟨hc,e⟩,h⟩:=AF h;refine .set h J (Afv J (by simp) λη H O a X i d A f _=>?_) λ_ _=>trivial;obtain⟨B,f,U,K,ms,D,E,p,rfl,q⟩:=f;obtain rfl:=C3.eq (N:=N) (P:=P) D;have s:EV a x=Ac (.map (Ac B)):=congrArg Ac ((F d).trans f);have w:EV a y=Ac (K.val m):=congrArg Ac ((ng (DL (t:=gn) V (I d))).trans (E m).symm);have W:FY M H z (a.eval u):=DL (t:=M) hz (G d);refine⟨_,⟨B,f,U,K,_,D,E,p,rfl,q.put (κ:=Int×Int) (k:=gp m) W⟩,?_⟩;rcases c with c|c<;>rw[c];· exact(Ahi L s w rfl (p m hc) (by rw[q.len];exact e) A).mono λv Q T ⟨j,n⟩=>⟨j,n,trivial⟩
      ·exact(Ahg L s w rf (p m hc) (by rw[q.len];exact e) A).mono λv Q T ⟨j,n⟩=>⟨j,n,trivial⟩
     ·cases h
    grind
   grind
  grind
 grind
def qk(P:GQ)(S:Nat->SV N.T)(Rr:Nat->Option (SR N.T))(nk:Nat)(x:Dn)(t:Gs)(k:Bx N.T->Nat->Option R):Option R:=match Aw S x with
 | .mp b=>match Rr b,P.underlying t with
  |some (.map g c _ l),Ac (.map a _)=>match Hj g a,c,l with
   |true, .str,l=>k ⟨.d (.int .i64) ((l.length:Nat):Int),[b],[]⟩ nk
   |true, .int .i64,l=>k ⟨.d (.int .i64) ((l.length:Nat):Int),[b],[]⟩ nk
   |_,_,_=>C7
  |_,_=>C7
 |_=>C7
theorem ph[C3 N P](s:o.op= .call {callee:= .builtin .len,args:= #[x],argTypes:= #[t]})(h:qk P S Rr nk x t k=Ac r):A1 P C S Rr nk o k r:=by
 have u:∀ {η:Nat->BZ} {H:Hp} {a:Act},(∀x∈o.op.operands,(Aw S x).is C η H (a.eval x))->(Aw S x).is C η H (a.eval x):=λd=>d x (by grind[ax,gB]);unfold qk at h;split at h
 ·rename_i b F;have j:∀ {η:Nat->BZ} {H:Hp} {a:Act},(∀x∈o.op.operands,(Aw S x).is C η H (a.eval x))->a.eval x=η b:=λ{η H a} d=>by
   have:(SV.mp b:SV N.T).is C η H (a.eval x):=by grind
   exact this.1
  split at h
  ·rename_i g L M l J I w z;split at h
   ·rename_i l c;have:=AI c;subst this;refine .y h (Abu λη H O a d v=>?_) λ_ _=>trivial;rcases v b (by simp) _ w with e|⟨X,i,m,B,n,A,K,G,p,D,E,rfl,q⟩;· grind
    obtain rfl:=C3.eq (N:=N) (P:=P) p;refine⟨_,by rw[s];exact Aja z (congrArg Ac ((j d).trans n)) m,?_⟩;rw[q.len];exact D6 trivial
   ·rename_i l c;have:=AI c;subst this;refine .y h (Abu λη H O a d v=>?_) λ_ _=>trivial;rcases v b (by simp) _ w with e|⟨X,i,m,B,n,A,K,G,p,D,E,rfl,q⟩;· cases e
    obtain rfl:=C3.eq (N:=N) (P:=P) p;refine⟨_,by rw[s];exact Aja z (congrArg Ac ((j d).trans n)) m,?_⟩;rw[q.len];exact D6 trivial
   grind
  grind
 grind
end
end
section
variable {N : C9} {R : Type} {P : GQ} {C : List (SV N.T)} {S : Nat -> SV N.T} {Rr : Nat -> Option (SR N.T)} {nk : Nat} {o : K_} {k : Bx N.T -> Nat -> Option R} {r : R}
section
variable{t:Gs}{H:Hp}{len:Nat}{ps:List (Nat×Dn)}{x:Dn}
theorem Ajp{T:Gs}{E:Dn->Option BZ}{O:List GK.Ax}{e:Gs}{size bytes:Nat}{z:BZ}{cs:Array BZ}{vs:List (Nat×BZ)}(ht:P.underlying t=Ac (.slice e))(l:TI P e size bytes z)
  (j:len*size<=16777216) (h0:0<len*size) (h:Zg E ps=Ac vs) (u:nF (λi=>Ac (i*size,size)) ((Array.range (len*size)).map (z.cells[· %z.cells.size]!)) vs=Ac cs):
  BM P (.buildSlice t len ps.toArray) T E H O (λv m n=>m=H/\∃B,v= .slice (Ac ⟨B,0,C7⟩) len len/\n= .Ah B (.cells cs e (0,0))::O):= .Ao λa w o y _ s A=>by
 have p:(ps.toArray.map λ(i,x)=>(i,a.eval x)).toList=vs:=by simpa using HF s h
 have c:¬len*size>2^24:=by omega
 have g:¬len*size=0:=by omega
 refine⟨.slice (Ac ⟨w.heap.size,0,C7⟩) len len,w.alloc (.cells cs e),H,_,?_,Hp.le.refl H,⟨rf,_,rf,rf⟩,A.push (r:= .Ah w.heap.size (.cells cs e (0,0))) (IW.grownBy_alloc w _ C7) (heap_alloc_new w _) (λb q=>by grind[Ax.has])⟩;simp only[Kt,y,Instr.buildSlice,oJ,AX ht,nw,l.sizeOf,if_neg c,if_neg g,l.zeroValue,Sem.run_pure,p,u];rfl
def df(S:Nat->SV N.T):Nat->List (Nat×Dn)->Option (SV N.T)
 |_,[]=>Ac .nl
 |i,(j,x)::b=>match Hj i j,Aw S x,df S (i+1) b with
  |true, .AK f l a,Ac r=>Ac (.lf 1 (.AK f l a) r)
  |_,_,_=>C7
theorem WO{η:Nat->BZ}{H:Hp}{a:Act} :∀ {ps:List (Nat×Dn)} {i:Nat} {l:SV N.T} {cs:List BZ},df S i ps=Ac l->(∀p∈ps,(Aw S p.2).is C η H (a.eval p.2))->cs.length=i+ps.length->
  ∃xs,nF (λi=>Ac (i*1,1)) cs.toArray (ps.map λp=>(p.1,a.eval p.2))=Ac (cs.take i++xs).toArray/\l.is C η H (.agg xs.toArray)/\xs.length=ps.length
 | [],i,l,cs,h,_,hc=>by cases h;refine⟨[],?_,rfl,rfl⟩;grind[nF,ru,Nat.le_of_eq]
 |(j,x)::ps,i,l,cs,h,t,hc=>by
  unfold df at h;split at h
  ·rename_i f G F r A E B;cases h;have e:=AI A;subst e;have q:=t (i,x) (by simp);rw[E]at q;have s:(a.eval x).oneCell'=Bp:=by obtain⟨I,e,_⟩:=q;rw[e];rfl
   have b:=A_ s;simp only[Abo]at hc;have n:(a.eval x).cells.size=1:=by grind[Array.length_toList]
   have D:(Cy cs (i*1) (a.eval x).cells.toList).length=i+1+ps.length:=by grind[Cy]
   obtain⟨xs,v,w,z⟩:=WO B (λp m=>t p (by simp[m])) D;refine⟨a.eval x::xs,?_,⟨[a.eval x],xs,a.eval x,rfl,rfl,q,b,(λy u=>by simp at u;subst u;exact s),w⟩,by simp[z]⟩;rw[Aas,KD (off:=i*1) (size:=1) rfl n (by simp;omega)];rw[v];unfold Cy;rw[b,Ada,Acf (by simp;omega),Abl (by simp;omega)];simp
  grind
def bcK(P:GQ)(S:Nat->SV N.T)(nk:Nat)(t:Gs)(len:Nat)(ps:List (Nat×Dn))(k:Bx N.T->Nat->Option R):Option R:=match P.underlying t with
 |some (.slice e)=>match PA P e 1,Hj ps.length len&&(bg 0 len&&iT len 1000),df S 0 ps with
  |true,Bp,Ac l=>match B_ l.AJ nk with
   |false=>k ⟨.px [nk] (.hc len),[],[(nk, .Ah e l)]⟩ (nk+1)
   |true=>C7
  |_,_,_=>C7
 |_=>C7
theorem wz(y:o.op= .buildSlice t len ps.toArray)(F:∀k∈CV C,k<nk)(G:∀j,nk<=j->Rr j=C7)(h:bcK P S nk t len ps k=Ac r):A1 P C S Rr nk o k r:=by
 have n:∀ {η:Nat->BZ} {H:Hp} {a:Act},(∀x∈o.op.operands,(Aw S x).is C η H (a.eval x))->∀p∈ps,(Aw S p.2).is C η H (a.eval p.2):=λs p K=>s p.2 (by grind[ax]);unfold bcK at h;split at h;case h_2=>grind
 rename_i e L;split at h;case h_2=>grind
 rename_i l E w I;split at h;case h_2=>cases h
 rename_i J;simp only[AT]at w;obtain⟨i,m,c⟩:=w;have A:=AI i;subst A;have c:=Abc c;obtain⟨bytes,z,q⟩:=Ds E;refine .new h (Afd (G nk (Aac _)) λη H O a s U=>?_) λ_ _=>trivial;have d:(((Array.range (ps.length*1)).map (z.cells[· %z.cells.size]!)).toList:List BZ).length=0+ps.length:=by simp
 obtain⟨V,u,D,T⟩:=WO (C:=C) (η:=η) (H:=H) (a:=a) I (n s) d;rw[y];refine(Ajp L q (by omega) (by simpa using m) (JP ps) u).mono ?_;rintro v M Q ⟨rfl,B,rfl,rfl⟩;exact⟨rfl,_,ptr B 0,rfl,⟨B,_,AA _ _ _,rfl,cg F J D⟩,(show ps.length<=9223372036854775807 by omega),B,by simp[AA],rfl⟩
def qN(P:GQ)(S:Nat->SV N.T)(nk:Nat)(t:Gs)(x y:Dn)(k:Bx N.T->Nat->Option R):Option R:=match P.underlying t,intOf (Aw S y),Aw S x with
 |some (.slice e),Ac (_,j), .px [b] (.hc n)=>match PA P e 1 with
  |true=>Ag (0<=j/\j<(n:Int)) (k ⟨.loc b j.toNat,[],[]⟩ nk)
  |false=>C7
 |_,_,_=>C7
theorem pC{y:Dn}(g:o.op= .indexAddr t x y)(h:qN P S nk t x y k=Ac r):A1 P C S Rr nk o k r:=by
 have i:∀ {η:Nat->BZ} {H:Hp} {a:Act},(∀x∈o.op.operands,(Aw S x).is C η H (a.eval x))->(Aw S x).is C η H (a.eval x):=λc=>c x (by grind[ax]);have l:∀ {η:Nat->BZ} {H:Hp} {a:Act},(∀x∈o.op.operands,(Aw S x).is C η H (a.eval x))->(Aw S y).is C η H (a.eval y):=λc=>c y (by grind[ax]);unfold qN at h;split at h;case h_2=>cases h
 rename_i e D j b n A w z;split at h;case h_2=>cases h
 rename_i v;obtain⟨bytes,E,m⟩:=Ds v;obtain⟨⟨q,s⟩,h⟩:=AF h;refine .y h (Abu λη H O a c _=>?_) λ_ _=>trivial;obtain⟨_,B,d,p⟩:(SV.px [b] (.hc n):SV N.T).is C η H (a.eval x):=by rw[<-z];exact i c
 have d:η b=ptr B 0:=by simpa using d
 have u:=AU w (l c);refine⟨AW (a.eval x) (j.toNat*1),?_,B,d,?_⟩;· rw[g];exact Agf A m rfl (.inr ⟨_,_,p,Aac _⟩) (congrArg Ac u) ⟨q,s⟩
 ·rw[p,Ada];show AW (.slice (Ac ⟨B,0,C7⟩) n n) j.toNat= .pointer (Ac ⟨B,j.toNat,C7⟩);simp only[AW,xz,Abm];split;· rename_i h;rw[h]
  ·rfl
def ql(P:GQ)(S:Nat->SV N.T)(nk:Nat)(x:Dn)(t:Gs)(k:Bx N.T->Nat->Option R):Option R:=match P.underlying t,Aw S x with
 |some (.slice _), .px [_] (.hc n)=>k ⟨.na n,[],[]⟩ nk
 |_,_=>C7
theorem pj(g:o.op= .call {callee:= .builtin .len,args:= #[x],argTypes:= #[t]})(h:ql P S nk x t k=Ac r):A1 P C S Rr nk o k r:=by
 have d:∀ {η:Nat->BZ} {H:Hp} {a:Act},(∀x∈o.op.operands,(Aw S x).is C η H (a.eval x))->(Aw S x).is C η H (a.eval x):=λf=>f x (by grind[ax,gB]);unfold ql at h;split at h;case h_2=>grind
 rename_i e b n p m;refine .y h (Abu λη H O a f _=>?_) λ_ _=>trivial;obtain⟨j,B,q,i⟩:(SV.px [b] (.hc n):SV N.T).is C η H (a.eval x):=by grind
 exact⟨_,by rw[g];exact Au.len p (congrArg Ac i) (.inr ⟨_,_,rf,Aac _⟩),rf,j⟩
end
end
section
variable {P : GQ}
section
variable{e:Gs}{n bytes:Nat}{z:BZ}
theorem Fk{d:Nat}{e:Gs}(c:P.underlying e=Ac .bool)(h1:P.cellsOf e=1)(w:IW)(xs ys:List Bool):∀(is:List Nat),(∀i∈is,i<xs.length/\i<ys.length)->
  (Op.eqItems (d+1) e (P.cellsOf e) (xs.map BZ.bool).toArray (ys.map BZ.bool).toArray is).run P w= .ok (is.all λi=>xs[i]?==ys[i]?) w
 | [],_=>by rfl
 |i::is,h=>by
  have b:=h i (by simp);have k:=Fk (d:=d) c h1 w xs ys is (λj g=>h j (by grind));have l:(part e (xs.map BZ.bool).toArray (i*P.cellsOf e)).run P w= .ok (.bool xs[i]) w:=by simp[part,Cg c,DM,h1,b.1]
  have m:(part e (ys.map BZ.bool).toArray (i*P.cellsOf e)).run P w= .ok (.bool ys[i]) w:=by simp[part,Cg c,DM,h1,b.2]
  have n:(lE (d+1) e (.bool xs[i]) (.bool ys[i])).run P w= .ok (xs[i]==ys[i]) w:=by simp[lE,AX c]
  simp only[Op.eqItems,oJ,l,m,n,nw];by_cases f:xs[i]=ys[i];all_goals simp_all
theorem Uc{t:Gs}(ht:P.underlying t=Ac (.array n e))(f:P.underlying e=Ac .bool)(l:TI P e 1 bytes z)(w:IW)(xs ys:List Bool)(m:xs.length=n)(o:ys.length=n):
  (rS t (.agg (xs.map BZ.bool).toArray) (.agg (ys.map BZ.bool).toArray)).run P w= .ok (Di (xs=ys)) w:=by
 obtain⟨i,b,k,_⟩:=l.ex;have c:P.cellsOf e=1:=by grind[GQ.cellsOf]
 have key:∀d,(lE (d+1+1) t (.agg (xs.map BZ.bool).toArray) (.agg (ys.map BZ.bool).toArray)).run P w= .ok (Di (xs=ys)) w:=λd=>by
  rw[run_equalIn_array w (d+1) _ _ ht b,Fk f c w xs ys _ (λi b=>by grind)];congr 1;rw[Alb];simp only[IT,Abg,beq_iff_eq,decide_eq_true_iff];constructor
  ·intro h;apply Afz;intro j;by_cases g:j<n;· exact h j g
   ·rw[Acz (by omega),Acz (by omega)]
  grind
 grind[rS,Alr]
theorem Akf{T Tx Ty:Gs}{E:Dn->Option BZ}{H:Hp}{O:List Ax}{x y:Dn}{ne:Bool}{xs ys:List Bool}(i:P.eqGuardType P.depth Tx=Aj)(ht:P.underlying Tx=Ac (.array n e))(m:P.underlying e=Ac .bool)(p:TI P e 1 bytes z)(k:E x=Ac (.agg (xs.map BZ.bool).toArray))(l:E y=Ac (.agg (ys.map BZ.bool).toArray))(h1:xs.length=n)(h2:ys.length=n):
  Au P (.binOp (match ne with|true=> .neq|false=> .eql) Tx x y Ty) T E H O (.bool (match ne with|true=> !decide (xs=ys)|false=>Di (xs=ys))):= .Ao λa w o j _ c _=>by
 have h:=Uc ht m p w xs ys h1 h2;cases ne with
 |false=>
  have f:=run_eqGuard_agg w .eql Tx x y (xs.map BZ.bool).toArray (ys.map BZ.bool).toArray i;simp_all[binOp,bool,decide,pure,rS,Kt]
 |true=>
  have f:=run_eqGuard_agg w .neq Tx x y (xs.map BZ.bool).toArray (ys.map BZ.bool).toArray i;simp_all[binOp,bool,decide,pure,rS,Kt]
end
end
section
variable {N : C9} {R : Type} {P : GQ} {C : List (SV N.T)} {S : Nat -> SV N.T} {Rr : Nat -> Option (SR N.T)} {nk : Nat} {o : K_} {k : Bx N.T -> Nat -> Option R} {r : R}
section
variable{t:Gs}{x y:Dn}
def KP:Ty->Option Nat
 | .bool=>Ac 1
 | .st t=>KP t
 | .pr a b=>match KP a,KP b with
  |some x,Ac y=>Ac (x+y)
  |_,_=>C7
 |_=>C7
def FO:(t:Ty)->t.den N.T->List Bool
 | .bool,x=>[x]
 | .st t,x=>FO t x
 | .pr a b,x=>FO a x.1++FO b x.2
 |_,_=>[]
theorem Fa{H:Hp} :∀ {t:Ty} {x:t.den N.T} {n:Nat} {cs:List BZ},KP t=Ac n->(N.c t).BO H x cs->cs=(FO t x).map BZ.bool/\(FO t x).length=n
 | .bool,x,_,cs,h,d=>by cases h;trivial
 | .st t,x,_,cs,h,d=>Fa (t:=t) h d
 | .pr a b,x,_,cs,h,d=>by
  unfold KP at h;split at h;· rename_i p q s u;obtain⟨v,w,rfl,l,m⟩:=d;obtain⟨f,g⟩:=Fa s l;obtain⟨i,j⟩:=Fa u m;grind[FO]
  grind
def jr(P:GQ)(t:Gs):Bool:=match P.underlying t with
 |some (.array _ e)=>match P.underlying e with
  |some .bool=>Bp
  |_=>Aj
 |_=>Aj
def iL(P:GQ)(C:List (SV N.T))(S:Nat->SV N.T)(nk:Nat)(ne:Bool)(t:Gs)(x y:Dn)(k:Bx N.T->Nat->Option R):Option R:=match P.underlying t,Mb N P t with
 |some (.array n e),Ac (.st u)=>match P.underlying e,PA P e 1,P.eqGuardType P.depth t with
  |some .bool,Bp,Aj=>match KP u,two C (.st u) (Aw S x) (Aw S y)with
   |some m,Ac (a,b)=>match Hj m n with
    |true=>k ⟨.d .bool (match ne with|true=> !decide (FO u a=FO u b)|false=>Di (FO u a=FO u b)),[],[]⟩ nk
    |false=>C7
   |_,_=>C7
  |_,_,_=>C7
 |_,_=>C7
theorem ao{ne:Bool}{u:Gs}(i:o.op= .binOp (match ne with|true=> .neq|false=> .eql) t x y u)(h:iL P C S nk ne t x y k=Ac r):A1 P C S Rr nk o k r:=by
 have j:∀ {η:Nat->BZ} {H:Hp} {a:Act},(∀x∈o.op.operands,(Aw S x).is C η H (a.eval x))->(Aw S x).is C η H (a.eval x):=λd=>d x (by simp_all[ax]);have l:∀ {η:Nat->BZ} {H:Hp} {a:Act},(∀x∈o.op.operands,(Aw S x).is C η H (a.eval x))->(Aw S y).is C η H (a.eval y):=λd=>d y (by rw[i];simp[ax]);unfold iL at h;split at h;case h_2=>cases h
 rename_i n e s G T;split at h;case h_2=>cases h
 rename_i E I F;split at h;case h_2=>cases h
 rename_i m a b q B;split at h;case h_2=>cases h
 rename_i D;have v:=AI D;subst v;obtain⟨bytes,z,p⟩:=Ds I;refine .y h (Abu λη H O L d _=>?_) λ_ _=>trivial;obtain⟨⟨M,f,w⟩,Q,g,A⟩:=Pv B (j d) (l d);obtain⟨f,J⟩:=Fa (t:=s) q f;obtain⟨g,K⟩:=Fa (t:=s) q g;subst f;subst g;exact⟨_,by rw[i];exact Akf (ne:=ne) F G E p (congrArg Ac w) (congrArg Ac A) J K,CS⟩
def iP(c:Ty):Nat->(t:Ty)->t.den N.T->Option (List (c.den N.T))
 |n+2, .pr a b,x=>match Qu N.T a c,iP c (n+1) b x.2 with
  |some f,Ac l=>Ac (f x.1::l)
  |_,_=>C7
 |1,t,x=>(Qu N.T t c).map λf=>[f x]
 |_,_,_=>C7
theorem SS{c:Ty}{H:Hp} :∀ {n:Nat} {t:Ty} {x:t.den N.T} {l:List (c.den N.T)} {cs:List BZ},iP c n t x=Ac l->(N.c t).BO H x cs->A2 (N.c c) H l cs/\l.length=n
 |n+2, .pr a b,x,l,cs,h,i=>by
  unfold iP at h;split at h;· rename_i f y g u;cases h;obtain⟨d,rfl⟩:=BB g;have e:=Adl d;subst e;obtain⟨m,p,rfl,q,s⟩:=i;obtain⟨v,w⟩:=SS u s;exact⟨⟨m,p,rfl,q,v⟩,by grind⟩
  grind
 |1,t,x,l,cs,h,i=>by obtain⟨f,g,rfl⟩:=Pd.1 h;obtain⟨d,rfl⟩:=BB g;have e:=Adl d;subst e;exact⟨⟨cs,[],by simp,i,rfl⟩,rfl⟩
def sB(P:GQ)(S:Nat->SV N.T)(nk:Nat)(t:Gs)(x y:Dn)(k:Bx N.T->Nat->Option R):Option R:=match P.underlying t,intOf (Aw S y),Aw S x with
 |some (.array n e),Ac (_,j), .d (.st u) z=>match P.underlying e,Mb N P e with
  |some d,Ac a=>match a.agg&&DM d&&PA P e (a.sz N),iP a n u z with
   |true,Ac l=>Ag (0<=j/\j<(n:Int)) (Ab (idx l j) λz=>k ⟨.d a z,[],[]⟩ nk)
   |_,_=>C7
  |_,_=>C7
 |_,_,_=>C7
theorem P9{c:Ty}{H:Hp} :∀ {l:List (c.den N.T)} {cs:List BZ} {i:Nat} {z:c.den N.T},A2 (N.c c) H l cs->l[i]?=Ac z->(N.c c).BO H z ((cs.drop (i*c.sz N)).take (c.sz N))
 | [],_,_,_,_,h=>by grind
 |a::l,_,0,z,⟨j,m,e,b,d⟩,h=>by cases h;subst e;rw[Aeo,Afa,Acf (by grind[Bg]),Abl (by grind[Bg])];omega
 |a::l,_,i+1,z,⟨j,m,e,b,d⟩,h=>by have:=P9 (i:=i) d (by trivial);grind[Nat.succ_mul,Nat.add_comm,Bg,xr,List.drop_left]
theorem pN(g:o.op= .index t x y)(h:sB P S nk t x y k=Ac r):A1 P C S Rr nk o k r:=by
 have i:∀ {η:Nat->BZ} {H:Hp} {a:Act},(∀x∈o.op.operands,(Aw S x).is C η H (a.eval x))->(Aw S x).is C η H (a.eval x):=λb=>b x (by rw[g];simp[ax]);have m:∀ {η:Nat->BZ} {H:Hp} {a:Act},(∀x∈o.op.operands,(Aw S x).is C η H (a.eval x))->(Aw S y).is C η H (a.eval y):=λb=>b y (by rw[g];simp[ax]);unfold sB at h;split at h;case h_2=>cases h
 rename_i n e W j u U M K L;split at h;case h_2=>cases h
 rename_i d B I Q;split at h;case h_2=>cases h
 rename_i l w J;simp only[AT]at w;obtain⟨⟨D,E⟩,F⟩:=w;obtain⟨bytes,X,p⟩:=Ds F;obtain⟨hc,h⟩:=AF h;obtain⟨z,q,h⟩:=Bi h;refine .y h (Abu λη H O a b _=>?_) λ_ _=>trivial;obtain⟨v,G,f⟩:(SV.d (.st u) U:SV N.T).is C η H (a.eval x):=by rw[<-L];exact i b
 have f:a.eval x= .agg v.toArray:=f;obtain⟨T,V⟩:=SS J G;have s:l[j.toNat]?=Ac z:=by unfold idx at q;rw[if_pos hc.1]at q;exact q
 refine⟨_,by rw[g];exact Au.qR M I E p (congrArg Ac f) (congrArg Ac (AU K (m b))) hc,(v.drop (j.toNat*B.sz N)).take (B.sz N),P9 T s,?_⟩;simp_all[CL]
end
end
section
variable {N : C9} {R : Type} {P : GQ} {C : List (SV N.T)} {S : Nat -> SV N.T} {Rr : Nat -> Option (SR N.T)} {nk : Nat} {o : K_} {k : Bx N.T -> Nat -> Option R} {r : R}
section
variable{x:Dn}{t T:Gs}{E:Dn->Option BZ}{H:Hp}{O:List Ax}{y z:Dn}
theorem fG(s:Aq)(i j:Nat):(⟨⟨s⟩⟩:ByteArray).extract i j=⟨⟨(s.drop i).take (j-i)⟩⟩:=by apply ByteArray.ext;simp
theorem Akq{s:Aq}{k d:Lr}{i j:Int}(ht:P.underlying t=Ac .string)(g:E x=Ac (sv s))(l:E y=Ac (.int k i))(m:E z=Ac (.int d j))(h0:0<=i)(h1:i<=j)(h2:j<=(s.length:Nat)):
  Au P (.slice t x (Ac y) (Ac z) C7) T E H O (sv ((s.drop i.toNat).take (j.toNat-i.toNat))):= .Ao λa w o f _ c _=>by
 have:=run_slice_string (P:=P) w t ⟨⟨s⟩⟩ k d i j ht h0 h1 h2;simp_all[sv,Kt,fG,run_sliceAt_string]
def oS(P:GQ)(S:Nat->SV N.T)(nk:Nat)(t:Gs)(x y z:Dn)(k:Bx N.T->Nat->Option R):Option R:=match P.underlying t,To (Aw S x),intOf (Aw S y),intOf (Aw S z)with
 |some .string,Ac s,Ac (_,i),Ac (_,j)=>Ag ((0<=i/\i<=j)/\j<=((s.length:Nat):Int)) (k ⟨.d .str ((s.drop i.toNat).take (j.toNat-i.toNat)),[],[]⟩ nk)
 |_,_,_,_=>C7
theorem o6(c:o.op= .slice t x (Ac y) (Ac z) C7)(h:oS P S nk t x y z k=Ac r):A1 P C S Rr nk o k r:=by
 have d:∀ {η:Nat->BZ} {H:Hp} {a:Act},(∀x∈o.op.operands,(Aw S x).is C η H (a.eval x))->(Aw S x).is C η H (a.eval x):=λb=>b x (by grind[ax]);have e:∀ {η:Nat->BZ} {H:Hp} {a:Act},(∀x∈o.op.operands,(Aw S x).is C η H (a.eval x))->(Aw S y).is C η H (a.eval y):=λb=>b y (by grind[ax]);have f:∀ {η:Nat->BZ} {H:Hp} {a:Act},(∀x∈o.op.operands,(Aw S x).is C η H (a.eval x))->(Aw S z).is C η H (a.eval z):=λb=>b z (by grind[ax]);unfold oS at h;split at h;case h_2=>grind
 rename_i s w i A j v u p q;obtain⟨⟨⟨g,l⟩,m⟩,h⟩:=AF h;exact .y h (Abu λη H O a b _=>⟨_,by rw[c];exact Akq v (congrArg Ac (I4 u (d b))) (congrArg Ac (AU p (e b))) (congrArg Ac (AU q (f b))) g l m,[_],rfl,rfl⟩) λ_ _=>trivial
theorem xi(n:Int):UP .u64 (n %18446744073709551616):=by show(0:Int)<=_/\_<=(18446744073709551615:Int);omega
def cwK(P:GQ)(S:Nat->SV N.T)(nk:Nat)(s d:Gs)(x:Dn)(k:Bx N.T->Nat->Option R):Option R:=match P.underlying s,P.underlying d,intOf (Aw S x)with
 |some (.int .i64),Ac (.int .u64),Ac (.i64,n)=>k ⟨.d (.int .u64) (n %18446744073709551616),[],[]⟩ nk
 |_,_,_=>C7
theorem wx{s d:Gs}(c:o.op= .convert s d x)(h:cwK P S nk s d x k=Ac r):A1 P C S Rr nk o k r:=by
 have b:∀ {η:Nat->BZ} {H:Hp} {a:Act},(∀x∈o.op.operands,(Aw S x).is C η H (a.eval x))->(Aw S x).is C η H (a.eval x):=λl=>l x (by grind[ax]);unfold cwK at h;split at h;case h_2=>grind
 rename_i n j f i;exact .y h (Abu λη H O a g _=>⟨_,by rw[c];exact Aix j f (congrArg Ac (AU i (b g))),by exact D6 (xi n)⟩) λ_ _=>trivial
theorem Aif{Tx:Gs}{c:Lr}{n:Int}(f:E x=Ac (.int c n)):Au P (.unOp .neg Tx x) T E H O (.int c (c.wrap (-n))):= .Ao λa w o e _ d _=>by simp_all[Kt,Op.unary,Op.intArith]
def p9(S:Nat->SV N.T)(nk:Nat)(x:Dn)(k:Bx N.T->Nat->Option R):Option R:=match intOf (Aw S x)with
 |some (.u64,n)=>k ⟨.d (.int .u64) ((-n) %18446744073709551616),[],[]⟩ nk
 |_=>p_ S nk x k
theorem o_(b:o.op= .unOp .neg t x)(h:p9 S nk x k=Ac r):A1 P C S Rr nk o k r:=by
 have c:∀ {η:Nat->BZ} {H:Hp} {a:Act},(∀x∈o.op.operands,(Aw S x).is C η H (a.eval x))->(Aw S x).is C η H (a.eval x):=λe=>e x (by grind[ax]);unfold p9 at h;split at h;· rename_i n d;exact .y h (Abu λη H O a g _=>⟨_,by rw[b];exact Aif (congrArg Ac (AU d (c g))),by exact D6 (xi _)⟩) λ_ _=>trivial
 grind[pa]
end
end
section
variable {P : GQ} {w : IW} {H : Hp} {O : List Ax} {T : Gs} {E : Dn -> Option BZ}
theorem Ahy{o:K_}{a:Act}{v:BZ}{C D:IW->Prop}(h:o.quietAt P a C w v)(k:∀w',C w'->D w'):o.quietAt P a D w v:=by unfold K_.quietAt K_.quietUpon at*;split at h<;>rename_i heq;all_goals first|omega|(exact⟨h.1,k _ h.2⟩)|(exact⟨h.1,h.2.mono λ_ _ q=>⟨q.1,k _ q.2⟩⟩)|cases h
theorem Au.sub{op:Op}{b:List Ax}{v:BZ}(h1:∀w,SH w H O->SH w H b)(h2:∀w,SH w H b->SH w H O)(h:Au P op T E H b v):Au P op T E H O v:=
 λa w o c d e f=>Ahy (h a w o c d e (h1 w f)) h2
theorem BM.sub{op:Op}{b:List Ax}{R e:BZ->Hp->List Ax->Prop}(h1:∀w,SH w H O->SH w H b)(h2:∀v w c b,R v c b->SH w c b->∃d,e v c d/\SH w c d)(h:BM P op T E H b R):BM P op T E H O e:=
 λa w o next Q f g i j n=>h a w o next Q f g i (h1 w j) λv p c b k l m=>by grind
section
variable {i : Nat} {v : BZ} {g e' : Gs} {n sz : Nat} {xs : List BZ} {rs : List (Option (Nat × List BZ))}
section
variable{u:BZ}
theorem Ajl(hi:O[i]?=Ac (.Ck v g n xs e' sz rs))(h:SH w H (O.set i (.row v g 1 n xs)++FW e' sz xs rs)):SH w H O:=by have:=h.T2 (No.1 hi).1;grind[GK.Rx]
theorem bX(hi:O[i]?=Ac (.Ck v g n xs e' sz rs)):(O.set i (.row v g 1 n xs)++FW e' sz xs rs)[i]?=Ac (.row v g 1 n xs):=by grind
theorem UN{a m:Nat}{ys:List BZ}(h1:xs[a]?=Ac u)(h2:rs[a]?=Ac (Ac (m,ys))):(O.set i (.row v g 1 n xs)++FW e' sz xs rs)[O.length+a]?=Ac (.row u e' sz m ys):=by grind[List.length_set,Nat.add_sub_cancel_left,Qp]
theorem Au.fl{op:Op}(hi:O[i]?=Ac (.Ck v g n xs e' sz rs))(h:Au P op T E H (O.set i (.row v g 1 n xs)++FW e' sz xs rs) u):Au P op T E H O u:=Au.sub (λ_ a=>a.flat hi) (λ_ a=>Ajl hi a) h
end
end
end
section
variable {N : C9} {R : Type} {P : GQ} {C : List (SV N.T)} {S : Nat -> SV N.T} {Rr : Nat -> Option (SR N.T)} {nk : Nat} {o : K_} {k : Bx N.T -> Nat -> Option R} {r : R}
section
variable{t:Gs}{x y:Dn}{H:Hp}{ys xs:List BZ}{rs:List (Option (Nat×List BZ))}{i sz:Nat}
theorem Agp{sv:SV N.T}{b:Nat}{f:SR N.T}(q:Rr b=Ac f)(h0:f≠ .gone)
  (h:∀(η:Nat->BZ) (H:Hp) (O:List Ax) (a:Act) (w:IW) (X:Ax) (i:Nat),(∀x∈o.op.operands,(Aw S x).is C η H (a.eval x))->SH w H O->O[i]?=Ac X->f.is C η H b X->∃v,Au P o.op o.type (EV a) H O v/\sv.is C η H v):
  Ap P C S Rr o ⟨sv,[b],[]⟩:=by
 intro η H j a w Y g c D y t _ K Q p;rcases t b (.inl (by simp)) _ q with e|⟨X,l,m⟩;· grind
 obtain⟨i,n,_⟩:=Jk j g l;obtain⟨v,z,A⟩:=h η H _ a w X i y c n m;refine Aet (z a w o rfl rfl (λx u e=>by grind) c) c λB d=>?_;exact p v B H η Y (Hp.le.refl H) (λ_ _=>rfl) (λ_ _=>rfl) (λk E h=>by cases h) g (λk s=> .inl s) d A
def qM(P:GQ)(S:Nat->SV N.T)(Rr:Nat->Option (SR N.T))(nk:Nat)(t:Gs)(x y:Dn)(k:Bx N.T->Nat->Option R):Option R:=match P.underlying t,intOf (Aw S y),Aw S x with
 |some (.slice g),Ac (_,i), .AH b=>match Rr b,PA P g 1 with
  |some (.Ck _ _ _ _ l),Bp=>Ag (0<=i/\i<((l.length:Nat):Int)) (k ⟨.px [b] (.fo i.toNat),[b],[]⟩ nk)
  |_,_=>C7
 |_,_,_=>C7
theorem pB(I:o.op= .indexAddr t x y)(h:qM P S Rr nk t x y k=Ac r):A1 P C S Rr nk o k r:=by
 have p:∀ {η:Nat->BZ} {H:Hp} {a:Act},(∀x∈o.op.operands,(Aw S x).is C η H (a.eval x))->(Aw S x).is C η H (a.eval x):=λf=>f x (by grind[ax]);have q:∀ {η:Nat->BZ} {H:Hp} {a:Act},(∀x∈o.op.operands,(Aw S x).is C η H (a.eval x))->(Aw S y).is C η H (a.eval y):=λf=>f y (by grind[ax]);unfold qM at h;split at h;case h_2=>grind
 rename_i g U i b K G J;split at h;case h_2=>cases h
 rename_i L e W T l F D;obtain⟨bytes,Z,u⟩:=Ds D;obtain⟨hc,h⟩:=AF h;refine .y h (Agp F (by simp) λη H O a w X j f s z E=>?_) λ_ _=>trivial;obtain⟨Y,V,rfl,_,Q⟩:=E;have B:a.eval x=η b:=by
  have:(SV.AH b:SV N.T).is C η H (a.eval x):=by rw[<-J];exact p f
  exact this.1
 have d:=((s.flat z).IM (bX z)).1;refine⟨AW (η b) (i.toNat*1),?_,?_⟩;· rw[I];exact Agf K u (congrArg Ac B) d (congrArg Ac (AU G (q f))) hc
 ·rcases d with⟨_,M⟩|⟨A,c,v,_⟩;· omega
  ·exact⟨A,l.length,c,by simp[v],by omega,by rw[Ada,v]⟩
def qu(P:GQ)(S:Nat->SV N.T)(Rr:Nat->Option (SR N.T))(nk:Nat)(t:Gs)(x:Dn)(k:Bx N.T->Nat->Option R):Option R:=match P.underlying t,Aw S x with
 |some d, .px [b] (.fo i)=>match Rr b,DM d with
  |some (.Ck _ _ _ h l),Aj=>Ab (idx l (i:Int)) λp=>Ag (p.1=Bp) (k ⟨.px [h,b] (.fi i),[b],[]⟩ nk)
  |_,_=>C7
 |_,_=>C7
theorem pq(K:o.op= .load t x)(h:qu P S Rr nk t x k=Ac r):A1 P C S Rr nk o k r:=by
 have L:∀ {η:Nat->BZ} {H:Hp} {a:Act},(∀x∈o.op.operands,(Aw S x).is C η H (a.eval x))->(Aw S x).is C η H (a.eval x):=λB=>B x (by grind[ax]);unfold qu at h;split at h;case h_2=>grind
 rename_i d b i T W;split at h;case h_2=>grind
 rename_i g e Z V l I J;obtain⟨p,M,h⟩:=Bi h;obtain⟨hc,h⟩:=AF h;refine .y h (Agp I (by simp) λη H O a w X j B Q A G=>?_) λ_ _=>trivial;obtain⟨u,Y,rfl,s,F⟩:=G;obtain⟨D,n,c,f,U,E⟩:(SV.px [b] (.fo i):SV N.T).is C η H (a.eval x):=by grind
 have f:η b= .slice (Ac D) n c:=by simpa using f
 have q:=(Dh M).2;have z:i<u.length:=by rw[F.len];simpa using(No.1 q).1
 refine⟨u[i],?_,u.toArray,η b,by simp[s],by simp[z]⟩;rw[K];exact Au.fl A (Ahl T J (v:=η b) (congrArg Ac (by rw[E,f])) (bX A) (IS z))
def qL(P:GQ)(S:Nat->SV N.T)(Rr:Nat->Option (SR N.T))(nk:Nat)(t:Gs)(x y:Dn)(k:Bx N.T->Nat->Option R):Option R:=match P.underlying t,intOf (Aw S y),Aw S x with
 |some (.slice e),Ac (_,j), .px [h,b] (.fi i)=>match Rr b with
  |some (.Ck _ _ c d l)=>match Hj h d&&PA P e (c.sz N)with
   |true=>Ab (idx l (i:Int)) λp=>Ag (p.1=Bp/\0<=j/\j<((p.2.length:Nat):Int)) (k ⟨.px [h,b] (.fe i j.toNat c),[b],[]⟩ nk)
   |false=>C7
  |_=>C7
 |_,_,_=>C7
theorem pA(Z:o.op= .indexAddr t x y)(h:qL P S Rr nk t x y k=Ac r):A1 P C S Rr nk o k r:=by
 have A:∀ {η:Nat->BZ} {H:Hp} {a:Act},(∀x∈o.op.operands,(Aw S x).is C η H (a.eval x))->(Aw S x).is C η H (a.eval x):=λc=>c x (by grind[ax]);have B:∀ {η:Nat->BZ} {H:Hp} {a:Act},(∀x∈o.op.operands,(Aw S x).is C η H (a.eval x))->(Aw S y).is C η H (a.eval y):=λc=>c y (by grind[ax]);unfold qL at h;split at h;case h_2=>cases h
 rename_i e kk j Q b i ht Y hs;split at h;case h_2=>cases h
 rename_i g e' te h' l V;split at h;case h_2=>cases h
 rename_i u;rw[AT]at u;have K:=AI u.1;subst K;obtain⟨bytes,zv,F⟩:=Ds u.2;obtain⟨p,hp,h⟩:=Bi h;obtain⟨⟨hc,z⟩,h⟩:=AF h;refine .y h (Agp V (by simp) λη H O a w X q c E W U=>?_) λ_ _=>trivial;obtain⟨G,rs,rfl,m,T⟩:=U;obtain⟨I,u',n,L⟩:(SV.px [Q,b] (.fi i):SV N.T).is C η H (a.eval x):=by rw[<-hs];exact A c
 have n:I=G.toArray:=by simp[m]at n;exact n.1.symm
 subst n;have D:l[i]?=Ac (Bp,p.2):=by have:=(Dh hp).2;simp only[Acd]at this;rw[this,<-hc]
 obtain⟨ys,M,f2⟩:=T.own i p.2 D;have J:G[i]?=Ac (a.eval x):=by simpa using L
 have f:=((E.flat W).IM (UN J M)).1;exact⟨AW (a.eval x) (j.toNat*te.sz N),by rw[Z];exact Agf (v:=a.eval x) ht F rfl f (congrArg Ac (AU Y (B c))) z,G.toArray,η b,a.eval x,by simp[m],by simpa using J,rfl⟩
def XN(P:GQ)(t:Gs)(a:Ty):Bool:=match P.underlying t,Mb N P t with
 |some d,Ac b=>(b.JR a&&Hj (a.sz N) 1)&& !DM d
 |_,_=>Aj
theorem LN{a:Ty}(h:XN (N:=N) P t a=Bp):∃d,P.underlying t=Ac d/\DM d=Aj/\a.agg=Aj/\a.sz N=1/\∃bytes z,TI P t 1 bytes z:=by
 unfold XN at h;split at h;· grind[bytes,Adl,ba,Ke]
 grind
def qv(P:GQ)(S:Nat->SV N.T)(Rr:Nat->Option (SR N.T))(nk:Nat)(t:Gs)(x:Dn)(k:Bx N.T->Nat->Option R):Option R:=match Aw S x with
 | .px [h,b] (.fe i j e)=>match Rr b with
  |some (.Ck _ _ a c l)=>match(Hj h c&&e.JR a)&&XN (N:=N) P t a with
   |true=>Ab (idx l (i:Int)) λp=>Ag (p.1=Bp) (Ab (idx p.2 (j:Int)) λz=>k ⟨.d a z,[b],[]⟩ nk)
   |false=>C7
  |_=>C7
 |_=>C7
theorem Sh{b:Ty}(h1:b.sz N=1){l:List (b.den N.T)}{j:Nat}{z:b.den N.T}(e:A2 (N.c b) H l ys)(f:l[j]?=Ac z):∃u,ys[j]?=Ac u/\(N.c b).BO H z [u]:=by
 have:=P9 e f;rw[h1,Ada]at this;have c:=Bg this;rw[h1]at c;match g:(ys.drop j).take 1,this,c with
 | [u],this,_=>
  have:((ys.drop j).take 1)[0]?=Ac u:=by grind
  grind
theorem pv(ho:o.op= .load t x)(h:qv P S Rr nk t x k=Ac r):A1 P C S Rr nk o k r:=by
 have s:∀ {η:Nat->BZ} {H:Hp} {a:Act},(∀x∈o.op.operands,(Aw S x).is C η H (a.eval x))->(Aw S x).is C η H (a.eval x):=λB=>B x (by grind[ax]);unfold qv at h;split at h;case h_2=>grind
 rename_i Z b i j te hs;split at h;case h_2=>cases h
 rename_i g e' te' h' l hb;split at h;case h_2=>cases h
 rename_i G;simp only[AT]at G;obtain⟨⟨J,K⟩,L⟩:=G;have T:=AI J;subst T;have e:=Adl K;subst e;obtain⟨d,hd,ha,n,m,_⟩:=LN L;obtain⟨p,hp,h⟩:=Bi h;obtain⟨hc,h⟩:=AF h;obtain⟨z,hz,h⟩:=Bi h;refine .y h (Agp hb (by simp) λη H O a w X q B hsh hj hX=>?_) λ_ _=>trivial;obtain⟨I,rs,rfl,E,hF⟩:=hX;obtain⟨F,u',u,e,U,V⟩:(SV.px [Z,b] (.fe i j te):SV N.T).is C η H (a.eval x):=by rw[<-hs];exact s B
 have e:F=I.toArray:=by simp[E]at e;exact e.1.symm
 subst e;have A:l[i]?=Ac (Bp,p.2):=by have:=(Dh hp).2;simp only[Acd]at this;rw[this,<-hc]
 obtain⟨ys,W,Y⟩:=hF.own i p.2 A;have hu:I[i]?=Ac u:=by simpa using U
 have D:p.2[j]?=Ac z:=by have:=(Dh hz).2;simpa using this
 obtain⟨c,M,Q⟩:=Sh m Y D;refine⟨c,?_,[c],Q,by unfold CL;rw[n]⟩;rw[ho];exact Au.fl hj (Ahl hd ha (v:=u) (congrArg Ac V) (UN hu W) (by rw[m,Ada];exact M))
def oC(P:GQ)(C:List (SV N.T))(S:Nat->SV N.T)(Rr:Nat->Option (SR N.T))(nk:Nat)(t:Gs)(x y:Dn)(k:Bx N.T->Nat->Option R):Option R:=match Aw S x with
 | .px [h,b] (.fe i j f)=>match Rr b with
  |some (.Ck g e a d l)=>match(Hj h d&&f.JR a)&&XN (N:=N) P t a,TW C a (Aw S y)with
   |true,Ac z=>Ab (idx l (i:Int)) λp=>Ag (p.1=Bp/\j<p.2.length) (k ⟨.no,[],[(b, .Ck g e a d (l.set i (Bp,p.2.set j z)))]⟩ nk)
   |_,_=>C7
  |_=>C7
 |_=>C7
theorem N0.set{α:Type}{c:Cd α}{l:List (Bool×List α)}(h:N0 c H l xs rs){d:List α}(hi:i<l.length)(m:A2 c H d ys):N0 c H (l.set i (Bp,d)) xs (rs.set i (Ac (d.length,ys))):=by
 refine⟨by simp[h.len],by simp[h.PI],λj a f=>?_,λj a f=>?_⟩
 ·rcases Cf f with⟨rfl,e⟩|⟨g,b⟩;· cases e;exact⟨ys,by simp[h.PI,hi],m⟩
  ·obtain⟨n,p,q⟩:=h.own j a b;grind
 ·rcases Cf f with⟨rfl,e⟩|⟨g,b⟩;· grind
  ·rw[Aen,if_neg (λe=>g e.symm)];exact h.not j a b
theorem o4(ho:o.op= .store t x y)(h:oC P C S Rr nk t x y k=Ac r):A1 P C S Rr nk o k r:=by
 have K:∀ {η:Nat->BZ} {H:Hp} {a:Act},(∀x∈o.op.operands,(Aw S x).is C η H (a.eval x))->(Aw S x).is C η H (a.eval x):=λs=>s x (by grind[ax]);have L:∀ {η:Nat->BZ} {H:Hp} {a:Act},(∀x∈o.op.operands,(Aw S x).is C η H (a.eval x))->(Aw S y).is C η H (a.eval y):=λs=>s y (by simp_all[ax]);unfold oC at h;split at h;case h_2=>cases h
 rename_i h0 b i j E M;split at h;case h_2=>cases h
 rename_i g e' te' h' l hb;split at h;case h_2=>cases h
 rename_i z Z hz;simp only[AT]at Z;obtain⟨⟨b1,b2⟩,b3⟩:=Z;have e0:=AI b1;subst e0;have n:=Adl b2;subst n;obtain⟨d,hd,ha,hag,m,bytes,zv,Q⟩:=LN b3;obtain⟨p,hp,h⟩:=Bi h;obtain⟨⟨hc,I⟩,h⟩:=AF h;refine .set h hb (Afv hb (by simp) λη H O a X q s hj hX _=>?_) λ_ _=>trivial;obtain⟨F,rs,rfl,D,hF⟩:=hX;obtain⟨U,u',u,n,e2,e3⟩:(SV.px [h0,b] (.fe i j E):SV N.T).is C η H (a.eval x):=by rw[<-M];exact K s
 have n:U=F.toArray:=by simp[D]at n;exact n.1.symm
 subst n;have B:l[i]?=Ac (Bp,p.2):=by have:=(Dh hp).2;simp only[Acd]at this;rw[this,<-hc]
 have J:=(No.1 B).1;obtain⟨V,W,Y⟩:=hF.own i p.2 B;have hu:F[i]?=Ac u:=by simpa using e2
 obtain⟨k1,k2⟩:=CP (DL hz (L s));have e:=Bg k1;rw[m]at e;have T:V.length=p.2.length:=by have:=Y.len;rw[Bn,m,Ada]at this;exact this
 have G:A2 (N.c E) H (p.2.set j z) (Cy V (j*E.sz N) (a.eval y).cells.toList):=by have:=Y.set I k1;rw[Bn]at this;exact this
 refine⟨.Ck (η b) g l.length F e' (E.sz N) (rs.set i (Ac ((p.2.set j z).length,Cy V (j*E.sz N) (a.eval y).cells.toList))),⟨F,_,by rw[show(l.set i (Bp,p.2.set j z)).length=l.length from Abp],D,hF.set J G⟩,?_⟩;rw[ho];refine BM.sub (λ_ M=>M.flat hj) ?_ (Ahf (i:=O.length+i) (congrArg Ac e3) rfl rfl Q e (by omega) k2 (UN hu W) (by rw[m,Ada,T,e];omega));rintro v w H' O' ⟨rfl,rfl⟩ f;refine⟨_,⟨rfl,rfl,trivial⟩,?_⟩;have hq:=(No.1 hj).1;rw[Acy _ _ (by simp)]at f;simp only[Abp,Acr]at f;rw[Qm hu W]at f;rw[Abp];exact f.T2 hq
theorem MR:∀ {Z:List (Nat×Ax)} {p:Nat×Ax},(keys Z).Nodup->p∈Z->Ay Z p.1=Ac p.2
 |(q,y)::Z,p,a,d=>by
  have a:=Aay.1 a;rcases Aav.1 d with rfl|d;· grind[CF]
  ·have c:p.1≠q:=λe=>a.1 (by grind);rw[A3 λe=>c e.symm];exact MR a.2 d
theorem Qn{a:Gs}{sz:Nat} :∀ {xs:List BZ} {rs:List (Option (Nat×List BZ))} {i m:Nat} {u:BZ} {ys:List BZ},i<xs.length->i<rs.length->FW a sz (xs.set i u) (rs.set i (Ac (m,ys)))=(FW a sz xs rs).set i (.row u a sz m ys)
 |_::_,Ac (_,_)::_,0,_,_,_,_,_=>rfl
 |_::_,C7::_,0,_,_,_,_,_=>rfl
 |_::xs,Ac (_,_)::rs,i+1,_,_,_,h,k=>by simp only[Afs,FW];rw[Qn (by grind) (by grind)]
 |_::xs,C7::rs,i+1,_,_,_,h,k=>by simp only[Afs,FW];rw[Qn (by grind) (by grind)]
 | [],_,_,_,_,_,h,_=>by rfl
 |_::_,[],_,_,_,_,_,k=>by grind
theorem Ajj{w:IW}{A:List Ax}{v u:BZ}{g b:Gs}{n m:Nat}(hi:i<xs.length)(q:xs.length=rs.length)(h:SH w H (.row v g 1 n (xs.set i u):: .row u b sz m ys::A++FW b sz xs rs)):
  SH w H (.Ck v g n (xs.set i u) b sz (rs.set i (Ac (m,ys)))::A):=by
 have d:SH w H ((Ax.emp::A).set 0 (.row v g 1 n (xs.set i u))++FW b sz (xs.set i u) (rs.set i (Ac (m,ys)))):=by
  rw[Qn hi (by omega)];refine h.pick (λj=>if j=0 then 0 else if j=A.length+1+i then 1 else j+1) (λj r p=>?_) λj k _ _ e=>?_
  ·rcases Pl p with⟨c,d⟩|⟨a,c,d⟩;· cases j with
    |zero=>grind
    |succ j=>
     have c:j<A.length:=by grind
     grind
   ·have c:j=A.length+1+a:=by trivial
    rw[if_neg (by omega)];rcases Cf d with⟨l,f⟩|⟨l,f⟩;· rw[if_pos (by omega),f];rfl
    ·rw[if_neg (by omega),c];show(Ax.row v g 1 n (xs.set i u)::Ax.row u b sz m ys::(A++FW b sz xs rs))[A.length+1+a+1]?=_;rw[show A.length+1+a+1=(A.length+a)+1+1 by omega,Acs,Acs,Aab (by omega),Acr];exact f
  grind
 have:=d.T2 (by simp);grind
def sR(P:GQ)(S:Nat->SV N.T)(Rr:Nat->Option (SR N.T))(nk:Nat)(t:Gs)(x y:Dn)(k:Bx N.T->Nat->Option R):Option R:=match Aw S x,Aw S y with
 | .px [b] (.fo i), .AH j=>match Rr b,Rr j with
  |some (.Ck g e c h l),Ac (.row m a d)=>match(Hj e m&&PA P t 1)&& !Nat.beq b j,Qu N.T (.sl a) (.sl c)with
   |true,Ac f=>Ag (i<l.length) (k ⟨.no,[],[(b, .Ck g e c nk (l.set i (Bp,f d))),(j, .gone),(nk, .gone)]⟩ (nk+1))
   |_,_=>C7
  |_,_=>C7
 |_,_=>C7
theorem pS(ho:o.op= .store t x y)(hf:∀j,nk<=j->Rr j=C7)(h:sR P S Rr nk t x y k=Ac r):A1 P C S Rr nk o k r:=by
 have hox:∀ {η:Nat->BZ} {H:Hp} {a:Act},(∀x∈o.op.operands,(Aw S x).is C η H (a.eval x))->(Aw S x).is C η H (a.eval x):=λL=>L x (by grind[ax]);have hoy:∀ {η:Nat->BZ} {H:Hp} {a:Act},(∀x∈o.op.operands,(Aw S x).is C η H (a.eval x))->(Aw S y).is C η H (a.eval y):=λL=>L y (by grind[ax]);unfold sR at h;split at h;case h_2=>grind
 rename_i b i j hsx hsy;split at h;case h_2=>cases h
 rename_i g e te hh l e2 s d hb hj;split at h;case h_2=>cases h
 rename_i f hB hfe;simp only[AT,Aea]at hB;obtain⟨⟨b1,b2⟩,b3⟩:=hB;have e0:=AI b1;subst e0;have hbj:=Abf b3;obtain⟨bytes,zv,hti⟩:=Ds b2;obtain⟨hE,rfl⟩:=BB hfe;have e1:=Adl hE;injection e1 with e1;subst e1;obtain⟨hc,h⟩:=AF h;have hnb:Rr nk=C7:=hf nk (Aac _);have nb:nk≠b:=λq=>by subst q;rw[hnb]at hb;cases hb
 refine⟨_,nk+1,h,?_,Agt _,λq m I=>?_,λτ _=>trivial⟩;case refine_2=>
  simp[keys]at m;rcases m with rfl|rfl|rfl;· rw[hb]at I;cases I
  ·rw[hj]at I;cases I
  ·omega
 intro η H Of a w Y I hs hi L hr hfr K Q hK;rcases hr b (.inr (by simp[keys])) _ hb with q|⟨X,x1,A,O,x2,x3,D⟩;· cases q
 subst x2;rcases hr j (.inr (by simp[keys])) _ hj with q|⟨X,y1,G,y2,y3⟩;· cases q
 subst y2;obtain⟨ad,n,c,p1,p2,p3⟩:(SV.px [b] (.fo i):SV N.T).is C η H (a.eval x):=by rw[<-hsx];exact hox L
 have p1:η b= .slice (Ac ad) n c:=by simpa using p1
 obtain⟨u1,u2⟩:(SV.AH j:SV N.T).is C η H (a.eval y):=by rw[<-hsy];exact hoy L
 let Z:=FJ (FJ Y b) j;have E:(keys Z).Nodup:=Ie (Ie I);have nin:∀ {Y:List (Nat×Ax)} {k:Nat},k∉keys (FJ Y k):=λ{Y k} B=>by obtain⟨q,m,e⟩:=By.1 B;have:=(Aaz.1 m).2;rw[e]at this;simp at this
 have F:b∉keys Z:=λB=>nin (CH B);have W:j∉keys Z:=nin;have hs2:SH w H (((b,Ax.Ck (η b) g l.length A e (s.sz N) O)::(j,Ax.row (η j) e (s.sz N) d.length G)::Z).map (·.2)++Of):=by
  refine Go.GV.SH.Ri hs (Aay.2 ⟨?_,Aay.2 ⟨W,E⟩⟩) λp J=>?_
  ·intro B;rcases Aav.1 B with q|q;· exact hbj q
   ·exact F q
  ·rcases Aav.1 J with rfl|J;· exact x1
   ·rcases Aav.1 J with rfl|J;· exact y1
    ·have B:p.1∈keys Z:=By.2 ⟨p,J,rfl⟩;have l1:Ay Z p.1=Ac p.2:=MR E J;rw[DG (λq=>W (by rw[<-q];exact B)),DG (λq=>F (by rw[<-q];exact B))]at l1;exact l1
 have hs3:=hs2.flat (i:=0) rfl;have V:i<A.length:=by rw[D.len];exact hc
 have hs4:SH w H (.row (η b) g 1 l.length A:: .row (η j) e (s.sz N) d.length G::(Z.map (·.2)++Of)++FW e (s.sz N) A O):=hs3;have hone:(a.eval y).cells.toList=[a.eval y]:=A_ u2;have op:BM P o.op o.type (EV a) H (.row (η b) g 1 l.length A:: .row (η j) e (s.sz N) d.length G::(Z.map (·.2)++Of)++FW e (s.sz N) A O) (λ_ H' O'=>H'=H/\O'= .row (η b) g 1 l.length (A.set i (η j)):: .row (η j) e (s.sz N) d.length G::(Z.map (·.2)++Of)++FW e (s.sz N) A O):=by rw[ho];refine(Ahf (i:=0) (v:=η b) (k:=i) (congrArg Ac (by rw[p3,p1])) rfl hone hti rfl (by omega) (λz hz=>by simp at hz;subst hz;exact u2) rfl (by simp;omega)).mono ?_;rintro v H' O' ⟨rfl,rfl⟩;refine⟨rfl,?_⟩;rw[u1,GK.fK V];rfl
 refine op a w o K Q rfl rfl (λx u e=>by simpa using e) hs4 λv w' H' O' hle ⟨q1,q2⟩ hw'=>?_;subst q1;subst q2;have U:=Ajj V (D.len.trans D.PI.symm) hw';refine hK v w' H' (EA η nk (.tuple (A.set i (η j)).toArray)) ((b,Ax.Ck (η b) g l.length (A.set i (η j)) e (s.sz N) (O.set i (Ac (d.length,G))))::Z) (Hp.le.refl _) (λq m=>EH λz=>by subst z;exact m hnb (by simp[keys])) (λq m=>?_) (λq sr m=>?_) (Aay.2 ⟨F,E⟩) (λq m=>?_) U trivial;· simp[keys]at m;rw[A3 (λz=>m.1 z.symm),DG m.2.1,DG m.1]
 ·simp only[Ay]at m;split at m
  ·rename_i hbq;have:=AI hbq;subst this;cases m;refine .inr ⟨_,CF _ _ _,A.set i (η j),O.set i (Ac (d.length,G)),?_,AA _ _ _,?_⟩;· rw[EH (λz=>nb z.symm),Abp]
   ·refine⟨by simp[D.len],by simp[D.PI],λq d' m=>?_,λq d' m=>?_⟩
    ·rcases Cf m with⟨rfl,z⟩|⟨z1,z2⟩;· cases z;exact⟨G,by simp[D.PI,hc,Tg],y3⟩
     ·obtain⟨ys',k1,k2⟩:=D.own q d' z2;exact⟨ys',by rw[Aen,if_neg (λe=>z1 e.symm)];exact k1,k2⟩
    ·rcases Cf m with⟨rfl,z⟩|⟨z1,z2⟩;· cases z
     ·rw[Aen,if_neg (λe=>z1 e.symm)];exact D.not q d' z2
  ·split at m;· cases m;exact .inl rfl
   ·split at m;· cases m;exact .inl rfl
    ·cases m
 ·rcases Aav.1 m with z|z;· exact .inr (by simp[keys];exact .inl z)
  ·exact .inl (CH (CH z))
end
end
section
variable {N : C9} {R : Type} {P : GQ} {C : List (SV N.T)} {S : Nat -> SV N.T} {Rr : Nat -> Option (SR N.T)} {nk : Nat} {o : K_} {k : Bx N.T -> Nat -> Option R} {r : R}
section
variable{η:Nat->BZ}{H:Hp}{b n:Nat}{g t:Gs}{x:Dn}
def nP:Option (SR N.T)->Bool
 |some (.Ah _ (.lf _ (.d (.ar _ _) _) .nl))=>Bp
 |_=>Aj
theorem dB{s:Nat}{j:Ty}{l:List (j.den N.T)}{X:Ax}(h:(SR.Ah g (.lf s (.d (.ar n j) l) .nl):SR N.T).is C η H b X):
  ∃B cs,η b=ptr B 0/\X= .Ah B (.cells cs.toArray g (0,0))/\cs.length=s/\l.length=n/\A2 (N.c j) H l cs/\∀x∈cs,x.oneCell'=Bp:=by
 obtain⟨B,cs,q,t,p,m,u,e,v,⟨a,⟨y,z⟩,i⟩,f,w,c⟩:=h;subst i;have f:a=p:=by trivial
 subst f;have c:BZ.agg m.toArray= .agg #[]:=c;grind
theorem sC{a:Ty}{l:List (a.den N.T)}{B:Nat}{cs:List BZ}(h1:η b=ptr B 0)(h2:l.length=n)(h3:A2 (N.c a) H l cs)(c:∀x∈cs,x.oneCell'=Bp):
  (SR.Ah g (.lf cs.length (.d (.ar n a) l) .nl):SR N.T).is C η H b (.Ah B (.cells cs.toArray g (0,0))):=
 ⟨B,_,h1,rfl,cs,[], .agg cs.toArray,by simp,rfl,⟨cs,⟨h2,h3⟩,rfl⟩,by rfl,c,rfl⟩
def qw(P:GQ)(S:Nat->SV N.T)(Rr:Nat->Option (SR N.T))(nk:Nat)(t:Gs)(x:Dn)(k:Bx N.T->Nat->Option R):Option R:=match Aw S x with
 | .loc b off=>match Rr b with
  |some (.Ah _ (.lf _ (.d (.ar _ a) l) .nl))=>match XN (N:=N) P t a with
   |true=>Ab (idx l (off:Int)) λz=>k ⟨.d a z,[b],[]⟩ nk
   |false=>C7
  |_=>C7
 |_=>C7
theorem py(u:o.op= .load t x)(h:qw P S Rr nk t x k=Ac r):A1 P C S Rr nk o k r:=by
 have m:∀ {η:Nat->BZ} {H:Hp} {a:Act},(∀x∈o.op.operands,(Aw S x).is C η H (a.eval x))->(Aw S x).is C η H (a.eval x):=λq=>q x (by grind[ax]);unfold qw at h;split at h;case h_2=>cases h
 rename_i b off T;split at h;case h_2=>cases h
 rename_i g s n Z l L;split at h;case h_2=>cases h
 rename_i G;obtain⟨d,M,K,i,p,_⟩:=LN G;obtain⟨z,V,h⟩:=Bi h;refine .y h (Agp L (by simp) λη H O a w X j q U Q J=>?_) λ_ _=>trivial;obtain⟨B,cs,F,rfl,e3,e4,I,_⟩:=dB J;obtain⟨A,v,Y⟩:(SV.loc b off:SV N.T).is C η H (a.eval x):=by rw[<-T];exact m q
 have:A=B:=by rw[F]at v;simpa [ptr]using v.symm
 subst this;have f:=(Dh V).2;obtain⟨c,D,E⟩:=Sh p I f;refine⟨c,?_,[c],E,by unfold CL;rw[i]⟩;rw[u];exact Agg M K (congrArg Ac Y) Q (by simpa using D)
def oD(P:GQ)(C:List (SV N.T))(S:Nat->SV N.T)(Rr:Nat->Option (SR N.T))(nk:Nat)(t:Gs)(x y:Dn)(k:Bx N.T->Nat->Option R):Option R:=match Aw S x with
 | .loc b off=>match Rr b with
  |some (.Ah g (.lf s (.d (.ar n a) l) .nl))=>match XN (N:=N) P t a,TW C a (Aw S y)with
   |true,Ac z=>Ag (off<n) (k ⟨.no,[],[(b, .Ah g (.lf s (.d (.ar n a) (l.set off z)) .nl))]⟩ nk)
   |_,_=>C7
  |_=>C7
 |_=>C7
theorem o5{y:Dn}(E:o.op= .store t x y)(h:oD P C S Rr nk t x y k=Ac r):A1 P C S Rr nk o k r:=by
 have F:∀ {η:Nat->BZ} {H:Hp} {a:Act},(∀x∈o.op.operands,(Aw S x).is C η H (a.eval x))->(Aw S x).is C η H (a.eval x):=λj=>j x (by grind[ax]);have G:∀ {η:Nat->BZ} {H:Hp} {a:Act},(∀x∈o.op.operands,(Aw S x).is C η H (a.eval x))->(Aw S y).is C η H (a.eval y):=λj=>j y (by rw[E];simp[ax]);unfold oD at h;split at h;case h_2=>cases h
 rename_i b off hs;split at h;case h_2=>cases h
 rename_i g s n W l Q;split at h;case h_2=>cases h
 rename_i z hB hz;obtain⟨d,hd,ha,hag,f,bytes,zv,J⟩:=LN hB;obtain⟨hc,h⟩:=AF h;refine .set h Q (Afv Q (by simp) λη H O a X q j hj hX _=>?_) λ_ _=>trivial;obtain⟨B,w,K,rfl,e3,Z,M,L⟩:=dB hX;obtain⟨Y,V,q2⟩:(SV.loc b off:SV N.T).is C η H (a.eval x):=by rw[<-hs];exact F j
 have:Y=B:=by rw[K]at V;simpa [ptr]using V.symm
 subst this;obtain⟨T,U⟩:=CP (DL hz (G j));have c:=Bg T;rw[f]at c;have hcl:w.length=l.length:=by have:=M.len;rw[Bn,f,Ada]at this;exact this
 have D:A2 (N.c W) H (l.set off z) (Cy w off (a.eval y).cells.toList):=by have:=M.set (i:=off) (by omega) T;rw[Bn,f,Ada]at this;exact this
 have I:(Cy w off (a.eval y).cells.toList).length=s:=by unfold Cy;simp only[Aaa,Abh,Ajh,c];omega
 have u:∀v∈Cy w off (a.eval y).cells.toList,v.oneCell'=Bp:=by
  intro v e;rcases AS.1 e with e|e
  ·rcases AS.1 e with e|e;· exact L v (Acj e)
   ·exact U v e
  ·exact L v (List.mem_of_mem_drop e)
 rw[E];have p:=sC (C:=C) (b:=b) (g:=g) (n:=n) (l:=l.set off z) K ((Abp ..).trans Z) D u;rw[I]at p;refine⟨_,p,(BM.Rs (congrArg Ac q2) rfl rfl J c U hj (by rw[List.size_toArray];omega)).mono ?_⟩;rintro v H' O' ⟨rfl,rfl⟩;trivial
end
end
section
variable {N : C9} {R : Type} {P : GQ} [C3 N P] {C : List (SV N.T)} {S : Nat -> SV N.T} {Rr : Nat -> Option (SR N.T)} {nk : Nat} {o : K_} {k : Bx N.T -> Nat -> Option R} {r : R}
section
variable{x:Dn}
def pZ(S:Nat->SV N.T)(nk:Nat)(x:Dn)(k:Bx N.T->Nat->Option R):Option R:=match Aw S x with
 | .loc b off=>k ⟨.loc b off,[],[]⟩ nk
 | .pd t y off=>k ⟨.pd t y off,[],[]⟩ nk
 |_=>C7
theorem PZ{T:Gs}{E:Dn->Option BZ}{H:Hp}{O:List GK.Ax}{b:Addr}(f:E x=Ac (.pointer (Ac b))):Au P (.nilCheck x) T E H O (.pointer (Ac b)):= .Ao λa w o e _ d _=>by simp_all[Kt]
theorem o9(c:o.op= .nilCheck x)(h:pZ S nk x k=Ac r):A1 P C S Rr nk o k r:=by
 unfold pZ at h;split at h
 ·rename_i b off f;refine .y h (Abu λη H O a g _=>?_) λ_ _=>trivial;obtain⟨B,d,e⟩:(SV.loc b off:SV N.T).is C η H (a.eval x):=by grind[ax]
  exact⟨ptr B off,by rw[c];exact Au.nilCheck (congrArg Ac e),B,d,rf⟩
 ·rename_i t y off f;refine .y h (Abu λη H O a g _=>?_) λ_ _=>trivial;obtain⟨B,q,i,d,e,j⟩:(SV.pd t y off:SV N.T).is C η H (a.eval x):=by grind[ax]
  exact⟨_,by rw[c];exact PZ (congrArg Ac d),B,q,i,rf,e,j⟩
 grind
def wq(P:GQ)(Φ:Nat->Option (CQ N))(C:List (SV N.T))(S:Nat->SV N.T)(Rr:Nat->Option (SR N.T))(nk:Nat)(op:Op)(ty:Gs)(k:Bx N.T->Nat->Option R):Option R:=match op with
 | .move x=>k ⟨Aw S x,[],[]⟩ nk
 | .assign x=>k ⟨Aw S x,[],[]⟩ nk
 | .pick c x y=>match Aw S c with
  | .lb Bp=>k ⟨Aw S x,[],[]⟩ nk
  | .lb Aj=>k ⟨Aw S y,[],[]⟩ nk
  |_=>C7
 | .alloc t=>U6 P nk t k
 | .box t x=>rY P S nk t x k
 | .load t x=>match Aw S x with
  | .px _ (.fo _)=>qu P S Rr nk t x k
  | .px _ (.fe _ _ _)=>qv P S Rr nk t x k
  | .loc b _=>(match nP (Rr b)&&PA P t 1 with
   |true=>qw P S Rr nk t x k
   |false=>gV P C S Rr nk t x k)
  |_=>gV P C S Rr nk t x k
 | .store t x y=>match Aw S x with
  | .px _ (.fo _)=>sR P S Rr nk t x y k
  | .px _ (.fe _ _ _)=>oC P C S Rr nk t x y k
  | .loc b _=>(match nP (Rr b)&&PA P t 1 with
   |true=>oD P C S Rr nk t x y k
   |false=>zX P C S Rr nk t x y k)
  |_=>zX P C S Rr nk t x y k
 | .fieldAddr t x i=>q6 P C S nk t x i k
 | .field t x i=>fdK P S nk t x i k
 | .indexAddr t x y=>match Aw S x with
  | .px _ (.hc _)=>qN P S nk t x y k
  | .px _ (.fi _)=>qL P S Rr nk t x y k
  | .AH b=>(match Rr b with
   |some (.Ck _ _ _ _ _)=>qM P S Rr nk t x y k
   |_=>ixK P S Rr nk t x y k)
  | .px _ _=>qK P S Rr nk t x y k
  |_=>ixK P S Rr nk t x y k
 | .index t x y=>match P.underlying t with
  |some (.array _ _)=>sB P S nk t x y k
  |_=>rR P S nk t x y k
 | .binOp .eql t x (.const (.slice C7 0 0)) _=>pY P S nk t x k
 | .binOp b t x y _=>match jr P t with
  |true=>(match b with
   | .eql=>iL P C S nk Aj t x y k
   | .neq=>iL P C S nk Bp t x y k
   |_=>C7)
  |false=>du P C S nk b t x y k
 | .unOp .not _ x=>pU S nk x k
 | .unOp .neg _ x=>p9 S nk x k
 | .nilCheck x=>pZ S nk x k
 | .convert s d x=>match P.underlying d with
  |some .string=>rW P S nk s d x k
  |some (.int .u64)=>(match P.underlying s with
   |some (.int .i64)=>cwK P S nk s d x k
   |_=>cvK P S nk s d x k)
  |_=>cvK P S nk s d x k
 | .extract x i=>rh S nk x i λs n=>match EY s.sv with
  |true=>k s n
  |false=>C7
 | .build t ⟨e⟩=>se P C S nk t e k
 | .buildSlice t len ⟨e⟩=>match len,e with
  |0,[]=>rX P nk t k
  |len,e=>match df S 0 e with
   |some _=>bcK P S nk t len e k
   |none=>bsK P C S nk t len e k
 | .makeSlice t p q=>mkK P S nk t p q k
 | .slice t x C7 (Ac y) C7=>match Aw S x with
  | .raw _=>rD P S nk t x y k
  |_=>rE P S Rr nk t x y k
 | .slice t x (Ac y) (Ac z) C7=>oS P S nk t x y z k
 | .slice t x j (Ac y) (Ac z)=>cJ P S Rr nk t x j y z k
 | .call {callee:= .builtin .append,args:=⟨[s,x]⟩,argTypes:=⟨[t,u]⟩} =>match Hj u t with
  |true=>match Aw S s with
   | .px _ _=>sF P S Rr nk s x t k
   |_=>sH P S Rr nk s x t k
  |false=>match P.underlying u with
   |some .string=>sG P S Rr nk s x t u k
   |_=>sE P S nk s x t u k
 | .call {callee:= .builtin .cap,args:=⟨[x]⟩,argTypes:=⟨[t]⟩} =>rF P S nk x t k
 | .call {callee:= .builtin .len,args:=⟨[x]⟩,argTypes:=⟨[t]⟩} =>match Aw S x with
  | .mp _=>qk P S Rr nk x t k
  | .px _ _=>ql P S nk x t k
  |_=>qp P S Rr nk x t k
 | .call {callee:= .builtin .unsafeSliceData,args:=⟨[x]⟩,argTypes:=⟨[_]⟩} =>oj P S Rr nk x ty k
 | .call {callee:= .builtin .unsafeString,args:=⟨[x,y]⟩,argTypes:=⟨[l,_]⟩} =>oh P S Rr nk x y l k
 | .call {callee:= .builtin .max,args:=⟨[x,y]⟩,argTypes:=_} =>qi S nk x y k
 | .call {callee:= .builtin .min,args:=⟨[x,y]⟩,argTypes:=_} =>qg S nk x y k
 | .call {callee:= .builtin .copy,args:=⟨[x,y]⟩,argTypes:=⟨[t,_]⟩} =>cQ P S Rr nk x y t k
 | .call {callee:= .value x,args:=⟨m⟩,argTypes:=_} =>dj C Φ S Rr nk x m k
 | .makeFunc (.func f) ⟨h⟩ ⟨g⟩=>qf S nk f h g k
 | .makeMap t C7=>qe P nk t k
 | .lookup t x y ok=>qm P C S Rr nk t x y ok k
 | .mapUpdate t x y u=>gk P C S Rr nk t x y u k
 | .insert t x y u=>gk P C S Rr nk t x y u k
 |_=>C7
theorem Um{Φ:Nat->Option (CQ N)}(d:∀f q,Φ f=Ac q->Bu P f q)(g:∀k∈CV C,k<nk)(b:∀j,nk<=j->Rr j=C7)(c:∃τ,Ny Rr S τ)(h:wq P Φ C S Rr nk o.op o.type k=Ac r):A1 P C S Rr nk o k r:=by
 unfold wq at h;split at h;· grind[VY]
 ·simp_all[VY]
 ·grind[ai,aj]
 ·simp_all[au]
 ·rename_i a;exact pK a g b h
 ·rename_i a;split at h;· exact pq a h
  ·exact pv a h
  ·split at h;· exact py a h
   ·exact ak a c h
  ·exact ak a c h
 ·rename_i a;split at h;· exact pS a b h
  ·exact o4 a h
  ·split at h;· exact o5 a h
   ·exact nh a c h
  ·exact nh a c h
 ·rename_i a;exact pD a h
 ·rename_i a;exact wv a h
 ·rename_i a;split at h;· exact pC a h
  ·exact pA a h
  ·split at h;· exact pB a h
   ·exact nn a h
  ·exact pz a h
  ·exact nn a h
 ·rename_i a;split at h;· exact pN a h
  ·exact pH a h
 ·rename_i a;exact o8 a h
 ·rename_i a;split at h
  ·split at h;· exact ao (ne:=Aj) a h
   ·exact ao (ne:=Bp) a h
   ·cases h
  ·exact gA a h
 ·rename_i a;exact o7 a h
 ·rename_i a;exact o_ a h
 ·rename_i a;exact o9 a h
 ·rename_i a;split at h;· exact pI a h
  ·split at h;· exact wx a h
   ·exact nq a h
  ·exact nq a h
 ·rename_i a;exact pE a h
 ·rename_i a;exact pL a h
 ·rename_i a;split at h;· exact pJ a b h
  ·split at h;· exact wz a g b h
   ·exact wy a b h
 ·rename_i a;exact wu a b h
 ·rename_i a;split at h;· exact gx a h
  ·exact pF a b h
 ·rename_i a;exact o6 a h
 ·rename_i a;exact gy a h
 ·rename_i a;split at h
  ·rename_i i;have e:=AI i;subst e;split at h;· exact pP a b h
   ·exact pR a b h
  ·split at h;· exact pQ a b h
   ·exact pO a b h
 ·rename_i a;exact pG a h
 ·rename_i a;split at h;· exact ph a h
  ·exact pj a h
  ·exact pn a h
 ·rename_i a;exact o0 a h
 ·rename_i a;exact oZ a h
 ·rename_i a;exact pf a h
 ·rename_i a;exact pe a h
 ·rename_i a;exact gz a h
 ·rename_i a;exact aq d b a h
 ·rename_i a;exact pc a h
 ·rename_i a;exact pb a b h
 ·rename_i a;exact pk a h
 ·rename_i a;exact ah (.inl a) h
 ·rename_i a;exact ah (.inr a) h
 grind
theorem Ap.fz{f:Nat}{g:Gs}{u:Ty}{l:List (u.den N.T)}{s:Bx N.T}(hk:Rr f=Ac (.row g u l))(h:Ap P C (λt=>GU f u l (S t)) (CA Rr f) o s)(hw:f∉keys s.wr):Ap P C S Rr o ⟨s.sv,f::s.rd,(f, .gone)::s.wr⟩:=by
 intro η H T a w Y W Z hi hx X m K Q hK;have d:∀j,j∈keys ((f,SR.gone)::s.wr)↔j=f\/j∈keys s.wr:=λj=>by simp[keys]
 rcases X f (.inl (by simp)) _ hk with e|⟨x,h1,xs,rfl,hL⟩;· grind
 obtain⟨i,V,h3⟩:=cf T W h1;obtain⟨O,p,U,g3⟩:=Z.freeze V;rw[h3]at U;have E:G8 (N.c u) O l (η f):=G8.of (by grind[Bn]) rfl (hL.mono p) (Z.On V);refine h η O T a w (FJ Y f) (Ie W) U (N.CY p hi) (λx I=>nE E ((hx x I).mono p)) (λj c L n=>?_) (λj c b B=>?_) K Q λv w' H2 M Y' A J hY G D y q F=>?_
 ·unfold CA at n;split at n;· cases n;exact .inl rfl
  ·rename_i hb;have ne:=Abf hb;refine(X j (c.imp (Aag _) λc=>(d j).2 (.inr c)) L n).imp id λ⟨z,e1,e2⟩=>⟨z,by grind[ne,DG],e2.mono p⟩
 ·unfold CA at b;split at b;· cases b
  ·exact m j ((d j).2 (.inr c)) b (CH B)
 ·refine hK v w' H2 M Y' (p.trans A) (λj c=>J j λb B=>?_) (λj c=>?_) (λj L c=>?_) D (λj c=>?_) q F
  ·unfold CA at b;split at b;· cases b
   ·exact c b ((d j).2 (.inr B))
  ·rw[d,not_or]at c;rw[hY j c.2,DG c.1]
  ·simp only[Ay]at c;split at c;· cases c;exact .inl rfl
   ·exact G j L c
  ·rcases y j c with e|e;· exact .inl (CH e)
   ·exact .inr ((d j).2 (.inr e))
def Wo(S:Nat->SV N.T):List Dn->Option Nat
 | []=>C7
 |x::a=>match X9 (Aw S x)with
  |some k=>Ac k
  |none=>Wo S a
def xd(Φ:Nat->Option (CQ N))(S:Nat->SV N.T):Op->Option Nat
 | .buildSlice _ _ ⟨b⟩=>Wo S (b.map (·.2))
 | .convert _ _ x=>Wo S [x]
 | .store _ x y=>match Aw S x with
  | .Ec _ _ _ _ _=>X9 (Aw S y)
  |_=>C7
 | .call {callee:= .value (.func f),args:=⟨c⟩,argTypes:=_} =>match Φ f with
  |some (.PS [q])=>match q.pi.ro,(q.po.hs.all λ| .Ae t=>HB t|_=>Bp),(q.pi.sl.all λp=>match p.2 with| .v _ _=>Bp|_=>Aj)with
   | [],Aj,Bp=>Wo S c
   |_,_,_=>C7
  |_=>C7
 |_=>C7
def gv(P:GQ)(Φ:Nat->Option (CQ N))(C:List (SV N.T)):Nat->(Nat->SV N.T)->(Nat->Option (SR N.T))->Nat->Op->Gs->(Bx N.T->Nat->Option R)->Option R
 |0,S,Rr,nk,op,b,k=>wq P Φ C S Rr nk op b k
 |n+1,S,Rr,nk,op,b,k=>match xd Φ S op with
  |some a=>match Rr a with
   |some (.row _ c l)=>gv P Φ C n (λt=>GU a c l (S t)) (CA Rr a) nk op b λs nk=>match B_ (keys s.wr) a with
    |false=>k ⟨s.sv,a::s.rd,(a, .gone)::s.wr⟩ nk
    |true=>C7
   |_=>wq P Φ C S Rr nk op b k
  |none=>wq P Φ C S Rr nk op b k
theorem Un{Φ:Nat->Option (CQ N)}(m:∀f q,Φ f=Ac q->Bu P f q)(B:∀k∈CV C,k<nk):∀(n:Nat) {S:Nat->SV N.T} {Rr:Nat->Option (SR N.T)} {k:Bx N.T->Nat->Option R},(∀j,nk<=j->Rr j=C7)->(∃τ,Ny Rr S τ)->gv P Φ C n S Rr nk o.op o.type k=Ac r->A1 P C S Rr nk o k r
 |0,S,Rr,k,v,y,h=>Um m B v y h
 |n+1,S,Rr,k,v,y,h=>by
  unfold gv at h;split at h
  ·rename_i a Y;split at h
   ·rename_i g J l D;have A:∀τ,Ny Rr S τ->Ny (CA Rr a) (λt=>GU a J l (S t)) τ:=λτ d t=>by
     have p:=d t;generalize G:S t=sv at p⊢;show D9 τ (CA Rr a) (GU a J l (S t));rw[G];cases sv with
     |AH j=>unfold GU;split<;>trivial
     |Ec j i off X x=>
      unfold GU;split;· trivial
      ·rename_i b;intro L W V u;unfold CA at u;rw[b]at u;exact p L W V u
     |_=>exact p
    obtain⟨s,I,p,M,O,Q,T⟩:=Un m B n (S:=λt=>GU a J l (S t)) (Rr:=CA Rr a) (λj w=>by grind[CA,Hj,ba]) (by obtain⟨τ,d⟩:=y;exact⟨τ,A τ d⟩) h;split at p
    ·rename_i K;have H:a∉keys s.wr:=λe=>by rw[AR.2 e]at K;cases K
     refine⟨_,I,p,M.fz D H,O,λj w c=>?_,λτ d=>?_⟩
     ·simp only[keys,Aas,Aav]at w;rcases w with e|z;· subst e;rw[D]at c;cases c
      ·refine Q j z ?_;unfold CA;cases b:Hj j a with
       |true=>have:=AI b;subst this;exact absurd z H
       |false=>exact c
     ·have e:RT ((a,SR.gone)::s.wr) Rr=RT s.wr (CA Rr a):=funext λj=>by
       unfold RT CA;simp only[Ay];cases b:Hj a j with
       |true=>
        have:=AI b;subst this;rw[Cz H];simp
       |false=>
        have ne:=Abf b;have:Hj j a=Aj:=by
         cases E:Hj j a with
         |true=>exact absurd (AI E).symm ne
         |false=>rfl
        rw[this]
      show D9 τ (RT ((a,SR.gone)::s.wr) Rr) s.sv;rw[e];exact T τ (A τ d)
    grind
   grind[Um]
  grind[Um]
end
end
end Go.GV
