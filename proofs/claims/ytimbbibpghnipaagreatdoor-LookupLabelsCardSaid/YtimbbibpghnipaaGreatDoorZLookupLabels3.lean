/- Part 3 of the texts of this claim: what its theorem leans on. -/
import Derived.Test.YtimbbibpghnipaaGreatDoorZLookupLabels2
import Derived.RangeFuncLeaves
import Derived.RangeFuncRecord
import Derived.RangeFuncIn
set_option linter.all false
open Option renaming some→Ac,none→C7
open Bool renaming false→Aj,true→Bp
open Go renaming Value→BZ,Operand→DQ,TypeId→Gq,Program→GN,World→IU,execOp→Kt,Oper→K7,IntKind→Lo
open Decidable renaming decide→Dl
open Nat renaming beq→Hh,eq_of_beq_eq_true→aU,blt→aX,ble→iT
open List renaming replicate→T8,range→aT,getElem?_eq_getElem→lh,getElem?_append_left→pU,mem_of_getElem?→vR
open Go.Op renaming operands→af
open Go.Region renaming wanted→fp
open Go.Fence renaming wide→qZ
open Go.Deferred renaming ofValue→q8
open Option renaming bind_eq_some_iff→wS
open Go.Code renaming rangeFunc→Alz
namespace Go.GV
open Go Go.GK
section
variable {P : GN} {w : IU} {H : Hp} {O : List Aw} {T : Gq} {E : DQ -> Option BZ}
theorem Aid{o:K7}{a:Act}{v:BZ}{C D:IU->Prop}(h:o.quietAt P a C w v)(k:∀w',C w'->D w'):o.quietAt P a D w v:=by unfold K7.quietAt K7.quietUpon at*;split at h<;>rename_i heq;all_goals first|omega|(exact⟨h.1,k _ h.2⟩)|(exact⟨h.1,h.2.mono λ_ _ q=>⟨q.1,k _ q.2⟩⟩)|cases h
theorem Au.sub{op:Op}{b:List Aw}{v:BZ}(h1:∀w,SH w H O->SH w H b)(h2:∀w,SH w H b->SH w H O)(h:Au P op T E H b v):Au P op T E H O v:=
 λa w o c d e f=>Aid (h a w o c d e (h1 w f)) h2
theorem BM.sub{op:Op}{b:List Aw}{R e:BZ->Hp->List Aw->Prop}(h1:∀w,SH w H O->SH w H b)(h2:∀v w c b,R v c b->SH w c b->∃d,e v c d/\SH w c d)(h:BM P op T E H b R):BM P op T E H O e:=
 λa w o next Q f g i j n=>h a w o next Q f g i (h1 w j) λv p c b k l m=>by grind
section
variable {i : Nat} {v : BZ} {g e' : Gq} {n sz : Nat} {xs : List BZ} {rs : List (Option (Nat × List BZ))}
section
variable{u:BZ}
theorem Ajr(hi:O[i]?=Ac (.Ck v g n xs e' sz rs))(h:SH w H (O.set i (.row v g 1 n xs)++FU e' sz xs rs)):SH w H O:=by have:=h.TR (IT.1 hi).1;grind[GK.Rq]
theorem bL(hi:O[i]?=Ac (.Ck v g n xs e' sz rs)):(O.set i (.row v g 1 n xs)++FU e' sz xs rs)[i]?=Ac (.row v g 1 n xs):=by grind
theorem UC{a m:Nat}{ys:List BZ}(h1:xs[a]?=Ac u)(h2:rs[a]?=Ac (Ac (m,ys))):(O.set i (.row v g 1 n xs)++FU e' sz xs rs)[O.length+a]?=Ac (.row u e' sz m ys):=by grind[List.length_set,Nat.add_sub_cancel_left,Ql]
theorem Au.fl{op:Op}(hi:O[i]?=Ac (.Ck v g n xs e' sz rs))(h:Au P op T E H (O.set i (.row v g 1 n xs)++FU e' sz xs rs) u):Au P op T E H O u:=Au.sub (λ_ a=>a.flat hi) (λ_ a=>Ajr hi a) h
end
end
end
section
variable {N : C9} {R : Type} {P : GN} {C : List (SV N.T)} {S : Nat -> SV N.T} {Rr : Nat -> Option (SR N.T)} {nk : Nat} {o : K7} {k : Bx N.T -> Nat -> Option R} {r : R}
section
variable{t:Gq}{x y:DQ}{H:Hp}{ys xs:List BZ}{rs:List (Option (Nat×List BZ))}{i sz:Nat}
theorem Agt{sv:SV N.T}{b:Nat}{f:SR N.T}(q:Rr b=Ac f)(h0:f≠ .gone)
  (h:∀(η:Nat->BZ) (H:Hp) (O:List Aw) (a:Act) (w:IU) (X:Aw) (i:Nat),(∀x∈o.op.operands,(Ax S x).is C η H (a.eval x))->SH w H O->O[i]?=Ac X->f.is C η H b X->∃v,Au P o.op o.type (EV a) H O v/\sv.is C η H v):
  Ap P C S Rr o ⟨sv,[b],[]⟩:=by
 intro η H j a w Y g c D y t _ K Q p;rcases t b (.inl (by simp)) _ q with e|⟨X,l,m⟩;· grind
 obtain⟨i,n,_⟩:=Jj j g l;obtain⟨v,z,A⟩:=h η H _ a w X i y c n m;refine Aez (z a w o rfl rfl (λx u e=>by grind) c) c λB d=>?_;exact p v B H η Y (Hp.le.refl H) (λ_ _=>rfl) (λ_ _=>rfl) (λk E h=>by cases h) g (λk s=> .inl s) d A
def qE(P:GN)(S:Nat->SV N.T)(Rr:Nat->Option (SR N.T))(nk:Nat)(t:Gq)(x y:DQ)(k:Bx N.T->Nat->Option R):Option R:=match P.underlying t,intOf (Ax S y),Ax S x with
 |some (.slice g),Ac (_,i), .AH b=>match Rr b,Pw P g 1 with
  |some (.Ck _ _ _ _ l),Bp=>Ag (0<=i/\i<((l.length:Nat):Int)) (k ⟨.px [b] (.fo i.toNat),[b],[]⟩ nk)
  |_,_=>C7
 |_,_,_=>C7
theorem ph(I:o.op= .indexAddr t x y)(h:qE P S Rr nk t x y k=Ac r):A1 P C S Rr nk o k r:=by
 have p:∀ {η:Nat->BZ} {H:Hp} {a:Act},(∀x∈o.op.operands,(Ax S x).is C η H (a.eval x))->(Ax S x).is C η H (a.eval x):=λf=>f x (by grind[af]);have q:∀ {η:Nat->BZ} {H:Hp} {a:Act},(∀x∈o.op.operands,(Ax S x).is C η H (a.eval x))->(Ax S y).is C η H (a.eval y):=λf=>f y (by grind[af]);unfold qE at h;split at h;case h_2=>grind
 rename_i g U i b K G J;split at h;case h_2=>cases h
 rename_i L e W T l F D;obtain⟨bytes,Z,u⟩:=Dq D;obtain⟨hc,h⟩:=AE h;refine .y h (Agt F (by simp) λη H O a w X j f s z E=>?_) λ_ _=>trivial;obtain⟨Y,V,rfl,_,Q⟩:=E;have B:a.eval x=η b:=by
  have:(SV.AH b:SV N.T).is C η H (a.eval x):=by rw[<-J];exact p f
  exact this.1
 have d:=((s.flat z).IL (bL z)).1;refine⟨AL (η b) (i.toNat*1),?_,?_⟩;· rw[I];exact Agi K u (congrArg Ac B) d (congrArg Ac (AV G (q f))) hc
 ·rcases d with⟨_,M⟩|⟨A,c,v,_⟩;· omega
  ·exact⟨A,l.length,c,by simp[v],by omega,by rw[Acz,v]⟩
def qi(P:GN)(S:Nat->SV N.T)(Rr:Nat->Option (SR N.T))(nk:Nat)(t:Gq)(x:DQ)(k:Bx N.T->Nat->Option R):Option R:=match P.underlying t,Ax S x with
 |some d, .px [b] (.fo i)=>match Rr b,DL d with
  |some (.Ck _ _ _ h l),Aj=>Ab (idx l (i:Int)) λp=>Ag (p.1=Bp) (k ⟨.px [h,b] (.fi i),[b],[]⟩ nk)
  |_,_=>C7
 |_,_=>C7
theorem pa(K:o.op= .load t x)(h:qi P S Rr nk t x k=Ac r):A1 P C S Rr nk o k r:=by
 have L:∀ {η:Nat->BZ} {H:Hp} {a:Act},(∀x∈o.op.operands,(Ax S x).is C η H (a.eval x))->(Ax S x).is C η H (a.eval x):=λB=>B x (by grind[af]);unfold qi at h;split at h;case h_2=>grind
 rename_i d b i T W;split at h;case h_2=>grind
 rename_i g e Z V l I J;obtain⟨p,M,h⟩:=Bi h;obtain⟨hc,h⟩:=AE h;refine .y h (Agt I (by simp) λη H O a w X j B Q A G=>?_) λ_ _=>trivial;obtain⟨u,Y,rfl,s,F⟩:=G;obtain⟨D,n,c,f,U,E⟩:(SV.px [b] (.fo i):SV N.T).is C η H (a.eval x):=by grind
 have f:η b= .slice (Ac D) n c:=by simpa using f
 have q:=(Dg M).2;have z:i<u.length:=by rw[F.len];simpa using(IT.1 q).1
 refine⟨u[i],?_,u.toArray,η b,by simp[s],by simp[z]⟩;rw[K];exact Au.fl A (Ahs T J (v:=η b) (congrArg Ac (by rw[E,f])) (bL A) (GB z))
def qD(P:GN)(S:Nat->SV N.T)(Rr:Nat->Option (SR N.T))(nk:Nat)(t:Gq)(x y:DQ)(k:Bx N.T->Nat->Option R):Option R:=match P.underlying t,intOf (Ax S y),Ax S x with
 |some (.slice e),Ac (_,j), .px [h,b] (.fi i)=>match Rr b with
  |some (.Ck _ _ c d l)=>match Hh h d&&Pw P e (c.sz N)with
   |true=>Ab (idx l (i:Int)) λp=>Ag (p.1=Bp/\0<=j/\j<((p.2.length:Nat):Int)) (k ⟨.px [h,b] (.fe i j.toNat c),[b],[]⟩ nk)
   |false=>C7
  |_=>C7
 |_,_,_=>C7
theorem pf(Z:o.op= .indexAddr t x y)(h:qD P S Rr nk t x y k=Ac r):A1 P C S Rr nk o k r:=by
 have A:∀ {η:Nat->BZ} {H:Hp} {a:Act},(∀x∈o.op.operands,(Ax S x).is C η H (a.eval x))->(Ax S x).is C η H (a.eval x):=λc=>c x (by grind[af]);have B:∀ {η:Nat->BZ} {H:Hp} {a:Act},(∀x∈o.op.operands,(Ax S x).is C η H (a.eval x))->(Ax S y).is C η H (a.eval y):=λc=>c y (by grind[af]);unfold qD at h;split at h;case h_2=>cases h
 rename_i e kk j Q b i ht Y hs;split at h;case h_2=>cases h
 rename_i g e' te h' l V;split at h;case h_2=>cases h
 rename_i u;rw[AT]at u;have K:=AI u.1;subst K;obtain⟨bytes,zv,F⟩:=Dq u.2;obtain⟨p,hp,h⟩:=Bi h;obtain⟨⟨hc,z⟩,h⟩:=AE h;refine .y h (Agt V (by simp) λη H O a w X q c E W U=>?_) λ_ _=>trivial;obtain⟨G,rs,rfl,m,T⟩:=U;obtain⟨I,u',n,L⟩:(SV.px [Q,b] (.fi i):SV N.T).is C η H (a.eval x):=by rw[<-hs];exact A c
 have n:I=G.toArray:=by simp[m]at n;exact n.1.symm
 subst n;have D:l[i]?=Ac (Bp,p.2):=by have:=(Dg hp).2;simp only[Ace]at this;rw[this,<-hc]
 obtain⟨ys,M,f2⟩:=T.own i p.2 D;have J:G[i]?=Ac (a.eval x):=by simpa using L
 have f:=((E.flat W).IL (UC J M)).1;exact⟨AL (a.eval x) (j.toNat*te.sz N),by rw[Z];exact Agi (v:=a.eval x) ht F rfl f (congrArg Ac (AV Y (B c))) z,G.toArray,η b,a.eval x,by simp[m],by simpa using J,rfl⟩
def Xz(P:GN)(t:Gq)(a:Ty):Bool:=match P.underlying t,L_ N P t with
 |some d,Ac b=>(b.JO a&&Hh (a.sz N) 1)&& !DL d
 |_,_=>Aj
theorem LJ{a:Ty}(h:Xz (N:=N) P t a=Bp):∃d,P.underlying t=Ac d/\DL d=Aj/\a.agg=Aj/\a.sz N=1/\∃bytes z,TI P t 1 bytes z:=by
 unfold Xz at h;split at h;· grind[bytes,Adn,aU,Ke]
 grind
def qj(P:GN)(S:Nat->SV N.T)(Rr:Nat->Option (SR N.T))(nk:Nat)(t:Gq)(x:DQ)(k:Bx N.T->Nat->Option R):Option R:=match Ax S x with
 | .px [h,b] (.fe i j e)=>match Rr b with
  |some (.Ck _ _ a c l)=>match(Hh h c&&e.JO a)&&Xz (N:=N) P t a with
   |true=>Ab (idx l (i:Int)) λp=>Ag (p.1=Bp) (Ab (idx p.2 (j:Int)) λz=>k ⟨.d a z,[b],[]⟩ nk)
   |false=>C7
  |_=>C7
 |_=>C7
theorem R7{b:Ty}(h1:b.sz N=1){l:List (b.den N.T)}{j:Nat}{z:b.den N.T}(e:A2 (N.c b) H l ys)(f:l[j]?=Ac z):∃u,ys[j]?=Ac u/\(N.c b).BP H z [u]:=by
 have:=P6 e f;rw[h1,Acz]at this;have c:=Bg this;rw[h1]at c;match g:(ys.drop j).take 1,this,c with
 | [u],this,_=>
  have:((ys.drop j).take 1)[0]?=Ac u:=by grind
  grind
theorem pb(ho:o.op= .load t x)(h:qj P S Rr nk t x k=Ac r):A1 P C S Rr nk o k r:=by
 have s:∀ {η:Nat->BZ} {H:Hp} {a:Act},(∀x∈o.op.operands,(Ax S x).is C η H (a.eval x))->(Ax S x).is C η H (a.eval x):=λB=>B x (by grind[af]);unfold qj at h;split at h;case h_2=>grind
 rename_i Z b i j te hs;split at h;case h_2=>cases h
 rename_i g e' te' h' l hb;split at h;case h_2=>cases h
 rename_i G;simp only[AT]at G;obtain⟨⟨J,K⟩,L⟩:=G;have T:=AI J;subst T;have e:=Adn K;subst e;obtain⟨d,hd,ha,n,m,_⟩:=LJ L;obtain⟨p,hp,h⟩:=Bi h;obtain⟨hc,h⟩:=AE h;obtain⟨z,hz,h⟩:=Bi h;refine .y h (Agt hb (by simp) λη H O a w X q B hsh hj hX=>?_) λ_ _=>trivial;obtain⟨I,rs,rfl,E,hF⟩:=hX;obtain⟨F,u',u,e,U,V⟩:(SV.px [Z,b] (.fe i j te):SV N.T).is C η H (a.eval x):=by rw[<-hs];exact s B
 have e:F=I.toArray:=by simp[E]at e;exact e.1.symm
 subst e;have A:l[i]?=Ac (Bp,p.2):=by have:=(Dg hp).2;simp only[Ace]at this;rw[this,<-hc]
 obtain⟨ys,W,Y⟩:=hF.own i p.2 A;have hu:I[i]?=Ac u:=by simpa using U
 have D:p.2[j]?=Ac z:=by have:=(Dg hz).2;simpa using this
 obtain⟨c,M,Q⟩:=R7 m Y D;refine⟨c,?_,[c],Q,by unfold CL;rw[n]⟩;rw[ho];exact Au.fl hj (Ahs hd ha (v:=u) (congrArg Ac V) (UC hu W) (by rw[m,Acz];exact M))
def ot(P:GN)(C:List (SV N.T))(S:Nat->SV N.T)(Rr:Nat->Option (SR N.T))(nk:Nat)(t:Gq)(x y:DQ)(k:Bx N.T->Nat->Option R):Option R:=match Ax S x with
 | .px [h,b] (.fe i j f)=>match Rr b with
  |some (.Ck g e a d l)=>match(Hh h d&&f.JO a)&&Xz (N:=N) P t a,TK C a (Ax S y)with
   |true,Ac z=>Ab (idx l (i:Int)) λp=>Ag (p.1=Bp/\j<p.2.length) (k ⟨.no,[],[(b, .Ck g e a d (l.set i (Bp,p.2.set j z)))]⟩ nk)
   |_,_=>C7
  |_=>C7
 |_=>C7
theorem NX.set{α:Type}{c:Cd α}{l:List (Bool×List α)}(h:NX c H l xs rs){d:List α}(hi:i<l.length)(m:A2 c H d ys):NX c H (l.set i (Bp,d)) xs (rs.set i (Ac (d.length,ys))):=by
 refine⟨by simp[h.len],by simp[h.PE],λj a f=>?_,λj a f=>?_⟩
 ·rcases Cf f with⟨rfl,e⟩|⟨g,b⟩;· cases e;exact⟨ys,by simp[h.PE,hi],m⟩
  ·obtain⟨n,p,q⟩:=h.own j a b;grind
 ·rcases Cf f with⟨rfl,e⟩|⟨g,b⟩;· grind
  ·rw[Adt,if_neg (λe=>g e.symm)];exact h.not j a b
theorem oS(ho:o.op= .store t x y)(h:ot P C S Rr nk t x y k=Ac r):A1 P C S Rr nk o k r:=by
 have K:∀ {η:Nat->BZ} {H:Hp} {a:Act},(∀x∈o.op.operands,(Ax S x).is C η H (a.eval x))->(Ax S x).is C η H (a.eval x):=λs=>s x (by grind[af]);have L:∀ {η:Nat->BZ} {H:Hp} {a:Act},(∀x∈o.op.operands,(Ax S x).is C η H (a.eval x))->(Ax S y).is C η H (a.eval y):=λs=>s y (by simp_all[af]);unfold ot at h;split at h;case h_2=>cases h
 rename_i h0 b i j E M;split at h;case h_2=>cases h
 rename_i g e' te' h' l hb;split at h;case h_2=>cases h
 rename_i z Z hz;simp only[AT]at Z;obtain⟨⟨b1,b2⟩,b3⟩:=Z;have e0:=AI b1;subst e0;have n:=Adn b2;subst n;obtain⟨d,hd,ha,hag,m,bytes,zv,Q⟩:=LJ b3;obtain⟨p,hp,h⟩:=Bi h;obtain⟨⟨hc,I⟩,h⟩:=AE h;refine .set h hb (Afy hb (by simp) λη H O a X q s hj hX _=>?_) λ_ _=>trivial;obtain⟨F,rs,rfl,D,hF⟩:=hX;obtain⟨U,u',u,n,e2,e3⟩:(SV.px [h0,b] (.fe i j E):SV N.T).is C η H (a.eval x):=by rw[<-M];exact K s
 have n:U=F.toArray:=by simp[D]at n;exact n.1.symm
 subst n;have B:l[i]?=Ac (Bp,p.2):=by have:=(Dg hp).2;simp only[Ace]at this;rw[this,<-hc]
 have J:=(IT.1 B).1;obtain⟨V,W,Y⟩:=hF.own i p.2 B;have hu:F[i]?=Ac u:=by simpa using e2
 obtain⟨k1,k2⟩:=CP (DK hz (L s));have e:=Bg k1;rw[m]at e;have T:V.length=p.2.length:=by have:=Y.len;rw[Bn,m,Acz]at this;exact this
 have G:A2 (N.c E) H (p.2.set j z) (Ct V (j*E.sz N) (a.eval y).cells.toList):=by have:=Y.set I k1;rw[Bn]at this;exact this
 refine⟨.Ck (η b) g l.length F e' (E.sz N) (rs.set i (Ac ((p.2.set j z).length,Ct V (j*E.sz N) (a.eval y).cells.toList))),⟨F,_,by rw[show(l.set i (Bp,p.2.set j z)).length=l.length from Abq],D,hF.set J G⟩,?_⟩;rw[ho];refine BM.sub (λ_ M=>M.flat hj) ?_ (Ahm (i:=O.length+i) (congrArg Ac e3) rfl rfl Q e (by omega) k2 (UC hu W) (by rw[m,Acz,T,e];omega));rintro v w H' O' ⟨rfl,rfl⟩ f;refine⟨_,⟨rfl,rfl,trivial⟩,?_⟩;have hq:=(IT.1 hj).1;rw[Acy _ _ (by simp)]at f;simp only[Abq,Acg]at f;rw[Qi hu W]at f;rw[Abq];exact f.TR hq
theorem MP:∀ {Z:List (Nat×Aw)} {p:Nat×Aw},(keys Z).Nodup->p∈Z->Ay Z p.1=Ac p.2
 |(q,y)::Z,p,a,d=>by
  have a:=Aaz.1 a;rcases Aav.1 d with rfl|d;· grind[CF]
  ·have c:p.1≠q:=λe=>a.1 (by grind);rw[A3 λe=>c e.symm];exact MP a.2 d
theorem Qj{a:Gq}{sz:Nat} :∀ {xs:List BZ} {rs:List (Option (Nat×List BZ))} {i m:Nat} {u:BZ} {ys:List BZ},i<xs.length->i<rs.length->FU a sz (xs.set i u) (rs.set i (Ac (m,ys)))=(FU a sz xs rs).set i (.row u a sz m ys)
 |_::_,Ac (_,_)::_,0,_,_,_,_,_=>rfl
 |_::_,C7::_,0,_,_,_,_,_=>rfl
 |_::xs,Ac (_,_)::rs,i+1,_,_,_,h,k=>by simp only[Afv,FU];rw[Qj (by grind) (by grind)]
 |_::xs,C7::rs,i+1,_,_,_,h,k=>by simp only[Afv,FU];rw[Qj (by grind) (by grind)]
 | [],_,_,_,_,_,h,_=>by rfl
 |_::_,[],_,_,_,_,_,k=>by grind
theorem Ajp{w:IU}{A:List Aw}{v u:BZ}{g b:Gq}{n m:Nat}(hi:i<xs.length)(q:xs.length=rs.length)(h:SH w H (.row v g 1 n (xs.set i u):: .row u b sz m ys::A++FU b sz xs rs)):
  SH w H (.Ck v g n (xs.set i u) b sz (rs.set i (Ac (m,ys)))::A):=by
 have d:SH w H ((Aw.emp::A).set 0 (.row v g 1 n (xs.set i u))++FU b sz (xs.set i u) (rs.set i (Ac (m,ys)))):=by
  rw[Qj hi (by omega)];refine h.pick (λj=>if j=0 then 0 else if j=A.length+1+i then 1 else j+1) (λj r p=>?_) λj k _ _ e=>?_
  ·rcases Pc p with⟨c,d⟩|⟨a,c,d⟩;· cases j with
    |zero=>grind
    |succ j=>
     have c:j<A.length:=by grind
     grind
   ·have c:j=A.length+1+a:=by trivial
    rw[if_neg (by omega)];rcases Cf d with⟨l,f⟩|⟨l,f⟩;· rw[if_pos (by omega),f];rfl
    ·rw[if_neg (by omega),c];show(Aw.row v g 1 n (xs.set i u)::Aw.row u b sz m ys::(A++FU b sz xs rs))[A.length+1+a+1]?=_;rw[show A.length+1+a+1=(A.length+a)+1+1 by omega,Acq,Acq,Aab (by omega),Acg];exact f
  grind
 have:=d.TR (by simp);grind
def sB(P:GN)(S:Nat->SV N.T)(Rr:Nat->Option (SR N.T))(nk:Nat)(t:Gq)(x y:DQ)(k:Bx N.T->Nat->Option R):Option R:=match Ax S x,Ax S y with
 | .px [b] (.fo i), .AH j=>match Rr b,Rr j with
  |some (.Ck g e c h l),Ac (.row m a d)=>match(Hh e m&&Pw P t 1)&& !Nat.beq b j,Qp N.T (.sl a) (.sl c)with
   |true,Ac f=>Ag (i<l.length) (k ⟨.no,[],[(b, .Ck g e c nk (l.set i (Bp,f d))),(j, .gone),(nk, .gone)]⟩ (nk+1))
   |_,_=>C7
  |_,_=>C7
 |_,_=>C7
theorem pJ(ho:o.op= .store t x y)(hf:∀j,nk<=j->Rr j=C7)(h:sB P S Rr nk t x y k=Ac r):A1 P C S Rr nk o k r:=by
 have hox:∀ {η:Nat->BZ} {H:Hp} {a:Act},(∀x∈o.op.operands,(Ax S x).is C η H (a.eval x))->(Ax S x).is C η H (a.eval x):=λL=>L x (by grind[af]);have hoy:∀ {η:Nat->BZ} {H:Hp} {a:Act},(∀x∈o.op.operands,(Ax S x).is C η H (a.eval x))->(Ax S y).is C η H (a.eval y):=λL=>L y (by grind[af]);unfold sB at h;split at h;case h_2=>grind
 rename_i b i j hsx hsy;split at h;case h_2=>cases h
 rename_i g e te hh l e2 s d hb hj;split at h;case h_2=>cases h
 rename_i f hB hfe;simp only[AT,Aec]at hB;obtain⟨⟨b1,b2⟩,b3⟩:=hB;have e0:=AI b1;subst e0;have hbj:=Abf b3;obtain⟨bytes,zv,hti⟩:=Dq b2;obtain⟨hE,rfl⟩:=BB hfe;have e1:=Adn hE;injection e1 with e1;subst e1;obtain⟨hc,h⟩:=AE h;have hnb:Rr nk=C7:=hf nk (Aae _);have nb:nk≠b:=λq=>by subst q;rw[hnb]at hb;cases hb
 refine⟨_,nk+1,h,?_,Agx _,λq m I=>?_,λτ _=>trivial⟩;case refine_2=>
  simp[keys]at m;rcases m with rfl|rfl|rfl;· rw[hb]at I;cases I
  ·rw[hj]at I;cases I
  ·omega
 intro η H Of a w Y I hs hi L hr hfr K Q hK;rcases hr b (.inr (by simp[keys])) _ hb with q|⟨X,x1,A,O,x2,x3,D⟩;· cases q
 subst x2;rcases hr j (.inr (by simp[keys])) _ hj with q|⟨X,y1,G,y2,y3⟩;· cases q
 subst y2;obtain⟨ad,n,c,p1,p2,p3⟩:(SV.px [b] (.fo i):SV N.T).is C η H (a.eval x):=by rw[<-hsx];exact hox L
 have p1:η b= .slice (Ac ad) n c:=by simpa using p1
 obtain⟨u1,u2⟩:(SV.AH j:SV N.T).is C η H (a.eval y):=by rw[<-hsy];exact hoy L
 let Z:=FH (FH Y b) j;have E:(keys Z).Nodup:=Ic (Ic I);have nin:∀ {Y:List (Nat×Aw)} {k:Nat},k∉keys (FH Y k):=λ{Y k} B=>by obtain⟨q,m,e⟩:=By.1 B;have:=(Abb.1 m).2;rw[e]at this;simp at this
 have F:b∉keys Z:=λB=>nin (CH B);have W:j∉keys Z:=nin;have hs2:SH w H (((b,Aw.Ck (η b) g l.length A e (s.sz N) O)::(j,Aw.row (η j) e (s.sz N) d.length G)::Z).map (·.2)++Of):=by
  refine Go.GV.SH.Rd hs (Aaz.2 ⟨?_,Aaz.2 ⟨W,E⟩⟩) λp J=>?_
  ·intro B;rcases Aav.1 B with q|q;· exact hbj q
   ·exact F q
  ·rcases Aav.1 J with rfl|J;· exact x1
   ·rcases Aav.1 J with rfl|J;· exact y1
    ·have B:p.1∈keys Z:=By.2 ⟨p,J,rfl⟩;have l1:Ay Z p.1=Ac p.2:=MP E J;rw[DF (λq=>W (by rw[<-q];exact B)),DF (λq=>F (by rw[<-q];exact B))]at l1;exact l1
 have hs3:=hs2.flat (i:=0) rfl;have V:i<A.length:=by rw[D.len];exact hc
 have hs4:SH w H (.row (η b) g 1 l.length A:: .row (η j) e (s.sz N) d.length G::(Z.map (·.2)++Of)++FU e (s.sz N) A O):=hs3;have hone:(a.eval y).cells.toList=[a.eval y]:=A9 u2;have op:BM P o.op o.type (EV a) H (.row (η b) g 1 l.length A:: .row (η j) e (s.sz N) d.length G::(Z.map (·.2)++Of)++FU e (s.sz N) A O) (λ_ H' O'=>H'=H/\O'= .row (η b) g 1 l.length (A.set i (η j)):: .row (η j) e (s.sz N) d.length G::(Z.map (·.2)++Of)++FU e (s.sz N) A O):=by rw[ho];refine(Ahm (i:=0) (v:=η b) (k:=i) (congrArg Ac (by rw[p3,p1])) rfl hone hti rfl (by omega) (λz hz=>by simp at hz;subst hz;exact u2) rfl (by simp;omega)).mono ?_;rintro v H' O' ⟨rfl,rfl⟩;refine⟨rfl,?_⟩;rw[u1,GK.fE V];rfl
 refine op a w o K Q rfl rfl (λx u e=>by simpa using e) hs4 λv w' H' O' hle ⟨q1,q2⟩ hw'=>?_;subst q1;subst q2;have U:=Ajp V (D.len.trans D.PE.symm) hw';refine hK v w' H' (Ez η nk (.tuple (A.set i (η j)).toArray)) ((b,Aw.Ck (η b) g l.length (A.set i (η j)) e (s.sz N) (O.set i (Ac (d.length,G))))::Z) (Hp.le.refl _) (λq m=>EH λz=>by subst z;exact m hnb (by simp[keys])) (λq m=>?_) (λq sr m=>?_) (Aaz.2 ⟨F,E⟩) (λq m=>?_) U trivial;· simp[keys]at m;rw[A3 (λz=>m.1 z.symm),DF m.2.1,DF m.1]
 ·simp only[Ay]at m;split at m
  ·rename_i hbq;have:=AI hbq;subst this;cases m;refine .inr ⟨_,CF _ _ _,A.set i (η j),O.set i (Ac (d.length,G)),?_,AA _ _ _,?_⟩;· rw[EH (λz=>nb z.symm),Abq]
   ·refine⟨by simp[D.len],by simp[D.PE],λq d' m=>?_,λq d' m=>?_⟩
    ·rcases Cf m with⟨rfl,z⟩|⟨z1,z2⟩;· cases z;exact⟨G,by simp[D.PE,hc,S_],y3⟩
     ·obtain⟨ys',k1,k2⟩:=D.own q d' z2;exact⟨ys',by rw[Adt,if_neg (λe=>z1 e.symm)];exact k1,k2⟩
    ·rcases Cf m with⟨rfl,z⟩|⟨z1,z2⟩;· cases z
     ·rw[Adt,if_neg (λe=>z1 e.symm)];exact D.not q d' z2
  ·split at m;· cases m;exact .inl rfl
   ·split at m;· cases m;exact .inl rfl
    ·cases m
 ·rcases Aav.1 m with z|z;· exact .inr (by simp[keys];exact .inl z)
  ·exact .inl (CH (CH z))
end
end
section
variable {N : C9} {R : Type} {P : GN} {C : List (SV N.T)} {S : Nat -> SV N.T} {Rr : Nat -> Option (SR N.T)} {nk : Nat} {o : K7} {k : Bx N.T -> Nat -> Option R} {r : R}
section
variable{η:Nat->BZ}{H:Hp}{b n:Nat}{g t:Gq}{x:DQ}
def nF:Option (SR N.T)->Bool
 |some (.Ai _ (.lf _ (.d (.ar _ _) _) .nl))=>Bp
 |_=>Aj
theorem dp{s:Nat}{j:Ty}{l:List (j.den N.T)}{X:Aw}(h:(SR.Ai g (.lf s (.d (.ar n j) l) .nl):SR N.T).is C η H b X):
  ∃B cs,η b=ptr B 0/\X= .Ai B (.cells cs.toArray g (0,0))/\cs.length=s/\l.length=n/\A2 (N.c j) H l cs/\∀x∈cs,x.oneCell'=Bp:=by
 obtain⟨B,cs,q,t,p,m,u,e,v,⟨a,⟨y,z⟩,i⟩,f,w,c⟩:=h;subst i;have f:a=p:=by trivial
 subst f;have c:BZ.agg m.toArray= .agg #[]:=c;grind
theorem rY{a:Ty}{l:List (a.den N.T)}{B:Nat}{cs:List BZ}(h1:η b=ptr B 0)(h2:l.length=n)(h3:A2 (N.c a) H l cs)(c:∀x∈cs,x.oneCell'=Bp):
  (SR.Ai g (.lf cs.length (.d (.ar n a) l) .nl):SR N.T).is C η H b (.Ai B (.cells cs.toArray g (0,0))):=
 ⟨B,_,h1,rfl,cs,[], .agg cs.toArray,by simp,rfl,⟨cs,⟨h2,h3⟩,rfl⟩,by rfl,c,rfl⟩
def qk(P:GN)(S:Nat->SV N.T)(Rr:Nat->Option (SR N.T))(nk:Nat)(t:Gq)(x:DQ)(k:Bx N.T->Nat->Option R):Option R:=match Ax S x with
 | .loc b off=>match Rr b with
  |some (.Ai _ (.lf _ (.d (.ar _ a) l) .nl))=>match Xz (N:=N) P t a with
   |true=>Ab (idx l (off:Int)) λz=>k ⟨.d a z,[b],[]⟩ nk
   |false=>C7
  |_=>C7
 |_=>C7
theorem pc(u:o.op= .load t x)(h:qk P S Rr nk t x k=Ac r):A1 P C S Rr nk o k r:=by
 have m:∀ {η:Nat->BZ} {H:Hp} {a:Act},(∀x∈o.op.operands,(Ax S x).is C η H (a.eval x))->(Ax S x).is C η H (a.eval x):=λq=>q x (by grind[af]);unfold qk at h;split at h;case h_2=>cases h
 rename_i b off T;split at h;case h_2=>cases h
 rename_i g s n Z l L;split at h;case h_2=>cases h
 rename_i G;obtain⟨d,M,K,i,p,_⟩:=LJ G;obtain⟨z,V,h⟩:=Bi h;refine .y h (Agt L (by simp) λη H O a w X j q U Q J=>?_) λ_ _=>trivial;obtain⟨B,cs,F,rfl,e3,e4,I,_⟩:=dp J;obtain⟨A,v,Y⟩:(SV.loc b off:SV N.T).is C η H (a.eval x):=by rw[<-T];exact m q
 have:A=B:=by rw[F]at v;simpa [ptr]using v.symm
 subst this;have f:=(Dg V).2;obtain⟨c,D,E⟩:=R7 p I f;refine⟨c,?_,[c],E,by unfold CL;rw[i]⟩;rw[u];exact Agj M K (congrArg Ac Y) Q (by simpa using D)
def ou(P:GN)(C:List (SV N.T))(S:Nat->SV N.T)(Rr:Nat->Option (SR N.T))(nk:Nat)(t:Gq)(x y:DQ)(k:Bx N.T->Nat->Option R):Option R:=match Ax S x with
 | .loc b off=>match Rr b with
  |some (.Ai g (.lf s (.d (.ar n a) l) .nl))=>match Xz (N:=N) P t a,TK C a (Ax S y)with
   |true,Ac z=>Ag (off<n) (k ⟨.no,[],[(b, .Ai g (.lf s (.d (.ar n a) (l.set off z)) .nl))]⟩ nk)
   |_,_=>C7
  |_=>C7
 |_=>C7
theorem oT{y:DQ}(E:o.op= .store t x y)(h:ou P C S Rr nk t x y k=Ac r):A1 P C S Rr nk o k r:=by
 have F:∀ {η:Nat->BZ} {H:Hp} {a:Act},(∀x∈o.op.operands,(Ax S x).is C η H (a.eval x))->(Ax S x).is C η H (a.eval x):=λj=>j x (by grind[af]);have G:∀ {η:Nat->BZ} {H:Hp} {a:Act},(∀x∈o.op.operands,(Ax S x).is C η H (a.eval x))->(Ax S y).is C η H (a.eval y):=λj=>j y (by rw[E];simp[af]);unfold ou at h;split at h;case h_2=>cases h
 rename_i b off hs;split at h;case h_2=>cases h
 rename_i g s n W l Q;split at h;case h_2=>cases h
 rename_i z hB hz;obtain⟨d,hd,ha,hag,f,bytes,zv,J⟩:=LJ hB;obtain⟨hc,h⟩:=AE h;refine .set h Q (Afy Q (by simp) λη H O a X q j hj hX _=>?_) λ_ _=>trivial;obtain⟨B,w,K,rfl,e3,Z,M,L⟩:=dp hX;obtain⟨Y,V,q2⟩:(SV.loc b off:SV N.T).is C η H (a.eval x):=by rw[<-hs];exact F j
 have:Y=B:=by rw[K]at V;simpa [ptr]using V.symm
 subst this;obtain⟨T,U⟩:=CP (DK hz (G j));have c:=Bg T;rw[f]at c;have hcl:w.length=l.length:=by have:=M.len;rw[Bn,f,Acz]at this;exact this
 have D:A2 (N.c W) H (l.set off z) (Ct w off (a.eval y).cells.toList):=by have:=M.set (i:=off) (by omega) T;rw[Bn,f,Acz]at this;exact this
 have I:(Ct w off (a.eval y).cells.toList).length=s:=by unfold Ct;simp only[Aac,Aba,Ajn,c];omega
 have u:∀v∈Ct w off (a.eval y).cells.toList,v.oneCell'=Bp:=by
  intro v e;rcases AS.1 e with e|e
  ·rcases AS.1 e with e|e;· exact L v (Acl e)
   ·exact U v e
  ·exact L v (List.mem_of_mem_drop e)
 rw[E];have p:=rY (C:=C) (b:=b) (g:=g) (n:=n) (l:=l.set off z) K ((Abq ..).trans Z) D u;rw[I]at p;refine⟨_,p,(BM.Rl (congrArg Ac q2) rfl rfl J c U hj (by rw[List.size_toArray];omega)).mono ?_⟩;rintro v H' O' ⟨rfl,rfl⟩;trivial
end
end
section
variable {N : C9} {R : Type} {P : GN} [C4 N P] {C : List (SV N.T)} {S : Nat -> SV N.T} {Rr : Nat -> Option (SR N.T)} {nk : Nat} {o : K7} {k : Bx N.T -> Nat -> Option R} {r : R}
section
variable{x:DQ}
def pQ(S:Nat->SV N.T)(nk:Nat)(x:DQ)(k:Bx N.T->Nat->Option R):Option R:=match Ax S x with
 | .loc b off=>k ⟨.loc b off,[],[]⟩ nk
 | .pd t y off=>k ⟨.pd t y off,[],[]⟩ nk
 |_=>C7
theorem PV{T:Gq}{E:DQ->Option BZ}{H:Hp}{O:List GK.Aw}{b:Addr}(f:E x=Ac (.pointer (Ac b))):Au P (.nilCheck x) T E H O (.pointer (Ac b)):= .Ao λa w o e _ d _=>by simp_all[Kt]
theorem oX(c:o.op= .nilCheck x)(h:pQ S nk x k=Ac r):A1 P C S Rr nk o k r:=by
 unfold pQ at h;split at h
 ·rename_i b off f;refine .y h (Abu λη H O a g _=>?_) λ_ _=>trivial;obtain⟨B,d,e⟩:(SV.loc b off:SV N.T).is C η H (a.eval x):=by grind[af]
  exact⟨ptr B off,by rw[c];exact Au.nilCheck (congrArg Ac e),B,d,rf⟩
 ·rename_i t y off f;refine .y h (Abu λη H O a g _=>?_) λ_ _=>trivial;obtain⟨B,q,i,d,e,j⟩:(SV.pd t y off:SV N.T).is C η H (a.eval x):=by grind[af]
  exact⟨_,by rw[c];exact PV (congrArg Ac d),B,q,i,rf,e,j⟩
 grind
def vV(P:GN)(Φ:Nat->Option (CQ N))(C:List (SV N.T))(S:Nat->SV N.T)(Rr:Nat->Option (SR N.T))(nk:Nat)(op:Op)(ty:Gq)(k:Bx N.T->Nat->Option R):Option R:=match op with
 | .move x=>k ⟨Ax S x,[],[]⟩ nk
 | .assign x=>k ⟨Ax S x,[],[]⟩ nk
 | .pick c x y=>match Ax S c with
  | .lb Bp=>k ⟨Ax S x,[],[]⟩ nk
  | .lb Aj=>k ⟨Ax S y,[],[]⟩ nk
  |_=>C7
 | .alloc t=>UX P nk t k
 | .box t x=>rO P S nk t x k
 | .load t x=>match Ax S x with
  | .px _ (.fo _)=>qi P S Rr nk t x k
  | .px _ (.fe _ _ _)=>qj P S Rr nk t x k
  | .loc b _=>(match nF (Rr b)&&Pw P t 1 with
   |true=>qk P S Rr nk t x k
   |false=>gP P C S Rr nk t x k)
  |_=>gP P C S Rr nk t x k
 | .store t x y=>match Ax S x with
  | .px _ (.fo _)=>sB P S Rr nk t x y k
  | .px _ (.fe _ _ _)=>ot P C S Rr nk t x y k
  | .loc b _=>(match nF (Rr b)&&Pw P t 1 with
   |true=>ou P C S Rr nk t x y k
   |false=>zF P C S Rr nk t x y k)
  |_=>zF P C S Rr nk t x y k
 | .fieldAddr t x i=>qP P C S nk t x i k
 | .field t x i=>fdK P S nk t x i k
 | .indexAddr t x y=>match Ax S x with
  | .px _ (.hc _)=>qF P S nk t x y k
  | .px _ (.fi _)=>qD P S Rr nk t x y k
  | .AH b=>(match Rr b with
   |some (.Ck _ _ _ _ _)=>qE P S Rr nk t x y k
   |_=>zQ P S Rr nk t x y k)
  | .px _ _=>qC P S Rr nk t x y k
  |_=>zQ P S Rr nk t x y k
 | .index t x y=>match P.underlying t with
  |some (.array _ _)=>rX P S nk t x y k
  |_=>rH P S nk t x y k
 | .binOp .eql t x (.const (.slice C7 0 0)) _=>pP P S nk t x k
 | .binOp b t x y _=>match ji P t with
  |true=>(match b with
   | .eql=>iD P C S nk Aj t x y k
   | .neq=>iD P C S nk Bp t x y k
   |_=>C7)
  |false=>dh P C S nk b t x y k
 | .unOp .not _ x=>pL S nk x k
 | .unOp .neg _ x=>pR S nk x k
 | .nilCheck x=>pQ S nk x k
 | .convert s d x=>match P.underlying d with
  |some .string=>rM P S nk s d x k
  |some (.int .u64)=>(match P.underlying s with
   |some (.int .i64)=>cwK P S nk s d x k
   |_=>z7 P S nk s d x k)
  |_=>z7 P S nk s d x k
 | .extract x i=>qV S nk x i λs n=>match EW s.sv with
  |true=>k s n
  |false=>C7
 | .build t ⟨e⟩=>rR P C S nk t e k
 | .buildSlice t len ⟨e⟩=>match len,e with
  |0,[]=>rN P nk t k
  |len,e=>match cW S 0 e with
   |some _=>bcK P S nk t len e k
   |none=>bsK P C S nk t len e k
 | .makeSlice t p q=>zL P S nk t p q k
 | .slice t x C7 (Ac y) C7=>match Ax S x with
  | .raw _=>rm P S nk t x y k
  |_=>rn P S Rr nk t x y k
 | .slice t x (Ac y) (Ac z) C7=>oJ P S nk t x y z k
 | .slice t x j (Ac y) (Ac z)=>cr P S Rr nk t x j y z k
 | .call {callee:= .builtin .append,args:=⟨[s,x]⟩,argTypes:=⟨[t,u]⟩} =>match Hh u t with
  |true=>match Ax S s with
   | .px _ _=>se P S Rr nk s x t k
   |_=>si P S Rr nk s x t k
  |false=>match P.underlying u with
   |some .string=>sg P S Rr nk s x t u k
   |_=>r_ P S nk s x t u k
 | .call {callee:= .builtin .cap,args:=⟨[x]⟩,argTypes:=⟨[t]⟩} =>rp P S nk x t k
 | .call {callee:= .builtin .len,args:=⟨[x]⟩,argTypes:=⟨[t]⟩} =>match Ax S x with
  | .mp _=>qb P S Rr nk x t k
  | .px _ _=>qc P S nk x t k
  |_=>qg P S Rr nk x t k
 | .call {callee:= .builtin .unsafeSliceData,args:=⟨[x]⟩,argTypes:=⟨[_]⟩} =>n_ P S Rr nk x ty k
 | .call {callee:= .builtin .unsafeString,args:=⟨[x,y]⟩,argTypes:=⟨[l,_]⟩} =>n9 P S Rr nk x y l k
 | .call {callee:= .builtin .max,args:=⟨[x,y]⟩,argTypes:=_} =>p_ S nk x y k
 | .call {callee:= .builtin .min,args:=⟨[x,y]⟩,argTypes:=_} =>pZ S nk x y k
 | .call {callee:= .builtin .copy,args:=⟨[x,y]⟩,argTypes:=⟨[t,_]⟩} =>cz P S Rr nk x y t k
 | .call {callee:= .value x,args:=⟨m⟩,argTypes:=_} =>cZ C Φ S Rr nk x m k
 | .makeFunc (.func f) ⟨h⟩ ⟨g⟩=>pY S nk f h g k
 | .makeMap t C7=>pX P nk t k
 | .lookup t x y ok=>qd P C S Rr nk t x y ok k
 | .mapUpdate t x y u=>f_ P C S Rr nk t x y u k
 | .insert t x y u=>f_ P C S Rr nk t x y u k
 |_=>C7
theorem Ub{Φ:Nat->Option (CQ N)}(d:∀f q,Φ f=Ac q->Bt P f q)(g:∀k∈CW C,k<nk)(b:∀j,nk<=j->Rr j=C7)(c:∃τ,Nv Rr S τ)(h:vV P Φ C S Rr nk o.op o.type k=Ac r):A1 P C S Rr nk o k r:=by
 unfold vV at h;split at h;· grind[VM]
 ·simp_all[VM]
 ·grind[Z6,Z7]
 ·simp_all[Z']
 ·rename_i a;exact pB a g b h
 ·rename_i a;split at h;· exact pa a h
  ·exact pb a h
  ·split at h;· exact pc a h
   ·exact Z8 a c h
  ·exact Z8 a c h
 ·rename_i a;split at h;· exact pJ a b h
  ·exact oS a h
  ·split at h;· exact oT a h
   ·exact mQ a c h
  ·exact mQ a c h
 ·rename_i a;exact pk a h
 ·rename_i a;exact vX a h
 ·rename_i a;split at h;· exact pj a h
  ·exact pf a h
  ·split at h;· exact ph a h
   ·exact mU a h
  ·exact pe a h
  ·exact mU a h
 ·rename_i a;split at h;· exact pE a h
  ·exact py a h
 ·rename_i a;exact oW a h
 ·rename_i a;split at h
  ·split at h;· exact Z9 (ne:=Aj) a h
   ·exact Z9 (ne:=Bp) a h
   ·cases h
  ·exact gr a h
 ·rename_i a;exact oV a h
 ·rename_i a;exact oY a h
 ·rename_i a;exact oX a h
 ·rename_i a;split at h;· exact pz a h
  ·split at h;· exact vY a h
   ·exact mV a h
  ·exact mV a h
 ·rename_i a;exact pn a h
 ·rename_i a;exact pC a h
 ·rename_i a;split at h;· exact pA a b h
  ·split at h;· exact v7 a g b h
   ·exact vZ a b h
 ·rename_i a;exact vW a b h
 ·rename_i a;split at h;· exact gn a h
  ·exact pq a b h
 ·rename_i a;exact oU a h
 ·rename_i a;exact gp a h
 ·rename_i a;split at h
  ·rename_i i;have e:=AI i;subst e;split at h;· exact pG a b h
   ·exact pI a b h
  ·split at h;· exact pH a b h
   ·exact pF a b h
 ·rename_i a;exact pv a h
 ·rename_i a;split at h;· exact o7 a h
  ·exact o8 a h
  ·exact o_ a h
 ·rename_i a;exact oR a h
 ·rename_i a;exact oQ a h
 ·rename_i a;exact o6 a h
 ·rename_i a;exact o5 a h
 ·rename_i a;exact gq a h
 ·rename_i a;exact Z_ d b a h
 ·rename_i a;exact o4 a h
 ·rename_i a;exact o0 a b h
 ·rename_i a;exact o9 a h
 ·rename_i a;exact Z5 (.inl a) h
 ·rename_i a;exact Z5 (.inr a) h
 grind
theorem Ap.fz{f:Nat}{g:Gq}{u:Ty}{l:List (u.den N.T)}{s:Bx N.T}(hk:Rr f=Ac (.row g u l))(h:Ap P C (λt=>GQ f u l (S t)) (CA Rr f) o s)(hw:f∉keys s.wr):Ap P C S Rr o ⟨s.sv,f::s.rd,(f, .gone)::s.wr⟩:=by
 intro η H T a w Y W Z hi hx X m K Q hK;have d:∀j,j∈keys ((f,SR.gone)::s.wr)↔j=f\/j∈keys s.wr:=λj=>by simp[keys]
 rcases X f (.inl (by simp)) _ hk with e|⟨x,h1,xs,rfl,hL⟩;· grind
 obtain⟨i,V,h3⟩:=bY T W h1;obtain⟨O,p,U,g3⟩:=Z.freeze V;rw[h3]at U;have E:G4 (N.c u) O l (η f):=G4.of (by grind[Bn]) rfl (hL.mono p) (Z.Oj V);refine h η O T a w (FH Y f) (Ic W) U (N.CZ p hi) (λx I=>nr E ((hx x I).mono p)) (λj c L n=>?_) (λj c b B=>?_) K Q λv w' H2 M Y' A J hY G D y q F=>?_
 ·unfold CA at n;split at n;· cases n;exact .inl rfl
  ·rename_i hb;have ne:=Abf hb;refine(X j (c.imp (Aag _) λc=>(d j).2 (.inr c)) L n).imp id λ⟨z,e1,e2⟩=>⟨z,by grind[ne,DF],e2.mono p⟩
 ·unfold CA at b;split at b;· cases b
  ·exact m j ((d j).2 (.inr c)) b (CH B)
 ·refine hK v w' H2 M Y' (p.trans A) (λj c=>J j λb B=>?_) (λj c=>?_) (λj L c=>?_) D (λj c=>?_) q F
  ·unfold CA at b;split at b;· cases b
   ·exact c b ((d j).2 (.inr B))
  ·rw[d,not_or]at c;rw[hY j c.2,DF c.1]
  ·simp only[Ay]at c;split at c;· cases c;exact .inl rfl
   ·exact G j L c
  ·rcases y j c with e|e;· exact .inl (CH e)
   ·exact .inr ((d j).2 (.inr e))
def Wc(S:Nat->SV N.T):List DQ->Option Nat
 | []=>C7
 |x::a=>match XU (Ax S x)with
  |some k=>Ac k
  |none=>Wc S a
def wO(Φ:Nat->Option (CQ N))(S:Nat->SV N.T):Op->Option Nat
 | .buildSlice _ _ ⟨b⟩=>Wc S (b.map (·.2))
 | .convert _ _ x=>Wc S [x]
 | .store _ x y=>match Ax S x with
  | .Ec _ _ _ _ _=>XU (Ax S y)
  |_=>C7
 | .call {callee:= .value (.func f),args:=⟨c⟩,argTypes:=_} =>match Φ f with
  |some (.PN [q])=>match q.pi.ro,(q.po.hs.all λ| .Ae t=>Hz t|_=>Bp),(q.pi.sl.all λp=>match p.2 with| .v _ _=>Bp|_=>Aj)with
   | [],Aj,Bp=>Wc S c
   |_,_,_=>C7
  |_=>C7
 |_=>C7
def gk(P:GN)(Φ:Nat->Option (CQ N))(C:List (SV N.T)):Nat->(Nat->SV N.T)->(Nat->Option (SR N.T))->Nat->Op->Gq->(Bx N.T->Nat->Option R)->Option R
 |0,S,Rr,nk,op,b,k=>vV P Φ C S Rr nk op b k
 |n+1,S,Rr,nk,op,b,k=>match wO Φ S op with
  |some a=>match Rr a with
   |some (.row _ c l)=>gk P Φ C n (λt=>GQ a c l (S t)) (CA Rr a) nk op b λs nk=>match B_ (keys s.wr) a with
    |false=>k ⟨s.sv,a::s.rd,(a, .gone)::s.wr⟩ nk
    |true=>C7
   |_=>vV P Φ C S Rr nk op b k
  |none=>vV P Φ C S Rr nk op b k
theorem Uc{Φ:Nat->Option (CQ N)}(m:∀f q,Φ f=Ac q->Bt P f q)(B:∀k∈CW C,k<nk):∀(n:Nat) {S:Nat->SV N.T} {Rr:Nat->Option (SR N.T)} {k:Bx N.T->Nat->Option R},(∀j,nk<=j->Rr j=C7)->(∃τ,Nv Rr S τ)->gk P Φ C n S Rr nk o.op o.type k=Ac r->A1 P C S Rr nk o k r
 |0,S,Rr,k,v,y,h=>Ub m B v y h
 |n+1,S,Rr,k,v,y,h=>by
  unfold gk at h;split at h
  ·rename_i a Y;split at h
   ·rename_i g J l D;have A:∀τ,Nv Rr S τ->Nv (CA Rr a) (λt=>GQ a J l (S t)) τ:=λτ d t=>by
     have p:=d t;generalize G:S t=sv at p⊢;show D9 τ (CA Rr a) (GQ a J l (S t));rw[G];cases sv with
     |AH j=>unfold GQ;split<;>trivial
     |Ec j i off X x=>
      unfold GQ;split;· trivial
      ·rename_i b;intro L W V u;unfold CA at u;rw[b]at u;exact p L W V u
     |_=>exact p
    obtain⟨s,I,p,M,O,Q,T⟩:=Uc m B n (S:=λt=>GQ a J l (S t)) (Rr:=CA Rr a) (λj w=>by grind[CA,Hh,aU]) (by obtain⟨τ,d⟩:=y;exact⟨τ,A τ d⟩) h;split at p
    ·rename_i K;have H:a∉keys s.wr:=λe=>by rw[AU.2 e]at K;cases K
     refine⟨_,I,p,M.fz D H,O,λj w c=>?_,λτ d=>?_⟩
     ·simp only[keys,Aas,Aav]at w;rcases w with e|z;· subst e;rw[D]at c;cases c
      ·refine Q j z ?_;unfold CA;cases b:Hh j a with
       |true=>have:=AI b;subst this;exact absurd z H
       |false=>exact c
     ·have e:RK ((a,SR.gone)::s.wr) Rr=RK s.wr (CA Rr a):=funext λj=>by
       unfold RK CA;simp only[Ay];cases b:Hh a j with
       |true=>
        have:=AI b;subst this;rw[Cz H];simp
       |false=>
        have ne:=Abf b;have:Hh j a=Aj:=by
         cases E:Hh j a with
         |true=>exact absurd (AI E).symm ne
         |false=>rfl
        rw[this]
      show D9 τ (RK ((a,SR.gone)::s.wr) Rr) s.sv;rw[e];exact T τ (A τ d)
    grind
   grind[Ub]
  grind[Ub]
end
end
section
variable{T:Nat->Type}
def C6{T:Nat->Type}(CR:List (SR T)):SR T->SR T
 | .Cw j=>CR.getD j .gone
 |s=>s
def An{T:Nat->Type}(CR:List (SR T))(O:List (Nat×SR T))(k:Nat):Option (SR T):=match Ay O k with
 |some s=>Ac (C6 CR s)
 |none=>C7
def RN:SV T->Bool
 | .Ec _ _ _ _ _=>Aj
 |_=>Bp
def iV(a:List Nat)(L:List (Nat×SV T)):List (Nat×SV T):=match a with
 | []=>L
 |a=>L.map λp=>(p.1,match p.2 with
  | .Ec k i off t x=>match B_ a k with
   |true=> .no
   |false=> .Ec k i off t x
  |s=>s)
def Rz(d:Option Nat)(s:SV T)(L:List (Nat×SV T)):List (Nat×SV T):=match d with
 |some d=>(d,s)::L
 |none=>L
def app(st:St T)(d:Option Nat)(s:Bx T)(nk:Nat):St T:=⟨Rz d s.sv (iV (keys s.wr) st.L),s.wr++st.O,nk⟩
def NS(n:Nat)(d:Option Nat):Bool:=match d with
 |some d=>aX d n
 |none=>Bp
def C1(CR:List (SR T))(st:St T)(a:Nat):Bool:=(st.L.all λp=>p.2.AJ.all λk=>aX k a)&&(st.O.all λp=>(C6 CR p.2).AJ.all λk=>aX k a)
end
section
variable {N : C9}
structure Fm where
 O:List Aw
 ds:List Deferred
structure Sat(C:List (SV N.T))(CR:List (SR N.T))(n:Nat)(Of:Fm)(bs:List (Nat×BZ))(st:St N.T)(η:Nat->BZ)(H:Hp)(a:Act)(w:IU):Prop where
 inv:N.inv H
 defers:a.defers=Of.ds
 size:a.tmps.size=n
 Bo:∀t sv,Ay st.L t=Ac sv->sv.is C η H (a.tmps.getD t undef)
 base:∀p∈bs,η p.1=p.2
 own:∃Y:List (Nat×Aw),(keys Y).Nodup/\SH w H (Y.map (·.2)++Of.O)/\(∀k∈keys Y,k<st.nk)/\∀k sr,An CR st.O k=Ac sr->DU C η H Y k sr
structure WF(C:List (SV N.T))(CR:List (SR N.T))(bs:List (Nat×BZ))(st:St N.T):Prop where
 lo:∀p∈bs,p.1<st.nk
 ok:∀j,st.nk<=j->Ay st.O j=C7
 wf:∃τ,Nv (An CR st.O) (Cv C st.L) τ
 mC:∀k∈CW C,k<st.nk
 cP:∀s∈C,RN s=Bp
variable {C : List (SV N.T)} {CR : List (SR N.T)} {n : Nat} {Of : Fm} {bs : List (Nat × BZ)} {st : St N.T} {η : Nat -> BZ} {H : Hp} {a : Act} {w : IU}
section
variable{nk:Nat}{d:Option Nat}{T:Nat->Type}{s:Bx N.T}{P:GN}{o:K7}{v:BZ}{goal:Prop}
theorem Sat.lk(h:Sat C CR n Of bs st η H a w)(t:Nat):(Cv C st.L t).is C η H (a.tmps.getD t undef):=by
 unfold Cv;split;· rename_i s b;exact ET (h.Bo t s b)
 trivial
theorem Sat.ev(h:Sat C CR n Of bs st η H a w)(x:DQ):(Ax (Cv C st.L) x).is C η H (a.eval x):=bW λt e=>h.lk t
theorem DC{α β:Type}(f:α->β)(l:List (Nat×α))(k:Nat):Ay (l.map λp=>(p.1,f p.2)) k=(Ay l k).map f:=by
 induction l with
 |nil=>rfl
 |cons p l b=>
  grind[Ay]
def cX(b:List Nat):SV T->SV T
 | .Ec k i off t x=>match B_ b k with
  |true=> .no
  |false=> .Ec k i off t x
 |s=>s
theorem QC(b:List Nat)(L:List (Nat×SV N.T))(t:Nat):Ay (iV b L) t=(Ay L t).map (cX b):=by
 unfold iV;split
 ·have:cX (T:=N.T) []=id:=by
   funext s;cases s<;>rfl
  grind
 ·rw[<-DC];rfl
theorem QD{b:List Nat}{s:SV N.T}(h:s.is C η H v):(cX b s).is C η H v:=by
 unfold cX;split
 ·split;all_goals trivial
 omega
theorem H0{d t:Nat}(e:d<a.tmps.size):(a.put (Ac d) v).tmps.getD t undef=match Hh d t with|true=>v|false=>a.tmps.getD t undef:=by
 simp only[Act.put];cases b:Hh d t with
 |true=>
  have:=AI b;simp_all
 |false=>
  simp_all[ne,Abf,Aeq,Ajh]
theorem D1{k:Nat}{d:SR N.T}(h:An CR st.O k=Ac d){b:Nat}(c:C1 CR st b=Bp):∀j∈d.AJ,j<b:=by
 unfold An at h;split at h;· rename_i s g;unfold C1 at c;rw[AT]at c;have e:=No.1 (No.1 c.2 _ (A4 g));simp_all
 grind
theorem Hb(wr O:List (Nat×SR N.T))(b:∀p∈wr,C6 CR p.2=p.2)(k:Nat):An CR (wr++O) k=RK wr (An CR O) k:=by
 unfold An RK;rw[BT];cases h:Ay wr k with
 |none=>rfl
 |some s=>simp only;rw[b _ (A4 h)]
def On{T:Nat->Type} :SR T->Bool
 | .Cw _=>Aj
 |_=>Bp
theorem Jk{s:SR N.T}(h:On s=Bp):C6 CR s=s:=by cases s<;>first|rfl|cases h
def nq{T:Nat->Type}(CR:List (SR T))(st:St T)(p:Nat×SR T):Bool:=match p.2 with
 | .gone=>(An CR st.O p.1).isSome||iT st.nk p.1
 |_=>Bp
def wJ(CR:List (SR T))(st:St T)(s:Bx T):Bool:=s.wr.all λp=>match p.2 with
 | .gone=>(An CR st.O p.1).isSome
 |_=>Bp
def RS:SV T->Bool
 | .Cw _=>Aj
 |_=>Bp
def G'(CR:List (SR N.T))(n:Nat)(st:St N.T)(d:Option Nat)(s:Bx N.T)(nk:Nat):Bool:=(NS n d&&RS s.sv)&&((s.wr.all λp=>On p.2&&nq CR st p)&&(match Hh st.nk nk with
 |true=>Bp
 |false=>C1 CR st st.nk))
structure KS(C:List (SV N.T))(CR:List (SR N.T))(n:Nat)(st:St N.T)(d:Option Nat)(s:Bx N.T)(nk:Nat)(P:GN)(o:K7):Prop where
 b:G' CR n st d s nk=Bp
 loc:Ap P C (Cv C st.L) (An CR st.O) o s
 le:st.nk<=nk
 new:∀j∈keys s.wr,An CR st.O j=C7->st.nk<=j/\j<nk
 wf:∀τ,Nv (An CR st.O) (Cv C st.L) τ->D9 τ (RK s.wr (An CR st.O)) s.sv
structure Pj(C:List (SV N.T))(CR:List (SR N.T))(n:Nat)(st:St N.T)(d:Option Nat)(s:Bx N.T)(nk:Nat):Prop where
 b:G' CR n st d s nk=Bp
 le:st.nk<=nk
 new:∀j∈keys s.wr,An CR st.O j=C7->st.nk<=j/\j<nk
 wf:∀τ,Nv (An CR st.O) (Cv C st.L) τ->D9 τ (RK s.wr (An CR st.O)) s.sv
theorem KS.toW(b:KS C CR n st d s nk P o):Pj C CR n st d s nk:=⟨b.b,b.le,b.new,b.wf⟩
theorem WF.Vt(m:WF C CR bs st)(f:Pj C CR n st d s nk):WF C CR bs (app st d s nk):=by
 have u:=f.b;unfold G' at u;simp only[AT]at u;have z:∀p∈s.wr,C6 CR p.2=p.2:=λp A=>Jk (AT _ _▸No.1 u.2.1 p A).1;refine⟨λp A=>Abr (m.lo p A) f.le,λj v=>?_,?_,λk b=>Abr (m.mC k b) f.le,m.cP⟩;· show Ay (s.wr++st.O) j=C7;have v:nk<=j:=v;have D:=m.ok j (Aao f.le v);rw[BT,D];cases h:Ay s.wr j with
  |none=>rfl
  |some x=>
   have:=(f.new j (Dm h) (by grind[An])).2;omega
 ·obtain⟨
      τ,q⟩:=m.wf;refine⟨τ,λt=>?_⟩;have K:An CR (app st d s nk).O=RK s.wr (An CR st.O):=funext λk=>Hb _ _ z k;rw[K];have r:D9 τ (RK s.wr (An CR st.O)) (Cv C (iV (keys s.wr) st.L) t):=by
   have o:=q t;unfold Cv at o⊢;rw[QC];cases M:Ay st.L t with
   |none=>trivial
   |some x=>
    rw[M]at o;simp only[Adg]at o⊢;have key:∀y:SV N.T,D9 τ (An CR st.O) y->(∀k i off t x,y= .Ec k i off t x->k∉keys s.wr)->D9 τ (RK s.wr (An CR st.O)) y:=by
     intro y F b;cases y with
     |Ec k i off t x=>
      intro g J l c;have b:=b k i off t x rfl;unfold RK at c;rw[Cz b]at c;exact F g J l c
     |_=>exact F
    unfold cX;split
    ·split;· trivial
     ·exact key _ o λQ _ _ _ _ e=>by cases e;grind[AU]
    ·rename_i P;refine key _ o λQ R G J S e=>?_;unfold res at e;split at e;· rename_i j;rw[Aaa]at e;cases hc:C[j]? with
      |none=>rw[hc]at e;cases e
      |some I=>
       rw[hc]at e;have:=m.cP I (Aai hc);subst e;cases this
     grind
  unfold app Rz;cases d with
  |none=>exact r
  |some d=>
   unfold Cv;simp only[Ay];cases L:Hh d t with
   |false=>exact r
   |true=>
    have hc:=u.1.2;have:res C s.sv=s.sv:=by cases B:s.sv<;>first|rfl|(rw[B]at hc;cases hc)
    simp only;rw[this];exact f.wf τ q
theorem WF.step(c:WF C CR bs st)(b:KS C CR n st d s nk P o):WF C CR bs (app st d s nk):=c.Vt b.toW
theorem Sat.ld(h:Sat C CR n Of bs st η H a w)(hw:WF C CR bs st)(E:Pj C CR n st d s nk){K:BZ->IU->Fm->Hp->Prop}
  (run:∀Y:List (Nat×Aw),(keys Y).Nodup->SH w H (Y.map (·.2)++Of.O)->(∀k,(k∈s.rd\/k∈keys s.wr)->∀c,An CR st.O k=Ac c->DU C η H Y k c)->(∀k∈keys s.wr,An CR st.O k=C7->k∉keys Y)->
   (∀(v:BZ) (w':IU) (l:Hp) (η':Nat->BZ) (z:List (Nat×Aw)) (f:Fm),f.ds=Of.ds->H.le l->(∀k,(An CR st.O k=C7->k∉keys s.wr)->η' k=η k)->(∀k,k∉keys s.wr->Ay z k=Ay Y k)->
    (∀k c,Ay s.wr k=Ac c->DU C η' l z k c)->(keys z).Nodup->(∀k∈keys z,k∈keys Y\/k∈keys s.wr)->SH w' l (z.map (·.2)++f.O)->s.sv.is C η' l v->K v w' f l)->goal)
  (hK:∀η' l v w' f,H.le l->Sat C CR n f bs (app st d s nk) η' l (a.put d v) w'->K v w' f l):goal:=by
 obtain⟨Y,hn,hsh,M,A⟩:=h.own;have G:=E.b;unfold G' at G;simp only[AT]at G;have hnc:∀p∈s.wr,C6 CR p.2=p.2:=λp S=>Jk (AT _ _▸No.1 G.2.1 p S).1;have r:∀k,An CR st.O k=C7->k∈keys s.wr->k∉keys Y:=λk b q V=>by have m:=(E.new k q b).1;grind
 refine run Y hn hsh (λk _ c u=>A k c u) (λk q b=>r k b q) λv w' l η' z f X o F V hwr hn' W P hsv=>?_;have y:∀k,k<st.nk->η' k=η k:=λk b=>F k λg q=>by have:=(E.new k q g).1;omega
 have fresh:(∀k,η' k=η k)\/C1 CR st st.nk=Bp:=by
  have m:=G.2.2;split at m;· rename_i he;have e:st.nk=nk:=AI he;exact .inl λk=>F k λg q=>by have:=E.new k q g;omega
  grind
 have mC:∀k∈CW C,η' k=η k:=λk b=>y k (hw.mC k b);have mS:∀t sv,Ay st.L t=Ac sv->∀k∈sv.AJ,η' k=η k:=λt sv i k b=>by
  rcases fresh with m|m;· grind
  ·refine y k ?_;unfold C1 at m;rw[AT]at m;have:=No.1 (No.1 m.1 _ (A4 i)) k b;simpa using this
 have mR:∀k c,An CR st.O k=Ac c->∀j∈c.AJ,η' j=η j:=λk c b j hj=>by
  rcases fresh with m|m;· grind
  ·exact y j (D1 b m j hj)
 have Q:∀k c,k∉keys s.wr->An CR st.O k=Ac c->DU C η' l z k c:=λk c b u=>by
  rcases A k c u with e|⟨x,g1,g2⟩;· exact .inl e
  ·refine .inr ⟨x,by rw[V k b];exact g1,(SR.is.env ?_ mC (mR k c u) g2).mono o⟩;grind
 refine hK η' l v w' f o ⟨N.CZ o h.inv,?_,?_,λt sv i=>?_,λp S=>?_,z,hn',P,λk b=>?_,λk c b=>?_⟩;· rw[X];cases d<;>exact h.defers
 ·cases d<;>simp[Act.put,h.size]
 ·have B:∀ {t sv},Ay (iV (keys s.wr) st.L) t=Ac sv->sv.is C η' l (a.tmps.getD t undef):=λ{t sv} i=>by
   rw[QC]at i;obtain⟨x,U,rfl⟩:=Pd.1 i;exact QD (((h.Bo t x U).env mC (mS t x U)).mono o)
  have R:=G.1.1;cases J:d with
  |none=>
   rw[J]at i;exact B i
  |some d=>
   rw[J]at i R;have R:d<n:=by simpa [NS]using R
   have i:Ay ((d,s.sv)::iV (keys s.wr) st.L) t=Ac sv:=i;rw[H0 (by rw[h.size];exact R)];simp only[Ay]at i;cases I:Hh d t with
   |true=>rw[I]at i;cases i;exact hsv
   |false=>rw[I]at i;exact B i
 ·rw[y p.1 (hw.lo p S)];exact h.base p S
 ·rcases W k b with b|b;· exact Abr (M k b) E.le
  ·cases T:An CR st.O k with
   |none=>exact(E.new k b T).2
   |some x=>
    have Z:Ay st.O k≠C7:=λe=>by unfold An at T;rw[e]at T;cases T
    have:k<st.nk:=Aby λo=>Z (hw.ok k o);exact Abr this E.le
 ·have e:An CR (app st d s nk).O k=RK s.wr (An CR st.O) k:=Hb _ _ hnc k;rw[e]at b;unfold RK at b;cases L:Ay s.wr k with
  |some x=>rw[L]at b;cases b;exact hwr k _ L
  |none=>
   rw[L]at b;refine Q k c (λq=>?_) b;obtain⟨x,U⟩:=Ds q;rw[U]at L;cases L
theorem Sat.stepG(h:Sat C CR n Of bs st η H a w)(F:WF C CR bs st)(j:Pj C CR n st d s nk){K:BZ->IU->Prop}
  (run:∀Y:List (Nat×Aw),(keys Y).Nodup->SH w H (Y.map (·.2)++Of.O)->(∀k,(k∈s.rd\/k∈keys s.wr)->∀i,An CR st.O k=Ac i->DU C η H Y k i)->(∀k∈keys s.wr,An CR st.O k=C7->k∉keys Y)->
   (∀(v:BZ) (w':IU) (b:Hp) (η':Nat->BZ) (f:List (Nat×Aw)),H.le b->(∀k,(An CR st.O k=C7->k∉keys s.wr)->η' k=η k)->(∀k,k∉keys s.wr->Ay f k=Ay Y k)->
    (∀k i,Ay s.wr k=Ac i->DU C η' b f k i)->(keys f).Nodup->(∀k∈keys f,k∈keys Y\/k∈keys s.wr)->SH w' b (f.map (·.2)++Of.O)->s.sv.is C η' b v->K v w')->goal)
  (D:∀η' b v w',H.le b->Sat C CR n Of bs (app st d s nk) η' b (a.put d v) w'->K v w'):goal:=
 h.ld (K:=λv w' g b=>g=Of->K v w') F j (λY x y z A B=>run Y x y z A λv w' b η' f l m o p q r t u=>B v w' b η' f Of rfl l m o p q r t u rfl) λη' b v w' g E j e=>by grind
theorem Sat.step(h:Sat C CR n Of bs st η H a w)(m:WF C CR bs st)(f:KS C CR n st o.dst s nk P o){K:Act->IU->Prop}{Q:Exit->Act->IU->Prop}
  (g:∀η' c a' w',H.le c->Sat C CR n Of bs (app st o.dst s nk) η' c a' w'->K a' w'):o.wp P a w K Q:=by
 refine h.stepG m f.toW (K:=λv w'=>K (a.put o.dst v) w') (λY k e l i j=>f.loc η H Of.O a w Y k e h.inv (λx _=>h.ev x) l i K Q j) λη' c v w' d b=>g η' c _ w' d b
end
end
section
variable{T:Nat->Type}
def dk(i:Nat):SV T->SV T
 | .ct j n=>match Hh i j with
  |true=> .cb j n
  |false=> .ct j n
 |s=>s
def below{T:Nat->Type}(i:Nat)(st:St T):St T:=⟨st.L.map λp=>(p.1,dk i p.2),st.O,st.nk⟩
def Ko(t:Nat)(s:SV T)(st:St T):St T:=⟨(t,s)::st.L,st.O,st.nk⟩
end
section
variable {N : C9} {R : Type}
def xf(s:SV N.T)(st:St N.T)(c a:St N.T->Option R):Option R:=match s with
 | .lb b=>cond b (c st) (a st)
 | .lt i n m=>bif Dl ((n:Int)<(m:Int))then c (below i st)else a st
 | .d .bool b=>bif b then c st else a st
 |_=>C7
variable {C : List (SV N.T)} {CR : List (SR N.T)} {n : Nat} {Of : Fm} {bs : List (Nat × BZ)} {st : St N.T} {η : Nat -> BZ} {H : Hp} {a : Act} {w : IU}
section
variable{t:Nat}{L:List (Nat×SV N.T)}
theorem dj(i:Nat)(st:St N.T)(t:Nat):Ay (below i st).L t=(Ay st.L t).map (dk i):=by grind[below,DC]
theorem Sat.Gw(h:Sat C CR n Of bs st η H a w)(b:∀t sv,Ay L t=Ac sv->sv.is C η H (a.tmps.getD t undef)):Sat C CR n Of bs ⟨L,st.O,st.nk⟩ η H a w:=
 ⟨h.inv,h.defers,h.size,b,h.base,h.own⟩
theorem WF.Gw(h:WF C CR bs st)(c:∀τ,Nv (An CR st.O) (Cv C st.L) τ->Nv (An CR st.O) (Cv C L) τ):WF C CR bs ⟨L,st.O,st.nk⟩:=by obtain⟨τ,b⟩:=h.wf;exact⟨h.lo,h.ok,⟨τ,c τ b⟩,h.mC,h.cP⟩
theorem di{i k:Nat}{m:Nat}(h:Sat C CR n Of bs st η H a w)(d:WF C CR bs st)(ht:Cv C st.L t= .lt i k m)(p:(k:Int)<(m:Int)):Sat C CR n Of bs (below i st) η H a w/\WF C CR bs (below i st):=by
 have r:m<=Q_:=by have:=h.lk t;rw[ht]at this;exact this.2
 obtain⟨τ,c⟩:=d.wf;have s:τ i=k:=by have:=c t;rw[ht]at this;trivial
 refine⟨h.Gw λq sv g=>?_,⟨d.lo,d.ok,⟨τ,λq=>?_⟩,d.mC,d.cP⟩⟩
 ·rw[DC (dk i)]at g;obtain⟨x,e,rfl⟩:=Pd.1 g;have f:=h.Bo q x e;unfold dk;split
  ·rename_i j l;split
   ·rename_i o;have:=AI o;subst this;have b:=c q;unfold Cv at b;rw[e]at b;have b:τ i=l:=b;refine⟨f.1,?_⟩;have:l=k:=by omega
    subst this;exact Abr (by omega) r
   trivial
  omega
 ·have b:=c q;unfold Cv at b⊢;rw[dj];cases e:Ay st.L q with
  |none=>trivial
  |some x=>
   rw[e]at b;simp only[Adg]at b⊢;unfold dk;split
   ·split;· exact b
    ·exact b
   ·exact b
theorem PI{s:SV N.T}(h:Sat C CR n Of bs st η H a w)(i:WF C CR bs st)(g:s.is C η H (a.tmps.getD t undef))(f:EW s=Bp)(hc:RS s=Bp):Sat C CR n Of bs (Ko t s st) η H a w/\WF C CR bs (Ko t s st):=by
 refine⟨h.Gw λq sv b=>?_,i.Gw λτ c q=>?_⟩
 ·simp only[Ay]at b;split at b;· simp_all
  ·exact h.Bo q sv b
 ·have d:=c q;unfold Cv at d⊢;simp only[Ay];cases e:Hh t q with
  |true=>
   have:res C s=s:=by cases s<;>first|rfl|cases hc
   simp_all[DB]
  |false=>exact d
theorem UM{o l:St N.T->Option R}{r:R}(h:Sat C CR n Of bs st η H a w)(j:WF C CR bs st)(c:xf (Cv C st.L t) st o l=Ac r):
  ∃b d,a.tmps.getD t undef= .bool b/\Sat C CR n Of bs d η H a w/\WF C CR bs d/\(if b=Bp then o d=Ac r else l d=Ac r):=by
 have f:=h.lk t;unfold xf at c;split at c;· rename_i b e;rw[e]at f;cases b with
  |true=>exact⟨Bp,st,f,h,j,c⟩
  |false=>exact⟨Aj,st,f,h,j,c⟩
 ·rename_i i k m e;rw[e]at f;cases g:Dl ((k:Int)<(m:Int))with
  |true=>
   obtain⟨p,q⟩:=di h j e (of_decide_eq_true g);rw[g]at c;exact⟨Bp,below i st,by rw[f.1,g],p,q,c⟩
  |false=>
   rw[g]at c;exact⟨Aj,st,by rw[f.1,g],h,j,c⟩
 ·rename_i b e;rw[e]at f;refine⟨b,st,QG f,h,j,?_⟩;cases b with
  |true=>grind
  |false=>exact c
 grind
def Zs(P:GN)(Φ:Nat->Option (CQ N))(C:List (SV N.T))(CR:List (SR N.T))(n:Nat)(o:K7)(st:St N.T)(kn:St N.T->Option R):Option R:=
 gk P Φ C 4 (Cv C st.L) (An CR st.O) st.nk o.op o.type λs b=>match G' CR n st o.dst s b with
  |true=>kn (app st o.dst s b)
  |false=>C7
theorem Rh{P:GN} [C4 N P]{Φ:Nat->Option (CQ N)}(k:∀f q,Φ f=Ac q->Bt P f q){o:K7}{kn:St N.T->Option R}{r:R}(h:Sat C CR n Of bs st η H a w)(d:WF C CR bs st)(y:Zs P Φ C CR n o st kn=Ac r){K:Act->IU->Prop}{Q:Exit->Act->IU->Prop}
  (v:∀b η' e a' w',H.le e->Sat C CR n Of bs b η' e a' w'->WF C CR bs b->kn b=Ac r->K a' w'):o.wp P a w K Q:=by
 have z:∀j,st.nk<=j->An CR st.O j=C7:=λj A=>by unfold An;rw[d.ok j A]
 obtain⟨s,B,g,m,p,t,u⟩:=Uc (o:=o) k d.mC 4 z d.wf y;split at g;· rename_i x;have l:KS C CR n st o.dst s B P o:=⟨x,m,p,t,u⟩;exact h.step d l λη' e a' w' i c=>v _ η' e a' w' i c (d.step l) g
 grind
def Is(n:Nat)(d:Option Nat)(st:St N.T)(kn:St N.T->Option R):Option R:=match d with
 |none=>kn st
 |some d=>match aX d n with
  |true=>kn (Ko d .ud st)
  |false=>C7
theorem Ro{d:Option Nat}{kn:St N.T->Option R}{r:R}(h:Sat C CR n Of bs st η H a w)(l:WF C CR bs st)(e:Is n d st kn=Ac r):∃c,Sat C CR n Of bs c η H (a.put d undef) w/\WF C CR bs c/\kn c=Ac r:=by
 unfold Is at e;split at e;· exact⟨st,h,l,e⟩
 ·rename_i d;split at e
  ·have g:d<n:=by simp_all
   refine⟨_,?_,?_,e⟩;· refine⟨h.inv,h.defers,by simp[Act.put,h.size],λq sv b=>?_,h.base,h.own⟩;have b:Ay ((d,SV.ud)::st.L) q=Ac sv:=b;rw[H0 (by rw[h.size];omega)];simp only[Ay]at b;cases f:Hh d q with
    |true=>rw[f]at b;cases b;rfl
    |false=>rw[f]at b;exact h.Bo q sv b
   ·refine l.Gw λτ i q=>?_;have j:=i q;unfold Cv at j⊢;simp only[Ay];cases k:Hh d q with
    |true=>trivial
    |false=>exact j
  grind
theorem IF{b:Array K7}{j:Nat}{t:Tmp}(d:BL b j=Ac t)(c:a.tmps.getD t undef=undef):yielded b a.tmps j=C7:=by unfold BL at d;unfold yielded;rw[d];rw[Aeq]at c;grind[undef]
end
end
section
variable{T:Nat->Type}
inductive TS(T:Nat->Type)where
 |run (s:Bx T)
 |skip
def TS.sv:TS T->SV T
 | .run s=>s.sv
 | .skip=> .ud
def TS.rd:TS T->List Nat
 | .run s=>s.rd
 | .skip=>[]
def TS.wr:TS T->List (Nat×SR T)
 | .run s=>s.wr
 | .skip=>[]
def TS.AJ(t:TS T):List Nat:=t.sv.AJ++t.wr.flatMap λp=>p.2.AJ
def GO(A B:List Nat):Bool:=A.any λk=>B_ B k
theorem RU{A B:List Nat}(h:GO A B=Aj){k:Nat}(a:k∈A)(b:k∈B):False:=by grind[GO,List.any_eq_true,AU]
end
section
variable {T : Nat -> Type}
section
variable{nk:Nat}{l:List K7}{tr:List (TS T)}
def Lu(a:Array K7)(x y:K7)(s t:TS T):Bool:=meets a x y||(GO (keys s.wr) (t.rd++keys t.wr)||GO s.rd (keys t.wr))
def we(nk:Nat)(seen:List Nat)(wr:List (Nat×SR T)):List Nat:=(keys wr).filter λk=>iT nk k&& !B_ seen k
def RJ(a:Array K7)(nk:Nat)(A:Nat)(o:K7)(t:TS T)(j:Nat):Nat->List Nat->List K7->List (TS T)->Bool
 |_,_,[],[]=>Bp
 |i,seen,x::c,s::b=>(A.testBit i||(Hh i j||((!Nat.blt i j|| !Lu a x o s t)&& !GO (we nk seen s.wr) t.AJ)))&&RJ a nk A o t j (i+1) (keys s.wr++seen) c b
 |_,_,_,_=>Aj
def fy(a:Array K7)(l:List K7)(tr:List (TS T))(nk:Nat):Nat->List Nat->List K7->List (TS T)->Bool
 |_,[],[],[]=>Bp
 |j,A::b,o::c,t::d=>RJ a nk A o t j 0 [] l tr&&fy a l tr nk (j+1) b c d
 |_,_,_,_=>Aj
def ZV(l:List K7)(tr:List (TS T))(nk:Nat):Bool:=GR 0 l&&fy l.toArray l tr nk 0 (Np [] l) l tr
theorem ME{g:Array K7}{nk A:Nat}{o:K7}{t:TS T}{j:Nat} :∀ {i:Nat} {seen:List Nat} {xs:List K7} {ss:List (TS T)},RJ g nk A o t j i seen xs ss=Bp->xs.length=ss.length/\∀q x s,xs[q]?=Ac x->ss[q]?=Ac s->
  A.testBit (i+q)=Bp\/i+q=j\/((i+q<j->Lu g x o s t=Aj)/\∀k∈keys s.wr,nk<=k->k∉seen->(∀l m,l<q->ss[l]?=Ac m->k∉keys m.wr)->k∉t.AJ)
 |_,_,[],[],_=>⟨rfl,λq x s h=>by simp⟩
 |_,_,[],_::_,h=>by trivial
 |_,_,_::_,[],h=>by trivial
 |i,seen,y::xs,u::ss,h=>by
  simp only[RJ,AT]at h;obtain⟨a,D⟩:=h;obtain⟨F,E⟩:=ME D;refine⟨by grind,λq x s z r=>?_⟩;cases q with
  |zero=>
   simp at z r;subst r;rw[Adj,Adj,AT]at a;rcases a with a|a|⟨a,n⟩;· grind
   ·grind[aU]
   ·refine .inr (.inr ⟨λd=>?_,λk p c f _ b=>?_⟩)
    ·rw[Adj]at a;rcases a with a|a
     ·have:aX i j=Bp:=by simpa using d
      grind
     grind
    ·have n:GO (we nk seen u.wr) t.AJ=Aj:=by simpa using n
     refine RU n (Abb.2 ⟨p,?_⟩) b;grind[B_,seen,absurd,Nat.ble_eq_true_of_le,AU]
  |succ q=>
   have:=E q x s (by simpa using z) (by simpa using r);rw[show i+1+q=i+(q+1) by omega]at this;refine this.imp id λe=>e.imp id λ⟨B,C⟩=>⟨B,λk p c f w=>C k p c (λb=>?_) λl m d v=>w (l+1) m (by omega) (by simpa using v)⟩;rcases AS.1 b with b|b;· exact w 0 u (by omega) rfl b
   ·exact f b
theorem Oc{a:Array K7}{l:List K7}{tr:List (TS T)}{nk:Nat} :∀ {j:Nat} {b:List Nat} {os:List K7} {ts:List (TS T)},fy a l tr nk j b os ts=Bp->os.length=ts.length/\b.length=os.length/\∀q o t,os[q]?=Ac o->ts[q]?=Ac t->RJ a nk (b.getD q 0) o t (j+q) 0 [] l tr=Bp
 |_,[],[],[],_=>⟨rfl,rfl,λq o t h=>by simp⟩
 |j,A::b,o::os,t::ts,h=>by simp only[fy,AT]at h;obtain⟨c,d,e⟩:=Oc h.2;grind
 |_,[],[],_::_,h=>by trivial
 |_,[],_::_,_,h=>by trivial
 |_,_::_,[],_,h=>by trivial
 |_,_::_,_::_,[],h=>by trivial
theorem Km(h:ZV l tr nk=Bp):GR 0 l=Bp/\tr.length=l.length/\∀i j x o s t,l[i]?=Ac x->l[j]?=Ac o->tr[i]?=Ac s->tr[j]?=Ac t->
  (UT l j).testBit i=Bp\/i=j\/((i<j->Lu l.toArray x o s t=Aj)/\∀k∈keys s.wr,nk<=k->(∀c d,c<i->tr[c]?=Ac d->k∉keys d.wr)->k∉t.AJ):=by
 unfold ZV at h;rw[AT]at h;obtain⟨m,y,n⟩:=Oc h.2;refine⟨h.1,m.symm,λi j x o s t w q u v=>?_⟩;have:=n j o t q v;rw[Abl]at this;have:=(ME this).2 i x s w u;rw[Abl]at this;exact this.imp id λe=>e.imp id λ⟨f,g⟩=>⟨f,λk p b r=>g k p b (by simp) r⟩
end
end
section
variable {N : C9} {l : List K7} {tr : List (TS N.T)} {S0 : Nat -> SV N.T} {R0 : Nat -> Option (SR N.T)}
section
variable{p:Nat->Bool}{C:List (SV N.T)}{n nk:Nat}{Of:Fm}{H:Hp}{P:GN}{Q:Exit->Act->IU->Prop}{a:Act}{w:IU}
def Ce(l:List K7)(tr:List (TS N.T))(S0:Nat->SV N.T)(p:Nat->Bool)(t:Nat):Nat->SV N.T
 |0=>S0 t
 |j+1=>if p j=Bp/\(l[j]?).bind (·.dst)=Ac t then((tr[j]?).map TS.sv).getD .no else Ce l tr S0 p t j
def Cp(tr:List (TS N.T))(R0:Nat->Option (SR N.T))(p:Nat->Bool)(k:Nat):Nat->Option (SR N.T)
 |0=>R0 k
 |j+1=>if p j=Bp then match(tr[j]?).bind λs=>Ay s.wr k with
   |some x=>Ac x
   |none=>Cp tr R0 p k j
  else Cp tr R0 p k j
theorem GH{p q:Nat->Bool}{t:Nat} :∀i,(∀j,j<i->(l[j]?).bind (·.dst)=Ac t->p j=q j)->Ce l tr S0 p t i=Ce l tr S0 q t i
 |0,_=>rfl
 |i+1,h=>by unfold Ce;rw[GH i λj a=>h j (by omega)];grind
theorem HI{p:Nat->Bool}{t i:Nat} :∀k,i<=k->(∀j,i<=j->j<k->(l[j]?).bind (·.dst)=Ac t->p j=Aj)->Ce l tr S0 p t k=Ce l tr S0 p t i
 |0,h,_=>by grind
 |k+1,h,f=>by
  by_cases e:i=k+1;· grind
  ·have g:Ce l tr S0 p t (k+1)=if p k=Bp/\(l[k]?).bind (·.dst)=Ac t then((tr[k]?).map TS.sv).getD .no else Ce l tr S0 p t k:=rfl;rw[g,if_neg (λ⟨b,c⟩=>by grind)];exact HI k (by omega) λj b c d=>f j b (by omega) d
theorem E5{p q:Nat->Bool}{k:Nat} :∀i,(∀j,j<i->∀s,tr[j]?=Ac s->k∈keys s.wr->p j=q j)->Cp tr R0 p k i=Cp tr R0 q k i
 |0,_=>rfl
 |i+1,h=>by unfold Cp;rw[E5 i λj a=>h j (by omega)];grind[bind,Ay,wS,Dm]
theorem HH{p:Nat->Bool}{k i:Nat} :∀m,i<=m->(∀j,i<=j->j<m->∀s,tr[j]?=Ac s->k∈keys s.wr->p j=Aj)->Cp tr R0 p k m=Cp tr R0 p k i
 |0,h,_=>by grind
 |m+1,h,c=>by
  by_cases e:i=m+1;· grind
  ·have g:=HH m (by omega:i<=m) λj a d b=>c j a (by omega) b;have f:Cp tr R0 p k (m+1)=if p m=Bp then(match(tr[m]?).bind λs=>Ay s.wr k with
    |some x=>Ac x
    |none=>Cp tr R0 p k m)else Cp tr R0 p k m:=rfl;grind[bind,Ay,wS,Dm]
def Nz(C:List (SV N.T))(a:Array K7)(o:K7)(S:Nat->SV N.T):Prop:= ∀j w,o.guard=Ac (j,w)->∃t,BL a j=Ac t/\∀(η:Nat->BZ) (H:Hp) v,(S t).is C η H v->v= .bool w
def KU(C:List (SV N.T))(a:Array K7)(o:K7)(S:Nat->SV N.T):Prop:= ∃j w t,o.guard=Ac (j,w)/\BL a j=Ac t/\∀(η:Nat->BZ) (H:Hp) v,(S t).is C η H v->v=undef\/v= .bool (!w)
structure dH(P:GN)(C:List (SV N.T))(ops:Array K7)(n nk:Nat)(o:K7)(s:TS N.T)(S:Nat->SV N.T)(R:Nat->Option (SR N.T)):Prop where
 dst:∀d,o.dst=Ac d->d<n
 new:∀k∈keys s.wr,R k=C7->nk<=k/\Ay s.wr k≠Ac .gone
 run:∀st,s= .run st->Nz C ops o S/\∃Sr:Nat->SV N.T,(∀t, .tmp t∈o.op.operands->∀(η:Nat->BZ) (H:Hp) v,(S t).is C η H v->(Sr t).is C η H v)/\Ap P C Sr R o st
 skip:s= .skip->KU C ops o S
structure JV(C:List (SV N.T))(n:Nat)(Of:Fm)(bs:List (Nat×BZ))(nk:Nat)(l:List K7)(tr:List (TS N.T))(S0:Nat->SV N.T)(R0:Nat->Option (SR N.T))(H:Hp)(p:Nat->Bool)(a:Act)(w:IU):Prop where
 ex:∃(η:Nat->BZ) (H':Hp) (Y:List (Nat×Aw)),H.le H'/\a.defers=Of.ds/\a.tmps.size=n/\(∀t,(Ce l tr S0 p t l.length).is C η H' (a.tmps.getD t undef))/\(∀q∈bs,η q.1=q.2)/\(keys Y).Nodup/\SH w H' (Y.map (·.2)++Of.O)/\
  (∀k∈keys Y,k<nk\/∃(j:Nat) (s:TS N.T),p j=Bp/\tr[j]?=Ac s/\k∈keys s.wr)/\∀k sr,Cp tr R0 p k l.length=Ac sr->DU C η H' Y k sr
theorem OZ{k:Nat} :∀ {i:Nat},Cp tr R0 (λ_=>Bp) k i=C7->∀j s,j<i->tr[j]?=Ac s->k∉keys s.wr
 |0,_,j,s,a,_=>by omega
 |i+1,h,j,s,a,c=>by
  unfold Cp at h;simp only[if_true]at h;split at h;· grind
  ·by_cases e:j=i;· intro b;obtain⟨x,d⟩:=Ds b;grind
   ·exact OZ h j s (by omega) c
theorem SN{p:Nat->Bool}{t:Nat} :∀i,Ce l tr S0 p t i=S0 t\/(∃j s,j<i/\p j=Bp/\tr[j]?=Ac s/\Ce l tr S0 p t i=s.sv)\/Ce l tr S0 p t i= .no
 |0=> .inl rfl
 |i+1=>by
  unfold Ce;split;· grind
  ·rcases SN i with h|⟨j,s,a,b⟩|h;· exact .inl h
   all_goals grind
theorem M9{p:Nat->Bool}{k:Nat}{x:SR N.T} :∀i,Cp tr R0 p k i=Ac x->R0 k=Ac x\/∃j s,j<i/\p j=Bp/\tr[j]?=Ac s/\Ay s.wr k=Ac x
 |0,h=> .inl h
 |i+1,h=>by
  unfold Cp at h;split at h;· cases c:(tr[i]?).bind λs=>Ay s.wr k with
   |none=>
    rw[c]at h;rcases M9 i h with h|⟨j,s,a,b⟩;all_goals grind
   |some y=>
    grind
  ·rcases M9 i h with h|⟨j,s,a,b⟩;all_goals grind
theorem Ti{bs:List (Nat×BZ)}(hiv:N.inv H)
  (hOK:ZV l tr nk=Bp) (hC:∀k∈CW C,k<nk) (hS:∀t,∀k∈(S0 t).AJ,k<nk) (hR:∀k x,R0 k=Ac x->k<nk/\∀j∈x.AJ,j<nk) (hbs:∀q∈bs,q.1<nk)
  (hl:∀i o s,l[i]?=Ac o->tr[i]?=Ac s->dH P C l.toArray n nk o s (λt=>Ce l tr S0 (λ_=>Bp) t i) (λk=>Cp tr R0 (λ_=>Bp) k i)):∀p a w i o,l[i]?=Ac o->p i=Aj->HR l p->(∀j,(UT l i).testBit j=Bp->p j=Bp)->(∀j u,l[j]?=Ac u->p j=Bp->∀m,(UT l j).testBit m=Bp->p m=Bp)->JV C n Of bs nk l tr S0 R0 H p a w->
   if fp o (yielded l.toArray a.tmps)then o.wp P a w (JV C n Of bs nk l tr S0 R0 H (I_ p i)) Q else JV C n Of bs nk l tr S0 R0 H (I_ p i) (a.put o.dst undef) w:=by
 obtain⟨hb,hlen,R⟩:=Km hOK;have hTr:∀i o,l[i]?=Ac o->∃s,tr[i]?=Ac s:=λi o ho=>by
  have:i<tr.length:=by rw[hlen];exact(IT.1 ho).1
  exact⟨tr[i],GB this⟩
 have hLt:∀j s,tr[j]?=Ac s->∃o,l[j]?=Ac o:=λj s hs=>by
  have:j<l.length:=by rw[<-hlen];exact(IT.1 hs).1
  exact⟨l[j],GB this⟩
 intro p a w i o O S hcl hanc hancs ⟨η,H',Y,h1,h2,h3,h4,h5,h6,h7,h8,h9⟩;obtain⟨s,D⟩:=hTr i o O;have J:=hl i o s O D;have hlt:i<l.length:=(IT.1 O).1;have A:∀j u f,l[j]?=Ac u->tr[j]?=Ac f->i<j->Lu l.toArray o u s f=Bp->p j=Aj:=λj u f z c hij hc=>by
  cases hp:p j with
  |false=>rfl
  |true=>
   rcases R i j o u s f O z D c with e|e|e;· rw[hancs j u z hp i e]at S;omega
   ·omega
   grind
 have G:∀j u f,l[j]?=Ac u->tr[j]?=Ac f->j<i->Lu l.toArray u o f s=Bp->p j=Bp:=λj u f z c hij hc=>by
  rcases R j i u o f s z O c D with e|e|e;· exact hanc j e
  ·omega
  grind
 have M:∀(j t:Nat),(l[j]?).bind (λx:K7=>x.dst)=Ac t->∃u f,l[j]?=Ac u/\tr[j]?=Ac f/\u.dst=Ac t:=λj t h=>by
  cases z:l[j]? with
  |none=>rw[z]at h;cases h
  |some u=>rw[z]at h;obtain⟨f,c⟩:=hTr j u z;exact⟨u,f,rfl,c,h⟩
 have U:∀t,t∈o.looksAt l.toArray->Ce l tr S0 p t l.length=Ce l tr S0 (λ_=>Bp) t i:=λt V=>by
  rw[HI (i:=i) l.length (by omega) (λj hij hjk hd=>by
   by_cases B:j=i;· subst B;omega
   ·obtain⟨u,f,z,c,hdj⟩:=M j t hd;refine A j u f z c (by omega) ?_;unfold Lu;simp only[meets,hdj,EX V,Bool.or_true,Bool.true_or])];exact GH i λj z hd=>by
   obtain⟨u,f,Z,c,hdj⟩:=M j t hd;refine G j u f Z c z ?_;unfold Lu;simp only[meets,hdj,EX V,Bool.true_or]
 have resC:∀k,(k∈s.rd\/k∈keys s.wr)->Cp tr R0 p k l.length=Cp tr R0 (λ_=>Bp) k i:=λk g=>by
  rw[HH (i:=i) l.length (by omega) (λj hij hjk f c I=>by
   by_cases B:j=i;· subst B;omega
   ·obtain⟨u,z⟩:=hLt j f c;refine A j u f z c (by omega) ?_;unfold Lu;rcases g with g|g;· have:GO s.rd (keys f.wr)=Bp:=Aca.2 ⟨k,g,AU.2 I⟩;rw[this];simp
    ·have:GO (keys s.wr) (f.rd++keys f.wr)=Bp:=Aca.2 ⟨k,g,AU.2 (AS.2 (.inr I))⟩;rw[this];simp)];exact E5 i λj z f c I=>by
   obtain⟨u,Z⟩:=hLt j f c;refine G j u f Z c z ?_;unfold Lu;have:GO (keys f.wr) (s.rd++keys s.wr)=Bp:=Aca.2 ⟨k,I,AU.2 (AS.2 g)⟩;rw[this];simp
 have T:∀j,j≠i->I_ p i j=p j:=λj z=>by simp[I_,z]
 have hupi:I_ p i i=Bp:=by simp[I_]
 have lookT:∀t, .tmp t∈o.op.operands->t∈o.looksAt l.toArray:=λt V=>by refine AS.2 (.inl (Aev.2 ⟨.tmp t,by simpa using V,rf⟩))
 have lookG:∀j b t,o.guard=Ac (j,b)->BL l.toArray j=Ac t->t∈o.looksAt l.toArray:=λj b t hg V=>by unfold BL at V;refine AS.2 (.inr ?_);rw[hg];simp only[V];simp
 have slotN:∀(v:BZ) (t:Nat),(Ce l tr S0 (I_ p i) t l.length=s.sv/\o.dst=Ac t)\/(Ce l tr S0 (I_ p i) t l.length=Ce l tr S0 p t l.length/\o.dst≠Ac t):=λv t=>by
  by_cases hdt:o.dst=Ac t;· refine .inl ⟨?_,hdt⟩;rw[HI (i:=i+1) l.length (by omega) (λj hij hjk hd=>by obtain⟨u,f,Z,c,hdj⟩:=M j t hd;rw[T j (by omega)];refine A j u f Z c (by omega) ?_;unfold Lu;simp only[meets,hdt,Kr hdj,Bool.true_or])];unfold Ce;rw[if_pos ⟨hupi,by simp[O,hdt]⟩,D];rfl
  ·refine .inr ⟨?_,hdt⟩;exact GH l.length λj z hd=>by exact T j λe=>by grind
 have K:∀ {v:BZ} {E:Nat->BZ} {X:Hp},(∀t,(Ce l tr S0 p t l.length).is C E X (a.tmps.getD t undef))->s.sv.is C E X v->∀t,(Ce l tr S0 (I_ p i) t l.length).is C E X ((a.put o.dst v).tmps.getD t undef):=λ{v E X} hold hnew t=>by
  rcases slotN v t with⟨F,L⟩|⟨F,L⟩;· rw[F,L,H0 (by rw[h3];exact J.dst t L)];simpa using hnew
  ·rw[F];cases hd:o.dst with
   |none=>exact hold t
   |some d=>
    rw[H0 (by rw[h3];exact J.dst d hd)];have:Hh d t=Aj:=by
     cases hb:Hh d t with
     |false=>rfl
     |true=>exact absurd (by rw[hd,AI hb]) L
    rw[this];exact hold t
 have hdz:∀v,(a.put o.dst v).defers=Of.ds/\(a.put o.dst v).tmps.size=n:=λv=>by cases o.dst<;>simp[Act.put,h2,h3]
 cases s with
 |skip=>
  obtain⟨j,b,t,hg,V,hv⟩:=J.skip rfl;have hval:=hv η H' _ (by have:=h4 t;rw[U t (lookG j b t hg V)]at this;exact this);have hw':fp o (yielded l.toArray a.tmps)=Aj:=by
   rcases hval with e|e;· simp[fp,hg,IF V e]
   ·simp[fp,hg,Gp V e]
  rw[if_neg (by rw[hw'];simp)];refine⟨η,H',Y,h1,(hdz _).1,(hdz _).2,K h4 rfl,h5,h6,h7,λk g=>?_,λk sr g=>?_⟩
  ·rcases h8 k g with e|⟨j',s',F,L⟩;· exact .inl e
   ·refine .inr ⟨j',s',?_,L⟩;rw[T j' λe=>by subst e;rw[S]at F;cases F];exact F
  ·refine h9 k sr ?_;rw[<-g];exact E5 l.length λj' Z s' hs' hk'=>by refine(T j' λe=>?_).symm;subst e;rw[D]at hs';cases hs';cases hk'
 |run st=>
  obtain⟨hgr,Sr,hSr,hLoc⟩:=J.run st rfl;have hw':fp o (yielded l.toArray a.tmps)=Bp:=by
   cases hg:o.guard with
   |none=>simp[fp,hg]
   |some jb=>
    obtain⟨j,b⟩:=jb;obtain⟨t,V,hv⟩:=hgr j b hg;have hval:=hv η H' _ (by have:=h4 t;rw[U t (lookG j b t hg V)]at this;exact this);simp[fp,hg,Gp V hval]
  rw[if_pos hw'];have hnk:∀k∈keys st.wr,Cp tr R0 (λ_=>Bp) k i=C7->nk<=k:=λk h1 h2=>(J.new k h1 h2).1;have fresh:∀k∈keys st.wr,Cp tr R0 (λ_=>Bp) k i=C7->∀j f,tr[j]?=Ac f->p j=Bp->k∉f.AJ:=λk g r j f c hpj=>by
   obtain⟨u,z⟩:=hLt j f c;rcases R i j o u _ f O z D c with e|e|e;· rw[hancs j u z hpj i e]at S;cases S
   ·subst e;rw[S]at hpj;cases hpj
   ·exact e.2 k g (hnk k g r) λq' s' hlt hs'=>OZ r q' s' hlt hs'
  refine hLoc η H' Of.O a w Y h6 h7 (N.CZ h1 hiv) (λx hx=>bW λt e=>?_) (λk g sr hsr=>?_) (λk g r hY=>?_) _ Q λv w' X E Y' hle hη hY hwr hn' hY' hsh' hsv=>?_;· subst e;exact hSr t hx η H' _ (by have:=h4 t;rw[U t (lookT t hx)]at this;exact this)
  ·exact h9 k sr (by rw[resC k g];exact hsr)
  ·have h11:=
         hnk k g r;rcases h8 k hY with e|⟨j,f,F,L,e3⟩;· omega
   ·obtain⟨
        u,z⟩:=hLt j f L;rcases Acx j i with B|B|B
    ·have:Cp tr R0 (λ_=>Bp) k i≠C7:=by
      have key:∀m,j<m->Cp tr R0 (λ_=>Bp) k m≠C7:=by
       intro m;induction m with
       |zero=>omega
       |succ m ih=>
        intro hjm;unfold Cp;by_cases e:j=m;· subst e;obtain⟨y0,hy0⟩:=Ds e3;rw[L];cases hl:Ay f.wr k with
         |none=>rw[hy0]at hl;cases hl
         |some y=>simp[hl]
        ·have:=ih (by omega);cases hl:(tr[m]?).bind λs=>Ay s.wr k with
         |none=>simpa using this
         |some y=>simp
      exact key i B
     exact this r
    ·subst B;rw[S]at F;cases F
    ·have:=A j u f z L B (by unfold Lu;have:GO (keys (TS.run st).wr) (f.rd++keys f.wr)=Bp:=Aca.2 ⟨k,g,AU.2 (AS.2 (.inr e3))⟩;rw[this];simp);rw[this]at F;cases F
  ·
   have W:∀k,k<nk->E k=η k:=λk g=>hη k λr hm=>by have:=hnk k hm r;omega
   have mC:∀k∈CW C,E k=η k:=λk g=>W k (hC k g);have mJ:∀j f,tr[j]?=Ac f->p j=Bp->∀k∈f.AJ,E k=η k:=λj f c hpj k g=>hη k λr hm=>fresh k hm r j f c hpj g;refine⟨E,X,Y',h1.trans hle,(hdz _).1,(hdz _).2,K (λt=>?_) hsv,λq hq=>?_,hn',hsh',λk g=>?_,λk sr g=>?_⟩
   ·refine((h4 t).env mC λk g=>?_).mono hle;rcases SN (l:=l) (tr:=tr) (S0:=S0) (p:=p) (t:=t) l.length with e|⟨j,f,F,L,e3,e4⟩|e;· rw[e]at g;exact W k (hS t k g)
    ·rw[e4]at g;exact mJ j f e3 L k (AS.2 (.inl g))
    ·rw[e]at g;cases g
   ·rw[W q.1 (hbs q hq)];exact h5 q hq
   ·rcases hY' k g with e|e
    ·rcases h8 k e with e|⟨j',s',F,L⟩;· exact .inl e
     ·refine .inr ⟨j',s',?_,L⟩;rw[T j' λe=>by subst e;rw[S]at F;cases F];exact F
    ·exact .inr ⟨i,_,hupi,D,e⟩
   ·by_cases hkw:k∈keys st.wr;· rw[HH (i:=i+1) l.length (by omega) (λj hij hjk f c I=>by
      obtain⟨u,z⟩:=hLt j f c;rw[T j (by omega)];refine A j u f z c (by omega) ?_;unfold Lu;have:GO (keys (TS.run st).wr) (f.rd++keys f.wr)=Bp:=Aca.2 ⟨k,hkw,AU.2 (AS.2 (.inr I))⟩;rw[this];simp)]at g;unfold Cp at g;rw[if_pos hupi,D]at g;simp only[Option.bind_some]at g;cases hl:Ay (TS.run st).wr k with
     |some y=>
      rw[hl]at g;cases g;exact hwr k _ hl
     |none=>
      exfalso;obtain⟨y0,hy0⟩:=Ds hkw;exact absurd (hy0.symm.trans hl) (by simp)
    ·have e:Cp tr R0 (I_ p i) k l.length=Cp tr R0 p k l.length:=E5 l.length λj z f c I=>T j λe=>by subst e;rw[D]at c;cases c;exact hkw I
     rw[e]at g;rcases h9 k sr g with e|⟨x,g1,g2⟩;· exact .inl e
     ·refine .inr ⟨x,by rw[hY k hkw];exact g1,(SR.is.env (hη k λ_ hm=>absurd hm hkw) mC (λm hm=>?_) g2).mono hle⟩;rcases M9 l.length g with e|⟨j,f,F,L,e3,e4⟩;· exact W m ((hR k sr e).2 m hm)
      ·exact mJ j f e3 L m (AS.2 (.inr (Aad.2 ⟨(k,sr),A4 e4,hm⟩)))
theorem JV.all{bs:List (Nat×BZ)}(b:∀i,i<l.length->p i=Bp)(h:JV C n Of bs nk l tr S0 R0 H p a w):JV C n Of bs nk l tr S0 R0 H (λ_=>Bp) a w:=by
 obtain⟨η,c,Y,d,e,f,q,g,j,m,r,s⟩:=h;refine⟨η,c,Y,d,e,f,λt=>?_,g,j,m,λk o=>?_,λk u o=>?_⟩;· grind[GH]
 ·grind
 grind[E5]
theorem sj{bs:List (Nat×BZ)}{id:Nat}(g:N.inv H)
  (D:P.follows .mixedOrders=Bp) (b:ZV l tr nk=Bp) (u:∀k∈CW C,k<nk) (z:∀t,∀k∈(S0 t).AJ,k<nk) (y:∀k x,R0 k=Ac x->k<nk/\∀j∈x.AJ,j<nk) (f:∀q∈bs,q.1<nk)
  (B:∀i o s,l[i]?=Ac o->tr[i]?=Ac s->dH P C l.toArray n nk o s (λt=>Ce l tr S0 (λ_=>Bp) t i) (λk=>Cp tr R0 (λ_=>Bp) k i))
  (e:∀a w,JV C n Of bs nk l tr S0 R0 H (λ_=>Bp) a w->Q .normal a w)   (h0:JV C n Of bs nk l tr S0 R0 H (λ_=>Aj) a {w with drawn:=w.drawn+1}):(Code.region id l.toArray Bp).wp P Q a w:=by
 obtain⟨A,m,h⟩:=Km b;exact L3 D A (J:=λp a w=>JV C n Of bs nk l tr S0 R0 H p a w) (Ti g b u z y f B) (λp a w c v=>e a w (v.all c)) h0
end
end
section
variable {N : C9} {R : Type}
def brD(s:SV N.T)(c a:Option R):Option R:=match s with
 | .lb Bp=>c
 | .lb Aj=>a
 | .lt _ n m=>bif Dl ((n:Int)<(m:Int))then c else a
 | .d .bool b=>bif b then c else a
 |_=>C7
def Vu(P:GN)(Φ:Nat->Option (CQ N))(C:List (SV N.T))(CR:List (SR N.T))(n:Nat)(o:K7)(st:St N.T)(tr:List (TS N.T))(kn:St N.T->List (TS N.T)->Option R):Option R:=
 gk P Φ C 4 (Cv C st.L) (An CR st.O) st.nk o.op o.type λs a=>match G' CR n st o.dst s a&&wJ CR st s with
  |true=>kn (app st o.dst s a) (tr++[.run s])
  |false=>C7
def Rp(n:Nat)(d:Option Nat)(st:St N.T)(tr:List (TS N.T))(kn:St N.T->List (TS N.T)->Option R):Option R:=match NS n d with
 |true=>kn ⟨Rz d .ud st.L,st.O,st.nk⟩ (tr++[.skip])
 |false=>C7
def dd(
    P:GN) (Φ:Nat->Option (CQ N)) (C:List (SV N.T)) (CR:List (SR N.T)) (n:Nat) (b:Array K7):List K7->St N.T->List (TS N.T)->(St N.T->List (TS N.T)->Option R)->Option R
 | [],st,a,c=>c st a
 |o::e,st,a,c=>match o.guard with
  |none=>Vu P Φ C CR n o st a λst a=>dd P Φ C CR n b e st a c
  |some (
      j,d)=>match BL b j with
   |none=>C7
   |some t=>match Cv C st.L t with
    | .ud=>Rp n o.dst st a λst a=>dd P Φ C CR n b e st a c
    |s=>brD s
     (let st:=Ko t (.lb Bp) st
      match d with
      |true=>Vu P Φ C CR n o st a λst a=>dd P Φ C CR n b e st a c
      |false=>Rp n o.dst st a λst a=>dd P Φ C CR n b e st a c)
     (let st:=Ko t (.lb Aj) st
      match d with
      |false=>Vu P Φ C CR n o st a λst a=>dd P Φ C CR n b e st a c
      |true=>Rp n o.dst st a λst a=>dd P Φ C CR n b e st a c)
def wZ(P:GN)(Φ:Nat->Option (CQ N))(C:List (SV N.T))(CR:List (SR N.T))(n:Nat)(a:Array K7)(st:St N.T)(kn:St N.T->Option R):Option R:=match C1 CR st st.nk with
 |true=>dd P Φ C CR n a a.toList st [] λb c=>match ZV a.toList c st.nk with
  |true=>kn b
  |false=>C7
 |false=>C7
def s0(st:St N.T)(t:Nat):SV N.T:=match Ay st.L t with
 |some s=>s
 |none=> .no
def Imp(C:List (SV N.T))(s t:SV N.T):Prop:= ∀(η:Nat->BZ) (H:Hp) v,s.is C η H v->t.is C η H v
theorem JS{l:List K7}{tr a:List (TS N.T)}{S0:Nat->SV N.T}{p:Nat->Bool}{t:Nat} :∀i,(∀j,j<i->tr[j]?=a[j]?)->Ce l tr S0 p t i=Ce l a S0 p t i
 |0,_=>rfl
 |i+1,h=>by unfold Ce;rw[h i (by omega),JS i λj b=>h j (by omega)]
theorem JR{tr a:List (TS N.T)}{R0:Nat->Option (SR N.T)}{p:Nat->Bool}{k:Nat} :∀i,(∀j,j<i->tr[j]?=a[j]?)->Cp tr R0 p k i=Cp a R0 p k i
 |0,_=>rfl
 |i+1,h=>by unfold Cp;rw[h i (by omega),JR i λj b=>h j (by omega)]
variable {P : GN} [C4 N P] {Φ : Nat -> Option (CQ N)} {C : List (SV N.T)} {CR : List (SR N.T)} {n : Nat} {bs : List (Nat × BZ)}
structure IV(P:GN)(C:List (SV N.T))(CR:List (SR N.T))(n:Nat)(bs:List (Nat×BZ))(l:List K7)(st0:St N.T)(st:St N.T)(tr:List (TS N.T))(i:Nat):Prop where
 len:tr.length=i
 sl:∀t sv,Ay st.L t=Ac sv->Imp C (Ce l tr (s0 st0) (λ_=>Bp) t i) sv
 ow:∀k,An CR st.O k=Cp tr (An CR st0.O) (λ_=>Bp) k i
 wf:WF C CR bs st
 le:st0.nk<=st.nk
 ks:∀(j:Nat) s,tr[j]?=Ac s->∀k∈keys s.wr,k<st.nk
 loc:∀j o s,j<i->l[j]?=Ac o->tr[j]?=Ac s->dH P C l.toArray n st0.nk o s (λt=>Ce l tr (s0 st0) (λ_=>Bp) t j) (λk=>Cp tr (An CR st0.O) (λ_=>Bp) k j)
variable {l : List K7} {st0 : St N.T}
section
variable{tr:List (TS N.T)}{i:Nat}{st:St N.T}{r:R}{o:K7}{kn:St N.T->List (TS N.T)->Option R}{x:TS N.T}
theorem IV.lk(h:IV P C CR n bs l st0 st tr i)(t:Nat):Imp C (Ce l tr (s0 st0) (λ_=>Bp) t i) (Cv C st.L t):=by
 intro η H v b;unfold Cv;split;· rename_i s a;exact ET (h.sl t s a η H v b)
 trivial
theorem ga(h:tr.length=i):∀j,j<i->(tr++[x])[j]?=tr[j]?:=λj a=>Pe (by omega)
theorem IV.put{a:St N.T}(h:IV P C CR n bs l st0 st tr i)(G:l[i]?=Ac o)(D:∀t sv,Ay a.L t=Ac sv->(o.dst=Ac t/\sv=x.sv)\/(o.dst≠Ac t/\∃c,Ay st.L t=Ac c/\Imp C c sv))
  (B:∀k,An CR a.O k=match Ay x.wr k with|some y=>Ac y|none=>An CR st.O k) (E:WF C CR bs a) (r:st.nk<=a.nk) (A:∀k∈keys x.wr,k<a.nk)
  (u:dH P C l.toArray n st0.nk o x (λt=>Ce l tr (s0 st0) (λ_=>Bp) t i) (λk=>Cp tr (An CR st0.O) (λ_=>Bp) k i)):IV P C CR n bs l st0 a (tr++[x]) (i+1):=by
 have d:=ga (x:=x) h.len;have z:(tr++[x])[i]?=Ac x:=by simp[h.len]
 refine⟨by simp[h.len],λt sv K η H v p=>?_,λk=>?_,E,Aao h.le r,λj s b k F=>?_,λj L s O m b=>?_⟩
 ·unfold Ce at p;rw[G,z,JS i d]at p;rcases D t sv K with⟨f,g⟩|⟨f,c,g,I⟩;· grind
  ·rw[if_neg (λJ=>f (by grind))]at p;exact I η H v (h.sl t c g η H v p)
 ·unfold Cp;rw[z,JR i d,B k];rw[h.ow k];rfl
 ·by_cases e:j<i;· rw[d j e]at b;exact Abr (h.ks j s b k F) r
  ·have:j=i:=by have:=(IT.1 b).1;simp[h.len]at this;omega
   simp_all
 ·by_cases e:j<i;· rw[d j e]at b;have:=h.loc j L s e m b;have f:(λt=>Ce l (tr++[x]) (s0 st0) (λ_=>Bp) t j)=λt=>Ce l tr (s0 st0) (λ_=>Bp) t j:=funext λt=>JS j λq w=>d q (by omega);have g:(λk=>Cp (tr++[x]) (An CR st0.O) (λ_=>Bp) k j)=λk=>Cp tr (An CR st0.O) (λ_=>Bp) k j:=funext λk=>JR j λq w=>d q (by omega);rw[f,g];exact this
  ·obtain rfl:j=i:=by omega
   rw[z]at b;cases b;rw[G]at m;cases m;have f:(λt=>Ce l (tr++[x]) (s0 st0) (λ_=>Bp) t j)=λt=>Ce l tr (s0 st0) (λ_=>Bp) t j:=funext λt=>JS j λq w=>d q w;have g:(λk=>Cp (tr++[x]) (An CR st0.O) (λ_=>Bp) k j)=λk=>Cp tr (An CR st0.O) (λ_=>Bp) k j:=funext λk=>JR j λq w=>d q w;rw[f,g];exact u
theorem Mk(S:∀f q,Φ f=Ac q->Bt P f q)(h:IV P C CR n bs l st0 st tr i)(ho:l[i]?=Ac o)(J:Nz C l.toArray o (λt=>Ce l tr (s0 st0) (λ_=>Bp) t i))
  (I:Vu P Φ C CR n o st tr kn=Ac r):∃y A,kn y A=Ac r/\IV P C CR n bs l st0 y A (i+1):=by
 have X:∀j,st.nk<=j->An CR st.O j=C7:=λj Y=>by unfold An;rw[h.wf.ok j Y]
 obtain⟨s,nk,E,T,F,G,W⟩:=Uc (o:=o) S h.wf.mC 4 X h.wf.wf I;split at E
 ·rename_i m;rw[AT]at m;obtain⟨m,K⟩:=m;have hs:KS C CR n st o.dst s nk P o:=⟨m,T,F,G,W⟩;have b:=m;unfold G' at b;simp only[AT]at b;have Q:∀p∈s.wr,C6 CR p.2=p.2:=λp hp=>Jk (AT _ _▸No.1 b.2.1 p hp).1;refine⟨_,_,E,h.put ho (λt sv a=>?_) (λk=>Hb _ _ Q k) (h.wf.step hs) F (λk L=>?_) ⟨λd I=>?_,λk L Z=>?_,λst1 e=>?_,λe=>(by grind)⟩⟩
  ·have g:Ay (iV (keys s.wr) st.L) t=Ac sv->∃z,Ay st.L t=Ac z/\Imp C z sv:=λa=>by
    rw[QC]at a;obtain⟨x,hx,rfl⟩:=Pd.1 a;exact⟨x,hx,λη H v hv=>QD hv⟩
   cases u:o.dst with
   |none=>
    rw[u]at a;exact .inr ⟨by simp,g a⟩
   |some d=>
    rw[u]at a;have a:Ay ((d,s.sv)::iV (keys s.wr) st.L) t=Ac sv:=a;simp only[Ay]at a;cases c:Hh d t with
    |true=>
     rw[c]at a;cases a;exact .inl ⟨by simp_all,rfl⟩
    |false=>
     rw[c]at a;refine .inr ⟨λe=>?_,g a⟩;simp_all
  ·cases B:An CR st.O k with
   |none=>exact(G k L B).2
   |some x=>
    have O:Ay st.O k≠C7:=λe=>by simp_all[An]
    have:k<st.nk:=Aby λM=>O (h.wf.ok k M);exact Abr this F
  ·have:=b.1.1;rw[I]at this;simpa [NS]using this
  ·have w:An CR st.O k=C7:=by rw[h.ow k];exact Z
   refine⟨Aao h.le (G k L w).1,λJ=>?_⟩;have U:(An CR st.O k).isSome=Bp:=No.1 K _ (A4 J);rw[w]at U;cases U
  ·cases e;refine⟨J,Cv C st.L,λt _=>h.lk t,?_⟩;have V:(λk=>Cp tr (An CR st0.O) (λ_=>Bp) k i)=An CR st.O:=funext λk=>(h.ow k).symm;rw[V];exact T
 grind
theorem Mm(h:IV P C CR n bs l st0 st tr i)(w:l[i]?=Ac o)(v:KU C l.toArray o (λt=>Ce l tr (s0 st0) (λ_=>Bp) t i))
  (f:Rp n o.dst st tr kn=Ac r):∃g j,kn g j=Ac r/\IV P C CR n bs l st0 g j (i+1):=by
 unfold Rp at f;split at f
 ·refine⟨_,_,f,h.put w (λt sv a=>?_) (λk=>rfl) (h.wf.Gw λτ u q=>?_) (Aae _) (λk s=>(by cases s)) ⟨λd f=>?_,λk s=>(by cases s),λ_ e=>(by grind),λ_=>v⟩⟩;· cases c:o.dst with
   |none=>
    rw[c]at a;exact .inr ⟨by simp,sv,a,λ_ _ _ h=>h⟩
   |some d=>
    rw[c]at a;have a:Ay ((d,SV.ud)::st.L) t=Ac sv:=a;simp only[Ay]at a;cases b:Hh d t with
    |true=>
     rw[b]at a;cases a;exact .inl ⟨by simp_all,rfl⟩
    |false=>
     rw[b]at a;refine .inr ⟨λe=>?_,sv,a,λ_ _ _ h=>h⟩;simp_all
  ·have m:=u q;cases c:o.dst with
   |none=>exact m
   |some d=>
    unfold Cv at m⊢;simp only[Rz,Ay];cases p:Hh d q with
    |true=>trivial
    |false=>omega
  simp_all[NS]
 grind
theorem IV.Ko{t:Nat}{b:Bool}(h:IV P C CR n bs l st0 st tr i)(f:∀(η:Nat->BZ) (H:Hp) v,(Ce l tr (s0 st0) (λ_=>Bp) t i).is C η H v->v= .bool b):IV P C CR n bs l st0 (Ko t (.lb b) st) tr i:=by
 refine⟨h.len,λq sv c η H v g=>?_,h.ow,h.wf.Gw λτ d q=>?_,h.le,h.ks,h.loc⟩;· have c:Ay ((t,SV.lb b)::st.L) q=Ac sv:=c;simp only[Ay]at c;cases a:Hh t q with
  |true=>
   rw[a]at c;cases c;have:=AI a;subst this;exact f η H v g
  |false=>rw[a]at c;exact h.sl q sv c η H v g
 ·have e:=d q;unfold Cv at e⊢;simp only[Ay];cases f:Hh t q with
  |true=>trivial
  |false=>omega
theorem c_{s:SV N.T}{e d:Option R}(h:brD s e d=Ac r):∃b,(∀(C:List (SV N.T)) (η:Nat->BZ) (H:Hp) v,s.is C η H v->v= .bool b)/\(if b=Bp then e=Ac r else d=Ac r):=by
 unfold brD at h;split at h;· exact⟨Bp,λ_ _ _ _ a=>a,h⟩
 ·exact⟨Aj,λ_ _ _ _ a=>a,h⟩
 ·rename_i i n m;cases c:Dl ((n:Int)<(m:Int))with
  |true=>rw[c]at h;exact⟨Bp,λ_ _ _ _ a=>by rw[a.1,c],h⟩
  |false=>rw[c]at h;exact⟨Aj,λ_ _ _ _ a=>by rw[a.1,c],h⟩
 ·rename_i b;cases b with
  |true=>exact⟨Bp,λ_ _ _ _ a=>QG a,h⟩
  |false=>exact⟨Aj,λ_ _ _ _ a=>QG a,h⟩
 grind
theorem Ld(g:∀f q,Φ f=Ac q->Bt P f q){kn:St N.T->List (TS N.T)->Option R}{r:R} :∀(os:List K7) (st:St N.T) (tr:List (TS N.T)) (i:Nat),l.drop i=os->i<=l.length->IV P C CR n bs l st0 st tr i->dd P Φ C CR n l.toArray os st tr kn=Ac r->∃a c,kn a c=Ac r/\IV P C CR n bs l st0 a c l.length
 | [],st,tr,i,E,J,h,k=>by
  have:i=l.length:=by have:=congrArg List.length E;grind
  subst this;exact⟨st,tr,k,h⟩
 |o::os,st,tr,i,E,J,h,k=>by
  have y:l[i]?=Ac o:=by have:=congrArg (·[0]?) E;grind
  have p:i<l.length:=(IT.1 y).1;have m:l.drop (i+1)=os:=by rw[<-Ade,E];rfl
  unfold dd at k;split at k;· obtain⟨a,c,s,u⟩:=Mk g h y (λj w e=>by grind) k;exact Ld g os a c (i+1) m p u s
  ·rename_i j d A;split at k;· grind
   ·rename_i t F;split at k;· rename_i K;obtain⟨a,c,s,u⟩:=Mm h y ⟨j,d,t,A,F,λη H v z=> .inl (by have:=h.lk t η H v z;rw[K]at this;trivial)⟩ k;exact Ld g os a c (i+1) m p u s
    ·obtain⟨b,I,k⟩:=c_ k;have x:∀(η:Nat->BZ) (H:Hp) v,(Ce l tr (s0 st0) (λ_=>Bp) t i).is C η H v->v= .bool b:=λη H v z=>I C η H v (h.lk t η H v z);have D:=h.Ko x;have run:d=b->Nz C l.toArray o (λt=>Ce l tr (s0 st0) (λ_=>Bp) t i):=λe L M G=>by
      grind
     have B:d=(!b)->KU C l.toArray o (λt=>Ce l tr (s0 st0) (λ_=>Bp) t i):=λe=>⟨j,d,t,A,F,λη H v z=> .inr (by grind)⟩;cases b with
     |true=>
      cases d with
      |true=>
       obtain⟨a,c,s,u⟩:=Mk g D y (run rfl) k;exact Ld g os a c (i+1) m p u s
      |false=>
       obtain⟨a,c,s,u⟩:=Mm D y (B rfl) k;exact Ld g os a c (i+1) m p u s
     |false=>
      cases d with
      |false=>
       obtain⟨a,c,s,u⟩:=Mk g D y (run rfl) k;exact Ld g os a c (i+1) m p u s
      |true=>
       obtain⟨a,c,s,u⟩:=Mm D y (B rfl) k;exact Ld g os a c (i+1) m p u s
theorem rl(M:∀f q,Φ f=Ac q->Bt P f q)(hm:P.follows .mixedOrders=Bp){Of:Fm}{Q:Exit->Act->IU->Prop}{id:Nat}{g:Array K7}{kn:St N.T->Option R}{r:R}{st:St N.T}{η:Nat->BZ}{H:Hp}{a:Act}{w:IU}(h:Sat C CR n Of bs st η H a w)(E:WF C CR bs st)
  (D:wZ P Φ C CR n g st kn=Ac r) (hK:∀d η' u a' w',H.le u->Sat C CR n Of bs d η' u a' w'->WF C CR bs d->kn d=Ac r->Q .normal a' w'):(Code.region id g Bp).wp P Q a w:=by
 obtain⟨l,rfl⟩:∃l:List K7,g=l.toArray:=⟨g.toList,by simp⟩;unfold wZ at D;split at D
 ·rename_i y;have O:IV P C CR n bs l st st [] 0:=⟨rfl,λt sv L η H v A=>by
   have A:(s0 st t).is C η H v:=A;grind[s0],λk=>rfl,E,Aae _,λj s m=>by grind,λj o s hj=>by omega⟩;obtain⟨d,tr,S,p⟩:=Ld (l:=l) M l st [] 0 rfl (Abh _) O (by omega);split at S
  ·have c:=y;unfold C1 at c;rw[AT]at c;refine sj h.inv (l:=l) (tr:=tr) (S0:=s0 st) (R0:=An CR st.O) (bs:=bs) (Of:=Of) (n:=n) (H:=H) hm (by omega) E.mC (λt k b=>?_) (λk x b=>⟨?_,D1 b y⟩) E.lo (λi o s U m=>p.loc i o s (IT.1 U).1 U m) (λa' w' hJ=>?_) ?_
   ·unfold s0 at b;split at b;· rename_i s m;have:=No.1 (No.1 c.1 _ (A4 m)) k b;simp_all
    trivial
   ·have K:Ay st.O k≠C7:=λe=>by grind[An]
    exact Aby λJ=>K (E.ok k J)
   ·obtain⟨η',u,Y,B,F,G,I,X,Z,g7,g8,g9⟩:=hJ;refine hK d η' u a' w' B ⟨N.CZ B h.inv,F,G,λt sv L=>p.sl t sv L η' u _ (I t),X,Y,Z,g7,λk b=>?_,λk T b=>g9 k T (by rw[<-p.ow k];omega)⟩ p.wf S;rcases g8 k b with e|⟨j,s,_,V,W⟩;· exact Abr e p.le
    ·exact p.ks j s V k W
   ·obtain⟨Y,B,F,G,I⟩:=h.own;refine⟨η,H,Y,Hp.le.refl H,h.defers,h.size,λt=>?_,h.base,B,F.drew,λk b=> .inl (G k b),λk T b=>I k T ?_⟩
    ·rw[HI (i:=0) l.length (Abh _) (λ_ _ _ _=>rfl)];show(s0 st t).is C η H _;unfold s0;split;· rename_i s m;exact h.Bo t s m
     ·trivial
    ·rw[HH (i:=0) l.length (Abh _) (λ_ _ _ _ _ _=>rfl)]at b;exact b
  grind
 grind
end
end
section
variable {N : C9}
def JK(k:Nat)(t:Ty)(l:List (t.den N.T))(st:St N.T):St N.T:=⟨st.L.map λp=>(p.1,GQ k t l p.2),(k, .gone)::st.O.map λp=>(p.1,qO k t l p.2),st.nk⟩
variable {C : List (SV N.T)} {CR : List (SR N.T)} {n : Nat} {Of : Fm} {bs : List (Nat × BZ)} {st : St N.T} {η : Nat -> BZ} {H : Hp} {a : Act} {w : IU}
section
variable{t:Ty}{g e:Gq}{k:Nat}{l:List (t.den N.T)}{α:Type}{c:Cd α}{m b:Nat}
theorem bH{W:SR N.T}(h:Sat C CR n Of bs st η H a w)(g:WF C CR bs st)(I:An CR st.O k=Ac W)
  (M:∀Y:List (Nat×Aw),(keys Y).Nodup->SH w H (Y.map (·.2)++Of.O)->(W= .gone\/∃X,Ay Y k=Ac X/\W.is C η H k X)->∃d,H.le d/\SH w d ((FH Y k).map (·.2)++Of.O)/\G4 (N.c t) d l (η k)):∃d,H.le d/\Sat C CR n Of bs (JK k t l st) η d a w/\WF C CR bs (JK k t l st):=by
 obtain⟨Y,hn,T,R,f⟩:=h.own;obtain⟨d,o,G,D⟩:=M Y hn T (f k _ I);have z:Ay st.O k≠C7:=λe=>by grind[An]
 have hkn:k<st.nk:=Aby λQ=>z (g.ok k Q);have rr:∀j m,An CR (JK k t l st).O j=Ac m->m= .gone\/(j≠k/\∃s0,An CR st.O j=Ac s0/\(m=qO k t l s0\/m=s0)):=λj m b=>by
  unfold An JK at b;simp only[Ay]at b;cases v:Hh k j with
  |true=>rw[v]at b;cases b;exact .inl rfl
  |false=>
   rw[v]at b;simp only[DC (qO k t l)]at b;refine .inr ⟨λe=>by simp_all,?_⟩;unfold An;cases hl:Ay st.O j with
   |none=>grind
   |some s=>
    rw[hl]at b;cases b;refine⟨_,rfl,?_⟩;cases s with
    |Ai u r=>exact .inl rfl
    |row u t' V=>exact .inl rfl
    |gone=>exact .inl rfl
    |map u kt vt V=>exact .inl rfl
    |Ck _ _ _ _ _=>exact .inl rfl
    |Cw q=>exact .inr rfl
 refine⟨d,o,⟨N.CZ o h.inv,h.defers,h.size,λq sv J=>?_,h.base,FH Y k,Ic hn,G,λj b=>R j (CH b),λj m b=>?_⟩,⟨g.lo,λj b=>?_,?_,g.mC,g.cP⟩⟩;· have J:Ay (st.L.map λp=>(p.1,GQ k t l p.2)) q=Ac sv:=J;rw[DC (GQ k t l)]at J;obtain⟨s,hs,rfl⟩:=Pd.1 J;exact CN D ((h.Bo q s hs).mono o)
 ·rcases rr j m b with e|⟨A,s0,L,F⟩;· exact .inl e
  ·rcases f j s0 L with e|⟨y,y1,Z⟩;· subst e;rcases F with e|e<;>exact .inl e
   ·refine .inr ⟨y,by grind[DF],?_⟩;rcases F with rfl|rfl;· cases s0 with
     |Ai u r=>
      obtain⟨B,cs,b1,b2,b3⟩:=Z.mono o;exact⟨B,cs,b1,b2,CN D b3⟩
     |_=>exact Z.mono o
    ·exact Z.mono o
 ·show Ay ((k,SR.gone)::st.O.map λp=>(p.1,qO k t l p.2)) j=C7;have b:st.nk<=j:=b;rw[A3 (by omega),DC (qO k t l),g.ok j b];rfl
 ·obtain⟨
      τ,U⟩:=g.wf;refine⟨τ,λq=>?_⟩;have c:=U q;show D9 τ (An CR (JK k t l st).O) (Cv C (st.L.map λp=>(p.1,GQ k t l p.2)) q);unfold Cv at c⊢;rw[DC (GQ k t l)];cases hx:Ay st.L q with
  |none=>trivial
  |some x=>
   rw[hx]at c;simp only[Adg]at c⊢;have Ec:∀j i off E y,j≠k->D9 τ (An CR st.O) (.Ec j i off E y)->D9 τ (An CR (JK k t l st).O) (.Ec j i off E y):=λj i off E y A S u t' V P=>by
    rcases rr j _ P with e|⟨_,s0,L,F⟩;· grind
    ·refine S u t' V ?_;rw[L];rcases F with e|e;· cases s0 with
      |row G t2 l2=>exact congrArg Ac e.symm
      |Ai G r=>cases e
      |Cw q=>cases e
      |gone=>cases e
      |map G kt vt l2=>cases e
      |Ck _ _ _ _ _=>cases e
     ·exact congrArg Ac e.symm
   cases x with
   |AH j=>unfold GQ;split<;>trivial
   |Ec j i off E y=>
    unfold GQ;split;· trivial
    ·rename_i v;exact Ec j i off E y (λe=>by subst e;simp at v) c
   |Cw j=>
    simp only[GQ,res]at c⊢;rw[Aaa]at c⊢;cases hc:C[j]? with
    |none=>trivial
    |some s0=>
     have S:=g.cP s0 (Aai hc);rw[hc]at c;cases s0<;>first|exact c|cases S
   |_=>exact c
theorem oL{q:Nat}(h:Sat C CR n Of bs st η H a w)(l:WF C CR bs st)(L:C1 CR st st.nk=Bp)(S:Cv C st.L q= .raw (.slice C7 0 0)):
  ∃η',Sat C CR n Of bs ⟨(q, .AH st.nk)::st.L,(st.nk, .row g t [])::st.O,st.nk+1⟩ η' H a w/\WF C CR bs ⟨(q, .AH st.nk)::st.L,(st.nk, .row g t [])::st.O,st.nk+1⟩:=by
 obtain⟨Y,R,J,u,v⟩:=h.own;have f:=L;unfold C1 at f;rw[AT]at f;have d:∀k,k<st.nk->Ez η st.nk (.slice C7 0 0) k=η k:=λk b=>EH (by omega);have O:∀k∈CW C,Ez η st.nk (.slice C7 0 0) k=η k:=λk b=>d k (l.mC k b);have o:a.tmps.getD q undef= .slice C7 0 0:=by have:=h.lk q;rw[S]at this;trivial
 refine⟨Ez η st.nk (.slice C7 0 0),⟨h.inv,h.defers,h.size,λp sv c=>?_,λp c=>by rw[d p.1 (l.lo p c)];exact h.base p c,(st.nk, .row (.slice C7 0 0) g (t.sz N) 0 [])::Y,?_,J.IM g (t.sz N),λk b=>?_,λk P b=>?_⟩,⟨λp c=>Aeb (l.lo p c),λj A=>?_,?_,λk b=>Aeb (l.mC k b),l.cP⟩⟩;· simp only[Ay]at c;cases m:Hh q p with
  |true=>
   rw[m]at c;cases c;have:=AI m;subst this;exact⟨by rw[o,AA],by rw[o];rfl⟩
  |false=>
   rw[m]at c;refine(h.Bo p sv c).env O λk b=>d k ?_;have:=No.1 (No.1 f.1 _ (A4 c)) k b;simp_all
 ·exact Aaz.2 ⟨λI=>absurd (u _ I) (Nat.lt_irrefl _),R⟩
 ·grind[keys]
 ·unfold An at b;simp only[Ay]at b;cases m:Hh st.nk k with
  |true=>
   rw[m]at b;cases b;have:=AI m;subst this;exact .inr ⟨_,CF _ _ _,[],by grind[AA],rfl⟩
  |false=>
   rw[m]at b;rcases v k P b with e|⟨y,W,X⟩;· exact .inl e
   ·have G:Ay st.O k≠C7:=λe=>by grind
    have E:k<st.nk:=Aby λF=>G (l.ok k F);exact .inr ⟨y,by rw[A3 (by omega)];exact W,SR.is.env (d k E) O (λj A=>d j (D1 b L j A)) X⟩
 ·have A:st.nk+1<=j:=A;rw[A3 (by omega)];exact l.ok j (by omega)
 ·obtain⟨
      τ,K⟩:=l.wf;refine⟨τ,λp=>?_⟩;have z:=K p;have key:∀s:SV N.T,(∀j i off D y,s= .Ec j i off D y->j<st.nk)->D9 τ (An CR st.O) s->D9 τ (An CR ((st.nk,SR.row g t [])::st.O)) s:=λs T M=>by
   cases s with
   |Ec j i off D y=>
    intro Q V U r;have:=T j i off D y rfl;unfold An at r;rw[A3 (by omega)]at r;exact M Q V U r
   |_=>exact M
  unfold Cv at z⊢;simp only[Ay];cases m:Hh q p with
  |true=>trivial
  |false=>
   cases B:Ay st.L p with
   |none=>trivial
   |some x=>
    simp only[B]at z⊢;refine key _ (λj i off D y e=>?_) z;have I:∀k∈x.AJ,k<st.nk:=λk b=>by have:=No.1 (No.1 f.1 _ (A4 B)) k b;simpa using this
    cases x with
    |Cw q=>
     simp only[res]at e;rw[Aaa]at e;cases hc:C[q]? with
     |none=>rw[hc]at e;cases e
     |some s0=>
      rw[hc]at e;have:=l.cP s0 (Aai hc);subst e;cases this
    |_=>cases e<;>exact I _ (by simp[SV.AJ])
theorem Sv(h:Sat C CR n Of bs st η H a w)(v:WF C CR bs st)(r:An CR st.O k=Ac (.row g t l)):∃c,H.le c/\Sat C CR n Of bs (JK k t l st) η c a w/\WF C CR bs (JK k t l st):=by
 refine bH h v r λY s b u=>?_;rcases u with e|⟨x,o,y,rfl,q⟩;· grind
 obtain⟨i,j,p⟩:=bY Of.O s o;obtain⟨c,d,f,m⟩:=b.freeze j;rw[p]at f;exact⟨c,d,f,G4.of (by grind[Bn]) rfl (q.mono d) (b.Oj j)⟩
theorem Aiy{α:Type}{c:Cd α}{e:Gq}{A:List Aw} :∀ {g:List (Bool×List α)} {xs:List BZ} {rs:List (Option (Nat×List BZ))} {H:Hp},NX c H g xs rs->(∀p∈g,p.1=Bp)->SH w H (A++FU e c.sz xs rs)->∃o,H.le o/\SH w o A/\A2 (cL c) o (g.map (·.2)) xs
 | [],xs,rs,H,f,_,h=>by have E:=Abd f.len;have F:=Abd f.PE;subst E;exact⟨H,Hp.le.refl H,by grind[FU],rfl⟩
 |(b,d)::g,[],rs,H,f,_,h=>by have:=f.len;grind
 |(b,d)::g,_::_,[],H,f,_,h=>by have:=f.PE;grind
 |(b,d)::g,u::xs,r::rs,H,f,z,h=>by
  have J:b=Bp:=z (b,d) (by simp);subst J;obtain⟨l,s,I⟩:=f.own 0 d rfl;have s:r=Ac (d.length,l):=by grind
  subst s;have k:(A++FU e c.sz (u::xs) (Ac (d.length,l)::rs))[A.length]?=Ac (.row u e c.sz d.length l):=by simp[FU]
  have v:=h.Oj k;obtain⟨B,q,y,G⟩:=h.freeze k;have K:(A++FU e c.sz (u::xs) (Ac (d.length,l)::rs)).eraseIdx A.length=A++FU e c.sz xs rs:=by rw[List.eraseIdx_append_of_length_le (Aae _),Air];rfl
  rw[K]at y;have t:NX c B g xs rs:=⟨by simpa using f.len,by simpa using f.PE,λi d k=>by obtain⟨l,m,x⟩:=f.own (i+1) d (by grind);exact⟨l,by trivial,x.mono q⟩,λi d k=>by simpa using f.not (i+1) d (by simpa using k)⟩;obtain⟨D,m,x,M⟩:=Aiy t (λp L=>z p (by simp[L])) y;exact⟨D,q.trans m,x,[u],xs,rfl,⟨u,rfl,(G4.of G rfl (I.mono q) v).mono m⟩,M⟩
theorem qN{J:Nat}{l:List (Bool×List (t.den N.T))}(h:Sat C CR n Of bs st η H a w)(Q:WF C CR bs st)(K:An CR st.O k=Ac (.Ck g e t J l))(ht:l.all (·.1)=Bp):∃r,H.le r/\Sat C CR n Of bs (JK k (.sl t) (l.map (·.2)) st) η r a w/\WF C CR bs (JK k (.sl t) (l.map (·.2)) st):=by
 refine bH h Q K λY M q P=>?_;rcases P with e|⟨x,E,j,T,rfl,_,G⟩;· grind
 obtain⟨i,v,F⟩:=bY Of.O M E;have m:=q.flat v;obtain⟨S,B,u,D⟩:=Aiy (c:=N.c t) G (λp O=>No.1 ht p O) (by rw[Bn];omega);have L:=(IT.1 v).1;have d:((Y.map (·.2)++Of.O).set i (.row (η k) g 1 l.length j))[i]?=Ac (.row (η k) g 1 l.length j):=by simp_all
 have o:=u.Oj d;obtain⟨s,z,A,R⟩:=u.freeze d;have I:((Y.map (·.2)++Of.O).set i (.row (η k) g 1 l.length j)).eraseIdx i=(Y.map (·.2)++Of.O).eraseIdx i:=by rw[List.eraseIdx_set_eq]
 rw[I,F]at A;have y:(l.map (·.2)).length=l.length:=Aal ..;refine⟨s,B.trans z,A,?_⟩;show G4 (cL (N.c t)) s (l.map (·.2)) (η k);exact⟨⟨j,by rw[y];exact R,D.mono z⟩,by rw[y];exact o⟩
theorem qU(xs:List BZ)(e:xs.length=m):NX c H (T8 m (Aj,([]:List α))) xs (T8 m C7):=
 ⟨by grind,by simp,λi d b=>by grind,λi d b=>by grind⟩
theorem qT{v:BZ}{f:Gq}{sz:Nat}{xs:List BZ}(h:w.ownsRow 0 e 1 v n xs):IE w v e n xs f sz (T8 m C7):=
 ⟨h,λi u m d _ c=>by grind,λi j u l m k d g b _ c=>by grind,λi u m d b _ c=>by grind⟩
theorem wQ{l:List (List (t.den N.T))}(h:Sat C CR n Of bs st η H a w)(A:WF C CR bs st)(W:C1 CR st st.nk=Bp)(K:An CR st.O b=Ac (.row g (.sl t) l)):
  ∃η',Sat C CR n Of bs ⟨st.L,(b, .Ck g e t st.nk (T8 l.length (Aj,[])))::(st.nk, .gone)::st.O,st.nk+1⟩ η' H a w/\WF C CR bs ⟨st.L,(b, .Ck g e t st.nk (T8 l.length (Aj,[])))::(st.nk, .gone)::st.O,st.nk+1⟩:=by
 obtain⟨Y,X,I,R,B⟩:=h.own;have D:=W;unfold C1 at D;rw[AT]at D;rcases B b _ K with q|⟨x,V,v,rfl,hL⟩;· grind
 have r:∀k,k<st.nk->Ez η st.nk (.tuple v.toArray) k=η k:=λk d=>EH (by omega);have mC:∀k∈CW C,Ez η st.nk (.tuple v.toArray) k=η k:=λk d=>r k (A.mC k d);have G:Ay st.O b≠C7:=λq=>by grind[An]
 have M:b<st.nk:=Aby λE=>G (A.ok b E);obtain⟨i,z,h3⟩:=Jj Of.O X V;have S:w.ownsRow 0 g 1 (η b) l.length v:=I.ok i _ z;have T:v.length=l.length:=by have:v.length=l.length*1:=hL.len;omega
 have J:SH w H ((Ij Y b (.Ck (η b) g l.length v e (t.sz N) (T8 l.length C7))).map (·.2)++Of.O):=by
  rw[<-h3];refine I.vH z (row:=C7) (λ_ q=>by grind) (IU.grownBy.refl w C7) (qT S) λc hc=> .inl ?_;rcases hc with hc|⟨i,u,m,ys,_,q,_⟩;· exact hc
  grind
 refine⟨Ez η st.nk (.tuple v.toArray),⟨h.inv,h.defers,h.size,λp sv F=>?_,λp F=>by rw[r p.1 (A.lo p F)];exact h.base p F,Ij Y b (.Ck (η b) g l.length v e (t.sz N) (T8 l.length C7)),by grind[EL],J,λk d=>?_,λk sr d=>?_⟩,⟨λp F=>Aeb (A.lo p F),λj L=>?_,?_,λk d=>Aeb (A.mC k d),A.cP⟩⟩;· refine(h.Bo p sv F).env mC λk d=>r k ?_;have:=No.1 (No.1 D.1 _ (A4 F)) k d;simpa using this
 ·rw[EL]at d;exact Aeb (R k d)
 ·unfold An at d;simp only[Ay]at d;cases o:Hh b k with
  |true=>
   rw[o]at d;have:=AI o;subst this;cases d;refine .inr ⟨_,Q8 V,v,T8 l.length C7,?_,AA _ _ _,qU v T⟩;rw[r b M,Afj]
  |false=>
   rw[o]at d;have O:k≠b:=λq=>by subst q;simp at o
   cases s:Hh st.nk k with
   |true=>rw[s]at d;cases d;exact .inl rfl
   |false=>
    rw[s]at d;have d:An CR st.O k=Ac sr:=d;rcases B k sr d with q|⟨y,y1,y2⟩;· exact .inl q
    ·have Q:Ay st.O k≠C7:=λq=>by unfold An at d;rw[q]at d;cases d
     have P:k<st.nk:=Aby λE=>Q (A.ok k E);exact .inr ⟨y,by rw[Pq O];exact y1,SR.is.env (r k P) mC (λj L=>r j (D1 d W j L)) y2⟩
 ·have L:st.nk+1<=j:=L;rw[A3 (by omega),A3 (by omega)];exact A.ok j (by omega)
 ·obtain⟨τ,U⟩:=A.wf;refine⟨τ,λp=>?_⟩;have z:=U p;cases Z:Cv C st.L p with
  |Ec j i off te y=>
   rw[Z]at z;intro g' t' l' f;unfold An at f;simp only[Ay]at f;cases o:Hh b j with
   |true=>rw[o]at f;cases f
   |false=>
    rw[o]at f;cases s:Hh st.nk j with
    |true=>rw[s]at f;cases f
    |false=>rw[s]at f;exact z g' t' l' f
  |_=>rw[Z]at z;exact z
theorem gj{off:Nat}{F:Gq}{l J:SV N.T}(h:Sat C CR n Of bs st η H a w)(r:WF C CR bs st)(V:C1 CR st st.nk=Bp)(z:An CR st.O b=Ac (.Ai F l))(hl:EY N C l off C7=Ac (.raw (.slice C7 0 0)))(hs:eV N C 64 l off 1 (.AH st.nk)=Ac J)(O:On (.Ai F J:SR N.T)=Bp):
  ∃η',Sat C CR n Of bs ⟨st.L,(b, .Ai F J)::(st.nk, .row g t [])::st.O,st.nk+1⟩ η' H a w/\WF C CR bs ⟨st.L,(b, .Ai F J)::(st.nk, .row g t [])::st.O,st.nk+1⟩:=by
 obtain⟨Y,hn,hsh,D,E⟩:=h.own;have A:=V;unfold C1 at A;rw[AT]at A;have m:∀k,k<st.nk->Ez η st.nk (.slice C7 0 0) k=η k:=λk d=>EH (by omega);have mC:∀k∈CW C,Ez η st.nk (.slice C7 0 0) k=η k:=λk d=>m k (r.mC k d);have M:Ay st.O b≠C7:=λe=>by grind[An]
 have U:b<st.nk:=Aby λG=>M (r.ok b G);refine⟨Ez η st.nk (.slice C7 0 0),⟨h.inv,h.defers,h.size,λp sv I=>?_,λp I=>by rw[m p.1 (r.lo p I)];exact h.base p I,(st.nk, .row (.slice C7 0 0) g (t.sz N) 0 [])::Y,?_,hsh.IM g (t.sz N),λk d=>?_,λk sr d=>?_⟩,⟨λp I=>Aeb (r.lo p I),λj K=>?_,?_,λk d=>Aeb (r.mC k d),r.cP⟩⟩;· refine(h.Bo p sv I).env mC λk d=>m k ?_;have:=No.1 (No.1 A.1 _ (A4 I)) k d;simp_all
 ·exact Aaz.2 ⟨λhm=>absurd (D _ hm) (Nat.lt_irrefl _),hn⟩
 ·grind[keys]
 ·unfold An at d;simp only[Ay]at d;cases o:Hh b k with
  |true=>
   rw[o]at d;have:=AI o;cases d;rcases E b _ z with e|⟨x,h1,B,cs,e1,rfl,R⟩;· grind
   refine .inr ⟨_,by grind[A3],B,cs,by grind,rf,?_⟩;have h3:l.is C (Ez η st.nk (.slice C7 0 0)) H (.agg cs.toList.toArray):=by have S:l.is C (Ez η st.nk (.slice C7 0 0)) H (.agg cs):=SV.is.env mC (λj K=>m j (D1 z V j K)) R;simpa using S
   obtain⟨c,⟨u,k1,k2,_⟩,k4⟩:=Dt (cs:=cs.toList) hl h3;subst k1
   subst k2;have W:(SV.AH st.nk:SV N.T).is C (Ez η st.nk (.slice C7 0 0)) H (.slice C7 0 0):=⟨by rw[AA],rfl⟩;have P:∀x∈(BZ.slice C7 0 0).cells.toList,x.oneCell'=Bp:=by rw[A9 rfl];intro x L;simp at L;subst L;rfl
   obtain⟨q1,q2⟩:=IH (v:= .slice C7 0 0) W P (by exact hs) h3;have e2:Ct cs.toList off (BZ.slice C7 0 0).cells.toList=cs.toList:=by
    rw[A9 rfl]at q2⊢;have D:off<cs.toList.length:=by simp only[Abn,Adu]at q2;omega
    rw[Vw _ _ _ D];have h0:cs.toList[off]?=Ac (.slice C7 0 0):=drop_one k4;refine Agc λj=>?_;rw[Adt];split;· rename_i e;subst e;exact h0.symm
    ·rfl
   rw[e2]at q1;omega
  |false=>
   rw[o]at d;cases z:Hh st.nk k with
   |true=>
    rw[z]at d;cases d;have:=AI z;subst this;exact .inr ⟨_,CF _ _ _,[],by rw[AA];rfl,rfl⟩
   |false=>
    rw[z]at d;have d:An CR st.O k=Ac sr:=d;rcases E k sr d with e|⟨y,y1,y2⟩;· exact .inl e
    ·have Z:Ay st.O k≠C7:=λe=>by unfold An at d;rw[e]at d;cases d
     have X:k<st.nk:=Aby λG=>Z (r.ok k G);exact .inr ⟨y,by rw[A3 (by omega)];exact y1,SR.is.env (m k X) mC (λj K=>m j (D1 d V j K)) y2⟩
 ·have K:st.nk+1<=j:=K;rw[A3 (by omega),A3 (by omega)];exact r.ok j (by omega)
 ·obtain⟨
      τ,hτ⟩:=r.wf;refine⟨τ,λp=>?_⟩;have R:=hτ p;have key:∀s:SV N.T,(∀j i off Q y,s= .Ec j i off Q y->j<st.nk)->D9 τ (An CR st.O) s->D9 τ (An CR ((b,SR.Ai F J)::(st.nk,SR.row g t [])::st.O)) s:=λs hs hv=>by
   cases s with
   |Ec j i off Q y=>
    intro g2 t' l2 f;have:=hs j i off Q y rfl;unfold An at f;simp only[Ay]at f;cases o:Hh b j with
    |true=>rw[o]at f;cases f
    |false=>
     rw[o]at f;have e:Hh st.nk j=Aj:=by
      cases T:Hh st.nk j with
      |true=>have:=AI T;omega
      |false=>rfl
     rw[e]at f;exact hv g2 t' l2 f
   |_=>exact hv
  refine key _ (λj i off Q y e=>?_) R;unfold Cv at e;cases L:Ay st.L p with
  |none=>rw[L]at e;cases e
  |some x=>
   rw[L]at e;have hm:∀k∈x.AJ,k<st.nk:=λk d=>by have:=No.1 (No.1 A.1 _ (A4 L)) k d;simpa using this
   cases x with
   |Cw q=>
    simp only[res]at e;rw[Aaa]at e;cases hc:C[q]? with
    |none=>rw[hc]at e;cases e
    |some s0=>
     rw[hc]at e;have:=r.cP s0 (Aai hc);subst e;cases this
   |_=>cases e<;>exact hm _ (by simp[SV.AJ])
end
end
theorem XC{l:List Nat}(h:l.Nodup):Ci l=Bp:=by
 induction l with
 |nil=>rfl
 |cons k l b=>
  rw[Aaz]at h;simp only[Ci,AT,Aec,b h.2,and_true];grind[B_,absurd,AU]
def UI:List Nat->List Nat
 | []=>[]
 |k::l=>if k∈l then UI l else k::UI l
theorem HG{k:Nat} :∀ {l:List Nat},k∈UI l↔k∈l
 | []=>Iff.rfl
 |j::l=>by
  unfold UI;split;· rw[HG,Aav];grind
  ·rw[Aav,Aav,HG]
theorem Qu:∀l:List Nat,(UI l).Nodup
 | []=>Afc
 |j::l=>by
  unfold UI;split;· exact Qu l
  ·rename_i h;exact Aaz.2 ⟨λb=>h (HG.1 b),Qu l⟩
section
variable {N : C9} {C : List (SV N.T)} {CR : List (SR N.T)} {n : Nat} {Of : Fm} {bs : List (Nat × BZ)} {st : St N.T} {η : Nat -> BZ} {H : Hp} {a : Act} {w : IU}
theorem Sat.conv{O:List (SV N.T)}{D:List (SR N.T)}{f:St N.T}(ρ:Nat->Nat)(h:Sat C CR n Of bs st η H a w)(hs:∀t sv,Ay f.L t=Ac sv->sv.is O (λc=>η (ρ c)) H (a.tmps.getD t undef))(hb:∀p∈bs,ρ p.1=p.1)
  (hr:∀c L,An D f.O c=Ac L->L= .gone\/∃q,An CR st.O (ρ c)=Ac q/\q≠ .gone/\∀x,q.is C η H (ρ c) x->L.is O (λc=>η (ρ c)) H c x)
  (I:∀c Q,c∈keys f.O->Q∈keys f.O->ρ c=ρ Q->c=Q) (hk:∀c∈keys f.O,c<f.nk):Sat O D n Of bs f (λc=>η (ρ c)) H a w:=by
 obtain⟨Y,hn,Z,hlt,J⟩:=h.own;let g:=(UI (keys f.O)).filter λc=>(Ay Y (ρ c)).isSome;have i:∀c∈g,c∈keys f.O:=λc hc=>HG.1 (Abb.1 hc).1;have m:g.Nodup:=Acs.nodup (Qu _);let E:List (Nat×Aw):=g.map λc=>(c,(Ay Y (ρ c)).getD .emp);have A:keys E=g:=by show(g.map _).map _=g;rw[Aam];exact Afm _
 have o:∀c,c∈g->∃x,Ay Y (ρ c)=Ac x/\Ay E c=Ac x:=λc hc=>by grind[Option.isSome_iff_exists,CK]
 let js:=g.map λc=>(keys Y).idxOf (ρ c);have W:∀l:List Nat,(∀c∈l,c∈g)->(l.map λc=>(keys Y).idxOf (ρ c)).filterMap ((Y.map (·.2)++Of.O)[·]?)=l.map λc=>(Ay Y (ρ c)).getD .emp:=by
  intro l;induction l with
  |nil=>simp
  |cons c l ih=>
   intro s;obtain⟨x,u,_⟩:=o c (s c (by simp));rw[Aas,Adf,(LO Of.O u).1,ih λd r=>s d (by grind),Aas,u];rfl
 have inj:∀c∈g,∀d∈g,(keys Y).idxOf (ρ c)=(keys Y).idxOf (ρ d)->c=d:=λc hc d r e=>by
  obtain⟨x,u,_⟩:=o c hc;obtain⟨y,hy,_⟩:=o d r;have R:=(Dm u);have F:(keys Y)[(keys Y).idxOf (ρ c)]?=Ac (ρ c):=by rw[GB (List.idxOf_lt_length_iff.2 R),Aew]
  grind
 have V:js.Nodup:=by
  have key:∀l:List Nat,l.Nodup->(∀c∈l,c∈g)->(l.map λc=>(keys Y).idxOf (ρ c)).Nodup:=by
   intro l;induction l with
   |nil=>intro _ _;exact Afc
   |cons c l ih=>
    intro B s;rw[Aaz]at B;rw[Aas,Aaz];refine⟨λhm=>?_,ih B.2 λd r=>s d (by simp[r])⟩;obtain⟨d,r,e⟩:=By.1 hm;have:=inj d (s d (by simp[r])) c (s c (by simp)) e;subst this;exact B.1 r
  exact key g m λc hc=>hc
 have K:SH w H (E.map (·.2)++Of.O):=by
  have:=SH.RI js Y.length (No.2 λj hj=>by
   obtain⟨c,hc,rfl⟩:=By.1 hj;obtain⟨x,u,_⟩:=o c hc;simpa using(LO Of.O u).2) (XC V) (by simp) Z;unfold GK.RI at this;rw[W g (λc hc=>hc),Afn (by simp),Aay (by simp),Acd]at this;have e:E.map (·.2)=g.map λc=>(Ay Y (ρ c)).getD .emp:=by
   rw[Aam];rfl
  rw[e];exact this
 refine⟨h.inv,h.defers,h.size,hs,λp hp=>by rw[hb p hp];exact h.base p hp,E,by rw[A];exact m,K,λk X=>hk k (i k (by rw[<-A];exact X)),λc L hc=>?_⟩;rcases hr c L hc with e|⟨q,R,S,e3⟩;· exact .inl e
 ·rcases J (ρ c) q R with e|⟨x,F,T⟩;· exact absurd e S
  ·have U:c∈keys f.O:=by
    unfold An at hc;cases s:Ay f.O c with
    |none=>rw[s]at hc;cases hc
    |some y=>exact Dm s
   have G:c∈g:=Abb.2 ⟨HG.2 U,by rw[F];rfl⟩;obtain⟨x',g3,g4⟩:=o c G;rw[F]at g3;cases g3;exact .inr ⟨x,g4,e3 x T⟩
end
section
variable (N : C9)
def kmS(C:List (SV N.T))(L:List (Nat×SV N.T))(l:List (Nat×SP)):List (Nat×Nat):=l.flatMap λq=>match q.2,Cv C L q.1 with
 | .AH c, .AH k=>[(c,k)]
 | .loc c _, .loc k _=>[(c,k)]
 |_,_=>[]
def kmR(C:List (SV N.T))(CR:List (SR N.T))(O:List (Nat×SR N.T))(m:List (Nat×Nat))(l:List (Nat×RP)):List (Nat×Nat):=l.flatMap λq=>match q.2,An CR O (AZ m q.1)with
 | .Ai _ c,Ac (.Ai _ b)=>kmL N C b c
 | .Ck _ _ h _,Ac (.Ck _ _ _ a _)=>[(h,a)]
 |_,_=>[]
def zS(C:List (SV N.T))(L:List (Nat×SV N.T))(l:List (Nat×SP)):List (Nat×SV N.T):=l.flatMap λq=>match q.2 with
 | .v j _=>[(j,Cv C L q.1)]
 | .AD j _=>[(j,Cv C L q.1)]
 | .nat j=>[(j,Cv C L q.1)]
 |_=>[]
def qJ(C:List (SV N.T))(CR:List (SR N.T))(O:List (Nat×SR N.T))(m:List (Nat×Nat))(l:List (Nat×RP)):List (Nat×SV N.T):=l.flatMap λq=>match q.2,An CR O (AZ m q.1)with
 | .row _ j,Ac (.row _ t x)=>[(j, .d (.sl t) x)]
 | .map _ j,Ac (.map _ a e x)=>[(j, .d (.sl (.st (.pr a e))) x)]
 | .Ck _ _ _ j,Ac (.Ck _ _ t _ x)=>[(j, .d (.sl (.pr .bool (.sl t))) x)]
 | .Ai _ c,Ac (.Ai _ b)=>qK N C b c
 |_,_=>[]
def ckS(C:List (SV N.T))(L:List (Nat×SV N.T))(m:List (Nat×Nat))(q:Nat×SP):Bool:=match q.2 with
 | .v _ _=>Bp
 | .AD _ _=>Bp
 | .nat _=>Bp
 | .c j=>match Ay L q.1 with
  |some (.Cw i)=>Hh i j
  |_=>Aj
 | .AH c=>match Cv C L q.1 with
  | .AH k=>Hh (AZ m c) k
  |_=>Aj
 | .loc c off=>match Cv C L q.1 with
  | .loc k o=>Hh (AZ m c) k&&Hh off o
  |_=>Aj
 |_=>Aj
def ckL(C:List (SV N.T))(b:SV N.T)(m:List (Nat×Nat))(q:Nat×Nat×SP):Bool:=match q.2.2 with
 | .v _ t=>match EY N C b q.1 (Ac t)with
  |some sv=>Hh (Xd N sv) q.2.1
  |none=>Aj
 | .nat _=>match EY N C b q.1 C7 with
  |some sv=>Hh (Xd N sv) q.2.1
  |none=>Aj
 | .c j=>match R6 N b q.1 q.2.1 with
  |some (.Cw i)=>Hh i j
  |_=>Aj
 | .AH c=>match EY N C b q.1 C7 with
  |some (.AH k)=>Hh (AZ m c) k&&Hh q.2.1 1
  |_=>Aj
 | .mp c=>match EY N C b q.1 C7 with
  |some (.mp k)=>Hh (AZ m c) k&&Hh q.2.1 1
  |_=>Aj
 | .AK f [] []=>match EY N C b q.1 C7 with
  |some (.AK g .vn [])=>Hh f g&&Hh q.2.1 1
  |_=>Aj
 | .px [c] .sf=>zG N (AZ m) c (EY N C b q.1 C7)&&Hh q.2.1 1
 |_=>Aj
def ckR(C:List (SV N.T))(CR:List (SR N.T))(O:List (Nat×SR N.T))(m:List (Nat×Nat))(q:Nat×RP):Bool:=match q.2 with
 | .row g _=>match An CR O (AZ m q.1)with
  |some (.row a _ _)=>Hh g a
  |_=>Aj
 | .Ai g d=>match An CR O (AZ m q.1)with
  |some (.Ai a b)=>Hh g a&&(whole b&&Hh (Px d) (TY N b)&&(NO 0 d).all (ckL N C b m))
  |_=>Aj
 | .c j=>match Ay O q.1 with
  |some (.Cw i)=>Hh i j&&Hh (AZ m q.1) q.1
  |_=>Aj
 | .map g _=>match An CR O (AZ m q.1)with
  |some (.map a _ _ _)=>Hh g a
  |_=>Aj
 | .Ck g e h _=>match An CR O (AZ m q.1)with
  |some (.Ck a f _ k _)=>Hh g a&&(Hh e f&&Hh (AZ m h) k)
  |_=>Aj
def wG(C:List (SV N.T)):List Nat:=C.flatMap λs=>match s with
 | .ct i _=>[i]
 | .cb i _=>[i]
 | .lt i _ _=>[i]
 |_=>[]
def Qb(l:List (Nat×SP)):List (Nat×Nat):=l.flatMap λq=>match q.2 with
 | .AD j i=>[(i,j)]
 |_=>[]
def ckP(C:List (SV N.T))(CR:List (SR N.T))(kb:Nat)(p:A_)(m:List (Nat×Nat)):Bool:=(((p.ro.map (·.1)).all λk=>aX k p.nk)&&((CW C).all λk=>aX k p.nk&&Hh (AZ m k) k))&&((iT kb p.nk&&((aT kb).all λk=>Hh (AZ m k) k))&&(Ci (p.ro.map λq=>AZ m q.1)&&(Ci (keys (Qb p.sl))&&(!GO (keys (Qb p.sl)) (wG N C)&&CR.all λr=>r.AJ.all λk=>aX k p.nk&&Hh (AZ m k) k))))
def SI(C:List (SV N.T))(CR:List (SR N.T))(kb:Nat)(p:A_)(st:St N.T):Option (BJ N p.hs):=
 let b:=kmS N C st.L p.sl
 let m:=b++kmR N C CR st.O b p.ro
 match(ckP N C CR kb p m&&(p.sl.all (ckS N C st.L m)&&(p.ro.all (ckR N C CR st.O m)&&Ci ((zS N C st.L p.sl++qJ N C CR st.O m p.ro).map (·.1)))))with
 |true=>wM N C (λj=>(Ay (zS N C st.L p.sl++qJ N C CR st.O m p.ro) j).getD .no) 0 p.hs
 |false=>C7
end
section
variable {N : C9} {C : List (SV N.T)} {CR : List (SR N.T)} {n : Nat} {Of : Fm} {bs : List (Nat × BZ)} {st : St N.T} {η : Nat -> BZ} {H : Hp} {a : Act} {w : IU}
section
variable{m:List (Nat×Nat)}{j:Nat}{l:List (Nat×RP)}{O:List (Nat×SR N.T)}{c:Nat}{g:Gq}{b:SV N.T}{t:Ty}{p:A_}{x:BJ N p.hs}
theorem ic{L:List (Nat×SV N.T)}{q:Nat×SP}{l:List (Nat×SP)}(h:q∈l)(e:q.2= .nat j\/(∃t,q.2= .v j t)\/∃i,q.2= .AD j i):(j,Cv C L q.1)∈zS N C L l:=by refine Aad.2 ⟨q,h,?_⟩;grind
theorem ie{b:Gq}{x:List (t.den N.T)}(h:(c,RP.row g j)∈l)(d:An CR O (AZ m c)=Ac (.row b t x)):(j,SV.d (.sl t) x)∈qJ N C CR O m l:=
 Aad.2 ⟨_,h,by grind⟩
theorem ig{e:Gq}{b d:Ty}{x:List (b.den N.T×d.den N.T)}(h:(c,RP.map g j)∈l)(f:An CR O (AZ m c)=Ac (.map e b d x)):(j,SV.d (.sl (.st (.pr b d))) x)∈qJ N C CR O m l:=
 Aad.2 ⟨_,h,by grind⟩
theorem ij{g e d b h f:Nat}{x:List (Bool×List (t.den N.T))}(i:(c,RP.Ck g e h j)∈l)(k:An CR O (AZ m c)=Ac (.Ck d b t f x)):(j,SV.d (.sl (.pr .bool (.sl t))) x)∈qJ N C CR O m l:=
 Aad.2 ⟨_,i,by grind⟩
theorem V_{d:Gq}{ls:List (Nat×SP)}(h:(c,RP.Ai g ls)∈l)(e:An CR O (AZ m c)=Ac (.Ai d b)){z:Nat×SV N.T}(f:z∈qK N C b ls):z∈qJ N C CR O m l:=
 Aad.2 ⟨_,h,by grind⟩
theorem T6{k:Nat}(h:Hh (AZ m k) k=Bp):AZ m k=k:=AI h
theorem instL_ok{R:List HT}{x:BJ N R}{b:SV N.T}{m:List (Nat×Nat)}{Hs:List (Nat×SV N.T)}{cs:List BZ}(T:dI C Hs (Cu N R x))(F:b.is C η H (.agg cs.toArray))(I:∀y∈cs,y.oneCell'=Bp)(V:∀k∈CW C,AZ m k=k):
  ∀(ls:List (Nat×SP)) (off:Nat),(∀q∈NO off ls,ckL N C b m q=Bp/\(∀j t,q.2.2= .v j t->(j,(EY N C b q.1 (Ac t)).getD .no)∈Hs)/\∀j,q.2.2= .nat j->(j,(EY N C b q.1 C7).getD .no)∈Hs)->off+Px ls=cs.length->
   (instL N R x ls).is C (λc=>η (AZ m c)) H (.agg (cs.drop off).toArray)
 | [],off,_,S=>by have:cs.drop off=[]:=Aay (by grind[Px]);rw[this];rfl
 |(s,p)::ls,off,W,S=>by
  have S:off+(s+Px ls)=cs.length:=S;have ih:=instL_ok T F I V ls (off+s) (λq U=>W q (Aag _ U)) (by omega);obtain⟨d,X,G⟩:=W (off,s,p) (Aau ..);have A:∀ {u:BZ},(inst N R x p).is C (λc=>η (AZ m c)) H u->u.cells.toList=(cs.drop off).take s->u.cells.toList.length=s->(instL N R x ((s,p)::ls)).is C (λc=>η (AZ m c)) H (.agg (cs.drop off).toArray):=λ{u} l h K=>by have Q:=La (s:=s) l K (λy Y=>I y (by grind)) ih;rw[h]at K Q;rw[<-Zw rfl K]at Q;exact Q
  unfold ckL at d;cases p with
  |v j t=>
   simp only at d;split at d
   ·rename_i sv D;have L:=AI d;obtain⟨c,r,hc⟩:=Dt D F;have e:=Cy r;obtain⟨u,l,h,_⟩:=r;have o:=X j t rfl;rw[D]at o;exact A (T.is o l) (by grind) (by grind)
   grind
  |nat j=>
   simp only at d;split at d
   ·rename_i sv D;have L:=AI d;obtain⟨c,r,hc⟩:=Dt D F;have e:=Cy r;obtain⟨u,l,h,_⟩:=r;have o:=G j rfl;rw[D]at o;have e:c.length=s:=by omega
    rw[e]at hc;exact A (T.is o l) (by rw[h,hc]) (by rw[h];exact e)
   grind
  |c j=>
   simp only at d;split at d;· rename_i i hi;have:=AI d;subst this;obtain⟨u,l,h,K⟩:=aN hi F;exact A (l.env (λk B=>by rw[V k B]) (λk B=>by cases B)) h K
   ·cases d
  |AH c=>
   simp only at d;split at d;· rename_i k B;rw[AT]at d;have O:=AI d.1;have J:=AI d.2;subst J;obtain⟨M,r,hc⟩:=Dt B F;have e:=Cy r;obtain⟨u,l,h,_⟩:=r;have e:M.length=1:=e;rw[e]at hc;exact A (u:=u) ⟨by show u=η (AZ m c);rw[O];exact l.1,l.2⟩ (by rw[h,hc]) (by rw[h];exact e)
   ·cases d
  |mp c=>
   simp only at d;split at d;· rename_i k B;rw[AT]at d;have O:=AI d.1;have J:=AI d.2;subst J;obtain⟨M,r,hc⟩:=Dt B F;have e:=Cy r;obtain⟨u,l,h,_⟩:=r;have e:M.length=1:=e;rw[e]at hc;exact A (u:=u) ⟨by show u=η (AZ m c);rw[O];exact l.1,l.2⟩ (by rw[h,hc]) (by rw[h];exact e)
   ·cases d
  |AK f fs cs=>
   cases fs with
   |cons _ _=>cases d
   |nil=>
    cases cs with
    |cons _ _=>cases d
    |nil=>
     simp only at d;split at d;· rename_i g B;rw[AT]at d;have O:=AI d.1;have J:=AI d.2;subst O;subst J;obtain⟨M,r,hc⟩:=Dt B F;have e:=Cy r;obtain⟨u,l,h,_⟩:=r;have e:M.length=1:=e;rw[e]at hc;obtain⟨us,a1,a2⟩:=l;exact A (u:=u) ⟨us,a1,a2⟩ (by rw[h,hc]) (by rw[h];exact e)
     ·cases d
  |px cs z=>
   cases z with
   |sub _ _ _=>cases cs with
    |nil=>cases d
    |cons c cs=>cases cs<;>cases d
   |hc _=>cases cs with
    |nil=>cases d
    |cons c cs=>cases cs<;>cases d
   |sf=>
    match cs,d with
    | [],d=>cases d
    | [c],d=>
     rw[AT]at d;cases B:EY N C b off C7 with
     |none=>rw[B]at d;cases d.1
     |some s0=>
      rw[B]at d;have J:=AI d.2;subst J;obtain⟨M,r,hc⟩:=Dt B F;have e:=Cy r;obtain⟨u,l,h,_⟩:=r;obtain⟨K,Q⟩:=ZC d.1 l;rw[Q]at e;rw[e]at hc;exact A (u:=u) K (by rw[h,hc]) (by rw[h];exact e)
    |_::_::_,d=>cases d
  |_=>cases d
theorem DE{t:Nat}{sv:SV N.T}(h:Ay (FG N p x).L t=Ac sv):∃q∈p.sl,q.1=t/\sv=inst N p.hs x q.2:=by obtain⟨q,b,e⟩:=By.1 (A4 h);grind
theorem M7{kb:Nat}(h:Sat C CR n Of bs st η H a w)(hw:WF C CR bs st)(hkb:∀q∈bs,q.1<kb)(hx:SI N C CR kb p st=Ac x):∃η',Sat C CR n Of bs (FG N p x) η' H a w/\WF C CR bs (FG N p x):=by
 unfold SI at hx;simp only at hx;generalize hm:kmS N C st.L p.sl++kmR N C CR st.O (kmS N C st.L p.sl) p.ro=m at hx;split at hx
 ·rename_i hck;simp only[AT]at hck;obtain⟨hP,hS,hR,hN⟩:=hck;unfold ckP at hP;simp only[AT,Aec]at hP;obtain⟨⟨p1,p2⟩,⟨p3,p4⟩,p5,p6,p7,p8⟩:=hP;have hro:∀q∈p.ro,q.1<p.nk:=λq D=>by simpa using No.1 p1 q.1 (By.2 ⟨q,D,rfl⟩)
  have V:∀k∈CW C,k<p.nk/\AZ m k=k:=λk E=>by simp_all
  have hkbp:=Aax p3;have hbase:∀k,k<kb->AZ m k=k:=λk E=>T6 (No.1 p4 k (Abg.2 E));have hnd:=BK hN;have P:dI C (zS N C st.L p.sl++qJ N C CR st.O m p.ro) (Cu N p.hs x):=⟨λj s hj=>by
   rcases JJ p.hs 0 x hx j with e|⟨Y,y,R,G⟩;· grind
   ·rw[Abl,CK hnd hj]at R;grind⟩;have Q:∀q∈p.sl,∀ {C':List (SV N.T)} {η':Nat->BZ} j,(q.2= .nat j\/(∃t,q.2= .v j t)\/∃i,q.2= .AD j i)->(Cu N p.hs x j).is C' η' H (a.tmps.getD q.1 undef):=λq D {_ _} j e=>
   P.is (AS.2 (.inl (ic D e))) (h.lk q.1);refine⟨λc=>η (AZ m c),h.conv (AZ m) (λt sv ht=>?_) (λq D=>hbase q.1 (hkb q D)) (λc sr hc=>?_) (λc c' hc hc' e=>?_) (λc hc=>?_),⟨λq D=>Abr (hkb q D) hkbp,λj hj=>?_,?_,λk E=>(V k E).1,hw.cP⟩⟩;· obtain⟨q,D,rfl,rfl⟩:=DE ht;have u:=No.1 hS q D;unfold ckS at u;cases T:q.2 with
   |v j t=>exact Q q D j (.inr (.inl ⟨t,T⟩))
   |nat j=>exact Q q D j (.inl T)
   |AD j i=>
    have K:=Q q D (C':=C) (η':=λc=>η (AZ m c)) j (.inr (.inr ⟨i,T⟩));show(match Cu N p.hs x j with| .na n=>SV.ct i n|s=>s).is C _ H _;split;· rename_i n' e;rw[e]at K;exact K
    omega
   |c j=>
    rw[T]at u;simp only at u;split at u;· rename_i i hi;have:=AI u;subst this;exact(h.Bo q.1 _ hi).env (λk E=>by grind) (λk E=>by cases E)
    grind
   |AH c=>
    rw[T]at u;simp only at u;split at u;· rename_i k E;have e:=AI u;have K:=h.lk q.1;rw[E]at K;exact⟨by show _=η (AZ m c);rw[e];exact K.1,K.2⟩
    grind
   |loc c off=>
    rw[T]at u;simp only at u;split at u;· rename_i k o E;rw[AT]at u;have e:=AI u.1;have G:=AI u.2;subst G;have K:=h.lk q.1;rw[E]at K;obtain⟨B,b1,b2⟩:=K;exact⟨B,by show η (AZ m c)=_;rw[e];exact b1,b2⟩
    ·cases u
   |_=>rw[T]at u;cases u
  ·unfold An at hc;cases hl:Ay (FG N p x).O c with
   |none=>rw[hl]at hc;cases hc
   |some s0=>
    rw[hl]at hc;cases hc;obtain⟨q,D,e⟩:=By.1 (A4 hl);obtain⟨q1,q2⟩:=q;cases e;have r:=No.1 hR _ D;unfold ckR at r;cases q2 with
    |row g j=>
     simp only at r;split at r
     ·rename_i g' t l J;have e:=AI r;subst e;have F:=ie (C:=C) (CR:=CR) (O:=st.O) (m:=m) D J;rcases P.ok j _ (AS.2 (.inr F))with e|⟨Y,y,R,G⟩;· left;show C6 CR (match Cu N p.hs x j with| .d (.sl t) l=>SR.row g t l|_=> .gone)=_;rw[e];rfl
      ·right;refine⟨_,J,by simp,λX M=>?_⟩;show(C6 CR (match Cu N p.hs x j with| .d (.sl t) l=>SR.row g t l|_=> .gone)).is C _ H _ X;rw[G];cases Y with
       |nat=>cases R
       |Ae th=>
        obtain⟨f,hf,e3⟩:=Pd.1 (show(Qp N.T (.sl t) th).map (· l)=Ac y from R);obtain⟨he,rfl⟩:=BB hf;have:=Adn he;subst this;cases e3;exact M
     ·cases r
    |map g j=>
     simp only at r;split at r
     ·rename_i g' kt vt l J;have e:=AI r;subst e;have F:=ig (C:=C) (CR:=CR) (O:=st.O) (m:=m) D J;rcases P.ok j _ (AS.2 (.inr F))with e|⟨Y,y,R,G⟩;· left;show C6 CR (match Cu N p.hs x j with| .d (.sl (.st (.pr kt vt))) l=>SR.map g kt vt l|_=> .gone)=_;rw[e];rfl
      ·right;refine⟨_,J,by simp,λX M=>?_⟩;show(C6 CR (match Cu N p.hs x j with| .d (.sl (.st (.pr kt vt))) l=>SR.map g kt vt l|_=> .gone)).is C _ H _ X;rw[G];cases Y with
       |nat=>cases R
       |Ae th=>
        obtain⟨f,hf,e3⟩:=Pd.1 (show(Qp N.T (.sl (.st (.pr kt vt))) th).map (· l)=Ac y from R);obtain⟨he,rfl⟩:=BB hf;have:=Adn he;subst this;cases e3;exact M
     ·cases r
    |Ck g e0 h0 j=>
     simp only at r;split at r
     ·rename_i g' e' t Y l J;simp only[AT]at r;have R:=AI r.1;have G:=AI r.2.1;have e3:=AI r.2.2;subst R;subst G;have F:=ij (C:=C) (CR:=CR) (O:=st.O) (m:=m) D J;rcases P.ok j _ (AS.2 (.inr F))with e|⟨hh,y,k1,k2⟩;· left;show C6 CR (match Cu N p.hs x j with| .d (.sl (.pr .bool (.sl t))) l=>SR.Ck g e0 t h0 l|_=> .gone)=_;rw[e];rfl
      ·right;refine⟨_,J,by simp,λX M=>?_⟩;show(C6 CR (match Cu N p.hs x j with| .d (.sl (.pr .bool (.sl t))) l=>SR.Ck g e0 t h0 l|_=> .gone)).is C _ H _ X;rw[k2];cases hh with
       |nat=>cases k1
       |Ae th=>
        obtain⟨f,hf,e3'⟩:=Pd.1 (show(Qp N.T (.sl (.pr .bool (.sl t))) th).map (· l)=Ac y from k1);obtain⟨he,rfl⟩:=BB hf;have:=Adn he;subst this;cases e3';obtain⟨xs,rs,z1,z2,z3⟩:=M;exact⟨xs,rs,z1,by show η (AZ m h0)=_;rw[e3];exact z2,z3⟩
     ·cases r
    |Ai g ls=>
     simp only at r;split at r
     ·rename_i g' b J;simp only[AT]at r;have e:=AI r.1;subst e;right;refine⟨_,J,by simp,λX M=>?_⟩;obtain⟨B,cs,b1,b2,b3⟩:=M;refine⟨B,cs,b1,b2,?_⟩;have hlen:=HS (cs:=cs.toList) r.2.1.1 b3;have:=instL_ok (η:=η) (cs:=cs.toList) P b3 (J' r.2.1.1 b3) (λk E=>(V k E).2) ls 0 (λz W=>⟨No.1 r.2.2 z W,λj t e=>AS.2 (.inr (V_ D J ((GF W).1 j t e))),λj e=>AS.2 (.inr (V_ D J ((GF W).2 j e)))⟩)
       (by rw[Abl,AI r.2.1.2,hlen]);simpa using this
     ·cases r
    |c j=>
     simp only at r;split at r;· rename_i i hi;rw[AT]at r;have e:=AI r.1;have G:=T6 r.2;subst e;show CR.getD i .gone= .gone\/_;cases Z:CR[i]? with
      |none=>left;rw[Aaa,Z];rfl
      |some s0=>
       by_cases hs0:s0= .gone;· left;rw[Aaa,Z];exact hs0
       ·right;have J:An CR st.O q1=Ac s0:=by unfold An;rw[hi];simp[C6,Aaa,Z]
        refine⟨s0,by rw[G];exact J,hs0,λX M=>?_⟩;show(CR.getD i .gone).is C _ H _ X;rw[Aaa,Z];have M:s0.is C η H q1 X:=by rw[G]at M;exact M
        refine SR.is.env (by show η (AZ m q1)=η q1;rw[G]) (λk E=>by show η (AZ m k)=η k;rw[(V k E).2]) (λk E=>?_) M;have:=No.1 (No.1 p8 s0 (Aai Z)) k E;rw[AT]at this;show η (AZ m k)=η k;rw[T6 this.2]
     ·cases r
  ·have K:=BK p5;obtain⟨q,D,rfl⟩:=By.1 hc;obtain⟨q',hq',rfl⟩:=By.1 hc';obtain⟨z,W,rfl⟩:=By.1 D;obtain⟨z',hz',rfl⟩:=By.1 hq';have:=P_ (f:=λq:Nat×RP=>AZ m q.1) K W hz' e;subst this;rfl
  ·obtain⟨q,D,rfl⟩:=By.1 hc;obtain⟨z,W,rfl⟩:=By.1 D;exact hro z W
  ·have hj:p.nk<=j:=hj;refine Cz λhm=>?_;obtain⟨q,D,rfl⟩:=By.1 hm;obtain⟨z,W,rfl⟩:=By.1 D;have:=hro z W;simp only at hj;omega
  ·obtain⟨
       τ,hτ⟩:=hw.wf;refine⟨λi=>match Ay (Qb p.sl) i with
    |some j=>(match Cu N p.hs x j with| .na n=>n|_=>0)
    |none=>τ i,λt=>?_⟩;unfold Cv;cases ht:Ay (FG N p x).L t with
   |none=>trivial
   |some sv=>
    simp only;obtain⟨q,D,rfl,rfl⟩:=DE ht;have A:∀j,EW (Cu N p.hs x j)=Bp/\RS (Cu N p.hs x j)=Bp:=λj=>by
     rcases JJ p.hs 0 x hx j with e|⟨Y,y,_,G⟩;· rw[e];exact⟨rfl,rfl⟩
     ·rw[G];cases Y<;>exact⟨rfl,rfl⟩
    have Jl:∀ {s:SV N.T},RS s=Bp->res C s=s:=λ{s} hs=>by cases s<;>first|rfl|cases hs
    cases T:q.2 with
    |v j t=>show D9 _ _ (res C (Cu N p.hs x j));rw[Jl (A j).2];exact DB (A j).1
    |nat j=>show D9 _ _ (res C (Cu N p.hs x j));rw[Jl (A j).2];exact DB (A j).1
    |AD j i=>
     show D9 _ _ (res C (match Cu N p.hs x j with| .na n=>SV.ct i n|s=>s));have hid:Ay (Qb p.sl) i=Ac j:=CK (BK p6) (Aad.2 ⟨q,D,by rw[T];simp⟩);split;· rename_i n' e;show(match Ay (Qb p.sl) i with|some j=>(match Cu N p.hs x j with| .na n=>n|_=>0)|none=>τ i)=n';rw[hid];simp only[e]
     ·rename_i hne;rw[Jl (A j).2];exact DB (A j).1
    |c j=>
     have u:=No.1 hS q D;unfold ckS at u;rw[T]at u;simp only at u;split at u;· rename_i i hi;have:=AI u;subst this;have S:=hτ q.1;unfold Cv at S;rw[hi]at S;show D9 _ _ (C.getD i .no);have S:D9 τ (An CR st.O) (C.getD i .no):=S;rw[Aaa]at S⊢;cases Z:C[i]? with
      |none=>trivial
      |some s0=>
       rw[Z]at S;have U:=Aai Z;have hp0:=hw.cP s0 U;have nid:∀I,I∈wG N C->Ay (Qb p.sl) I=C7:=λI hi'=>Cz λhm=>RU p7 hm hi';simp only[Ack]at S⊢;cases s0 with
       |ct I n'=>show(match Ay (Qb p.sl) I with|some j=>_|none=>τ I)=n';rw[nid I (Aad.2 ⟨_,U,by simp⟩)];exact S
       |cb I n'=>show(match Ay (Qb p.sl) I with|some j=>_|none=>τ I)=n';rw[nid I (Aad.2 ⟨_,U,by simp⟩)];exact S
       |lt I n' m'=>show(match Ay (Qb p.sl) I with|some j=>_|none=>τ I)=n';rw[nid I (Aad.2 ⟨_,U,by simp⟩)];exact S
       |Ec k i off t y=>cases hp0
       |_=>trivial
     ·cases u
    |sv ls=>cases ls<;>trivial
    |pd j t off=>
     show D9 _ _ (res C (match Cu N p.hs x j with| .d t x=>SV.pd t x off|_=> .no));split<;>trivial
    |px ks z=>cases z with
     |sf=>trivial
     |hc _=>trivial
     |sub j n t=>
      show D9 _ _ (res C (match Cu N p.hs x j,Cu N p.hs x n with| .na i, .na m=>SV.px ks (.sub i m t)|_,_=> .px ks .any));split<;>trivial
    |_=>trivial
 grind
end
end
def clean{T:Nat->Type} :SV T->Bool
 | .Cw _=>Aj
 | .Ec _ _ _ _ _=>Aj
 | .lf _ a l=>clean a&&clean l
 | .t2 a b=>clean a&&clean b
 | .t3 a b c=>clean a&&(clean b&&clean c)
 | .AK _ l _=>clean l
 | .vc a l=>clean a&&clean l
 |_=>Bp
section
variable {N : C9} {C : List (SV N.T)} {CR : List (SR N.T)} {n : Nat} {Of : Fm} {bs : List (Nat × BZ)} {st : St N.T} {η : Nat -> BZ} {H : Hp} {a : Act} {w : IU}
section
variable{T:Nat->Type}{X:List (SV N.T)}{s:SV N.T}
theorem CB{g q:Nat->BZ->Prop} :∀ {s:SV N.T} {v:BZ},clean s=Bp->s.BS g η H v->s.BS q η H v
 | .lf s a l,v,hc,⟨o,p,u,e,i,j,k,t,A⟩=>by simp only[clean,AT]at hc;exact⟨o,p,u,e,i,CB hc.1 j,k,t,CB hc.2 A⟩
 | .t2 a b,v,hc,⟨x,y,e,i,j⟩=>by simp only[clean,AT]at hc;exact⟨x,y,e,CB hc.1 i,CB hc.2 j⟩
 | .t3 a b c,v,hc,⟨x,y,z,e,i,j,k⟩=>by simp only[clean,AT]at hc;exact⟨x,y,z,e,CB hc.1 i,CB hc.2.1 j,CB hc.2.2 k⟩
 | .AK f r B,v,hc,⟨m,e,i⟩=>⟨m,e,CB (by trivial) i⟩
 | .vn,_,_,h=>h
 | .vc a r,v,hc,⟨u,m,e,i,j⟩=>by simp only[clean,AT]at hc;exact⟨u,m,e,CB hc.1 i,CB hc.2 j⟩
 | .d _ _,_,_,h=>h
 | .na _,_,_,h=>h
 | .ct _ _,_,_,h=>h
 | .cb _ _,_,_,h=>h
 | .lt _ _ _,_,_,h=>h
 | .lb _,_,_,h=>h
 | .raw _,_,_,h=>h
 | .ud,_,_,h=>h
 | .no,_,_,h=>h
 | .loc _ _,_,_,h=>h
 | .AH _,_,_,h=>h
 | .Ec _ _ _ _ _,_,hc,_=>by cases hc
 | .pd _ _ _,_,_,h=>h
 | .mp _,_,_,h=>h
 | .nl,_,_,h=>h
 | .px _ _,_,_,h=>h
 | .Cw _,_,hc,_=>by cases hc
theorem Lh(h:clean s=Bp):RN s=Bp:=by cases s<;>first|rfl|cases h
theorem Kv{v:BZ}(h:s.is C η H v):s.is (C++X) η H v:=
 SV.BS.imp (λj v ⟨s,e,h⟩=>⟨s,by grind,h⟩) h
theorem V7{s:SR N.T}{k:Nat}{r:Aw}(h:s.is C η H k r):s.is (C++X) η H k r:=by
 cases s with
 |Ai g l=>obtain⟨B,b,c,d,e⟩:=h;exact⟨B,b,c,d,Kv e⟩
 |row g t l=>exact h
 |Cw j=>exact h
 |gone=>exact h
 |map g f i l=>exact h
 |Ck _ _ _ _ _=>exact h
def Lv(L:List (Nat×SV N.T)):List (Nat×SP)->List (SV N.T)->List (Nat×SP)×List (SV N.T)
 | [],C=>([],C)
 |q::l,C=>match q.2 with
  | .Am=>match Ay L q.1 with
   |none=>Lv L l C
   |some (.Cw j)=>((q.1, .c j)::(Lv L l C).1,(Lv L l C).2)
   |some s=>((q.1, .c C.length)::(Lv L l (C++[s])).1,(Lv L l (C++[s])).2)
  |_=>(q::(Lv L l C).1,(Lv L l C).2)
def Lw(O:List (Nat×SR N.T)):List (Nat×RP)->List (SR N.T)->List (Nat×RP)×List (SR N.T)
 | [],CR=>([],CR)
 |q::l,CR=>match q.2 with
  | .c _=>match Ay O q.1 with
   |none=>Lw O l CR
   |some (.Cw j)=>((q.1, .c j)::(Lw O l CR).1,(Lw O l CR).2)
   |some s=>((q.1, .c CR.length)::(Lw O l (CR++[s])).1,(Lw O l (CR++[s])).2)
  |_=>(q::(Lw O l CR).1,(Lw O l CR).2)
def u9(l:List (Nat×SP)):List (Nat×SV N.T):=l.filterMap λq=>match q.2 with
 | .c j=>Ac (q.1, .Cw j)
 |_=>C7
def nw(l:List (Nat×RP)):List (Nat×SR N.T):=l.filterMap λq=>match q.2 with
 | .c j=>Ac (q.1, .Cw j)
 |_=>C7
theorem KH{L:List (Nat×SV N.T)} :∀(l:List (Nat×SP)) (C:List (SV N.T)),(∃X,(Lv L l C).2=C++X)/\∀q∈(Lv L l C).1,∀j,q.2= .c j->q∈l\/Ay L q.1=Ac (.Cw j)\/∃s,Ay L q.1=Ac s/\(Lv L l C).2[j]?=Ac s/\C.length<=j
 | [],C=>⟨⟨[],by simp[Lv]⟩,λq b=>by cases b⟩
 |p::l,C=>by
  unfold Lv;split
  ·split;· obtain⟨f,d⟩:=KH (L:=L) l C;grind
   ·obtain⟨f,d⟩:=KH (L:=L) l C;grind
   ·rename_i s u r;obtain⟨⟨X,g⟩,d⟩:=KH (L:=L) l (C++[s]);refine⟨⟨[s]++X,by grind⟩,λq b j e=>?_⟩;rcases Aav.1 b with rfl|b;· grind
    grind
  ·obtain⟨f,d⟩:=KH (L:=L) l C;grind
theorem KI{O:List (Nat×SR N.T)} :∀(l:List (Nat×RP)) (CR:List (SR N.T)),(∀q∈l,∀j,q.2= .c j->j=0\/True)->(∃X,(Lw O l CR).2=CR++X)/\∀q∈(Lw O l CR).1,∀j,q.2= .c j->Ay O q.1=Ac (.Cw j)\/∃s,Ay O q.1=Ac s/\On s=Bp/\(Lw O l CR).2[j]?=Ac s
 | [],CR,_=>⟨⟨[],by simp[Lw]⟩,λq b=>by cases b⟩
 |p::l,CR,i=>by
  unfold Lw;split
  ·split;
      · exact KI l CR λ_ _ _ _=> .inr trivial
   ·obtain⟨f,d⟩:=KI (O:=O) l CR λ_ _ _ _=> .inr trivial;grind
   ·rename_i s m i;obtain⟨⟨X,h⟩,d⟩:=KI (O:=O) l (CR++[s]) λ_ _ _ _=> .inr trivial;refine⟨⟨[s]++X,by grind⟩,λq b j e=>?_⟩;rcases Aav.1 b with rfl|b
    ·refine .inr ⟨s,i,?_,?_⟩;· cases s with
      |Cw j=>grind
      |_=>rfl
     grind
    grind
  ·rename_i g;obtain⟨f,d⟩:=KI (O:=O) l CR λ_ _ _ _=> .inr trivial;refine⟨f,λq b j e=>?_⟩;rcases Aav.1 b with rfl|b;· exact absurd e (g j)
   ·exact d q b j e
def Cb(CR:List (SR N.T)):SR N.T->Bool
 | .Cw j=>aX j CR.length
 |_=>Bp
def cnB(C C':List (SV N.T))(CR:List (SR N.T))(st:St N.T)(kp:List (Nat×SP)):Bool:=((C'.drop C.length).all clean&&(C'.drop C.length).all λs=>s.AJ.all λk=>aX k st.nk)&&((st.O.all λp=>Cb CR p.2)&&kp.all λq=>match q.2 with
 | .c _=>Aj
 |_=>Bp)
theorem w_{p:A_}(h:Sat C CR n Of bs st η H a w)(I:WF C CR bs st)(hb:cnB C (Lv st.L p.sl C).2 CR st p.sl=Bp):
  Sat (Lv st.L p.sl C).2 (Lw st.O p.ro CR).2 n Of bs ⟨u9 (Lv st.L p.sl C).1++st.L,nw (Lw st.O p.ro CR).1++st.O,st.nk⟩ η H a w/\WF (Lv st.L p.sl C).2 (Lw st.O p.ro CR).2 bs ⟨u9 (Lv st.L p.sl C).1++st.L,nw (Lw st.O p.ro CR).1++st.O,st.nk⟩:=by
 obtain⟨⟨X,K⟩,hS⟩:=KH (L:=st.L) p.sl C;obtain⟨⟨Z,hZ⟩,W⟩:=KI (O:=st.O) p.ro CR λ_ _ _ _=> .inr trivial;unfold cnB at hb;simp only[AT]at hb;obtain⟨⟨b1,b2⟩,b3,b4⟩:=hb;generalize hC':(Lv st.L p.sl C).2=J at K hS b1 b2;generalize hCR':(Lw st.O p.ro CR).2=v at hZ W;have hsl:∀q∈(Lv st.L p.sl C).1,∀j,q.2= .c j->Ay st.L q.1=Ac (.Cw j)\/∃s,Ay st.L q.1=Ac s/\J[j]?=Ac s/\C.length<=j:=λq G j e=>by grind
 have F:∀j s,J[j]?=Ac s->C.length<=j->clean s=Bp/\∀k∈s.AJ,k<st.nk:=λj s u hle=>by
  have hm:s∈J.drop C.length:=by grind[vR]
  exact⟨No.1 b1 s hm,λk d=>by have:=No.1 (No.1 b2 s hm) k d;simpa using this⟩
 have D:∀s∈J,(s∈C)\/(clean s=Bp/\∀k∈s.AJ,k<st.nk):=λs m=>by
  obtain⟨j,u⟩:=List.mem_iff_getElem?.1 m;by_cases hlt:j<C.length;· grind[pU,vR]
  grind
 have P:∀t sv,Ay (u9 (Lv st.L p.sl C).1++st.L) t=Ac sv->Ay st.L t=Ac sv\/∃j s,sv= .Cw j/\Ay st.L t=Ac s/\J[j]?=Ac s/\C.length<=j:=λt sv A=>by
  rw[BT]at A;cases o:Ay (u9 (Lv st.L p.sl C).1:List (Nat×SV N.T)) t with
  |none=>grind
  |some x=>
   rw[o]at A;obtain⟨q,G,e⟩:=Aev.1 (A4 o);obtain⟨R,S⟩:=q;cases S with
   |c j=>
    rcases hsl _ G j rfl with h|⟨s,b,z,E⟩;· grind
    grind
   |_=>grind
 have T:∀k B,An v (nw (Lw st.O p.ro CR).1++st.O) k=Ac B->An CR st.O k=Ac B:=λk B d=>by
  have Q:∀s,Ay st.O k=Ac s->C6 v s=C6 CR s:=λs m=>by
   cases s with
   |Cw j=>
    have:=No.1 b3 _ (A4 m);have u:j<CR.length:=by simpa [Cb]using this
    simp only[C6];rw[Aaa,Aaa,hZ,Pe u]
   |_=>rfl
  unfold An at d⊢;rw[BT]at d;cases o:Ay (nw (Lw st.O p.ro CR).1:List (Nat×SR N.T)) k with
  |none=>
   rw[o]at d;cases m:Ay st.O k with
   |none=>rw[m]at d;cases d
   |some s=>
    rw[m]at d;show Ac (C6 CR s)=Ac B;rw[<-Q s m];exact d
  |some x=>
   rw[o]at d;obtain⟨q,G,e⟩:=Aev.1 (A4 o);obtain⟨R,S⟩:=q;cases S with
   |c j=>
    cases e;rcases W _ G j rfl with h|⟨s,b,z,E⟩;· rw[h];show Ac (C6 CR (.Cw j))=Ac B;rw[<-Q _ h];exact d
    ·rw[b];show Ac (C6 CR s)=Ac B;rw[Jk z];simp only[C6,Aaa,E,Ack]at d;exact d
   |_=>cases e
 refine⟨⟨h.inv,h.defers,h.size,λt sv A=>?_,h.base,?_⟩,⟨I.lo,λj u=>?_,?_,λk d=>?_,λs m=>?_⟩⟩
 ·rcases P t sv A with b|⟨j,s,rfl,b,z,E⟩;· rw[K];exact Kv (h.Bo t sv b)
  ·exact⟨s,z,CB (F j s z E).1 (h.Bo t s b)⟩
 ·obtain⟨Y,g1,g2,g3,g4⟩:=h.own;refine⟨Y,g1,g2,g3,λk B d=>?_⟩;rcases g4 k B (T k B d)with e|⟨x,g5,g6⟩;· exact .inl e
  ·exact .inr ⟨x,g5,by rw[K];exact V7 g6⟩
 ·rw[BT,I.ok j u];cases o:Ay (nw (Lw st.O p.ro CR).1:List (Nat×SR N.T)) j with
  |none=>rfl
  |some x=>
   obtain⟨q,G,e⟩:=Aev.1 (A4 o);obtain⟨R,S⟩:=q;cases S with
   |c j'=>
    have hn:=I.ok j u;have e1:R=j:=by cases e;rfl
    subst e1;rcases W _ G j' rfl with h|⟨s,b,_⟩;· exact absurd (h.symm.trans hn) (by simp)
    ·exact absurd (b.symm.trans hn) (by simp)
   |_=>cases e
 ·obtain⟨τ,M⟩:=I.wf;refine⟨τ,λt=>?_⟩;have key:∀s:SV N.T,RN s=Bp->D9 τ (An CR st.O) s->D9 τ (An v (nw (Lw st.O p.ro CR).1++st.O)) s:=λs m U=>by
   cases s<;>first|exact U|cases m
  have r:∀s:SV N.T,D9 τ (An CR st.O) s->D9 τ (An v (nw (Lw st.O p.ro CR).1++st.O)) s:=λs U=>by
   cases s with
   |Ec k i off t y=>intro g t' l o;exact U g t' l (T k _ o)
   |_=>exact U
  unfold Cv;cases A:Ay (u9 (Lv st.L p.sl C).1++st.L) t with
  |none=>trivial
  |some sv=>
   simp only;rcases P t sv A with b|⟨j,s,rfl,b,z,E⟩;· have f:=M t;unfold Cv at f;rw[b]at f;have f:D9 τ (An CR st.O) (res C sv):=f;cases sv with
    |Cw j=>
     simp only[res]at f⊢;rw[Aaa]at f⊢;have m:=h.Bo t _ b;obtain⟨s0,V,_⟩:=m;rw[V]at f;rw[K,Pe (IT.1 V).1,V];exact r _ f
    |_=>exact r _ f
   ·simp only[res];rw[Aaa,z];have f:=M t;unfold Cv at f;rw[b]at f;have hc:=(F j s z E).1;have:res C s=s:=by cases s<;>first|rfl|cases hc
    have f:D9 τ (An CR st.O) (res C s):=f;rw[this]at f;exact r _ f
 ·obtain⟨s,m,d⟩:=Aad.1 d;rcases D s m with b|⟨_,b⟩;· exact I.mC k (Aad.2 ⟨s,b,d⟩)
  ·exact b k d
 ·rcases D s m with b|⟨b,_⟩;· exact I.cP s b
  ·exact Lh b
def NF(C:List (SV N.T))(m:Nat):SV N.T->SV N.T
 | .Cw j=>match aX j m with
  |true=> .Cw j
  |false=>match C.getD j .no with
   | .Cw _=> .no
   |s=>s
 | .lf s a l=> .lf s (NF C m a) (NF C m l)
 | .t2 a b=> .t2 (NF C m a) (NF C m b)
 | .t3 a b c=> .t3 (NF C m a) (NF C m b) (NF C m c)
 | .AK f l d=> .AK f (NF C m l) d
 | .vc a l=> .vc (NF C m a) (NF C m l)
 |s=>s
def vM(C:List (SV N.T))(CR:List (SR N.T))(m b:Nat):SR N.T->SR N.T
 | .Cw j=>match aX j b with
  |true=> .Cw j
  |false=>match CR.getD j .gone with
   | .Ai g l=> .Ai g (NF C m l)
   | .Cw _=> .gone
   |s=>s
 | .Ai g l=> .Ai g (NF C m l)
 |s=>s
def D0(C:List (SV N.T))(CR:List (SR N.T))(m b:Nat)(st:St N.T):St N.T:=⟨st.L.map λp=>(p.1,NF C m p.2),st.O.map λp=>(p.1,vM C CR m b p.2),st.nk⟩
theorem Ew{X:List (SV N.T)} :∀ {s:SV N.T} {v:BZ},s.BS (λj v=> ∃s,(C++X)[j]?=Ac s/\SV.BS (λ_ _=>False) η H s v) η H v->(NF (C++X) C.length s).BS (λj v=> ∃s,C[j]?=Ac s/\SV.BS (λ_ _=>False) η H s v) η H v
 | .Cw j,v,⟨s,e,h⟩=>by
  unfold NF;split
  ·have D:j<C.length:=by simp_all
   rw[Pe D]at e;exact⟨s,e,h⟩
  ·split;· trivial
   grind[SV.BS.imp]
 | .lf s a l,v,⟨p,q,u,g,i,k,m,t,A⟩=>⟨p,q,u,g,i,Ew k,m,t,Ew A⟩
 | .t2 a b,v,⟨x,y,g,i,k⟩=>⟨x,y,g,Ew i,Ew k⟩
 | .t3 a b c,v,⟨x,y,z,g,i,k,m⟩=>⟨x,y,z,g,Ew i,Ew k,Ew m⟩
 | .AK f r F,v,⟨o,g,i⟩=>⟨o,g,Ew i⟩
 | .vn,_,h=>h
 | .vc a r,v,⟨u,o,g,i,k⟩=>⟨u,o,g,Ew i,Ew k⟩
 | .d _ _,_,h=>h
 | .na _,_,h=>h
 | .ct _ _,_,h=>h
 | .cb _ _,_,h=>h
 | .lt _ _ _,_,h=>h
 | .lb _,_,h=>h
 | .raw _,_,h=>h
 | .ud,_,h=>h
 | .no,_,h=>h
 | .loc _ _,_,h=>h
 | .AH _,_,h=>h
 | .Ec _ _ _ _ _,_,h=>h
 | .pd _ _ _,_,h=>h
 | .mp _,_,h=>h
 | .nl,_,h=>h
 | .px _ _,_,h=>h
def HN{T:Nat->Type}(m:Nat):SV T->Bool
 | .Cw j=>aX j m
 | .lf _ a l=>HN m a&&HN m l
 | .t2 a b=>HN m a&&HN m b
 | .t3 a b c=>HN m a&&(HN m b&&HN m c)
 | .AK _ l _=>HN m l
 | .vc a l=>HN m a&&HN m l
 |_=>Bp
def S4(m:Nat):SR T->Bool
 | .Ai _ l=>HN m l
 |_=>Bp
theorem DI{X:List (SV N.T)} :∀ {s:SV N.T} {v:BZ},HN C.length s=Bp->s.BS (λj v=> ∃s,(C++X)[j]?=Ac s/\SV.BS (λ_ _=>False) η H s v) η H v->s.BS (λj v=> ∃s,C[j]?=Ac s/\SV.BS (λ_ _=>False) η H s v) η H v
 | .Cw j,v,hc,⟨s,e,h⟩=>by
  have B:j<C.length:=by simp_all[HN]
  rw[Pe B]at e;exact⟨s,e,h⟩
 | .lf s a l,v,hc,⟨p,q,u,g,i,k,m,t,A⟩=>by simp only[HN,AT]at hc;exact⟨p,q,u,g,i,DI hc.1 k,m,t,DI hc.2 A⟩
 | .t2 a b,v,hc,⟨x,y,g,i,k⟩=>by simp only[HN,AT]at hc;exact⟨x,y,g,DI hc.1 i,DI hc.2 k⟩
 | .t3 a b c,v,hc,⟨x,y,z,g,i,k,m⟩=>by simp only[HN,AT]at hc;exact⟨x,y,z,g,DI hc.1 i,DI hc.2.1 k,DI hc.2.2 m⟩
 | .AK f r D,v,hc,⟨o,g,i⟩=>⟨o,g,DI (by trivial) i⟩
 | .vn,_,_,h=>h
 | .vc a r,v,hc,⟨u,o,g,i,k⟩=>by simp only[HN,AT]at hc;exact⟨u,o,g,DI hc.1 i,DI hc.2 k⟩
 | .d _ _,_,_,h=>h
 | .na _,_,_,h=>h
 | .ct _ _,_,_,h=>h
 | .cb _ _,_,_,h=>h
 | .lt _ _ _,_,_,h=>h
 | .lb _,_,_,h=>h
 | .raw _,_,_,h=>h
 | .ud,_,_,h=>h
 | .no,_,_,h=>h
 | .loc _ _,_,_,h=>h
 | .AH _,_,_,h=>h
 | .Ec _ _ _ _ _,_,_,h=>h
 | .pd _ _ _,_,_,h=>h
 | .mp _,_,_,h=>h
 | .nl,_,_,h=>h
 | .px _ _,_,_,h=>h
theorem vL{X:List (SV N.T)}{Z:List (SR N.T)}(h:Sat (C++X) (CR++Z) n Of bs st η H a w)(q:WF (C++X) (CR++Z) bs st)(K:CR.all (S4 C.length)=Bp):Sat C CR n Of bs (D0 (C++X) (CR++Z) C.length CR.length st) η H a w/\WF C CR bs (D0 (C++X) (CR++Z) C.length CR.length st):=by
 have R:∀k m,An CR (D0 (C++X) (CR++Z) C.length CR.length st).O k=Ac m->m= .gone\/∃s0,An (CR++Z) st.O k=Ac s0/\((m=s0/\S4 C.length s0=Bp)\/∃g l,s0= .Ai g l/\m= .Ai g (NF (C++X) C.length l)):=λk m b=>by
  unfold An D0 at b;simp only[DC (vM (C++X) (CR++Z) C.length CR.length)]at b;unfold An;cases z:Ay st.O k with
  |none=>grind
  |some s=>
   rw[z]at b;simp only[Adg,Adz]at b;cases s with
   |Ai g l=>subst b;exact .inr ⟨_,rfl, .inr ⟨g,l,rfl,rfl⟩⟩
   |row g t l=>subst b;exact .inr ⟨_,rfl, .inl ⟨rfl,rfl⟩⟩
   |map g kt vt l=>subst b;exact .inr ⟨_,rfl, .inl ⟨rfl,rfl⟩⟩
   |Ck _ _ _ _ _=>subst b;exact .inr ⟨_,rfl, .inl ⟨rfl,rfl⟩⟩
   |gone=>exact .inl b.symm
   |Cw j=>
    simp only[vM]at b;split at b
    ·have f:j<CR.length:=by simp_all
     subst b;all_goals grind[C6,pU,lh,List.all_eq_true,List.getElem_mem]
    ·split at b;· rename_i g l e;subst b;refine .inr ⟨_,rfl, .inr ⟨g,l,?_,rfl⟩⟩;trivial
     ·exact .inl b.symm
     ·have:C6 CR (CR++Z |>.getD j .gone)=(CR++Z).getD j .gone:=by
       cases M:(CR++Z).getD j .gone with
       |Cw i=>grind
       |_=>rfl
      rw[this]at b;refine .inr ⟨_,rfl, .inl ⟨b.symm,?_⟩⟩;simp only[C6];cases M:(CR++Z).getD j .gone with
      |Ai g l=>grind
      |_=>rfl
 refine⟨⟨h.inv,h.defers,h.size,λt sv A=>?_,h.base,?_⟩,⟨q.lo,λj f=>?_,?_,λk b=>q.mC k (by grind[CW]),λs v=>q.cP s (AS.2 (.inl v))⟩⟩;· have A:Ay (st.L.map λp=>(p.1,NF (C++X) C.length p.2)) t=Ac sv:=A;rw[DC (NF (C++X) C.length)]at A;obtain⟨s,v,rfl⟩:=Pd.1 A;exact Ew (h.Bo t s v)
 ·obtain⟨
      Y,T,U,V,W⟩:=h.own;refine⟨Y,T,U,V,λk m b=>?_⟩;rcases R k m b with e|⟨s0,u,r⟩;· exact .inl e
  ·rcases W k s0 u with e|⟨x,g5,I⟩
   ·subst e;rcases r with⟨e,_⟩|⟨g,l,e,_⟩;· exact .inl e
    ·cases e
   ·refine .inr ⟨x,g5,?_⟩;rcases r with⟨rfl,hc⟩|⟨g,l,rfl,rfl⟩;· cases m with
     |Ai g l=>
      obtain⟨B,G,D,E,F⟩:=I;exact⟨B,G,D,E,DI hc F⟩
     |_=>exact I
    ·obtain⟨B,G,D,E,F⟩:=I;exact⟨B,G,D,E,Ew F⟩
 ·show Ay (st.O.map λp=>(p.1,vM (C++X) (CR++Z) C.length CR.length p.2)) j=C7;rw[DC (vM (C++X) (CR++Z) C.length CR.length),q.ok j f];rfl
 ·obtain⟨
      τ,Q⟩:=q.wf;refine⟨τ,λt=>?_⟩;have c:=Q t;unfold Cv at c⊢;have hm:Ay (D0 (C++X) (CR++Z) C.length CR.length st).L t=(Ay st.L t).map (NF (C++X) C.length):=DC (NF (C++X) C.length) st.L t;rw[hm];cases z:Ay st.L t with
  |none=>trivial
  |some s=>
   rw[z]at c;show D9 τ _ (res C (NF (C++X) C.length s));have np:∀s:SV N.T,RN s=Bp->D9 τ (An (CR++Z) st.O) s->D9 τ (An CR (D0 (C++X) (CR++Z) C.length CR.length st).O) s:=λs v hv=>by cases s<;>first|exact hv|cases v
   cases s with
   |Cw j=>
    simp only[res]at c;rw[Aaa]at c;unfold NF;split
    ·rename_i J;have f:j<C.length:=by simpa using J
     simp only[res];rw[Pe f]at c;rw[Aaa];cases hc:C[j]? with
     |none=>trivial
     |some s0=>
      rw[hc]at c;exact np s0 (q.cP s0 (AS.2 (.inl (Aai hc)))) c
    ·split;
        · trivial
     ·rename_i o;rw[Aaa]at o⊢;cases hc:(C++X)[j]? with
      |none=>trivial
      |some s0=>
       rw[hc]at c o;have hr:res C s0=s0:=by
        cases s0 with
        |Cw i=>exact absurd rfl (o i)
        |_=>rfl
       show D9 τ _ (res C s0);rw[hr];exact np s0 (q.cP s0 (Aai hc)) c
   |Ec k i off te y=>
    intro S t' l' P;rcases R k _ P with e|⟨s0,u,r⟩;· cases e
    ·rcases r with⟨e,_⟩|⟨_,_,_,e⟩;· exact c S t' l' (by rw[u,<-e])
     ·cases e
   |_=>exact c
end
end
section
variable {N : C9} {C : List (SV N.T)} {CR : List (SR N.T)} {n : Nat} {Of : Fm} {bs : List (Nat × BZ)} {st : St N.T} {η : Nat -> BZ} {H : Hp} {a : Act} {w : IU}
def gQ:List (Nat×SP)->SV N.T->List (SV N.T)->Option (List (Nat×SP)×(SV N.T×List (SV N.T)))
 | [],b,C=>Ac ([],(b,C))
 |(s,q)::e,b,C=>match b with
  | .lf d x r=>match Hh s d with
   |true=>match q with
    | .Am=>match x with
     | .Cw j=>(gQ e r C).map λp=>((s, .c j)::p.1,(.lf d (.Cw j) p.2.1,p.2.2))
     |x=>(gQ e r (C++[x])).map λp=>((s, .c C.length)::p.1,(.lf d (.Cw C.length) p.2.1,p.2.2))
    |q=>(gQ e r C).map λp=>((s,q)::p.1,(.lf d x p.2.1,p.2.2))
   |false=>C7
  |_=>C7
theorem Fl:∀ {ls d:List (Nat×SP)} {b b':SV N.T} {C C':List (SV N.T)},gQ ls b C=Ac (d,(b',C'))->∃X,C'=C++X
 | [],_,_,_,_,_,h=>by cases h;simp
 |(s,q)::ls,_,b,_,C,_,h=>by
  unfold gQ at h;split at h
  ·split at h
   ·split at h
    ·split at h;· obtain⟨p,c,e⟩:=Pd.1 h;cases e;exact Fl c
     ·obtain⟨p,c,e⟩:=Pd.1 h;cases e;obtain⟨X,f⟩:=Fl c;exact⟨[_]++X,by rw[f,Aaj]⟩
    ·obtain⟨p,c,e⟩:=Pd.1 h;cases e;exact Fl c
   grind
  grind
theorem P7{g:Nat} :∀ {ls E:List (Nat×SP)} {b b':SV N.T} {C C':List (SV N.T)} {v:BZ},gQ ls b C=Ac (E,(b',C'))->((C'.drop g).all clean)=Bp->g<=C.length->b.is C η H v->b'.is C' η H v
 | [],_,_,_,_,_,_,h,_,_,B=>by cases h;omega
 |(s,q)::ls,_,b,_,C,C',v,h,hc,F,B=>by
  unfold gQ at h;split at h
  ·rename_i I x r;split at h
   ·split at h
    ·split at h;· rename_i j;obtain⟨p,d,e⟩:=Pd.1 h;cases e;obtain⟨X,A⟩:=Fl d;obtain⟨f,k,u,l,m,o,t,y,z⟩:=B;exact⟨f,k,u,l,m,by rw[A];exact Kv (s:= .Cw j) o,t,y,P7 d hc F z⟩
     ·obtain⟨p,d,e⟩:=Pd.1 h;cases e;obtain⟨X,A⟩:=Fl d;obtain⟨f,k,u,l,m,o,t,y,z⟩:=B;have c:p.2.2[C.length]?=Ac x:=by simp_all
      have D:clean x=Bp:=by refine No.1 hc x (Aai (i:=C.length-g) ?_);rw[Afw,show g+(C.length-g)=C.length by omega];exact c
      exact⟨f,k,u,l,m,⟨x,c,CB D o⟩,t,y,P7 d hc (by simp;omega) (Kv z)⟩
    ·obtain⟨p,d,e⟩:=Pd.1 h;cases e;obtain⟨X,A⟩:=Fl d;obtain⟨f,k,u,l,m,o,t,y,z⟩:=B;exact⟨f,k,u,l,m,by rw[A];exact Kv o,t,y,P7 d hc F z⟩
   grind
  grind
def klB(C C':List (SV N.T))(nk:Nat):Bool:=(C'.drop C.length).all clean&&(C'.drop C.length).all λs=>s.AJ.all λk=>aX k nk
theorem qv{k:Nat}{g:Gq}{b b':SV N.T}{ls F:List (Nat×SP)}{C':List (SV N.T)}(h:Sat C CR n Of bs st η H a w)(p:WF C CR bs st)(r:Ay st.O k=Ac (.Ai g b))(I:gQ ls b C=Ac (F,(b',C')))(q:klB C C' st.nk=Bp):
  Sat C' CR n Of bs ⟨st.L,(k, .Ai g b')::st.O,st.nk⟩ η H a w/\WF C' CR bs ⟨st.L,(k, .Ai g b')::st.O,st.nk⟩:=by
 obtain⟨X,o⟩:=Fl I;unfold klB at q;rw[AT]at q;have m:∀s∈X,clean s=Bp/\∀k∈s.AJ,k<st.nk:=λs c=>by
  have J:s∈C'.drop C.length:=by grind
  exact⟨No.1 q.1 s J,λk r=>by have:=No.1 (No.1 q.2 s J) k r;simp_all⟩
 have z:An CR st.O k=Ac (.Ai g b):=by unfold An;rw[r];rfl
 have hkn:k<st.nk:=Aby λA=>by rw[p.ok k A]at r;grind
 have K:∀j,An CR ((k, .Ai g b')::st.O) j=match Hh k j with|true=>Ac (.Ai g b')|false=>An CR st.O j:=λj=>by unfold An;simp only[Ay];cases Hh k j<;>rfl
 refine⟨⟨h.inv,h.defers,h.size,λt sv D=>by rw[o];exact Kv (h.Bo t sv D),h.base,?_⟩,⟨p.lo,λj d=>?_,?_,λj d=>?_,λs c=>?_⟩⟩
 ·obtain⟨Y,T,U,V,G⟩:=h.own;refine⟨Y,T,U,V,λj L d=>?_⟩;have f:An CR ((k, .Ai g b')::st.O) j=Ac L:=d;rw[K j]at f;split at f
  ·rename_i Z;have:=AI Z;subst this;cases f;rcases G k _ z with e|⟨x,u,B,M,P,Q,R⟩;· cases e
   ·exact .inr ⟨x,u,B,M,P,Q,P7 I q.1 (Aae _) R⟩
  ·exact(G j L f).imp id λ⟨x,u,W⟩=>⟨x,u,by rw[o];exact V7 W⟩
 ·have d:st.nk<=j:=d;rw[A3 (by omega)];exact p.ok j d
 ·obtain⟨τ,E⟩:=p.wf;refine⟨τ,λt=>?_⟩;have v:=E t;have e:Cv C' st.L t=Cv C st.L t:=by
   unfold Cv;cases D:Ay st.L t with
   |none=>rfl
   |some s=>
    cases s with
    |Cw j=>
     obtain⟨s0,O,_⟩:=h.Bo t _ D;simp only[res];rw[Aaa,Aaa,o,Pe (IT.1 O).1]
    |_=>rfl
  show D9 τ (An CR ((k, .Ai g b')::st.O)) (Cv C' st.L t);rw[e];generalize Cv C st.L t=sv at v;cases sv with
  |Ec j i off te y=>
   intro S t' l' l;rw[K j]at l;split at l;· cases l
   ·exact v S t' l' l
  |_=>exact v
 ·obtain⟨s,c,d⟩:=Aad.1 d;rw[o]at c;rcases AS.1 c with c|c;· exact p.mC j (Aad.2 ⟨s,c,d⟩)
  ·exact(m s c).2 j d
 ·rw[o]at c;rcases AS.1 c with c|c;· exact p.cP s c
  ·exact Lh (m s c).1
def wH:List (Nat×SP)->Bool
 | []=>Aj
 |(_, .Am)::_=>Bp
 |_::l=>wH l
def qu:List (Nat×RP)->List (SV N.T)->St N.T->Option (List (Nat×RP)×(St N.T×List (SV N.T)))
 | [],C,st=>Ac ([],(st,C))
 |q::l,C,st=>match q.2 with
  | .Ai g e=>match wH e with
   |true=>match Ay st.O q.1 with
    |some (.Ai h b)=>match gQ e b C with
     |some (c,(f,d))=>match klB C d st.nk with
      |true=>(qu l d ⟨st.L,(q.1, .Ai h f)::st.O,st.nk⟩).map λp=>((q.1, .Ai g c)::p.1,p.2)
      |false=>C7
     |none=>C7
    |_=>C7
   |false=>(qu l C st).map λp=>(q::p.1,p.2)
  |_=>(qu l C st).map λp=>(q::p.1,p.2)
theorem Us:∀ {l ro:List (Nat×RP)} {C C':List (SV N.T)} {st d:St N.T},qu l C st=Ac (ro,(d,C'))->Sat C CR n Of bs st η H a w->WF C CR bs st->(∃X,C'=C++X)/\Sat C' CR n Of bs d η H a w/\WF C' CR bs d
 | [],_,_,_,_,_,h,g,i=>by cases h;simp_all
 |q::l,ro,C,C',st,d,h,g,i=>by
  have f:(qu l C st).map (λp=>(q::p.1,p.2))=Ac (ro,(d,C'))->(∃X,C'=C++X)/\Sat C' CR n Of bs d η H a w/\WF C' CR bs d:=λh=>by obtain⟨⟨r,s,c⟩,j,e⟩:=Pd.1 h;cases e;exact Us j g i
  unfold qu at h;split at h
  ·split at h
   ·split at h
    ·rename_i D b y;split at h
     ·rename_i z B A k;split at h;· rename_i x;obtain⟨⟨r,s,c⟩,j,e⟩:=Pd.1 h;cases e;obtain⟨m,o⟩:=qv g i y k x;obtain⟨⟨Y,v⟩,t⟩:=Us j m o;obtain⟨X,u⟩:=Fl k;exact⟨⟨X++Y,by rw[v,u,Aaj]⟩,t⟩
      ·cases h
     ·cases h
    ·cases h
   grind
  grind
end
section
variable{w:IU}{P:GN}{g:DQ}{ps:Array Tmp}{assign b:Code}{Q:Exit->Act->IU->Prop}{a:Act}{f:FuncId}{us caps:List BZ}{H:Hp}{A O:List Aw}
abbrev EB(D:Nat):Deferred:= {target:= .collected D,args:= #[]}
abbrev BF(D:Nat):Aw:= .Ai D (.deferred (Ac []))
def RT(O:List Aw)(M:List Nat):Fm:=⟨M.map BF++O,M.map EB⟩
def K6(D:Nat)(Of:Fm):Fm:=⟨BF D::Of.O,EB D::Of.ds⟩
abbrev Bj(fn:FuncId)(tmps:Array BZ)(ps:Array Tmp)(assign body:Code)(D:Nat):Loop:= {state:= .ready,pending:=C7,fn,tmps,params:=ps,assign,body,defers:=D}
theorem W6(m:a.eval g= .func (.func f) us.toArray caps.toArray)(d:TM P f)
  (h:∀fn,Calls P f (us++[BZ.func (.yield (w.heap.size+1)) #[] #[]]++caps).toArray ((w.alloc (.deferred (Ac []))).alloc (.loop (Bj fn a.tmps ps assign b w.heap.size))) (λe w'=> ∃v,e= .returned v/\w'.heap[w.heap.size+1]?=Ac (.loop (Bj fn a.tmps ps assign b w.heap.size))/\
   Q .normal {a with defers:=EB w.heap.size::a.defers} (w'.putObj (w.heap.size+1) (.loop {Bj fn a.tmps ps assign b w.heap.size with state:= .exhausted})))):(Alz g ps assign b).wp P Q a w:=by
 refine(wpIn_wide (n:=0)).1 (wpIn_rangeFunc λfn _=>?_);refine⟨w.heap.size+1,[EB w.heap.size],(w.alloc (.deferred (Ac []))).alloc (.loop (Bj fn a.tmps ps assign b w.heap.size)),⟨.fn (.func f) caps.toArray,us.toArray++ #[BZ.func (.yield (w.heap.size+1)) #[] #[]]⟩,(w.alloc (.deferred (Ac []))).alloc (.loop (Bj fn a.tmps ps assign b w.heap.size)),f,(us++[BZ.func (.yield (w.heap.size+1)) #[] #[]]++caps).toArray,(w.alloc (.deferred (Ac []))).alloc (.loop (Bj fn a.tmps ps assign b w.heap.size)),?_,?_,?_,?_,?_,?_⟩;· simp_all[run_enterLoop_outer]
 ·have:a.eval (.const (BZ.func (.yield (w.heap.size+1)) #[] #[]))=BZ.func (.yield (w.heap.size+1)) #[] #[]:=rfl;simp_all[resolve,q8]
 ·exact λ_ _=>trivial
 ·have:=d.run (us++[BZ.func (.yield (w.heap.size+1)) #[] #[]]++caps).toArray ((w.alloc (.deferred (Ac []))).alloc (.loop (Bj fn a.tmps ps assign b w.heap.size)));grind[invoke]
 ·trivial
 ·refine callsIn_wide.2 ((h fn).mono ?_);rintro e w' ⟨v,rfl,k,l⟩;exact⟨C7,_,by simp_all[run_endLoop],l⟩
theorem W5(r:a.eval g= .func (.func f) us.toArray caps.toArray)(l:TM P f)
  (h:∀fn,Calls P f (us++[BZ.func (.yield (w.heap.size+1)) #[] #[]]++caps).toArray ((w.alloc (.deferred (Ac []))).alloc (.loop (Bj fn a.tmps ps assign b w.heap.size))) (λe w'=> ∃v d,e= .returned v/\w'.heap[w.heap.size+1]?=Ac (.loop d)/\d.state≠ .busy/\
   (
    match d.pending with
    |none=>Q .normal {a with defers:=EB w.heap.size::a.defers} (w'.putObj (w.heap.size+1) (.loop {d with state:= .exhausted}))
    |some c=>c.wp P Q {a with defers:=EB w.heap.size::a.defers} (w'.putObj (w.heap.size+1) (.loop {d with state:= .exhausted}))))):(Alz g ps assign b).wp P Q a w:=by
 refine(wpIn_wide (n:=0)).1 (wpIn_rangeFunc λfn _=>?_);refine⟨w.heap.size+1,[EB w.heap.size],(w.alloc (.deferred (Ac []))).alloc (.loop (Bj fn a.tmps ps assign b w.heap.size)),⟨.fn (.func f) caps.toArray,us.toArray++ #[BZ.func (.yield (w.heap.size+1)) #[] #[]]⟩,(w.alloc (.deferred (Ac []))).alloc (.loop (Bj fn a.tmps ps assign b w.heap.size)),f,(us++[BZ.func (.yield (w.heap.size+1)) #[] #[]]++caps).toArray,(w.alloc (.deferred (Ac []))).alloc (.loop (Bj fn a.tmps ps assign b w.heap.size)),?_,?_,?_,?_,?_,?_⟩;· simp_all[run_enterLoop_outer]
 ·have:a.eval (.const (BZ.func (.yield (w.heap.size+1)) #[] #[]))=BZ.func (.yield (w.heap.size+1)) #[] #[]:=rfl;simp_all[resolve,q8]
 ·exact λ_ _=>trivial
 ·have:=l.run (us++[BZ.func (.yield (w.heap.size+1)) #[] #[]]++caps).toArray ((w.alloc (.deferred (Ac []))).alloc (.loop (Bj fn a.tmps ps assign b w.heap.size)));grind[invoke]
 ·trivial
 ·refine callsIn_wide.2 ((h fn).mono ?_);rintro e w' ⟨v,d,rfl,p,q,m⟩;refine⟨d.pending,_,run_endLoop (P:=P) p q,?_⟩;obtain⟨st,s,o,y,x,aS,t,u⟩:=d;cases s with
  |none=>exact m
  |some c=>exact wpIn_wide.2 m
theorem Jn(w:IU)(b:Nat)(o:Obj):w.grownBy (w.putObj b o) (Ac b):=⟨rfl,rfl,rfl,by simp,λk _ a=>IU.putObj_heap_other (λe=>by grind)⟩
theorem Agk{b:Nat}{o:Obj}(h:SH w H (A++ .Ai b o::O))(o':Obj):SH (w.putObj b o') H (A++O):=by
 have g:(A++ .Ai b o::O)[A.length]?=Ac (.Ai b o):=by simp
 have j:w.heap[b]?=Ac o:=h.ok _ _ g;have d:b<w.heap.size:=(Acw.1 j).1;have i:=h.set g (r':= .Ai b o') (Jn w b o') (IU.putObj_heap_same d) (λc hc=> .inl hc);have f:=i.drop A.length;grind
theorem Ahk{x y:Aw}(h:SH w H (x::y::(A++O))):SH w H (A++x::y::O):=by
 refine h.pick (λi=>if i<A.length then i+2 else if i<A.length+2 then i-A.length else i) (λi r a=>?_) λi j _ _ e=>?_
 ·by_cases b:i<A.length;· simp_all[if_true,Pe,Acq]
  ·rw[Aab (by omega)]at a;simp only[b,if_false];by_cases c:i<A.length+2;· grind
   ·simp only[c,if_false];obtain⟨j,rfl⟩:∃j,i=A.length+2+j:=⟨i-(A.length+2),by omega⟩;rw[show A.length+2+j-A.length=j+2 by omega]at a;rw[show A.length+2+j=(A.length+j)+2 by omega];simp_all[Acq,Aab]
 grind
end
section
variable {N : C9} {R : Type} {P : GN} [C4 N P] {C : List (SV N.T)} {CR : List (SR N.T)} {n : Nat} {O : List Aw} {bs : List (Nat × BZ)} {r : R}
section
variable{H:Hp}{st:St N.T}{η:Nat->BZ}{fn:Func}
def FC(l:SV N.T)(cs:List Nat):List (SV N.T):=S8 l++[.no]++cs.map (λc=> .loc c 0)
def oC(C:List (SV N.T))(CR:List (SR N.T))(n:Nat)(st:St N.T)(a:List (SV N.T))(cs:List Nat)(kn:St N.T->Option R):List (PQ N)->Option R
 | []=>C7
 |q::c=>match WI C (An CR st.O) st.nk q a cs (λs b=>match G' CR n st C7 s b with|true=>kn (app st C7 s b)|false=>C7)with
  |some z=>z
  |none=>oC C CR n st a cs kn c
def oE(Φ:Nat->Option (CQ N))(C:List (SV N.T))(CR:List (SR N.T))(n:Nat)(g:DQ)(st:St N.T)(kn:St N.T->Option R):Option R:=match Ax (Cv C st.L) g with
 | .AK f l a=>match u_ l&&a.all λc=>match An CR st.O c with|some (.Ai _ _)=>Bp|_=>Aj with
  |true=>match Φ f with
   |some (.PN b)=>oC C CR n st (FC l a) a kn b
   |_=>C7
  |false=>C7
 |_=>C7
theorem fS{Φ:Nat->Option (CQ N)}(hΦ:∀f q,Φ f=Ac q->Bt P f q){g:DQ}{ps:Array Tmp}{assign d:Code}{kn:St N.T->Option R}{Of:Fm}{a:Act}{w:IU}{Q:Exit->Act->IU->Prop}
  (h:Sat C CR n Of bs st η H a w) (hw:WF C CR bs st) (o:oE Φ C CR n g st kn=Ac r)
  (hn:∀D I η' L a' w',H.le L->Sat C CR n (K6 D Of) bs I η' L a' w'->WF C CR bs I->kn I=Ac r->Q .normal a' w'):(Alz g ps assign d).wp P Q a w:=by
 unfold oE at o;split at o
 ·rename_i f l G hs;
           split at o
  ·rename_i hb;
         rw[AT]at hb;split at o;· rename_i qs hq;have hS:∀q∈qs,Cr P f q:=hΦ f _ hq;clear hq;have hg:=h.ev g;rw[hs]at hg;obtain⟨us,e,hl⟩:=hg;obtain⟨g1,g2⟩:=Nd hb.1 hl;induction qs with
    |nil=>cases o
    |cons q qs ih=>
     unfold oC at o;split at o
     ·rename_i z E;subst o;unfold WI at E;simp only at E;split at E
      ·rename_i m;simp only[AT]at m;split at E
       ·rename_i x hx;obtain⟨y,hy,E⟩:=Bi (Abp E);have W:=hS q (by simp);obtain⟨c1,c2⟩:=Nk (P:=P) (f:=f) (ex:=G) W m.2.2.1 m.2.2.2 (AI m.1) (λp hp=>by simpa using No.1 m.2.1 p hp) hx hy (λj hj=>by unfold An;rw[hw.ok j hj]);split at E
        ·rename_i hsb;have hW:Pj C CR n st C7 ⟨(Jl q y).DO (GU (Hi C (An CR st.O) (λi=>(FC l G).getD i .no) q.pi) q.pi.nk st.nk),q.pi.ro.map (λp=>AZ (Hi C (An CR st.O) (λi=>(FC l G).getD i .no) q.pi) p.1)++G,Pl q (GU (Hi C (An CR st.O) (λi=>(FC l G).getD i .no) q.pi) q.pi.nk st.nk) y⟩ (st.nk+(q.po.nk-q.pi.nk)):=⟨hsb,Nat.le_add_right _ _,c2,λτ _=>VB m.2.2.2⟩;refine W6 (us:=us) (caps:=G.map η) e W.b8 λfn=>?_;have hw1:SH ((w.alloc (.deferred (Ac []))).alloc (.loop (Bj fn a.tmps ps assign d w.heap.size))) H (.Ai (w.heap.size+1) (.loop (Bj fn a.tmps ps assign d w.heap.size))::BF w.heap.size::(h.own.choose.map (·.2)++Of.O)):=by
          have:=(h.own.choose_spec.2.1.alloc (.deferred (Ac []))).alloc (.loop (Bj fn a.tmps ps assign d w.heap.size));simpa using this
         have T:Sat C CR n ⟨.Ai (w.heap.size+1) (.loop (Bj fn a.tmps ps assign d w.heap.size))::BF w.heap.size::Of.O,Of.ds⟩ bs st η H a ((w.alloc (.deferred (Ac []))).alloc (.loop (Bj fn a.tmps ps assign d w.heap.size))):=
          ⟨h.inv,h.defers,h.size,h.Bo,h.base,h.own.choose,h.own.choose_spec.1,Ahk hw1,h.own.choose_spec.2.2.1,h.own.choose_spec.2.2.2⟩;refine T.stepG hw hW (goal:=Calls P f _ _ _) (K:=λv w'=>(w'.heap[w.heap.size+1]?=Ac (.loop (Bj fn a.tmps ps assign d w.heap.size))/\Q .normal {a with defers:=EB w.heap.size::a.defers} (w'.putObj (w.heap.size+1) (.loop {Bj fn a.tmps ps assign d w.heap.size with state:= .exhausted})))) (λY hn' hsh hr hf hk=>?_) λη' L v w' hle u=>?_
         ·refine c1 η H _ _ Y hn' hsh h.inv hr hf (us++[BZ.func (.yield (w.heap.size+1)) #[] #[]]++G.map η) (by simp[FC,g1]) (λi s t=>?_) _ _ (λO' R' ht U hk'=>?_) hk
          ·unfold FC at t;rw[Aaj]at t⊢;by_cases c1':i<(S8 l).length;· rw[Pe c1']at t;rw[Pe (by omega)];exact g2 i s t
           ·rw[Aab (by omega)]at t;rw[Aab (by omega),g1];generalize hj:i-(S8 l).length=j at t⊢;cases j with
            |zero=>
             simp at t;subst t;exact⟨_,rfl,trivial⟩
            |succ j=>
             simp only[Aer,Acd,Acq,Abz]at t⊢;obtain⟨c,hc,rfl⟩:=Pd.1 t;have S:=Aai hc;have M:=No.1 hb.2 c S;refine⟨η c,by rw[hc];rfl,?_⟩;split at M
             ·rename_i g' b hR;rcases hr c (.inl (Acb _ S)) _ hR with e|⟨X,_,B,_,b1,_⟩;· cases e
              ·exact⟨B,b1,b1⟩
             ·cases M
          ·refine(ht _ U).mono ?_;rintro e' w' ⟨v,L,O2,rfl,k2,k3,k4⟩;obtain⟨q1,q2⟩:=hk' v w' L O2 k2 k4 k3;exact⟨v,rfl,q1,q2⟩
         ·obtain⟨Z,y1,y2,y3,y4⟩:=u.own;have t:(Z.map (·.2)++Aw.Ai (w.heap.size+1) (.loop (Bj fn a.tmps ps assign d w.heap.size))::BF w.heap.size::Of.O)[(Z.map (·.2)).length]?=Ac (.Ai (w.heap.size+1) (.loop (Bj fn a.tmps ps assign d w.heap.size))):=by simp
          have hob:w'.heap[w.heap.size+1]?=Ac (.loop (Bj fn a.tmps ps assign d w.heap.size)):=y2.ok _ _ t;refine⟨hob,?_⟩;have V:=Agk (A:=Z.map (·.2)) y2 (.loop {Bj fn a.tmps ps assign d w.heap.size with state:= .exhausted});refine hn w.heap.size _ η' L _ _ hle ⟨u.inv,?_,u.size,u.Bo,u.base,Z,y1,V,y3,y4⟩ (hw.Vt hW) E;show EB w.heap.size::a.defers=EB w.heap.size::Of.ds;rw[h.defers]
        ·cases E
       trivial
      grind
     grind
   grind
  grind
 grind
theorem Ju{fn:Func}{st:St N.T}{η:Nat->BZ}{H:Hp}{X:Ending->IU->Prop} :∀ {M:List Nat} {a:Act} {w:IU},Sat C CR n (RT O M) bs st η H a w->
  (∀w',Sat C CR n (RT O []) bs st η H {a with defers:=[]} w'->∃v,(results fn a.tmps).run P w'= .ok v w'/\X (.returned v) w')->LeavesInM qZ 0 P fn a.tmps X (M.map EB) .returning w
 | [],a,w,h,k=>(λ(_:C4 N P)=>k w ⟨h.inv,rfl,h.size,h.Bo,h.base,h.own⟩) inferInstance
 |D::M,a,w,h,k=>by
  obtain⟨Y,i,j,l,m⟩:=h.own;have c:SH w H (Y.map (·.2)++Aw.Ai D (.deferred (Ac []))::(RT O M).O):=j;have f:(Y.map (·.2)++Aw.Ai D (.deferred (Ac []))::(RT O M).O)[(Y.map (·.2)).length]?=Ac (.Ai D (.deferred (Ac []))):=by simp
  have g:w.heap[D]?=Ac (.deferred (Ac [])):=c.ok _ _ f;refine⟨by simp, .inl ⟨D,_,rfl,run_takeDeferred g,?_⟩⟩;have e:=Agk c (.deferred C7);exact Ju (a:= {a with defers:=M.map EB}) ⟨h.inv,rfl,h.size,h.Bo,h.base,Y,i,e,l,m⟩ k
theorem Ts.ofM{f:FuncId}{c:Code}{vs:List BZ}{R:BZ->Hp->List Aw->Prop}(e:P.funcs[f]?=Ac fn)(d:fn.body=Ac c)(g:fn.ntmps=n)(b:iT vs.length n=Bp)
  (h:∀a w,Fr a n (J3 0 vs)->SH w H O->c.wp P (bodyPostM qZ 0 P fn (Ret H R)) a w):Ts P f vs H O R:=λw i=>by
 subst g;exact(callsIn_wide (n:=0)).1 (callsIn_of_wp_marks e d trivial ((wpIn_wide (n:=0)).2 (h _ w (Fr.enter vs _ b) i)) rfl)
end
end
inductive Gh where
 |fz (t:Nat)
 |own (t:Nat) (g:Gq) (te:Ty)
 |M3 (t off:Nat)
 |Ex (t off:Nat) (g:Gq) (te:Ty)
 |fm (t:Nat) (e:Gq)
structure Cx(N:C9)where
 P:GN
 Φ:Nat->Option (CQ N)
 la:Nat->Option A_
 jn:Nat->Option A_
 pre:Nat->List Gh
 post:Nat->List Gh
 kb:Nat
 n:Nat
 ct:Nat->Nat:=λ_=>0
def Ls:Code->Option Nat
 | .region i _ _=>Ac i
 | .seq a b=>match Ls a with
  |some i=>Ac i
  |none=>Ls b
 | .cond _ a b=>match Ls a with
  |some i=>Ac i
  |none=>Ls b
 | .block _ a=>Ls a
 | .loop a=>Ls a
 | .scope a=>Ls a
 | .rangeFunc _ _ a b=>match Ls a with
  |some i=>Ac i
  |none=>Ls b
 |_=>C7
section
variable {N : C9} {R : Type}
def Qe(C:List (SV N.T))(CR:List (SR N.T)):List Gh->St N.T->(St N.T->Option R)->Option R
 | [],st,k=>k st
 | .fz t::l,st,k=>match Cv C st.L t with
  | .AH j=>match An CR st.O j with
   |some (.row _ a c)=>Qe C CR l (JK j a c st) k
   |some (.Ck _ _ a _ c)=>Ag (c.all (·.1)=Bp) (Qe C CR l (JK j (.sl a) (c.map (·.2)) st) k)
   |_=>C7
  | .d _ _=>Qe C CR l st k
  |_=>C7
 | .own t g a::l,st,k=>match Cv C st.L t with
  | .AH _=>Qe C CR l st k
  | .raw (.slice C7 0 0)=>match C1 CR st st.nk with
   |true=>Qe C CR l ⟨(t, .AH st.nk)::st.L,(st.nk, .row g a [])::st.O,st.nk+1⟩ k
   |false=>C7
  |_=>C7
 | .M3 t off::l,st,k=>match Cv C st.L t with
  | .loc b _=>match An CR st.O b with
   |some (.Ai _ x)=>match EY N C x off C7 with
    |some (.AH j)=>match An CR st.O j with
     |some (.row _ a c)=>Qe C CR l (JK j a c st) k
     |_=>C7
    |_=>C7
   |_=>C7
  |_=>C7
 | .Ex t off g a::l,st,k=>match Cv C st.L t with
  | .loc b _=>match An CR st.O b with
   |some (.Ai i x)=>match EY N C x off C7,C1 CR st st.nk,eV N C 64 x off 1 (.AH st.nk)with
    |some (.raw (.slice C7 0 0)),Bp,Ac m=>Qe C CR l ⟨st.L,(b, .Ai i m)::(st.nk, .row g a [])::st.O,st.nk+1⟩ k
    |_,_,_=>C7
   |_=>C7
  |_=>C7
 | .fm t e::l,st,k=>match Cv C st.L t with
  | .AH b=>match An CR st.O b,C1 CR st st.nk with
   |some (.row g (.sl a) c),Bp=>Qe C CR l ⟨st.L,(b, .Ck g e a st.nk (T8 c.length (Aj,[])))::(st.nk, .gone)::st.O,st.nk+1⟩ k
   |_,_=>C7
  |_=>C7
variable {P : GN} [C4 N P] {C : List (SV N.T)} {CR : List (SR N.T)} {n : Nat} {Of : Fm} {O : List Aw} {bs : List (Nat × BZ)} {r : R}
theorem FF{a:Act}{w:IU}{k:St N.T->Option R}{X:Prop} :∀ {l:List Gh} {st:St N.T} {η:Nat->BZ} {H:Hp},Sat C CR n Of bs st η H a w->WF C CR bs st->Qe C CR l st k=Ac r->
  (∀c η' u,H.le u->Sat C CR n Of bs c η' u a w->WF C CR bs c->k c=Ac r->X)->X
 | [],st,η,H,h,f,b,d=>d st η H (Hp.le.refl H) h f b
 | .fz t::l,st,η,H,h,f,b,d=>by
  unfold Qe at b;split at b
  ·split at b;· rename_i g s D m;obtain⟨u,A,o,p⟩:=Sv h f m;exact FF o p b λc η' i q v y z=>d c η' i (A.trans q) v y z
   ·rename_i g J s Q D m;obtain⟨hc,b⟩:=AE b;obtain⟨u,A,o,p⟩:=qN h f m hc;exact FF o p b λc η' i q v y z=>d c η' i (A.trans q) v y z
   grind
  ·exact FF h f b d
  grind
 | .own t g s::l,st,η,H,h,f,b,d=>by
  unfold Qe at b;split at b;· exact FF h f b d
  ·rename_i e;split at b;· rename_i m;obtain⟨η',o,p⟩:=oL (g:=g) (t:=s) h f m e;exact FF o p b d
   ·cases b
  grind
 | .M3 t off::l,st,η,H,h,f,b,d=>by
  unfold Qe at b;split at b
  ·split at b
   ·split at b
    ·split at b;· rename_i g s D m;obtain⟨u,A,o,p⟩:=Sv h f m;exact FF o p b λc η' i q v y z=>d c η' i (A.trans q) v y z
     ·cases b
    ·cases b
   ·cases b
  ·cases b
 | .Ex t off g s::l,st,η,H,h,f,b,d=>by
  unfold Qe at b;split at b
  ·split at b
   ·rename_i M x I;split at b;· rename_i S B m F;obtain⟨η',o,p⟩:=gj (g:=g) (t:=s) h f m I B F rfl;exact FF o p b d
    ·cases b
   ·cases b
  ·cases b
 | .fm t e::l,st,η,H,h,f,b,d=>by
  unfold Qe at b;split at b
  ·split at b;· rename_i g s D B m;obtain⟨η',o,p⟩:=wQ (e:=e) h f m B;exact FF o p b d
   ·cases b
  ·cases b
def xa(C:List (SV N.T))(st:St N.T)(p:A_):List (SV N.T):=(Lv st.L p.sl C).2
def iS(CR:List (SR N.T))(st:St N.T)(p:A_):List (SR N.T):=(Lw st.O p.ro CR).2
def rv(C:List (SV N.T))(CR:List (SR N.T))(st:St N.T)(p:A_):St N.T:=⟨u9 (Lv st.L p.sl C).1++st.L,nw (Lw st.O p.ro CR).1++st.O,st.nk⟩
def cnK(C:List (SV N.T))(CR:List (SR N.T))(st:St N.T)(p:A_):Bool:=cnB C (xa C st p) CR st p.sl&&CR.all (S4 C.length)
structure Kc(T:Nat->Type)where
 sl:List (Nat×SP)
 ro:List (Nat×RP)
 C:List (SV T)
 CR:List (SR T)
 st:St T
section
variable{H:Hp}{st:St N.T}{η:Nat->BZ}{a:Act}{w:IU}{p:A_}{C':List (SV N.T)}{b:List (SR N.T)}{G:Hp->Fm->R->Prop}{k:St N.T->Option R}{Q:Act->IU->Prop}
def wy(C:List (SV N.T))(CR:List (SR N.T))(st:St N.T)(p:A_):Option (Kc N.T):=match qu p.ro C st with
 |some (b,(a,c))=>match cnK c CR a ⟨p.hs,p.sl,b,p.nk⟩&&CR.all (S4 C.length)with
  |true=>Ac ⟨(Lv a.L p.sl c).1,(Lw a.O b CR).1,xa c a ⟨p.hs,p.sl,b,p.nk⟩,iS CR a ⟨p.hs,p.sl,b,p.nk⟩,rv c CR a ⟨p.hs,p.sl,b,p.nk⟩⟩
  |false=>C7
 |none=>C7
def GP(p:A_)(q:Kc N.T):A_:=⟨p.hs,q.sl,q.ro,p.nk⟩
theorem ru(h:Sat C CR n Of bs st η H a w)(c:WF C CR bs st)(b:cnK C CR st p=Bp):
  (∃X,xa C st p=C++X)/\(∃Z,iS CR st p=CR++Z)/\CR.all (S4 C.length)=Bp/\Sat (xa C st p) (iS CR st p) n Of bs (rv C CR st p) η H a w/\WF (xa C st p) (iS CR st p) bs (rv C CR st p):=by
 unfold cnK at b;rw[AT]at b;exact⟨(KH p.sl C).1,(KI p.ro CR λ_ _ _ _=> .inr trivial).1,b.2,w_ h c b.1⟩
theorem ZO(d:∃X,C'=C++X)(e:∃Z,b=CR++Z)(c:CR.all (S4 C.length)=Bp)(h:Sat C' b n Of bs st η H a w)(f:WF C' b bs st):
  Sat C CR n Of bs (D0 C' b C.length CR.length st) η H a w/\WF C CR bs (D0 C' b C.length CR.length st):=by
 grind[vL]
theorem Ut{q:Kc N.T}(h:Sat C CR n Of bs st η H a w)(m:WF C CR bs st)(b:wy C CR st p=Ac q):
  (∃X,q.C=C++X)/\(∃Z,q.CR=CR++Z)/\CR.all (S4 C.length)=Bp/\Sat q.C q.CR n Of bs q.st η H a w/\WF q.C q.CR bs q.st:=by
 unfold wy at b;split at b
 ·rename_i t o s l;split at b;· rename_i hc;cases b;rw[AT]at hc;obtain⟨⟨X,k⟩,i,j⟩:=Us l h m;obtain⟨⟨c,d⟩,e,_,f,g⟩:=ru i j hc.1;simp_all
  grind
 grind
def Kn(C:List (SV N.T))(CR:List (SR N.T))(n:Nat)(G:Hp->Fm->R->Prop)(bs:List (Nat×BZ))(H:Hp)(k:St N.T->Option R)(Q:Act->IU->Prop):Prop:= ∀Of r st η b a w,H.le b->G b Of r->Sat C CR n Of bs st η b a w->WF C CR bs st->k st=Ac r->Q a w
theorem Kn.le{d:Hp}(h:Kn C CR n G bs H k Q)(c:H.le d):Kn C CR n G bs d k Q:=λOf r st η b a w e=>h Of r st η b a w (c.trans e)
theorem Kn.rs(l:∃X,C'=C++X)(m:∃Z,b=CR++Z)(c:CR.all (S4 C.length)=Bp)(h:Kn C CR n G bs H k Q):
  Kn C' b n G bs H (λs=>k (D0 C' b C.length CR.length s)) Q:=λOf r st η d a w p o g i j=>by
 obtain⟨e,f⟩:=ZO l m c g i;exact h Of r _ η d a w p o e f j
end
end
section
variable {N : C9} {C : List (SV N.T)} {CR : List (SR N.T)} {n : Nat} {Of : Fm} {bs : List (Nat × BZ)} {st : St N.T} {η : Nat -> BZ} {H : Hp} {a : Act} {w : IU}
section
variable{T:Nat->Type}{Hs:List (Nat×SV N.T)}{m:List (Nat×Nat)}{b:List HT}{x:BJ N b}{t:Ty}{v:t.den N.T}{ρ:Nat->Nat}{A:Nat->SV N.T}{q:A_}{O:List (Nat×SR N.T)}
def kp1:SV T->SV T->Bool
 | .AH k, .AH j=>Hh k j
 | .mp k, .mp j=>Hh k j
 | .AK f .vn c, .AK g .vn b=>Hh f g&&Nl c b
 | .px c .sf, .px b .sf=>Nl c b
 |_,_=>Aj
theorem qt{T:Nat->Type}{a b:SV T}(h:kp1 a b=Bp):a=b:=by
 unfold kp1 at h;split at h;· simp_all
 ·simp_all
 ·grind[aU,Fx]
 all_goals grind[Fx]
def kpV(p:SP)(a b:SV T):Bool:=match p with
 | .v _ t=>match a,b with
  | .d _ _, .d c _=>c.JO t
  |_,_=>Aj
 |_=>kp1 a b
def zN{T:Nat->Type} :List (Nat×SP)->SV T->SV T->Bool
 | [], .nl, .nl=>Bp
 |(s,p)::c, .lf n a l, .lf m b r=>Hh s m&&(Hh n m&&(aX 0 m&&(kpV p a b&&zN c l r)))
 |_,_,_=>Aj
def wx(p:RP)(a b:SR T):Bool:=match p,a,b with
 | .row _ _, .row c _ _, .row d _ _=>Hh c d
 | .Ai _ e, .Ai c a, .Ai d b=>Hh c d&&zN e a b
 |_,_,_=>Aj
theorem RC(i:dI C Hs (Cu N b x)){j:Nat}(o:(j,SV.d t v)∈Hs):Cu N b x j= .no\/(∃k,Cu N b x j= .na k)\/Cu N b x j= .d t v:=by
 rcases i.ok j _ o with e|⟨h,y,c,g⟩;· grind
 ·cases h with
  |nat=>trivial
  |Ae t2=>
   have c:eZ N t2 (.d t v)=Ac y:=c;obtain⟨f,m,rfl⟩:=Pd.1 c;obtain⟨l,rfl⟩:=BB m;have e:=Adn l;subst e;exact .inr (.inr g)
theorem qm{t2:Ty}{m:Nat}{r:SV N.T}(g:aX 0 m=Bp)(b:t.JO t2=Bp):EY N C (.lf m (.d t v) r) 0 (Ac t2)=Ac (.d t v):=by
 have e:=Adn b;subst e;have c:Fg N 16 t v 0 t=Ac v:=by unfold Fg Qp;rw[dif_pos b];rfl
 grind[EY,Hh,PS,res,Fg]
theorem ql{s:Nat}{a l:SV N.T}{o:Nat}{b:Option Ty} :EY N C (.lf s a l) (s+o) b=EY N C l o b:=by
 have h:aX (s+o) s=Aj:=by
  cases c:aX (s+o) s with
  |false=>rfl
  |true=>
   have:s+o<s:=by simp_all
   omega
 simp_all[EY]
theorem a8{g:List HT}{x:BJ N g}{Hs:List (Nat×SV N.T)}{b:SV N.T}{ρ:Nat->Nat}(A:dI C Hs (Cu N g x)):∀(ls:List (Nat×SP)) (off:Nat) (f:SV N.T),(∀o i,EY N C b (off+o) i=EY N C f o i)->(∀q∈NO off ls,∀j t,q.2.2= .v j t->(j,(EY N C b q.1 (Ac t)).getD .no)∈Hs)->zN ls ((instL N g x ls).DO ρ) f=Bp->(instL N g x ls).DO ρ=f
 | [],_,f,_,_,h=>by
  cases f with
  |nl=>rfl
  |_=>cases h
 |(s,p)::ls,off,f,D,E,h=>by
  cases f with
  |lf m d r=>
   have h:(Hh s m&&(Hh s m&&(aX 0 m&&(kpV p ((inst N g x p).DO ρ) d&&zN ls ((instL N g x ls).DO ρ) r))))=Bp:=h;simp only[AT]at h;obtain⟨e,_,G,u,I⟩:=h;have e:=AI e;subst e;have K:=a8 (Hs:=Hs) (b:=b) (ρ:=ρ) A ls (off+s) r (λo i=>by rw[Ado,D,ql]) (λq y=>E q (Aag _ y)) I;have J:(inst N g x p).DO ρ=d:=by
    unfold kpV at u;split at u
    ·rename_i j t;split at u
     ·rename_i L M t2 O l;have B:=E (off,s, .v j t) (Aau ..) j t rfl;have F:EY N C b off (Ac t)=Ac (.d t2 O):=by
       rw[show off=off+0 from rfl,D];exact qm G u
      rw[F]at B;have l:(Cu N g x j).DO ρ= .d L M:=l;rcases RC A B with e|⟨k,e⟩|e;· rw[e]at l;cases l
      ·rw[e]at l;cases l
      ·show(Cu N g x j).DO ρ=_;rw[e];rfl
     grind
    grind[qt]
   show SV.lf s ((inst N g x p).DO ρ) ((instL N g x ls).DO ρ)=_;grind
  |_=>cases h
theorem qp{i:List HT}{x:BJ N i}(v:dI C Hs (Cu N i x)){p:RP}{f:SR N.T}(h1:∀g j r t l,p= .row g j->f= .row r t l->(j,SV.d (.sl t) l)∈Hs)(h2:∀g ls r b,p= .Ai g ls->f= .Ai r b->∀z∈qK N C b ls,z∈Hs)(h:wx p ((instR N i x p).DO ρ) f=Bp):(instR N i x p).DO ρ=f:=by
 unfold wx at h;split at h
 ·rename_i g j s F D u t2 E e;have A:=h1 g j u t2 E rfl rfl;have e:(match Cu N i x j with
   | .d (.sl t) l=>SR.row g t l
   |_=> .gone:SR N.T).DO ρ= .row s F D:=e;show(match Cu N i x j with
   | .d (.sl t) l=>SR.row g t l
   |_=> .gone:SR N.T).DO ρ=_;rcases RC v A with m|⟨k,m⟩|m;· rw[m]at e;cases e
  ·rw[m]at e;cases e
  ·rw[m]at e⊢;cases e;rw[<-AI h];rfl
 ·rename_i g ls s a u b e;rw[AT]at h;have e:SR.Ai g ((instL N i x ls).DO ρ)= .Ai s a:=e;cases e;have:=a8 (Hs:=Hs) (b:=b) (ρ:=ρ) v ls 0 b (λo y=>by simp) (λq B j t e=>h2 g ls u b rfl rfl _ ((GF B).1 j t e)) h.2;simp_all
 grind
theorem b6{Rr:Nat->Option (SR N.T)}{x:BJ N q.hs}(d:JP C Rr A m q=Ac x):dI C (eW C A q.sl++eX C Rr m q.ro) (Cu N q.hs x):=by
 unfold JP at d;split at d;· rename_i b;simp only[AT]at b;obtain⟨l,p,o,i⟩:=b;have c:=BK i;exact⟨λj s k=>by
  rcases JJ q.hs 0 x d j with e|⟨h,y,f,g⟩;· grind
  ·refine .inr ⟨h,y,?_,g⟩;rw[Abl,CK c k]at f;exact f⟩
 grind
def Y2(CR:List (SR N.T))(b:List HT)(x:BJ N b)(m:List (Nat×Nat))(O:List (Nat×SR N.T)):List (Nat×RP)->List (Nat×SR N.T)
 | []=>[]
 |p::l=>match Ay O (AZ m p.1)with
  |some (.Cw j)=>match wx p.2 ((instR N b x p.2).DO (AZ m)) (C6 CR (.Cw j))with
   |true=>(AZ m p.1, .Cw j)::Y2 CR b x m O l
   |false=>Y2 CR b x m O l
  |_=>Y2 CR b x m O l
def UP(l:List (Nat×SR N.T))(st:St N.T):St N.T:=⟨st.L,l++st.O,st.nk⟩
theorem QH{b:List HT}{x:BJ N b}{m:List (Nat×Nat)}{O:List (Nat×SR N.T)} :∀ {l:List (Nat×RP)} {z:Nat×SR N.T},z∈Y2 CR b x m O l->∃p∈l,z.1=AZ m p.1/\Ay O z.1=Ac z.2/\wx p.2 ((instR N b x p.2).DO (AZ m)) (C6 CR z.2)=Bp
 | [],z,h=>by cases h
 |p::l,z,h=>by
  unfold Y2 at h;have d:z∈Y2 CR b x m O l->∃c∈p::l,z.1=AZ m c.1/\Ay O z.1=Ac z.2/\wx c.2 ((instR N b x c.2).DO (AZ m)) (C6 CR z.2)=Bp:=λh=>by obtain⟨c,f,g⟩:=QH h;grind
  grind
theorem xg{x:BJ N q.hs}(G:JP C (An CR O) A m q=Ac x)(r:(q.ro.map λp=>AZ m p.1).Nodup)(k:Nat):An CR (Y2 CR q.hs x m O q.ro++((q.ro.map λp=>(AZ m p.1,(instR N q.hs x p.2).DO (AZ m)))++O)) k=An CR ((q.ro.map λp=>(AZ m p.1,(instR N q.hs x p.2).DO (AZ m)))++O) k:=by
 have s:=b6 G;cases o:Ay (Y2 CR q.hs x m O q.ro) k with
 |none=>grind[An,BT]
 |some v=>
  obtain⟨p,u,e,y,B⟩:=QH (A4 o);have e:k=AZ m p.1:=e;have d:An CR O (AZ m p.1)=Ac (C6 CR v):=by grind[An]
  have key:=qp (ρ:=AZ m) s (λg j D t l i h=>Acb _ (Aad.2 ⟨p,u,by simp_all⟩)) (λg J D b i h z I=>Acb _ (Aad.2 ⟨p,u,by rw[i,d,h];exact I⟩)) B;have F:Ay ((q.ro.map λp=>(AZ m p.1,(instR N q.hs x p.2).DO (AZ m)))++O) k=Ac ((instR N q.hs x p.2).DO (AZ m)):=by
   have E:Ay (q.ro.map λp=>(AZ m p.1,(instR N q.hs x p.2).DO (AZ m))) k=Ac ((instR N q.hs x p.2).DO (AZ m)):=by rw[e];exact CK (by unfold keys;rw[Aam];exact r) (By.2 ⟨p,u,rfl⟩)
   rw[BT,E]
  unfold An;rw[BT,o,F,key];show Ac (C6 CR v)=Ac (C6 CR (C6 CR v));rw[<-key];cases instR N q.hs x p.2<;>rfl
theorem xh{l:List (Nat×SR N.T)}(h:Sat C CR n Of bs st η H a w)(b:WF C CR bs st)(q:∀k,An CR (l++st.O) k=An CR st.O k)(p:∀z∈l,z.1<st.nk):Sat C CR n Of bs (UP l st) η H a w/\WF C CR bs (UP l st):=by
 have e:An CR (UP l st).O=An CR st.O:=funext q;refine⟨⟨h.inv,h.defers,h.size,h.Bo,h.base,?_⟩,⟨b.lo,λj d=>?_,?_,b.mC,b.cP⟩⟩;· obtain⟨Y,g,i,m,o⟩:=h.own;exact⟨Y,g,i,m,λk r f=>o k r (by simp_all)⟩
 ·show Ay (l++st.O) j=C7;rw[BT];cases c:Ay l j with
  |none=>exact b.ok j d
  |some v=>exact absurd (p _ (A4 c)) (Nat.not_lt.2 d)
 ·rw[e];exact b.wf
end
end
section
variable{ro:Option Nat}{n:Nat}{P:GN}{w:IU}{f:FuncId}{vs:Array BZ}{R:Ending->IU->Prop}{o:K7}
abbrev FR:Option Nat->Fence
 |none=>qZ
 |some l=>qZ.inRound l
theorem WY(ro:Option Nat)(f:FuncId):(FR ro).fn f:=by cases ro<;>trivial
theorem dP(h:Calls P f vs w R):CallsIn (FR ro) n P f vs w R:=by
 cases ro with
 |none=>grind[callsIn_wide]
 |some l=>exact(callsIn_wide (n:=n)).2 h
theorem jD{s:String}{R:BZ->IU->Prop}(h:Rows P s vs w R):RowsIn (FR ro) n P s vs w R:=λc a _=>by
 obtain⟨v,e,b,d⟩:=h c a;refine⟨v,e,b,?_⟩;cases ro with
 |none=>grind[stepsIn_wide]
 |some l=>exact stepsIn_wide.2 d
theorem dN{l:Nat}{b:Array BZ}{d a:Code}(h:RoundIn qZ 0 P l f b d a w R):RoundIn (FR ro) n P l f b d a w R:=by refine⟨WY ro f,λc e _=>?_⟩;have:=h.2 c e (room_wide _);cases ro<;>exact this
theorem dO(ro:Option Nat):(FR ro).depth=C7:=by cases ro<;>rfl
theorem sH:(FR ro).depth.isSome=Bp->1<=n:=λh=>by grind[dO]
def VP(o:K7):Bool:=match o.op with
 | .defer _=>Aj
 |_=>Bp
theorem aq(h:VP o=Bp):∀c,o.op≠ .defer c:=λc e=>by grind[VP]
theorem Ahe{a:Act}{K:Act->IU->Prop}{Q:Exit->Act->IU->Prop}(b:VP o=Bp)(h:o.wp P a w K Q):o.wpIn (FR ro) 0 P a w K Q:=by
 refine⟨λf _=>WY ro f,?_⟩;rw[K7.semAt_eq _ _ _ (aq b)];unfold K7.wp at h;revert h;generalize(Kt a.eval o).run P w=z;intro h;unfold K7.upon at h;split at h;· exact h
 ·exact h
 ·exact h
 ·exact⟨sH,dP h⟩
 ·exact⟨sH,jD h⟩
 all_goals trivial
end
section
variable {N : C9} {R : Type}
structure YL(N:C9)(R:Type)where
 ky:Nat
 f:List (SV N.T)->List (SV N.T)->(Bool->Option R)->Option R
 ag:R->R->Option R:=λ_ _=>C7
 nI:∀a b r,ag a b=Ac r->a=r/\b=r:=by intros;contradiction
section
variable{α:Type}{P:GN}{Y:List (Nat×Aw)}{x:α}{T:Nat->Type}{C:List (SV N.T)}{a:Act}{yv:BZ}{H:Hp}{η:Nat->BZ}{o:K7}{cs:List Nat}{g:Nat->Nat}
def agE[DecidableEq α](x y:α):Bool:=Dl (x=y)
theorem UZ[DecidableEq α]{y:α}(h:agE x y=Bp):x=y:=of_decide_eq_true h
def agN:List α->List α->Bool
 | [],[]=>Bp
 |_,_=>Aj
theorem sA:∀ {x y:List α},agN x y=Bp->x=y
 | [],[],_=>rfl
 | [],_::_,h=>by cases h
 |_::_,_,h=>by cases h
def agT:(t:Ty)->t.den T->t.den T->Bool
 | .int _,x,y=>agE (α:=Int) x y
 | .bool,x,y=>agE (α:=Bool) x y
 | .str,x,y=>agE (α:=Aq) x y
 | .sl t,x,y=>agN (α:=t.den T) x y
 |_,_,_=>Aj
theorem sw:∀ {t:Ty} {x y:t.den T},agT t x y=Bp->x=y
 | .int _,_,_,h=>UZ (α:=Int) h
 | .bool,_,_,h=>UZ (α:=Bool) h
 | .str,_,_,h=>UZ (α:=Aq) h
 | .sl _,_,_,h=>sA h
 | .st _,_,_,h=>by cases h
 | .pr _ _,_,_,h=>by cases h
 | .un,_,_,h=>by rfl
 | .bs,_,_,h=>by cases h
 | .nm _,_,_,h=>by cases h
 | .ar _ _,_,_,h=>by cases h
def agH:(h:HT)->h.den N->h.den N->Bool
 | .Ae t,x,y=>agT t x y
 | .nat,x,y=>Hh x y
theorem dz:∀ {h:HT} {x y:h.den N},agH h x y=Bp->x=y
 | .Ae t,_,_,h=>sw (t:=t) h
 | .nat,_,_,h=>AI h
def agP:(a:List HT)->BJ N a->BJ N a->Bool
 | [],_,_=>Bp
 | [t],x,y=>agH t x y
 |t::u::ts,x,y=>agH t x.1 y.1&&agP (u::ts) x.2 y.2
theorem dy:∀ {a:List HT} {x y:BJ N a},agP a x y=Bp->x=y
 | [],_,_,_=>rfl
 | [_],_,_,h=>dz h
 |t::u::b,(x,c),(y,d),h=>by have h:(agH t x y&&agP (u::b) c d)=Bp:=h;rw[AT]at h;rw[dz h.1,dy h.2]
def agO(b:Bool)(x:α):Option α:=match b with
 |true=>Ac x
 |false=>C7
theorem Nr{b:Bool}{r:α}(h:agO b x=Ac r):b=Bp/\x=r:=by cases b<;>cases h;simp
def noP(b:List HT):YL N (BJ N b):= {ky:=0,f:=λ_ _ _=>C7,ag:=λx y=>agO (agP b x y) x,nI:=λ_ _ _ h=>⟨(Nr h).2,(dy (Nr h).1).symm.trans (Nr h).2⟩}
structure QO(P:GN)(bs:List (Nat×BZ))(yl:YL N R)(yv:BZ)(G:Hp->Fm->R->Prop):Prop where
 mem:∀C As k r,yl.f C As k=Ac r->(yl.ky,yv)∈bs
 ok:∀C As k r Of H,N.inv H->G H Of r->yl.f C As k=Ac r->∀η A vs w,vs.length=As.length->(∀(i:Nat) (s:SV N.T),As[i]?=Ac s->∃v,vs[i]?=Ac v/\s.is C η H v)->SH w H (A++Of.O)->
  I6 P yv vs w λb w'=> ∃H' Of' r',H.le H'/\Of'.ds=Of.ds/\SH w' H' (A++Of'.O)/\G H' Of' r'/\k b=Ac r'
theorem pM{a:List HT}{bs:List (Nat×BZ)}{G:Hp->Fm->BJ N a->Prop} :QO P bs (noP a:YL N (BJ N a)) yv G:=⟨(λ_ _ _ _ h=>by cases h),(λ_ _ _ _ _ _ _ _ h=>by cases h)⟩
def QY:(ts:List Ty)->DP N ts->List (SV N.T)
 | [],_=>[]
 | [t],x=>[.d t x]
 |t::u::ts,x=> .d t x.1::QY (u::ts) x.2
theorem UH{C:List (SV N.T)}{H:Hp}{η:Nat->BZ} :∀(ts:List Ty) (y:DP N ts) (vs:List BZ),YV H ts y vs->vs.length=(QY ts y).length/\(QY ts y).length=ts.length/\∀(i:Nat) (s:SV N.T),(QY ts y)[i]?=Ac s->∃v,vs[i]?=Ac v/\s.is C η H v
 | [],_,vs,h=>by subst h;exact⟨rfl,rfl,λi s b=>by trivial⟩
 | [t],y,vs,⟨v,e,c⟩=>by
  subst e;refine⟨rfl,rfl,λi s b=>?_⟩;cases i with
  |zero=>simp[QY]at b;subst b;exact⟨v,rfl,Wn c⟩
  |succ i=>trivial
 |t::u::ts,y,vs,⟨v,g,e,c,f⟩=>by
  subst e;obtain⟨j,k,d⟩:=UH (u::ts) y.2 g f;refine⟨by grind[QY],by grind[QY],λi s b=>?_⟩;cases i with
  |zero=>simp[QY]at b;subst b;exact⟨v,rfl,Wn c⟩
  |succ i=>exact d i s (by trivial)
theorem jf{S:Nat->SV N.T}{Rr:Nat->Option (SR N.T)}{x:DQ}{xs:List DQ}{tys:Array Gq}{c:Ca N.T}(M:o.op= .call {callee:= .value x,args:=xs.toArray,argTypes:=tys})(h:Tf S Rr x xs=Ac c)(r:TM P c.f)(V:∀x,(Ax S x).is C η H (a.eval x))(O:∀k∈c.cs,∀F,Rr k=Ac F->DU C η H Y k F):
  ∃vs:List BZ,vs.length=c.As.length/\(∀(i:Nat) (s:SV N.T),c.As[i]?=Ac s->∃v,vs[i]?=Ac v/\s.is C η H v)/\∀w (K:Act->IU->Prop) Q,Calls P c.f vs.toArray w (λe w'=> ∃v,e= .returned v/\K (a.put o.dst v) w')->o.wp P a w K Q:=by
 unfold Tf at h;split at h
 ·rename_i f l y T;split at h
  ·rename_i z;cases h;rw[AT]at z;have u:(Ax S x).is C η H (a.eval x):=V x;rw[T]at u;obtain⟨A,e,L⟩:=u;obtain⟨G,Z⟩:=Nd z.1 L;refine⟨A++xs.map a.eval++y.map η,by grind,λi s n=>?_,λw K Q U=>?_⟩
   ·rw[Aaj]at n⊢;by_cases W:i<(S8 l).length;· grind
    ·rw[Aab (by omega)]at n;rw[Aab (by omega),G];by_cases E:i-(S8 l).length<xs.length;· rw[Pe (by simp_all),Abz]at n;grind
     ·rw[Aab (by simpa using E),Abz]at n;rw[Aab (by simpa using E),Abz];simp only[Aal]at n⊢;obtain⟨c,hc,rfl⟩:=Pd.1 n;have q:=Aai hc;have p:=No.1 z.2 c q;refine⟨η c,by rw[hc];rfl,?_⟩;split at p
      ·rename_i g b J;rcases O c q _ J with e|⟨X,_,B,_,D,_⟩;· cases e
       ·exact⟨B,D,D⟩
      ·cases p
   ·have t:(Kt a.eval o).run P w= .ok (.enter f (A++xs.map a.eval++y.map η).toArray) w:=by
     have:=r.run (A++xs.map a.eval++y.map η).toArray w;simp[Kt,M,resolve,q8,e,invoke]at this⊢;rw[this]
    unfold K7.wp;rw[t];refine Calls.mono U ?_;rintro e w' ⟨v,rfl,I⟩;exact I
  grind
 grind
theorem oz(l:(keys Y).Nodup)(hc:cs.Nodup)(n:(cs.map g).Nodup)(r:∀c∈cs,∃X,Ay Y (g c)=Ac X):
  keys (cs.map λc=>(c,(Ay Y (g c)).getD .emp))=cs/\(∀c∈cs,Ay (cs.map λc=>(c,(Ay Y (g c)).getD .emp)) c=Ay Y (g c))/\
  ∀w H O,SH w H (Y.map (·.2)++O)->SH w H ((cs.map λc=>(c,(Ay Y (g c)).getD .emp)).map (·.2)++((Y.filter λp=> !B_ (cs.map g) p.1).map (·.2)++O)):=by
 have i:keys (cs.map λc=>(c,(Ay Y (g c)).getD .emp))=cs:=by unfold keys;rw[Aam];exact Afm _
 refine⟨i,λc d=>?_,λw H O f=>?_⟩;· have o:=CK (Y:=cs.map λc=>(c,(Ay Y (g c)).getD .emp)) (by grind) (By.2 ⟨c,d,rf⟩);grind
 ·have j:=SH.Rd f (Z:=(cs.map λc=>(g c,(Ay Y (g c)).getD .emp))++Y.filter λp=> !B_ (cs.map g) p.1) (by
   have e:keys (cs.map λc=>(g c,(Ay Y (g c)).getD .emp))=cs.map g:=by simp[keys]
   unfold keys at e⊢;rw[Aak,e];refine Acv.2 ⟨n,(Acs.map _).nodup l,λk i s m e=>?_⟩;grind[AU]) (λp q=>by
   grind[CK]);rw[Aak,Aam,Aaj]at j;rw[Aam];exact j
theorem wz{Yc:List (Nat×Aw)}(j:(keys Y).Nodup)(l:(cs.map g).Nodup)(b:keys Yc=cs):
  keys (Yc.map λp=>(g p.1,p.2))=cs.map g/\(keys ((Yc.map λp=>(g p.1,p.2))++Y.filter λp=> !B_ (cs.map g) p.1)).Nodup/\
  (∀c X,Ay Yc c=Ac X->Ay ((Yc.map λp=>(g p.1,p.2))++Y.filter λp=> !B_ (cs.map g) p.1) (g c)=Ac X)/\(∀k,k∉cs.map g->Ay ((Yc.map λp=>(g p.1,p.2))++Y.filter λp=> !B_ (cs.map g) p.1) k=Ay Y k)/\
  ∀w H O,SH w H (Yc.map (·.2)++((Y.filter λp=> !B_ (cs.map g) p.1).map (·.2)++O))->SH w H (((Yc.map λp=>(g p.1,p.2))++Y.filter λp=> !B_ (cs.map g) p.1).map (·.2)++O):=by
 have e:keys (Yc.map λp=>(g p.1,p.2))=cs.map g:=by unfold keys at b⊢;rw[Aam,<-b,Aam];rfl
 have h:(keys ((Yc.map λp=>(g p.1,p.2))++Y.filter λp=> !B_ (cs.map g) p.1)).Nodup:=by unfold keys at e⊢;rw[Aak,e];refine Acv.2 ⟨l,(Acs.map _).nodup j,λk b n d e=>?_⟩;grind[AU]
 refine⟨e,h,λc X i=>CK h (Abt _ (By.2 ⟨_,A4 i,rf⟩)),λk d=>?_,λw H O m=>?_⟩;· grind[BT,Cz,LP]
 ·rw[Aak,Aam,Aaj];trivial
def okJ(q:JQ N):Bool:=Ci (q.pi.ro.map (·.1))
def NK(q:JQ N)(x:BJ N q.pi.hs)(m:List (Nat×Nat))(cs:List Nat):Bx N.T:=⟨.no,cs,q.pi.ro.map λp=>(AZ m p.1,(instR N q.pi.hs x p.2).DO (AZ m))⟩
def rh(q:JQ N)(d:Option Nat)(b:Bool)(st:St N.T):St N.T:=match q.rb,d with
 |true,Ac t=>Ko t (.lb b) st
 |_,_=>st
def b_(a:YL N R)(C:List (SV N.T))(ts:List Ty)(kb:Bool->Option R):List (DP N ts)->Option Bool->Option R
 | [],Ac b=>kb b
 | [],C7=>C7
 |y::l,b=>a.f C (QY ts y) λc=>match c with
  |true=>b_ a C ts kb l b
  |false=>kb Aj
def jq1(c:YL N R)(C:List (SV N.T))(CR:List (SR N.T))(n:Nat)(d:Option Nat)(st:St N.T)(a:List (SV N.T))(cs:List Nat)(kn:St N.T->Option R)(q:JQ N):Option (Option R):=
 match Hh a.length q.pi.sl.length&&(q.pi.sl.all (λp=>aX p.1 a.length)&&okJ q)with
 |false=>C7
 |true=>match JP C (An CR st.O) (λi=>a.getD i .no) (Hi C (An CR st.O) (λi=>a.getD i .no) q.pi) q.pi with
  |none=>C7
  |some x=>match Hh (AZ (Hi C (An CR st.O) (λi=>a.getD i .no) q.pi) q.ky) c.ky&&G' CR n st d (NK q x (Hi C (An CR st.O) (λi=>a.getD i .no) q.pi) cs) st.nk with
   |false=>C7
   |true=>Ac (Ab (q.F x) λr=>b_ c C q.ts (λb=>kn (rh q d b (UP (Y2 CR q.pi.hs x (Hi C (An CR st.O) (λi=>a.getD i .no) q.pi) st.O q.pi.ro) (app st d (NK q x (Hi C (An CR st.O) (λi=>a.getD i .no) q.pi) cs) st.nk)))) r.1 r.2)
def zO(f:JQ N->Option (Option R)):List (JQ N)->Option R
 | []=>C7
 |q::l=>match f q with
  |some z=>z
  |none=>zO f l
theorem Se{f:JQ N->Option (Option R)}{r:R} :∀ {l:List (JQ N)},zO f l=Ac r->∃q∈l,f q=Ac (Ac r)
 | [],h=>by cases h
 |q::l,h=>by
  unfold zO at h;split at h;· grind
  ·obtain⟨c,a,b⟩:=Se h;grind
def qB(
     d:YL N R) (Φ:Nat->Option (CQ N)) (C:List (SV N.T)) (CR:List (SR N.T)) (n:Nat) (o:K7) (st:St N.T) (kn:St N.T->Option R):Option (Option R):=match o.op with
 | .call {callee:= .value x,args:=⟨xs⟩,argTypes:=_} =>match Ax (Cv C st.L) x with
  | .AK f _ _=>match Φ f with
   |some (.qz b)=>match Tf (Cv C st.L) (An CR st.O) x xs with
    |some c=>match Hh f c.f with
     |true=>Ac (zO (jq1 d C CR n o.dst st c.As c.cs kn) b)
     |false=>C7
    |none=>C7
   |_=>C7
  |_=>C7
 |_=>C7
theorem gU{C:List (SV N.T)}{CR:List (SR N.T)}{n:Nat}{Of:Fm}{bs:List (Nat×BZ)}{st:St N.T}{η:Nat->BZ}{H:Hp}{a:Act}{w:IU}{P:GN} [C4 N P]{Φ:Nat->Option (CQ N)}{G:Hp->Fm->R->Prop}{yl:YL N R}{yv:BZ}
  (hΦ:∀f q,Φ f=Ac q->Bt P f q) (hG:∀H l Of r,H.le l->G H Of r->G l Of r) (hY:QO P bs yl yv G) {o:K7} {kn:St N.T->Option R} {r:R} (hg:G H Of r) (h:Sat C CR n Of bs st η H a w) (hw:WF C CR bs st) (E:qB yl Φ C CR n o st kn=Ac (Ac r)) {K:Act->IU->Prop} {Q:Exit->Act->IU->Prop}
  (hK:∀d r' st' η' l a' w',H.le l->G l d r'->Sat C CR n d bs st' η' l a' w'->WF C CR bs st'->kn st'=Ac r'->K a' w'):o.wp P a w K Q:=by
 unfold qB at E;split at E;case h_2=>grind
 rename_i x xs tys ho;split at E;case h_2=>grind
 split at E;case h_2=>grind
 rename_i qs hq;split at E;case h_2=>grind
 rename_i c hcal;split at E;case h_2=>grind
 rename_i hf;have hf:=AI hf;subst hf;obtain⟨q,hqm,E⟩:=Se (Abp E);have hsp:I7 P c.f q:=hΦ _ _ hq q hqm;unfold jq1 at E;split at E;· grind
 rename_i M;simp only[AT]at M;obtain⟨ck1,ck2,ck3⟩:=M;split at E;· grind
 rename_i z hz;generalize hm:Hi C (An CR st.O) (λi=>c.As.getD i .no) q.pi=m at hz E;split at E;· grind
 rename_i M;rw[AT]at M;obtain⟨ck4,ck5⟩:=M;have ck4:=AI ck4;obtain⟨⟨ys,b0⟩,hys,E⟩:=Bi (Abp E);have hnr:=BK ck3;have hkw:keys (NK q z m c.cs).wr=(q.pi.ro.map (·.1)).map (AZ m):=by unfold keys NK;rw[Aam,Aam];rfl
 have hlt:∀p∈q.pi.sl,p.1<c.As.length:=λp D=>by simpa using No.1 ck2 p D
 have b8:∀Y,(∀k,(k∈c.cs\/k∈keys (NK q z m c.cs).wr)->∀L,An CR st.O k=Ac L->DU C η H Y k L)->∃vs:List BZ,vs.length=q.pi.sl.length/\(q.pi.ro.map λp=>AZ m p.1).Nodup/\(∀p∈q.pi.sl,∃v,vs[p.1]?=Ac v/\(inst N q.pi.hs z p.2).is [] (λc=>η (AZ m c)) H v)/\
   (∀p∈q.pi.ro,(∃L,An CR st.O (AZ m p.1)=Ac L)/\∃X,Ay Y (AZ m p.1)=Ac X/\(instR N q.pi.hs z p.2).is [] (λc=>η (AZ m c)) H p.1 X)/\∀w (K:Act->IU->Prop) Q,Calls P c.f vs.toArray w (λe w'=> ∃v,e= .returned v/\K (a.put o.dst v) w')->o.wp P a w K Q:=λY hr=>by
  obtain⟨vs,v1,v2,v3⟩:=jf ho hcal hsp.b8 (λx=>h.ev x) (Y:=Y) (λk hk L B=>hr k (.inl hk) L B);have J:vs.length=q.pi.sl.length:=by rw[v1];exact AI ck1
  obtain⟨V,e2,e3⟩:=LV (C:=C) (η:=η) (H:=H) (Y:=Y) (vs:=vs) (A:=λi=>c.As.getD i .no) hz J (λp D=>by obtain⟨v,g1,g2⟩:=v2 p.1 (c.As[p.1]'(hlt p D)) (GB (hlt p D));refine⟨v,g1,?_⟩;rw[Aaa,GB (hlt p D)];exact g2) (λp D L B=>hr _ (.inr (by exact By.2 ⟨_,By.2 ⟨p,D,rfl⟩,rfl⟩)) L B);exact⟨vs,J,V,e2,e3,v3⟩
 have hW:Pj C CR n st o.dst (NK q z m c.cs) st.nk:=⟨ck5,Aae _,λj hj S=>(by
  obtain⟨_,_,_,_,e3,_⟩:=b8 h.own.choose λk _ L B=>h.own.choose_spec.2.2.2 k L B;obtain⟨p,D,rfl⟩:=By.1 hj;obtain⟨p',hp',rfl⟩:=By.1 D;obtain⟨⟨L,B⟩,_⟩:=e3 p' hp';rw[B]at S;cases S),λτ _=>trivial⟩;have u:=ck5;unfold G' at u;simp only[AT]at u;have u:=u.1.1;have hbk:∀ {η':Nat->BZ} {l:Hp} {d:Fm} {a':Act} {w':IU},Sat C CR n d bs (app st o.dst (NK q z m c.cs) st.nk) η' l a' w'->Sat C CR n d bs (UP (Y2 CR q.pi.hs z m st.O q.pi.ro) (app st o.dst (NK q z m c.cs) st.nk)) η' l a' w'/\WF C CR bs (UP (Y2 CR q.pi.hs z m st.O q.pi.ro) (app st o.dst (NK q z m c.cs) st.nk)):=λhs'=>
  xh hs' (hw.Vt hW) (λk=>xg hz (by obtain⟨_,_,V,_⟩:=b8 h.own.choose λk _ L B=>h.own.choose_spec.2.2.2 k L B;exact V) k) λy hy=>by obtain⟨p,_,_,e,_⟩:=QH hy;exact Aby λhle=>by rw[hw.ok _ hle]at e;cases e
 generalize hkb:(λb=>kn (rh q o.dst b (UP (Y2 CR q.pi.hs z m st.O q.pi.ro) (app st o.dst (NK q z m c.cs) st.nk))))=kb at E;refine h.ld (goal:=o.wp P a w K Q) (K:=λv w' d l=> ∀b r',G l d r'->(q.rb=Bp->v= .bool b)->kb b=Ac r'->K (a.put o.dst v) w') hw hW (λY hn hsh hr hf hk=>?_) λη' l v w' d hl hs b r' hg' hv F=>?_
 ·obtain⟨vs,J,V,e2,e3,v3⟩:=b8 Y hr;have V:((q.pi.ro.map (·.1)).map (AZ m)).Nodup:=by rw[Aam];exact V
  obtain⟨s1,s2,s3⟩:=oz (Y:=Y) (cs:=q.pi.ro.map (·.1)) (g:=AZ m) hn hnr V (λc hc=>by obtain⟨p,D,rfl⟩:=By.1 hc;obtain⟨_,X,hX,_⟩:=e3 p D;exact⟨X,hX⟩);generalize hYc:((q.pi.ro.map (·.1)).map λc=>(c,(Ay Y (AZ m c)).getD .emp))=Yc at s1 s2 s3;refine v3 w K Q ?_;generalize hYr:(Y.filter λp=> !B_ ((q.pi.ro.map (·.1)).map (AZ m)) p.1)=Yr at s3;refine Calls.mono (hsp.ok z (ys,b0) hys (λc=>η (AZ m c)) (λl O r2=>H.le l/\∃(d:Fm) (r':R),d.ds=Of.ds/\O=Yr.map (·.2)++d.O/\G l d r'/\b_ yl C q.ts kb r2.1 r2.2=Ac r') (λH1 H2 O r2 hl ⟨k0,d,r',k1,k2,k3,k4⟩=>⟨k0.trans hl,d,r',k1,k2,hG _ _ _ _ hl k3,k4⟩) (λH1 O ⟨_,_,_,_,_,_,k4⟩=>(by cases k4)) (λH1 O y rest b hinv1 ⟨k0,d,r',k1,k2,k3,k4⟩ A ws w1 hArg hSH=>?_) H (Yr.map (·.2)++Of.O) Yc vs w (by rw[s1];exact hnr) J e2 s1 (λp D=>?_) ⟨Hp.le.refl H,Of,r,rfl,rfl,hg,E⟩ h.inv (s3 w H Of.O hsh)) ?_
  ·subst k2;have hyv:yv=η (AZ m q.ky):=by rw[ck4];exact(h.base _ (hY.mem _ _ _ _ k4)).symm
   obtain⟨p1,p2,p3⟩:=UH (C:=C) (η:=η) q.ts y ws hArg;have:=hY.ok C (QY q.ts y) _ r' d H1 hinv1 k3 k4 η (A++Yr.map (·.2)) ws w1 p1 p3 (by rw[Aaj];exact hSH);rw[hyv]at this;refine this.mono λc' w' ⟨l,U,r'',l1,l2,l3,l4,l5⟩=>⟨l,Yr.map (·.2)++U.O,l1,by rw[Aaj]at l3;exact l3,k0.trans l1,U,r'',l2.trans k1,rfl,l4,?_⟩;cases c' with
   |true=>exact l5
   |false=>exact l5
  ·obtain⟨_,X,hX,hX2⟩:=e3 p D;exact⟨X,by rw[s2 p.1 (By.2 ⟨p,D,rfl⟩)];exact hX,hX2⟩
  ·rintro e w' ⟨v,l,O',Y',b,rfl,hl,W,hk',hro',⟨k0,d,r',k1,rfl,k2,k3⟩,hvb⟩;obtain⟨j1,j2,j3,j4,j5⟩:=wz (Y:=Y) (Yc:=Y') (cs:=q.pi.ro.map (·.1)) (g:=AZ m) hn V hk';rw[<-hYr]at W;refine⟨v,rfl,hk v w' l η _ d k1 hl (λ_ _=>rfl) (λk hkn=>j4 k (by rw[<-hkw];exact hkn)) (λk L hks=>?_) j2 (λk I=>?_) (j5 _ _ _ W) trivial b r' k2 hvb k3⟩;· obtain⟨p,D,e⟩:=By.1 (A4 hks);cases e;obtain⟨X,x1,x2⟩:=hro' p D;exact .inr ⟨X,j3 p.1 X x1,SR.My rfl (λ_ _=>rfl) x2⟩
   ·unfold keys at I j1;rw[Aak,j1]at I;rcases AS.1 I with I|I;· exact .inr (by rw[hkw];exact I)
    ·obtain⟨p,D,rfl⟩:=By.1 I;exact .inl (By.2 ⟨p,(Abb.1 D).1,rfl⟩)
 ·subst hkb;obtain⟨hs,hwf⟩:=hbk hs;unfold rh at F;split at F
  ·rename_i t hrb hdt;rw[hdt]at hs hwf F⊢;rw[hdt]at u;have htn:t<n:=by simpa [NS]using u
   obtain⟨g1,g2⟩:=PI (t:=t) (s:= .lb b) hs hwf (by rw[H0 (by rw[h.size];exact htn),Agn];exact hv hrb) rfl rfl;exact hK d r' _ η' l _ w' hl hg' g1 g2 F
  ·exact hK d r' _ η' l _ w' hl hg' hs hwf F
def jkey(Φ:Nat->Option (CQ N))(S:Nat->SV N.T)(Rr:Nat->Option (SR N.T)):Op->Option Nat
 | .call {callee:= .value x,args:=⟨xs⟩,argTypes:=_} =>match Ax S x with
  | .AK f _ _=>match Φ f with
   |some (.qz (q::_))=>match Tf S Rr x xs with
    |some c=>VX c.As q.pi.sl
    |none=>C7
   |_=>C7
  |_=>C7
 |_=>C7
def gT(b:YL N R)(Φ:Nat->Option (CQ N))(C:List (SV N.T))(CR:List (SR N.T))(n:Nat)(o:K7):Nat->St N.T->(St N.T->Option R)->Option (Option R)
 |0,_,_=>C7
 |m+1,st,kn=>match jkey Φ (Cv C st.L) (An CR st.O) o.op with
  |some a=>match An CR st.O a with
   |some (.row _ c l)=>gT b Φ C CR n o m (JK a c l st) kn
   |_=>C7
  |none=>qB b Φ C CR n o st kn
def qA(a:YL N R)(Φ:Nat->Option (CQ N))(C:List (SV N.T))(CR:List (SR N.T))(n:Nat)(o:K7)(st:St N.T)(kn:St N.T->Option R):Option (Option R):=gT a Φ C CR n o 4 st kn
theorem V4{C:List (SV N.T)}{CR:List (SR N.T)}{n:Nat}{Of:Fm}{bs:List (Nat×BZ)}{a:Act}{w:IU}{P:GN} [C4 N P]{Φ:Nat->Option (CQ N)}{G:Hp->Fm->R->Prop}{p:YL N R}{yv:BZ}
  (i:∀f q,Φ f=Ac q->Bt P f q) (k:∀H d Of r,H.le d->G H Of r->G d Of r) (v:QO P bs p yv G) {o:K7} {kn:St N.T->Option R} {r:R} {K:Act->IU->Prop} {Q:Exit->Act->IU->Prop} :∀ {m:Nat} {st:St N.T} {η:Nat->BZ} {H:Hp},G H Of r->Sat C CR n Of bs st η H a w->WF C CR bs st->gT p Φ C CR n o m st kn=Ac (Ac r)->
  (∀c r' b η' d a' w',H.le d->G d c r'->Sat C CR n c bs b η' d a' w'->WF C CR bs b->kn b=Ac r'->K a' w')->o.wp P a w K Q
 |0,_,_,_,_,_,_,e,_=>by cases e
 |m+1,st,η,H,x,h,A,e,u=>by
  unfold gT at e;split at e
  ·split at e;· rename_i B l y;obtain⟨d,j,s,t⟩:=Sv h A y;exact V4 i k v (k _ _ _ _ j x) s t e λc r' b η' g a' w' z=>u c r' b η' g a' w' (j.trans z)
   grind
  grind[gU]
theorem V3{C:List (SV N.T)}{CR:List (SR N.T)}{n:Nat}{Of:Fm}{bs:List (Nat×BZ)}{st:St N.T}{η:Nat->BZ}{H:Hp}{a:Act}{w:IU}{P:GN} [C4 N P]{Φ:Nat->Option (CQ N)}{G:Hp->Fm->R->Prop}{g:YL N R}{yv:BZ}
 (e:∀f q,Φ f=Ac q->Bt P f q) (i:∀H c Of r,H.le c->G H Of r->G c Of r) (k:QO P bs g yv G) {o:K7} {kn:St N.T->Option R} {r:R} (m:G H Of r) (h:Sat C CR n Of bs st η H a w) (p:WF C CR bs st) (l:qA g Φ C CR n o st kn=Ac (Ac r)) {K:Act->IU->Prop} {Q:Exit->Act->IU->Prop}
 (j:∀d r' b η' c a' w',H.le c->G c d r'->Sat C CR n d bs b η' c a' w'->WF C CR bs b->kn b=Ac r'->K a' w'):o.wp P a w K Q:=V4 e i k m h p l j
def vq(c:YL N R)(C:List (SV N.T))(n:Nat)(o:K7)(st:St N.T)(kn:St N.T->Option R):Option (Option R):=match o.op with
 | .call {callee:= .value x,args:=⟨xs⟩,argTypes:=_} =>match Ax (Cv C st.L) x with
  | .mp k=>match Hh k c.ky&&NS n o.dst with
   |true=>Ac (c.f C (xs.map (Ax (Cv C st.L))) λb=>kn ⟨Rz o.dst (.lb b) st.L,st.O,st.nk⟩)
   |false=>C7
  |_=>C7
 |_=>C7
def Rf(a:YL N R)(P:GN)(Φ:Nat->Option (CQ N))(C:List (SV N.T))(CR:List (SR N.T))(n:Nat)(o:K7)(st:St N.T)(kn:St N.T->Option R):Option R:=match vq a C n o st kn with
 |some z=>z
 |none=>match VP o with
  |true=>match qA a Φ C CR n o st kn with
   |some z=>z
   |none=>Zs P Φ C CR n o st kn
  |false=>C7
def guY(c:YL N R)(P:GN)(Φ:Nat->Option (CQ N))(C:List (SV N.T))(CR:List (SR N.T))(n:Nat)(b:Array K7)(o:K7)(st:St N.T)(kn:St N.T->Option R):Option R:=match o.guard with
 |none=>Rf c P Φ C CR n o st kn
 |some (
     j,a)=>match BL b j with
  |none=>C7
  |some t=>match Cv C st.L t with
   | .ud=>Is n o.dst st kn
   |s=>xf s st
    (λst=>let st:=Ko t (.lb Bp) st
     match a with
     |true=>Rf c P Φ C CR n o st kn
     |false=>Is n o.dst st kn)
    (λst=>let st:=Ko t (.lb Aj) st
     match a with
     |false=>Rf c P Φ C CR n o st kn
     |true=>Is n o.dst st kn)
def ca(b:YL N R)(P:GN)(Φ:Nat->Option (CQ N))(C:List (SV N.T))(CR:List (SR N.T))(n:Nat)(a:Array K7):List K7->St N.T->(St N.T->Option R)->Option R
 | [],st,kn=>kn st
 |o::os,st,kn=>guY b P Φ C CR n a o st λst=>ca b P Φ C CR n a os st kn
end
variable {C : List (SV N.T)} {CR : List (SR N.T)} {n : Nat} {Of : Fm} {bs : List (Nat × BZ)} {st : St N.T} {η : Nat -> BZ} {H : Hp} {a : Act} {w : IU} {P : GN} [C4 N P] {Φ : Nat -> Option (CQ N)} {G : Hp -> Fm -> R -> Prop} {yl : YL N R} {yv : BZ} {ro : Option Nat}
section
variable{d:Option Nat}{s:SV N.T}
theorem fZ(c:WF C CR bs st)(g:EW s=Bp)(hc:RS s=Bp):WF C CR bs ⟨Rz d s st.L,st.O,st.nk⟩:=by
 cases d with
 |none=>exact c
 |some d=>
  refine c.Gw λτ b q=>?_;have e:=b q;unfold Cv at e⊢;simp only[Rz,Ay];cases f:Hh d q with
  |true=>
   have:res C s=s:=by cases s<;>first|rfl|cases hc
   grind[DB]
  |false=>omega
theorem Sat.yld{c:Fm}{g:Hp}{w':IU}{v:BZ}{Y:List (Nat×Aw)}(h:Sat C CR n Of bs st η H a w)(b:H.le g)(m:c.ds=Of.ds)(q:NS n d=Bp)(B:s.is C η g v)
  (u:(keys Y).Nodup) (y:SH w' g (Y.map (·.2)++c.O)) (z:∀k∈keys Y,k<st.nk) (A:∀k i,An CR st.O k=Ac i->DU C η H Y k i):Sat C CR n c bs ⟨Rz d s st.L,st.O,st.nk⟩ η g (a.put d v) w':=by
 refine⟨N.CZ b h.inv,?_,?_,λt sv f=>?_,h.base,Y,u,y,z,λk i r=>?_⟩;· rw[m];cases d<;>exact h.defers
 ·cases d<;>simp[Act.put,h.size]
 ·cases d with
  |none=>exact(h.Bo t sv f).mono b
  |some d=>
   have q:d<n:=by simp_all[NS]
   have f:Ay ((d,s)::st.L) t=Ac sv:=f;rw[H0 (by rw[h.size];omega)];simp only[Ay]at f;cases l:Hh d t with
   |true=>grind
   |false=>rw[l]at f;exact(h.Bo t sv f).mono b
 ·rcases A k i r with e|⟨x,o,p⟩;· exact .inl e
  ·exact .inr ⟨x,o,p.mono b⟩
theorem Mh(B:∀f q,Φ f=Ac q->Bt P f q)(U:∀H j Of r,H.le j->G H Of r->G j Of r)(I:QO P bs yl yv G){o:K7}{kn:St N.T->Option R}{r:R}(L:G H Of r)(h:Sat C CR n Of bs st η H a w)(M:WF C CR bs st)(p:Rf yl P Φ C CR n o st kn=Ac r){K:Act->IU->Prop}{Q:Exit->Act->IU->Prop}
  (F:∀m r' g η' j a' w',H.le j->G j m r'->Sat C CR n m bs g η' j a' w'->WF C CR bs g->kn g=Ac r'->K a' w'):o.wpIn (FR ro) 0 P a w K Q:=by
 unfold Rf at p;split at p
 ·rename_i z d;subst p;unfold vq at d;split at d
  ·rename_i x T tys ho;split at d
   ·rename_i k hs;split at d
    ·rename_i J;have d:=Abp d;rw[AT]at J;have hk:=AI J.1;subst hk;have X:=h.ev x;rw[hs]at X;have S:a.eval x=yv:=X.1.trans (h.base _ (I.mem _ _ _ _ d));obtain⟨Y,y1,y2,y3,y4⟩:=h.own;have t:∀(i:Nat) (s:SV N.T),(T.map (Ax (Cv C st.L)))[i]?=Ac s->∃v,(T.map a.eval)[i]?=Ac v/\s.is C η H v:=λi s V=>by
      rw[Abz]at V;obtain⟨z,d,rfl⟩:=Pd.1 V;exact⟨a.eval z,by grind,h.ev z⟩
     obtain⟨l,f,D,E,u,e1,e2,e3⟩:=I.ok _ _ _ _ Of H h.inv L d η (Y.map (·.2)) (T.map a.eval) w (by simp) t y2;refine⟨λf _=>WY ro f,?_⟩;have A:(Kt a.eval o).run P w= .ok (.round l f D E u) w:=by have O:a.eval x= .func (.yield l) #[] #[]:=S.trans e1;simp[Kt,ho,resolve,q8,O,invoke]at e2⊢;omega
     rw[K7.semAt_eq _ _ _ (λc e=>by grind),A];refine⟨sH,dN (e3.mono ?_)⟩;rintro e w' ⟨b,rfl,j,m,r',Z,k2,k3,k4,k5⟩;exact F m r' _ η j _ w' Z k4 (h.yld (s:= .lb b) Z k2 J.2 (rfl:BZ.bool b= .bool b) y1 k3 y3 y4) (fZ M rfl rfl) k5
    grind
   grind
  grind
 ·split at p
  ·rename_i W;split at p;· rename_i z d;subst p;exact Ahe W (V3 B U I L h M d F)
   exact Ahe W (Rh B h M p λg η' j a' w' y h1 h2 h3=>F Of r g η' j a' w' y (U _ _ _ _ y L) h1 h2 h3)
  ·cases p
theorem qL(m:∀f q,Φ f=Ac q->Bt P f q)(D:∀H g Of r,H.le g->G H Of r->G g Of r)(F:QO P bs yl yv G){p:Array K7}{o:K7}{kn:St N.T->Option R}{r:R}(l:G H Of r)(h:Sat C CR n Of bs st η H a w)(S:WF C CR bs st)(k:guY yl P Φ C CR n p o st kn=Ac r){K:Act->IU->Prop}{Q:Exit->Act->IU->Prop}
  (E:∀i r' c η' g a' w',H.le g->G g i r'->Sat C CR n i bs c η' g a' w'->WF C CR bs c->kn c=Ac r'->K a' w'):if fp o (yielded p a.tmps)then o.wpIn (FR ro) 0 P a w K Q else(∀f,o.about P w a.eval=Ac f->(FR ro).fn f)/\K (a.put o.dst undef) w:=by
 have u:∀ {d:St N.T},Sat C CR n Of bs d η H a w->WF C CR bs d->Is n o.dst d kn=Ac r->(∀f,o.about P w a.eval=Ac f->(FR ro).fn f)/\K (a.put o.dst undef) w:=λ{d} T U V=>by grind[Ro,WY,Hp.le.refl]
 unfold guY at k;split at k;· rw[if_pos (by grind[fp])];grind[Mh]
 ·rename_i j e z;split at k;· grind
  ·rename_i t I;split at k;· rename_i O;have J:=h.lk t;rw[O]at J;rw[if_neg (by simp[fp,z,IF I J])];grind
   ·obtain⟨b,c,B,L,M,v⟩:=UM h S k;have A:=Gp I B;obtain⟨x,y⟩:=PI (t:=t) (s:= .lb b) L M B rfl rfl;cases b with
    |true=>
     cases e with
     |true=>
      rw[if_pos (by grind[fp])];exact Mh m D F l x y v E
     |false=>
      rw[if_neg (by simp[fp,z,A])];exact u x y v
    |false=>
     cases e with
     |false=>
      rw[if_pos (by simp[fp,z,A])];exact Mh m D F l x y v E
     |true=>
      rw[if_neg (by simp[fp,z,A])];exact u x y v
theorem SL(i:∀f q,Φ f=Ac q->Bt P f q)(B:∀H c Of r,H.le c->G H Of r->G c Of r)(D:QO P bs yl yv G){j:Array K7}{Q:Exit->Act->IU->Prop}{kn:St N.T->Option R} :∀ {os:List K7} {Of:Fm} {r:R} {st:St N.T} {η:Nat->BZ} {H:Hp} {a:Act} {w:IU},G H Of r->Sat C CR n Of bs st η H a w->WF C CR bs st->ca yl P Φ C CR n j os st kn=Ac r->
  (∀d r' b η' c a' w',H.le c->G c d r'->Sat C CR n d bs b η' c a' w'->WF C CR bs b->kn b=Ac r'->Q .normal a' w')->wpListIn (FR ro) 0 P j Q os a w
 | [],Of,r,st,η,H,a,w,v,h,y,u,s=>s Of r st η H a w (Hp.le.refl H) v h y u
 |o::os,Of,r,st,η,H,a,w,v,h,y,u,s=>by refine wpListIn_step λK t=>qL i B D v h y u λd r' b η' c a' w' x L M O S=>t a' w' ?_;exact SL i B D L M O S λe z k l m p A g E F I J=>s e z k l m p A (x.trans g) E F I J
end
end
section
variable{A B:List K7}{i:Nat}
def PB(P:GN)(b:Array K7)(Q:Exit->Act->IU->Prop):List K7->Act->IU->Prop
 | [],a,w=>Q .normal a w
 |o::c,a,w=>if fp o (yielded b a.tmps)then o.wp P a w (PB P b Q c) Q else PB P b Q c (a.put o.dst undef) w
theorem Tk:∀(os:List K7) (acc:List Nat),(Np acc os).length=acc.length+os.length
 | [],acc=>rfl
 |o::os,acc=>by show(Np (acc++[_]) os).length=_;rw[Tk];grind
theorem Tj:∀(os:List K7) (acc:List Nat) (i:Nat),i<acc.length->(Np acc os).getD i 0=acc.getD i 0
 | [],_,_,_=>rfl
 |o::os,acc,i,h=>by show(Np (acc++[_]) os).getD i 0=_;rw[Tj os _ i (by grind),Aaa,Pe h,<-Aaa]
theorem Tl:∀(A B:List K7) (acc:List Nat),Np acc (A++B)=Np (Np acc A) B
 | [],_,_=>rfl
 |o::A,B,acc=>by exact Tl A B _
theorem WR(h:i<A.length):UT (A++B) i=UT A i:=by grind[UT,Tl,Tj,Tk]
def X_(m:Nat)(l:List K7):Bool:=(aT l.length).all λj=>aX j m||(aT j).all λi=>(UT l j).testBit i
theorem X9{m:Nat}{l:List K7}(h:X_ m l=Bp){j:Nat}(c:j<l.length)(d:m<=j)(hi:i<j):(UT l j).testBit i=Bp:=by
 have a:=No.1 h j (Abg.2 c);rw[Adj]at a;rcases a with a|a
 ·have:j<m:=by simp_all
  omega
 grind
theorem iL{P:GN}{Q:Exit->Act->IU->Prop}{id:Nat}(z:P.follows .mixedOrders=Bp)(V:GR 0 (A++B)=Bp)(E:X_ A.length (A++B)=Bp){J:(Nat->Bool)->Act->IU->Prop}
  (step:∀p a w i o,A[i]?=Ac o->p i=Aj->HR A p->(∀j,(UT A i).testBit j=Bp->p j=Bp)->(∀j M,A[j]?=Ac M->p j=Bp->∀m,(UT A j).testBit m=Bp->p m=Bp)->J p a w->
   if fp o (yielded (A++B).toArray a.tmps)then o.wp P a w (J (I_ p i)) Q else J (I_ p i) (a.put o.dst undef) w)
  (L:∀p a w,(∀i,i<A.length->p i=Bp)->J p a w->PB P (A++B).toArray Q B a w) {a:Act} {w:IU} (h:J (λ_=>Aj) a {w with drawn:=w.drawn+1}):(Code.region id (A++B).toArray Bp).wp P Q a w:=by
 refine L3 z V (J:=λp a w=>((∀j,A.length<=j->j<(A++B).length->p j=Aj)/\J p a w)\/∃m,A.length<=m/\(∀j,j<(A++B).length->p j=Dl (j<m))/\PB P (A++B).toArray Q ((A++B).drop m) a w) ?_ ?_ (.inl ⟨λ_ _ _=>rfl,h⟩)
 ·intro p a w i o y H R v x u;have g:i<(A++B).length:=(IT.1 y).1;have I:∀j,j≠i->I_ p i j=p j:=λj f=>by grind[I_]
  have K:I_ p i i=Bp:=by simp[I_]
  have full:A.length<=i->∀j,j<i->p j=Bp:=λr j f=>v j (X9 E g r f);have seq:∀m,m=i->A.length<=m->(∀j,j<(A++B).length->p j=Dl (j<m))->PB P (A++B).toArray Q ((A++B).drop m) a w->if fp o (yielded (A++B).toArray a.tmps)then o.wp P a w (λa w=>((∀j,A.length<=j->j<(A++B).length->I_ p i j=Aj)/\J (I_ p i) a w)\/∃m,A.length<=m/\(∀j,j<(A++B).length->I_ p i j=Dl (j<m))/\PB P (A++B).toArray Q ((A++B).drop m) a w) Q
    else((∀j,A.length<=j->j<(A++B).length->I_ p i j=Aj)/\J (I_ p i) (a.put o.dst undef) w)\/∃m,A.length<=m/\(∀j,j<(A++B).length->I_ p i j=Dl (j<m))/\PB P (A++B).toArray Q ((A++B).drop m) (a.put o.dst undef) w:=λm e z t s=>by
   subst e;have W:(A++B).drop m=o::(A++B).drop (m+1):=by grind[List.drop_eq_getElem_cons,Option.some.inj,lh]
   rw[W]at s;have G:∀j,j<(A++B).length->I_ p m j=Dl (j<m+1):=λj f=>by
    by_cases e:j=m;· grind
    ·rw[I j e,t j f];have:j<m↔j<m+1:=by omega
     simp[this]
   unfold PB at s;split at s;· rename_i C;rw[if_pos C];exact K7.wp_mono (λa w h=> .inr ⟨m+1,by omega,G,h⟩) s
   grind
  rcases u with⟨D,u⟩|⟨m,z,t,s⟩
  ·by_cases r:i<A.length
   ·have X:A[i]?=Ac o:=by grind
    have st:=step p a w i o X H (λj M f=>R j M (by rw[Pe (IT.1 f).1];exact f)) (λj f=>v j (by rw[WR r];exact f)) (λj M f t m z=>x j M (by rw[Pe (IT.1 f).1];exact f) t m (by rw[WR (IT.1 f).1];exact z)) u;have T:∀j,A.length<=j->j<(A++B).length->I_ p i j=Aj:=λj k N=>by rw[I j (by omega)];exact D j k N
    split at st;· rename_i C;rw[if_pos C];exact K7.wp_mono (λa w h=> .inl ⟨T,h⟩) st
    grind
   ·have r:A.length<=i:=by omega
    have e:A.length=i:=by refine Alc r (Ajl λn=>?_);have k:=full r A.length n;rw[D A.length (Aae _) (by omega)]at k;cases k
    refine seq A.length e (Aae _) (λj f=>?_) ?_
    ·by_cases F:j<A.length;· rw[full r j (by omega)];simp[F]
     ·rw[D j (by omega) f];simp[F]
    ·rw[Ali];exact L p a w (λj f=>full r j (by omega)) u
  ·refine seq m ?_ z t s;have k:=t i g;rw[H]at k;have k:¬i<m:=by simpa using k.symm
   refine Alc (by omega) (Ajl λn=>?_);have N:=full (by omega) m n;rw[t m (by omega)]at N;simp at N
 ·intro p a w l u;rcases u with⟨D,u⟩|⟨m,z,t,s⟩
  ·have U:B=[]:=by
    cases B with
    |nil=>rfl
    |cons b B=>
     have k:=l A.length (by simp);rw[D A.length (Aae _) (by simp)]at k;cases k
   have:=L p a w (λi r=>l i (by rw[Aac];omega)) u;rw[U]at this;exact this
  ·have S:(A++B).length<=m:=by
    refine Ajl λg=>?_;have k:=t m g;rw[l m g]at k;simp at k
   rw[Aay S]at s;exact s
end
section
variable {N : C9} {R : Type}
def Ri(a:YL N R)(P:GN)(Φ:Nat->Option (CQ N))(C:List (SV N.T))(CR:List (SR N.T))(n:Nat)(o:K7)(st:St N.T)(kn:St N.T->Option R):Option R:=match qA a Φ C CR n o st kn with
 |some z=>z
 |none=>Zs P Φ C CR n o st kn
def guJ(c:YL N R)(P:GN)(Φ:Nat->Option (CQ N))(C:List (SV N.T))(CR:List (SR N.T))(n:Nat)(b:Array K7)(o:K7)(st:St N.T)(kn:St N.T->Option R):Option R:=match o.guard with
 |none=>Ri c P Φ C CR n o st kn
 |some (
     j,a)=>match BL b j with
  |none=>C7
  |some t=>match Cv C st.L t with
   | .ud=>Is n o.dst st kn
   |s=>xf s st
    (λst=>let st:=Ko t (.lb Bp) st
     match a with
     |true=>Ri c P Φ C CR n o st kn
     |false=>Is n o.dst st kn)
    (λst=>let st:=Ko t (.lb Aj) st
     match a with
     |false=>Ri c P Φ C CR n o st kn
     |true=>Is n o.dst st kn)
def cc(c:YL N R)(P:GN)(Φ:Nat->Option (CQ N))(C:List (SV N.T))(CR:List (SR N.T))(n:Nat)(a:Array K7):List K7->St N.T->(St N.T->Option R)->Option R
 | [],st,b=>b st
 |o::d,st,b=>guJ c P Φ C CR n a o st λst=>cc c P Φ C CR n a d st b
def cm(c:YL N R)(P:GN)(Φ:Nat->Option (CQ N))(C:List (SV N.T))(CR:List (SR N.T))(n:Nat)(a:Array K7)(m:Nat)(st:St N.T)(kn:St N.T->Option R):Option R:=match iT m a.size&&(GR 0 a.toList&&X_ m a.toList)with
 |true=>wZ P Φ C CR n (a.toList.take m).toArray st λst=>cc c P Φ C CR n a (a.toList.drop m) st kn
 |false=>C7
variable {C : List (SV N.T)} {CR : List (SR N.T)} {n : Nat} {bs : List (Nat × BZ)} {P : GN} [C4 N P] {Φ : Nat -> Option (CQ N)} {G : Hp -> Fm -> R -> Prop} {yl : YL N R} {yv : BZ}
section
variable{o:K7}{kn:St N.T->Option R}{Q:Exit->Act->IU->Prop}
theorem Mi(g:∀f q,Φ f=Ac q->Bt P f q)(j:∀H c Of r,H.le c->G H Of r->G c Of r)(u:QO P bs yl yv G){o:K7}{Of:Fm}{st:St N.T}{η:Nat->BZ}{H:Hp}{a:Act}{w:IU}{kn:St N.T->Option R}{r:R}(l:G H Of r)(h:Sat C CR n Of bs st η H a w)(m:WF C CR bs st)(i:Ri yl P Φ C CR n o st kn=Ac r){K:Act->IU->Prop}{Q:Exit->Act->IU->Prop}
  (k:∀d r' b η' c a' w',H.le c->G c d r'->Sat C CR n d bs b η' c a' w'->WF C CR bs b->kn b=Ac r'->K a' w'):o.wp P a w K Q:=by
 grind[Ri,V3,Rh]
theorem qM(l:∀f q,Φ f=Ac q->Bt P f q)(D:∀H p Of r,H.le p->G H Of r->G p Of r)(E:QO P bs yl yv G){x:Array K7}{Of:Fm}{st:St N.T}{η:Nat->BZ}{H:Hp}{a:Act}{w:IU}{r:R}(d:G H Of r)(h:Sat C CR n Of bs st η H a w)(F:WF C CR bs st)(g:guJ yl P Φ C CR n x o st kn=Ac r){K:Act->IU->Prop}
  (A:∀v r' c η' p a' w',H.le p->G p v r'->Sat C CR n v bs c η' p a' w'->WF C CR bs c->kn c=Ac r'->K a' w'):if fp o (yielded x a.tmps)then o.wp P a w K Q else K (a.put o.dst undef) w:=by
 have m:∀ {e:St N.T},Sat C CR n Of bs e η H a w->WF C CR bs e->Is n o.dst e kn=Ac r->K (a.put o.dst undef) w:=λ{e} M O S=>by grind[Ro,Hp.le.refl]
 unfold guJ at g;split at g;· rw[if_pos (by grind[fp])];grind[Mi]
 ·rename_i j i k;split at g;· grind
  ·rename_i t J;split at g;· rename_i V;have L:=h.lk t;rw[V]at L;rw[if_neg (by simp[fp,k,IF J L])];grind
   ·obtain⟨b,c,I,T,U,u⟩:=UM h F g;have B:=Gp J I;obtain⟨y,z⟩:=PI (t:=t) (s:= .lb b) T U I rfl rfl;cases b with
    |true=>
     cases i with
     |true=>
      rw[if_pos (by grind[fp])];grind[Mi]
     |false=>
      rw[if_neg (by simp[fp,k,B])];exact m y z u
    |false=>
     cases i with
     |false=>
      rw[if_pos (by simp[fp,k,B])];exact Mi l D E d y z u A
     |true=>
      rw[if_neg (by simp[fp,k,B])];exact m y z u
theorem SM(i:∀f q,Φ f=Ac q->Bt P f q)(A:∀H c Of r,H.le c->G H Of r->G c Of r)(B:QO P bs yl yv G){j:Array K7}{Q:Exit->Act->IU->Prop}{kn:St N.T->Option R} :∀ {os:List K7} {Of:Fm} {r:R} {st:St N.T} {η:Nat->BZ} {H:Hp} {a:Act} {w:IU},G H Of r->Sat C CR n Of bs st η H a w->WF C CR bs st->cc yl P Φ C CR n j os st kn=Ac r->
  (∀d r' b η' c a' w',H.le c->G c d r'->Sat C CR n d bs b η' c a' w'->WF C CR bs b->kn b=Ac r'->Q .normal a' w')->PB P j Q os a w
 | [],Of,r,st,η,H,a,w,u,h,x,t,s=>s Of r st η H a w (Hp.le.refl H) u h x t
 |o::os,Of,r,st,η,H,a,w,u,h,x,t,s=>by exact qM i A B u h x t λd r' b η' c a' w' v J K L M=>SM i A B J K L M λe y k l m p z g D E F I=>s e y k l m p z (v.trans g) D E F I
theorem TO{A B:List K7}{g:Array BZ}(h:∀j b,o.guard=Ac (j,b)->∃t,BL A.toArray j=Ac t):fp o (yielded (A++B).toArray g)=fp o (yielded A.toArray g):=by
 cases i:o.guard with
 |none=>grind[fp]
 |some l=>
  obtain⟨j,b⟩:=l;grind[BL,yielded,fp]
theorem cg(hΦ:∀f q,Φ f=Ac q->Bt P f q)(hm:P.follows .mixedOrders=Bp)(hG:∀H F Of r,H.le F->G H Of r->G F Of r)(hY:QO P bs yl yv G){Of:Fm}{Q:Exit->Act->IU->Prop}{id m:Nat}{u:Array K7}{kn:St N.T->Option R}{r:R}{st:St N.T}{η:Nat->BZ}{H:Hp}{a:Act}{w:IU}(hg:G H Of r)(h:Sat C CR n Of bs st η H a w)(hw:WF C CR bs st)
  (L:cm yl P Φ C CR n u m st kn=Ac r) (hK:∀I r' D η' F a' w',H.le F->G F I r'->Sat C CR n I bs D η' F a' w'->WF C CR bs D->kn D=Ac r'->Q .normal a' w'):(Code.region id u Bp).wp P Q a w:=by
 unfold cm at L;split at L;case h_2=>grind
 rename_i hck;simp only[AT]at hck;obtain⟨hsz,hbk,hct⟩:=hck;have hsz:m<=u.size:=by simp_all
 obtain⟨A,B,rfl,hA⟩:∃A B:List K7,u=(A++B).toArray/\A.length=m:=⟨u.toList.take m,u.toList.drop m,by simp,by grind⟩;have e1:(A++B).toArray.toList.take m=A:=by grind
 have e2:(A++B).toArray.toList.drop m=B:=by grind
 rw[e1,e2]at L;rw[<-hA]at hct;unfold wZ at L;split at L;case h_2=>grind
 rename_i hfr;have iv0:IV P C CR n bs A st st [] 0:=⟨rfl,λt sv ht η H v hv=>by have hv:(s0 st t).is C η H v:=hv;simp_all[s0],λk=>rfl,hw,Aae _,λj s K=>by simp at K,λj o s hj=>by omega⟩;obtain⟨D,O,k1,V⟩:=Ld (l:=A) hΦ A st [] 0 rfl (Abh _) iv0 (by simpa using L);split at k1;case h_2=>cases k1
 rename_i g
 have y:=hfr;unfold C1 at y;rw[AT]at y;have hTr:∀i o,A[i]?=Ac o->∃s,O[i]?=Ac s:=λi o ho=>by
  have:i<O.length:=by rw[(Km g).2.1];exact(IT.1 ho).1
  exact⟨O[i],GB this⟩
 have hl:∀i o s,A[i]?=Ac o->O[i]?=Ac s->dH P C A.toArray n st.nk o s (λt=>Ce A O (s0 st) (λ_=>Bp) t i) (λk=>Cp O (An CR st.O) (λ_=>Bp) k i):=λi o s ho K=>V.loc i o s (IT.1 ho).1 ho K;refine iL (J:=JV C n Of bs st.nk A O (s0 st) (An CR st.O) H) hm (by simpa using hbk) (by simpa using hct) (λp a' w' i o U hpi hcl hanc S hJ=>?_) (λp a' w' Z hJ=>?_) ?_
 ·rw[TO λj b hgd=>by
   obtain⟨s,K⟩:=hTr i o U;have M:=hl i o s U K;cases s with
   |skip=>
    obtain⟨j',b',t,E,W,_⟩:=M.skip rfl;rw[hgd]at E;cases E;exact⟨t,W⟩
   |run z=>
    obtain⟨t,E,_⟩:=(M.run z rfl).1 j b hgd;exact⟨t,E⟩];refine Ti h.inv g hw.mC (λt k c=>?_) (λk x c=>⟨?_,D1 c hfr⟩) hw.lo hl p a' w' i o U hpi hcl hanc S hJ
  ·unfold s0 at c;split at c;· rename_i s K;have:=No.1 (No.1 y.1 _ (A4 K)) k c;simpa using this
   ·cases c
  ·have hlk:Ay st.O k≠C7:=λe=>by unfold An at c;rw[e]at c;cases c
   exact Aby λT=>hlk (hw.ok k T)
 ·obtain⟨η',F,Y,E,W,g3,g4,g5,g6,g7,g8,g9⟩:=hJ.all Z;refine SM hΦ hG hY (hG _ _ _ _ E hg) (st:=D) (η:=η') (H:=F) ⟨N.CZ E h.inv,W,g3,λt sv ht=>V.sl t sv ht η' F _ (g4 t),g5,Y,g6,g7,λk c=>?_,λk sr c=>g9 k sr (by rw[<-V.ow k];exact c)⟩ V.wf k1 λI r' st2 η2 H2 a2 w2 T q0 q1 q2 q3=>hK I r' st2 η2 H2 a2 w2 (E.trans T) q0 q1 q2 q3;rcases g8 k c with e|⟨j,s,_,e2,e3⟩;· exact Abr e V.le
  ·exact V.ks j s e2 k e3
 ·obtain⟨Y,E,W,g3,g4⟩:=h.own;refine⟨η,H,Y,Hp.le.refl H,h.defers,h.size,λt=>?_,h.base,E,W.drew,λk c=> .inl (g3 k c),λk sr c=>g4 k sr ?_⟩
  ·rw[HI (i:=0) A.length (Abh _) (λ_ _ _ _=>rfl)];show(s0 st t).is C η H _;unfold s0;split;· rename_i s K;exact h.Bo t s K
   ·trivial
  ·rw[HH (i:=0) A.length (Abh _) (λ_ _ _ _ _ _=>rfl)]at c;exact c
end
end
section
variable {N : C9} {R : Type}
def T':List Tmp->List (SV N.T)->List (Nat×SV N.T)->List (Nat×SV N.T)
 |t::ts,s::ss,L=>T' ts ss ((t,s)::L)
 |_,_,L=>L
def IB{X Y:Type}(f:Y->X->(X->Option R)->Option R)(a:X->Option R):List Y->X->Option R
 | [],x=>a x
 |y::ys,x=>f y x (IB f a ys)
def Ra(e:Bool)(k:Option R):Option R:=match e with
 |true=>k
 |false=>C7
def zR(p:Nat×SP):Bool:=match p.2 with
 | .c _=>Bp
 |_=>Aj
def u7(q:IQ N):Bool:=((q.pi.ro.map (·.1)).all λk=>aX k q.pi.nk)&&(Ci (q.pi.ro.map (·.1))&&(q.pi.ro.all λp=>p.2.ks.all λk=>B_ (q.pi.ro.map (·.1)) k))
def R5(a:List Nat)(st:St N.T):St N.T:=app st C7 ⟨.no,[],a.map λk=>(k, .gone)⟩ st.nk
def WM(q:IQ N)(x:BJ N q.pi.hs)(m:List (Nat×Nat))(s:St N.T):St N.T:=⟨s.L,(q.pi.ro.map λp=>(AZ m p.1,(instR N q.pi.hs x p.2).DO (AZ m)))++s.O,s.nk⟩
abbrev eR(N:C9)(R:Type):=Nat->List (SV N.T)->List (SR N.T)->St N.T->(St N.T->Option R)->(Nat->St N.T->Option R)->(St N.T->Option R)->Option R
def fT(C:List (SV N.T))(CR:List (SR N.T))(nk:Nat)(ps:Array Tmp)(q:IQ N)(x:BJ N q.pi.hs)(m:List (Nat×Nat))(p:A_)(z:Kc N.T)(b c:eR N R)(ke:Nat->St N.T->Option R)(kr:St N.T->Option R)(y:DP N q.ts)(a:BJ N (GP p z).hs)(nx:BJ N (GP p z).hs->Option R):Option R:=b nk z.C z.CR ⟨T' ps.toList (QY q.ts y) (FG N (GP p z) a).L,(FG N (GP p z) a).O,(FG N (GP p z) a).nk⟩ (λs=>c nk z.C z.CR s (λs=>Ab (SI N z.C z.CR nk (GP p z) ⟨(FG N (GP p z) a).L,s.O,s.nk⟩) nx) (λi s=>ke i (D0 z.C z.CR C.length CR.length (WM q x m ⟨(FG N (GP p z) a).L,s.O,s.nk⟩))) (λs=>kr (D0 z.C z.CR C.length CR.length (WM q x m ⟨(FG N (GP p z) a).L,s.O,s.nk⟩)))) (λ_ _=>C7) (λ_=>C7)
def oD(
     C:List (SV N.T)) (CR:List (SR N.T)) (n:Nat) (ps:Array Tmp) (e:Option A_) (st:St N.T) (q:IQ N) (l:SV N.T) (cs:List Nat) (c d:eR N R) (kn:St N.T->Option R) (ke:Nat->St N.T->Option R) (kr:St N.T->Option R):Option (Option R):=
 match(Hh (FC l cs).length q.pi.sl.length&&q.pi.sl.all (λp=>aX p.1 (FC l cs).length))&&(u7 q&&Hh q.yi (S8 l).length)with
 |false=>C7
 |true=>
      match JP C (An CR st.O) (λi=>(FC l cs).getD i .no) (Hi C (An CR st.O) (λi=>(FC l cs).getD i .no) q.pi) q.pi with
  |none=>C7
  |some x=>Ac (match e with
   |none=>C7
   |some p=>match wy C CR (R5 (q.pi.ro.map λp=>AZ (Hi C (An CR st.O) (λi=>(FC l cs).getD i .no) q.pi) p.1) st) p with
    |none=>C7
    |some z=>match(z.sl.all zR&&Hh z.st.nk st.nk)&&(Hh ps.size q.ts.length&&ps.toList.all (λt=>aX t n))with
     |false=>C7
     |true=>Ab (q.F x) λys=>Ab (SI N z.C z.CR st.nk (GP p z) z.st) λx0=>
      IB (fT C CR st.nk ps q x (Hi C (An CR st.O) (λi=>(FC l cs).getD i .no) q.pi) p z c d ke kr)
       (λf=>Ra ys.2 (kn (D0 z.C z.CR C.length CR.length (WM q x (Hi C (An CR st.O) (λi=>(FC l cs).getD i .no) q.pi) (FG N (GP p z) f))))) ys.1 x0)
structure Sa(C:List (SV N.T))(CR:List (SR N.T))(n:Nat)(bs:List (Nat×BZ))(st:St N.T)(η:Nat->BZ)(H:Hp)(tm:Array BZ)(Y:List (Nat×Aw)):Prop where
 inv:N.inv H
 size:tm.size=n
 Bo:∀t sv,Ay st.L t=Ac sv->sv.is C η H (tm.getD t undef)
 base:∀p∈bs,η p.1=p.2
 nd:(keys Y).Nodup
 lt:∀k∈keys Y,k<st.nk
 res:∀k sr,An CR st.O k=Ac sr->DU C η H Y k sr
variable {C : List (SV N.T)} {CR : List (SR N.T)} {n : Nat} {Of : Fm} {bs : List (Nat × BZ)} {st : St N.T} {η : Nat -> BZ} {H : Hp} {a : Act} {w : IU} {Y : List (Nat × Aw)}
section
variable{nk:Nat}{η':Nat->BZ}{c:Hp}{k:Nat}{L:List (Nat×SV N.T)}{τ:Nat->Nat}{q:IQ N}{x:BJ N q.pi.hs}{m:List (Nat×Nat)}{tm:Array BZ}
theorem Sat.sa(h:Sat C CR n Of bs st η H a w):∃Y,Sa C CR n bs st η H a.tmps Y/\SH w H (Y.map (·.2)++Of.O):=by obtain⟨Y,b,c,d,e⟩:=h.own;exact⟨Y,⟨h.inv,h.size,h.Bo,h.base,b,d,e⟩,c⟩
theorem Sa.sat{b:Array BZ}(h:Sa C CR n bs st η H b Y){O:List Aw}{ds:List Deferred}(c:SH w H (Y.map (·.2)++O)):Sat C CR n ⟨O,ds⟩ bs st η H ⟨b,ds⟩ w:=
 ⟨h.inv,rfl,h.size,h.Bo,h.base,Y,h.nd,c,h.lt,h.res⟩
theorem Sa.mono{d:Array BZ}(h:Sa C CR n bs st η H d Y)(b:H.le c):Sa C CR n bs st η c d Y:=
 ⟨N.CZ b h.inv,h.size,λt sv i=>(h.Bo t sv i).mono b,h.base,h.nd,h.lt,λk j g=>(h.res k j g).imp id λ⟨x,e,f⟩=>⟨x,e,f.mono b⟩⟩
def FN(η:Nat->BZ)(nk:Nat):List (Nat×BZ):=(aT nk).map λk=>(k,η k)
theorem Nq(h:k<nk):(k,η k)∈FN η nk:=By.2 ⟨k,Abg.2 h,rfl⟩
theorem Ih{p:Nat×BZ}(h:p∈FN η nk):p.1<nk/\p.2=η p.1:=by obtain⟨k,b,rfl⟩:=By.1 h;grind
theorem LY(h:∀p∈FN η nk,η' p.1=p.2)(b:k<nk):η' k=η k:=h _ (Nq b)
theorem X'{e:Array BZ}(hc:∀t sv,Ay L t=Ac sv->∃j,sv= .Cw j)(g:∀k∈CW C,η' k=η k)(b:H.le c)(h:∀t sv,Ay L t=Ac sv->sv.is C η H (e.getD t undef)):∀t sv,Ay L t=Ac sv->sv.is C η' c (e.getD t undef):=λt sv d=>by obtain⟨j,rfl⟩:=hc t sv d;exact((h t _ d).env g (λk f=>by cases f)).mono b
theorem cv{O e:List (Nat×SR N.T)}(hc:∀t sv,Ay L t=Ac sv->∃j,sv= .Cw j)(f:∀s∈C,RN s=Bp)(h:Nv (An CR O) (Cv C L) τ):Nv (An CR e) (Cv C L) τ:=λt=>by
 have b:=h t;unfold Cv at b⊢;cases d:Ay L t with
 |none=>trivial
 |some sv=>
  obtain⟨j,rfl⟩:=hc t sv d;rw[d]at b;simp only[res]at b⊢;rw[Aaa]at b⊢;cases c:C[j]? with
  |none=>trivial
  |some s=>
   rw[c]at b;have:=f s (Aai c);cases s<;>first|exact b|trivial
theorem iH{p:A_}{x:BJ N p.hs}(h:p.sl.all zR=Bp):∀t sv,Ay (FG N p x).L t=Ac sv->∃j,sv= .Cw j:=λt sv c=>by
 obtain⟨q,b,_,rfl⟩:=DE c;have:=No.1 h q b;unfold zR at this;split at this;· rename_i j e;rw[e];exact⟨j,rfl⟩
 grind
theorem Z3{η:Nat->BZ} :∀(ts:List Tmp) (ss:List (SV N.T)) (vs:List BZ) (L:List (Nat×SV N.T)) (b:Array BZ),vs.length=ss.length->ss.length=ts.length->(∀t∈ts,t<b.size)->(∀(i:Nat) (s:SV N.T),ss[i]?=Ac s->∃v,vs[i]?=Ac v/\s.is C η H v)->
  (∀t sv,Ay L t=Ac sv->sv.is C η H (b.getD t undef))->((ts.zip vs).foldl (λb (p:Tmp×BZ)=>b.setIfInBounds p.1 p.2) b).size=b.size/\∀t sv,Ay (T' ts ss L) t=Ac sv->sv.is C η H (((ts.zip vs).foldl (λb (p:Tmp×BZ)=>b.setIfInBounds p.1 p.2) b).getD t undef)
 | [],[],[],L,b,_,_,_,_,h=>⟨rfl,h⟩
 | [],_::_,_,_,_,_,h,_,_,_=>by grind
 |_::_,[],_,_,_,_,h,_,_,_=>by grind
 |_,_::_,[],_,_,h,_,_,_,_=>by grind
 | [],[],_::_,_,_,h,_,_,_,_=>by grind
 |t::ts,s::ss,v::vs,L,b,m,o,j,k,q=>by
  have:=Z3 ts ss vs ((t,s)::L) (b.setIfInBounds t v) (by grind) (by grind) (λu d=>by grind) (λi s r=>k (i+1) s (by grind)) λu sv d=>by
   simp only[Ay]at d;cases f:Hh t u with
   |true=>
    rw[f]at d;have:=AI f;obtain⟨z,e,y⟩:=k 0 s rfl;simp_all
   |false=>
    simp_all[ne,Abf]
  exact⟨by simp_all,this.2⟩
theorem OW:∀(ts:List Ty) (y:DP N ts),∀s∈QY ts y,EW s=Bp/\RS s=Bp
 | [],_,s,h=>by trivial
 | [t],y,s,h=>by simp[QY]at h;subst h;trivial
 |t::u::ts,y,s,h=>by
  simp only[QY,Aav]at h;rcases h with rfl|h;· trivial
  ·exact OW (u::ts) y.2 s h
theorem VK{τ:Nat->Nat}{Rr:Nat->Option (SR N.T)} :∀(ts:List Tmp) (ss:List (SV N.T)) (L:List (Nat×SV N.T)),(∀s∈ss,EW s=Bp/\RS s=Bp)->Nv Rr (Cv C L) τ->Nv Rr (Cv C (T' ts ss L)) τ
 | [],_,_,_,h=>h
 |_::_,[],_,_,h=>h
 |t::ts,s::ss,L,c,h=>by
  refine VK ts ss ((t,s)::L) (λz f=>c z (by grind)) λq=>?_;have b:=h q;unfold Cv at b⊢;simp only[Ay];cases g:Hh t q with
  |true=>
   obtain⟨d,e⟩:=c s (by simp);have:res C s=s:=by cases s<;>first|rfl|cases e
   grind[DB]
  |false=>omega
theorem gM{A:Nat->SV N.T}{vs:List BZ}(hx:JP C (An CR st.O) A m q.pi=Ac x)(M:u7 q=Bp)(len:vs.length=q.pi.sl.length)(hv:∀p∈q.pi.sl,∃v,vs[p.1]?=Ac v/\(A p.1).is C η H v)
  (h:Sa C CR n bs st η H tm Y) (hw:WF C CR bs st):
  (q.pi.ro.map λp=>AZ m p.1).Nodup/\(∀p∈q.pi.ro,AZ m p.1<st.nk)/\(∀p∈q.pi.sl,∃v,vs[p.1]?=Ac v/\(inst N q.pi.hs x p.2).is [] (λc=>η (AZ m c)) H v)/\WF C CR bs (R5 (q.pi.ro.map λp=>AZ m p.1) st)/\
  ∃Yc U:List (Nat×Aw),keys Yc=q.pi.ro.map (·.1)/\(∀p∈q.pi.ro,∃X,Ay Yc p.1=Ac X/\(instR N q.pi.hs x p.2).is [] (λc=>η (AZ m c)) H p.1 X)/\Sa C CR n bs (R5 (q.pi.ro.map λp=>AZ m p.1) st) η H tm U/\∀w O,SH w H (Y.map (·.2)++O)->SH w H (Yc.map (·.2)++(U.map (·.2)++O)):=by
 obtain⟨B,Q,D⟩:=LV (C:=C) (η:=η) (H:=H) (Y:=Y) (vs:=vs) (A:=A) hx len hv (λp d r f=>h.res _ r f);generalize o:(q.pi.ro.map λp=>AZ m p.1)=l at B;have T:∀k∈l,∃r,An CR st.O k=Ac r:=λk b=>by grind
 have S:∀k∈l,k<st.nk:=λk b=>by refine Aby λL=>?_;have:=hw.ok k L;grind[An]
 have F:keys (l.map λk=>(k,(SR.gone:SR N.T)))=l:=by unfold keys;rw[Aam];exact Afm _
 refine⟨B,λp d=>S _ (by grind),Q,hw.Vt (n:=n) ⟨?_,Aae _,λj W i=>?_,λ_ _=>trivial⟩,q.pi.ro.map (λp=>(p.1,(Ay Y (AZ m p.1)).getD .emp)),Y.filter (λp=> !B_ l p.1),?_,λp d=>?_,⟨h.inv,h.size,λt sv I=>?_,h.base,(Acs.map _).nodup h.nd,λk b=>?_,λk r b=>?_⟩,λw O P=>?_⟩;· unfold G';simp only[NS,RS,Bool.and_self,Ahi,AT,Agn,and_true];refine No.2 λp d=>?_;grind[On,nq]
 ·grind
 ·simp[keys]
 ·obtain⟨_,X,J,h2⟩:=D p d;refine⟨X,?_,h2⟩;unfold u7 at M;have nd:(keys (q.pi.ro.map (λp=>(p.1,(Ay Y (AZ m p.1)).getD .emp)))).Nodup:=by
   unfold keys;grind
  rw[CK nd (By.2 ⟨p,d,rfl⟩),J];rfl
 ·have I:Ay (iV (keys (l.map λk=>(k,(SR.gone:SR N.T)))) st.L) t=Ac sv:=I;rw[QC]at I;obtain⟨z,y,rfl⟩:=Pd.1 I;exact QD (h.Bo t z y)
 ·obtain⟨p,d,rfl⟩:=By.1 b;exact h.lt _ (By.2 ⟨p,(Abb.1 d).1,rfl⟩)
 ·have b:An CR ((l.map λk=>(k,(SR.gone:SR N.T)))++st.O) k=Ac r:=b;rw[Hb _ _ (λp d=>by obtain⟨k,_,rfl⟩:=By.1 d;rfl)]at b;unfold RK at b;split at b;· rename_i s G;cases b;obtain⟨k',_,e⟩:=By.1 (A4 G);cases e;exact .inl rfl
  ·have hn:k∉l:=λhm=>by
    obtain⟨z,y⟩:=Ds (show k∈keys (l.map λk=>(k,(SR.gone:SR N.T))) by rw[F];exact hm);grind
   exact(h.res k r b).imp id λ⟨z,g1,g2⟩=>⟨z,by rw[LP hn];exact g1,g2⟩
 ·have y:=SH.Rd P (Z:=(q.pi.ro.map λp=>(AZ m p.1,(Ay Y (AZ m p.1)).getD .emp))++Y.filter λp=> !B_ l p.1) (by
   unfold keys;rw[Aak,Aam];refine Acv.2 ⟨by show(q.pi.ro.map λp=>AZ m p.1).Nodup;rw[o];exact B,(Acs.map _).nodup h.nd,λk b k' K e=>?_⟩;subst e;obtain⟨p,d,rfl⟩:=By.1 K;have V:=(Abb.1 d).2;have b:p.1∈q.pi.ro.map λp=>AZ m p.1:=b;rw[o]at b;rw[AU.2 b]at V;cases V) (λp d=>by
   rcases AS.1 d with d|d;· obtain⟨z,y,rfl⟩:=By.1 d;obtain⟨_,X,J,_⟩:=D z y;simp only[J,Ack]
   ·exact CK h.nd (Abb.1 d).1);rw[Aak,Aam,Aaj]at y;rw[Aam];exact y
theorem Xr{ρ:Nat->Nat}(s:SR N.T):On (s.DO ρ)=Bp:=by cases s<;>rfl
theorem ir{G:Hp}{Yc:List (Nat×Aw)}(W:u7 q=Bp)(o:(q.pi.ro.map λp=>AZ m p.1).Nodup)(B:∀p∈q.pi.ro,AZ m p.1<nk)(V:nk<=st.nk)(M:∀k,k<nk->η' k=η k)
  (hc:∀t sv,Ay st.L t=Ac sv->∃j,sv= .Cw j) (r:keys Yc=q.pi.ro.map (·.1)) (hr:∀p∈q.pi.ro,∃X,Ay Yc p.1=Ac X/\(instR N q.pi.hs x p.2).is [] (λc=>η (AZ m c)) G p.1 X) (h:Sa C CR n bs st η' G tm Y) (J:WF C CR bs st):
  WF C CR bs (WM q x m st)/\∃Y',Sa C CR n bs (WM q x m st) η' G tm Y'/\∀w O,SH w G (Yc.map (·.2)++(Y.map (·.2)++O))->SH w G (Y'.map (·.2)++O):=by
 unfold u7 at W;simp only[AT]at W;obtain⟨o1,o2,o3⟩:=W;generalize u:(q.pi.ro.map λp=>AZ m p.1)=K at o;have y:keys (q.pi.ro.map λp=>(AZ m p.1,(instR N q.pi.hs x p.2).DO (AZ m)))=K:=by unfold keys;rw[Aam,<-u];rfl
 have inj:∀c∈q.pi.ro.map (·.1),∀d∈q.pi.ro.map (·.1),AZ m c=AZ m d->c=d:=λc hc d U e=>by obtain⟨p,i,rfl⟩:=By.1 hc;obtain⟨p',D,rfl⟩:=By.1 U;grind[AZ,P_]
 have b:keys (Yc.map λp=>(AZ m p.1,p.2))=K:=by
  unfold keys at r⊢;rw[Aam];have e:(Yc.map ((·.1)∘λp=>(AZ m p.1,p.2)))=(Yc.map (·.1)).map (AZ m):=by simp
  rw[e,r,Aam,<-u];rfl
 refine⟨⟨J.lo,λj A=>?_,?_,J.mC,J.cP⟩,(Yc.map λp=>(AZ m p.1,p.2))++Y.filter (λp=> !B_ K p.1),⟨h.inv,h.size,h.Bo,h.base,?_,λk l=>?_,λk sr g=>?_⟩,λw O hsh=>?_⟩;· have A:st.nk<=j:=A;show Ay ((q.pi.ro.map λp=>(AZ m p.1,(instR N q.pi.hs x p.2).DO (AZ m)))++st.O) j=C7;rw[BT,J.ok j A,Cz λI=>?_];grind
 ·obtain⟨τ,hτ⟩:=J.wf;exact⟨τ,cv hc J.cP hτ⟩
 ·unfold keys at b⊢;rw[Aak,b];refine Acv.2 ⟨o,(Acs.map _).nodup h.nd,λk r k' g e=>?_⟩;grind[AU]
 ·show k<st.nk;unfold keys at l b;rw[Aak,b]at l;rcases AS.1 l with l|l;· grind
  ·obtain⟨p,i,rfl⟩:=By.1 l;exact h.lt _ (By.2 ⟨p,(Abb.1 i).1,rfl⟩)
 ·have g:An CR ((q.pi.ro.map λp=>(AZ m p.1,(instR N q.pi.hs x p.2).DO (AZ m)))++st.O) k=Ac sr:=g;rw[Hb _ _ (λp i=>by obtain⟨z,_,rfl⟩:=By.1 i;exact Jk (Xr _))]at g;unfold RK at g;split at g
  ·rename_i s S;cases g;obtain⟨p,i,e⟩:=By.1 (A4 S);cases e;obtain⟨X,x1,x2⟩:=hr p i;have Z:p.1∈q.pi.ro.map (·.1):=By.2 ⟨p,i,rfl⟩;refine .inr ⟨X,?_,SR.My (M _ (B p i)) (λj A=>?_) x2⟩;· rw[BT,VV (λd U e=>inj d (by rw[<-r];exact U) p.1 Z e),x1]
   ·have A:=instR_ment _ _ _ _ A;have:=AU.1 (No.1 (No.1 o3 p i) j A);obtain⟨p',D,rfl⟩:=By.1 this;exact M _ (B p' D)
  ·rename_i S;have Q:k∉K:=λI=>by
    obtain⟨z,hz⟩:=Ds (show k∈keys (q.pi.ro.map λp=>(AZ m p.1,(instR N q.pi.hs x p.2).DO (AZ m))) by rw[y];exact I);rw[hz]at S;cases S
   refine(h.res k sr g).imp id λ⟨z,g1,g2⟩=>⟨z,?_,g2⟩;rw[BT,Cz (by rw[b];exact Q),LP Q];exact g1
 ·have L:SH w G (((Yc.map λp=>(AZ m p.1,p.2))++Y).map (·.2)++O):=by
   rw[Aak,Aam,Aaj];exact hsh
  refine SH.Rd L ?_ λp i=>?_;· unfold keys at b⊢;rw[Aak,b];refine Acv.2 ⟨o,(Acs.map _).nodup h.nd,λk r k' g e=>?_⟩;subst e;obtain⟨p,i,rfl⟩:=By.1 g;have v:=(Abb.1 i).2;rw[AU.2 r]at v;cases v
  ·rw[BT];rcases AS.1 i with i|i;· rw[CK (by rw[b];exact o) i]
   ·have v:=(Abb.1 i).2;have Q:p.1∉K:=λI=>by rw[AU.2 I]at v;cases v
    rw[Cz (by rw[b];exact Q)];exact CK h.nd (Abb.1 i).1
end
end
end Go.GV
