/- Part 8 of the texts of this claim: what its theorem leans on. -/
import Derived.Test.YtimbbibpghnipaaGreatDoorZLookupItems7
set_option linter.all false
open Option renaming some→Ac,none→C7
open Bool renaming false→Ak,true→Bp
open Go renaming Value→BZ,Operand→DQ,TypeId→Gn,Program→GJ,World→IK,execOp→Km,Oper→K0,IntKind→Lh
open Decidable renaming decide→Dm
open List renaming length→FB,replicate→T0,range→aE,take_succ_eq_append_getElem→cu,set→kS,take_append_drop→rS,getElem_mem→Als
open Int renaming toNat→Z5
open Go.Op renaming bytesLess→fS
open Nat renaming strongRecOn→ru
namespace Go.GL
open Go Go.GV Go.GK Go.Proofs
section
variable{l:Tb}{n fu:Nat}{a b cs:List Int}{es:List Cm}{i:Nat}{x:Int}{m s:Nat}{c:Nat->Int}{f:Nat->Bool}{q:Int}{kn:List Lg}{g:Nat->Bool}{d:List Int}{α:Type}{t:Nat}
theorem Bf.by(h:Bf l):NZ l:=λs b e a=>by have:=(h s b).rg e a;omega
theorem BQ.len(h:BQ es m n):es.length<=m:=by
 have f:(es.map λe=>e.1.toNat).Nodup:=by refine Adr.2 ?_;refine Age (λ{a b} g j i=>?_) h.so;have:=h.rg a g;omega
 have:=Ch (b:=aE m) f (λx k=>by obtain⟨c,hc,rfl⟩:=By.1 k;have:=h.rg c hc;grind);grind
theorem Bf.sh(h:Bf l)(a:l.length<=n)(b:256<=n):DT l n:=⟨a,λs c=>by have:=(h s c).len;omega⟩
theorem Gw(K:Lg)(kn:List Lg)(lo:Nat):∀n,(∀b,lo<=b->b<lo+n->live (Iv K b)=Ak)->AM K kn (lo+n)=AM K kn lo
 |0,_=>rfl
 |n+1,h=>by rw[<-Ado,Mo,Gw K kn lo n λb a c=>h b a (by omega)];grind[Db]
theorem Mn(K:Lg)(kn:List Lg):AM K kn 0=(kn,[]):=rfl
theorem Xf(K D:Lg)(kn:List Lg)(lo hi:Nat)(h1:lo<=hi)(h2:hi<256)(d:∀b,b<256->b<lo\/hi<b->live (Iv K b)=Ak)(f:∀b,lo<=b->b<=hi->Iv K b=D)(g:live D=Bp):
  AM K kn 256=(IP kn D,[((lo:Int),(hi:Int),((Ij kn D:Nat):Int))]):=by
 have a:AM K kn (0+lo)=AM K kn 0:=Gw K kn 0 lo λb _ h=>d b (by omega) (.inl (by omega));have e:AM K kn (hi+1)=Db (AM K kn lo) D lo hi:=HX K kn D lo hi h1 f;have c:AM K kn (hi+1+(255-hi))=AM K kn (hi+1):=Gw K kn (hi+1) (255-hi) λb i j=>d b (by omega) (.inr (by omega));rw[show hi+1+(255-hi)=256 by omega]at c;rw[Abl,Mn]at a;rw[c,e,a];unfold Db;rw[if_pos g];rfl
theorem TW(K:Lg)(kn:List Lg)(a:∀b,b<256->live (Iv K b)=Ak):AM K kn 256=(kn,[]):=by have:=Gw K kn 0 256 λb _ h=>a b (by omega);trivial
def single(w:List UInt8):Lg:=λv=>Dm (v=w)
theorem KW(w:List UInt8):live (single w)=Bp:=Jp (w:=w) (by simp[single])
theorem TQ{v w:List UInt8}(h:single v=single w):v=w:=by have:=congrFun h v;grind[single]
theorem ofNat_eq{b:Nat}(a:b<256)(c:UInt8):UInt8.ofNat b=c↔b=c.toNat:=by
 constructor;· rintro rfl;simp;omega
 simp_all
theorem IF{b:Nat}(a:b<256)(c:UInt8)(w:List UInt8):Iv (single (c::w)) b=if b=c.toNat then single w else λ_=>Ak:=by grind[Iv,single,List.cons.injEq,ofNat_eq]
theorem Mi(b:Nat):Iv (single []) b=λ_=>Ak:=by rfl
theorem H4:live (λ_=>Ak)=Ak:=CY.2 λ_=>rfl
def Uh(s:List UInt8)(k:Nat):List Lg:=Bh k λj=>single (s.drop j)
theorem U_(s:List UInt8):∀(d k fu:Nat),k+d=s.length->d+1<=fu->DJ fu (Uh s (k+1)) (CI s k)=Bu s
 |0,k,fu+1,t,_=>by
  obtain rfl:k=s.length:=by omega
  have j:(CI s s.length).length=s.length:=by simp[CI]
  have g:(Uh s (s.length+1))[(CI s s.length).length]?=Ac (single []):=by grind[Uh,I']
  unfold DJ;rw[g];dsimp only;rw[TW _ _ λb q=>by grind[Mi,H4]];have e:CI s s.length++[(single [] [],[])]=Bu s:=by simp[CI,Bu,single]
  rw[e];cases fu with
  |zero=>rfl
  |succ fu=>
   grind[DJ,Uh,Bu,List.getElem?_eq_none,Az]
 |d+1,k,fu+1,t,x=>by
  have l:k<s.length:=by omega
  have j:(CI s k).length=k:=by simp[CI];omega
  have g:(Uh s (k+1))[(CI s k).length]?=Ac (single (s.drop k)):=by rw[j];unfold Uh;rw[I' (by omega)]
  have c:s.drop k=s[k]::s.drop (k+1):=Aaq l;have m:single (s.drop (k+1))∉Uh s (k+1):=λu=>by obtain⟨i,y,r⟩:=EF.1 u;have:=congrArg FB (TQ r);simp at this;omega
  have n:=Xf (single (s.drop k)) (single (s.drop (k+1))) (Uh s (k+1)) s[k].toNat s[k].toNat (Aae _) s[k].toNat_lt
   (λb q h=>by rw[c,IF q,if_neg (by omega)];exact H4)
   (λb v w=>by have:=s[k].toNat_lt;rw[c,IF (by omega),if_pos (by omega)]) (KW _);have o:Ij (Uh s (k+1)) (single (s.drop (k+1)))=k+1:=by rw[GA m];unfold Uh;rw[Az]
  have p:IP (Uh s (k+1)) (single (s.drop (k+1)))=Uh s (k+2):=by unfold IP;rw[if_pos (GA m)];unfold Uh;rw[Dg (k+1)]
  unfold DJ;rw[g];dsimp only;rw[n,p,o];have e:CI s k++[(single (s.drop k) [],[((s[k].toNat:Int),(s[k].toNat:Int),((k+1:Nat):Int))])]=CI s (k+1):=by rw[KQ l,c];simp[single,KR,l]
  rw[e];exact U_ s d (k+1) fu (by omega) (by omega)
theorem Y2(s:List UInt8){fu:Nat}(a:s.length+1<=fu):Et fu (single s)=Bu s:=by unfold Et;rw[if_pos (KW s)];have:=U_ s s.length 0 fu (by omega) a;trivial
theorem YZ(s:List UInt8):uy (Uh s (s.length+1)):=by
 intro K d b e a;obtain⟨i,f,rfl⟩:=EF.1 d;rcases Aal i s.length with h|h
 ·rw[Aaq h,IF e]at a⊢;split at a;· rename_i c;rw[if_pos c];exact EF.2 ⟨i+1,by omega,rfl⟩
  grind[H4]
 grind[List.drop_of_length_le,Mi,H4]
theorem TE(s:List UInt8):Bf (Bu s)/\Av (Bu s) 0=single s:=by have:=Ww (YZ s) (L:=single s) (λ_=>EF.2 ⟨0,by omega,rfl⟩) (fu:=s.length+2) (by grind[Uh,Az]);grind[Y2]
def KI:Tb:=[(Bp,[(0,255,0)])]
theorem rT:Bf KI:=by intro s a;simp[KI]at a;subst a;exact⟨by trivial,by simp⟩
theorem dc:Av KI 0=λ_=>Bp:=by
 funext w;induction w with
 |nil=>rfl
 |cons c w b=>
  have:Bl KI 0 c.toNat=0:=by have:=c.toNat_lt;grind[Bl,Be,KI,AQ,BN]
  show Av KI (Bl KI 0 c.toNat) w=Bp;grind
theorem de:BW KI=KI:=by
 unfold BW;rw[dc];have c:live (λ_=>Bp)=Bp:=Jp (w:=[]) rfl;have a:AM (λ_=>Bp) [λ_=>Bp] 256=Db (AM (λ_=>Bp) [λ_=>Bp] 0) (λ_=>Bp) 0 255:=HX _ _ _ 0 255 (by simp) λb _ _=>rfl;have f:Ij [λ_=>Bp] (λ_=>Bp)=0:=by have:=gM (kn:=[λ_=>Bp]) (by simp) (i:=0) (by simp);simpa using this
 have d:IP [λ_=>Bp] (λ_=>Bp)=[λ_=>Bp]:=Gz (by simp);have e:AM (λ_=>Bp) [λ_=>Bp] 256=([λ_=>Bp],[(0,255,0)]):=by rw[a,Mn];unfold Db;rw[if_pos c];rw[d,f];rfl
 show Et 2 _=_;unfold Et;rw[if_pos c];unfold DJ;simp only[Adu,Aln];rw[e];rfl
theorem Lz{b:Nat}{i:Int}(w:DT l n)(x:n<fu)(h1:i<l.length):Ok (t_ fu (l,i,(b:Int))) (λr=>r=Bl l i b):=by
 refine N6 (λh=>MH (by grind[Jb])) λh=>Adq (by omega) h1 ?_;have v:=Bs (by omega) h1;have p:Bl l i b=AQ (l[i.toNat]'(by omega)).2 b:=by grind[Bl]
 rw[p];have o:=w.2 _ (AN (by omega:i.toNat<l.length));generalize l[i.toNat]'(by omega)=s at o;refine Vs (λk=> ∀j (_:j<k) (q:j<s.2.length),BN b s.2[j]=Ak) s.2.length (by omega) (by omega) (λk nx t e u=>?_) (λnx e=>?_)
 ·have d:BN b s.2[k]=Ak->∀j (_:j<k+1) (q:j<s.2.length),BN b s.2[j]=Ak:=λh j q m=>by
   grind
  refine PW (Aah t (N6 (λc=>N6 (λg=>MH ?_) λg=>u (d ?_)) λc=>u (d ?_)));· exact(G9 t (by simp[BN,c,g]) λi f=>e i f (by omega)).symm
  all_goals grind[BN]
 simp_all[PY,MH,Gr]
theorem nP(fu:Nat)(l:Tb):F9 fu l=xw fu l:=rfl
theorem Th{s:Au}(A:NZ l)(o:DT l n)(m:n<fu)(E:n<4294967296)(C:s.length<fu)(D:s.length<4294967296):Ok (dQ fu (l,s)) (λr=>r=I1 l s):=by
 rw[dQ];rw[nP];refine Oy (Ea A o m E) λx t=>PS (λh=>MH ?_) λh=>N6 (λh=>MH ?_) λG=>?_;· refine(Ti (λf=>?_) s).symm;have:=t.2 f;subst this;cases h
 ·obtain rfl:l=[]:=OF.1 (by omega);rw[LU (by simp[Bf]),Ed]
 have f:Bf l:=t.1 (by cases x;cases h;rfl);rw[LU f];refine Xg (X:=Int×Int) (λp=>p.1<l.length/\(0<=p.2/\p.2<=s.length)/\runT l 0 s=runT l p.1 (s.drop p.2.toNat)) (λp=>s.length-p.2.toNat) ⟨by(try simp only);omega,⟨by decide,by(try simp only);omega⟩,rfl⟩ (by simpa using C) λp nx w _ j=>?_;obtain⟨q,i⟩:=p;obtain⟨e,⟨u,v⟩,c⟩:=w;simp only at e u v c;try dsimp only
 refine N6 (λB=>?_) λB=>?_
 ·have b:i.toNat<s.length:=by omega
  have g:i=((i.toNat:Nat):Int):=by omega
  have y:∀ {k:Int->Option Bool} {P},Ok (k (((s[i.toNat]'b).toNat:Nat):Int)) P->Ok (Ab (Ey s i) k) P:=λh=>by rw[g];exact Zi b h
  refine y (Oy (Lz o m e) λa z=>PA (by unfold GK.DW;omega) ?_);subst z;have F:=f.st q (s[i.toNat]'b).toNat;refine j (_,i+1) ⟨by(try simp only);omega,⟨by(try simp only);omega,by(try simp only);omega⟩,?_⟩ (by(try simp only);omega);try simp only
  rw[c,show(i+1).toNat=i.toNat+1 by omega,<-HW,Aaq b]
 ·have b:i.toNat=s.length:=by omega
  rw[b,Aay (Aae _)]at c;refine N6 (λd=>Adq d e (MH ?_)) λd=>MH ?_;· unfold Av;rw[c];exact(Ef d e).symm
  ·unfold Av;rw[c];unfold fin runT;simp[d]
theorem TL(fu:Nat)(l:Tb):F13 fu l=F38 fu l:=by rfl
def zM(fu k:Nat)(nx:(List Bool×Nat)->Option (List Bool))(x:TC)(o:List Bool)(j:Nat)(a:(List Bool×Nat)->Option (List Bool)):Option (List Bool):=bif Dm ((↑j:Int)<(↑(FB x.2):Int))then Ab (idx x.2 (↑j:Int)) λb=>Ab (idx o (↑k:Int)) λc=>bif c then Ab (idx o (↑k:Int)) λe=>a (o.set k Bp,j+1)else Ab (idx o b.2.2) λd=>Ab (idx o (↑k:Int)) λf=>a (o.set k d,j+1)else nx (o,k+1)
def Ar(l:Tb)(f:Nat->Bool)(s:Nat):Prop:= ∃st,l[s]?=Ac st/\(st.1=Bp\/∃e∈st.2,f e.2.2.toNat=Bp)
def GI(l:Tb)(f:Nat->Bool):Prop:= ∀s,s<l.length->Ar l f s->f s=Bp
def Nr(l:Tb)(f:Nat->Bool):Prop:= ∀s,s<l.length->f s=Bp->live (Av l (s:Nat))=Bp
theorem Ar.mono(k:Bf l)(a:∀j,j<l.length->f j=Bp->g j=Bp)(h:Ar l f s):Ar l g s:=by obtain⟨st,b,d⟩:=h;refine⟨st,b,d.imp id λ⟨e,c,i⟩=>⟨e,c,a _ ?_ i⟩⟩;have:=(k st (Aai b)).rg e c;omega
theorem Oa{es:List Cm}{m n:Nat}(h:BQ es m n){e:Cm}(a:e∈es):AQ es e.1.toNat=e.2.2:=by obtain⟨i,b,rfl⟩:=Aas a;have g:=h.rg _ a;refine G9 b (by grind[BN]) λj c=>?_;have d:=Aaw.1 h.so j i (by omega) b c;grind[BN]
theorem Ar.live(o:Bf l)(k:Nr l f)(h:Ar l f s):live (Av l (s:Nat))=Bp:=by
 obtain⟨st,c,d⟩:=h;have a:Be l (s:Nat)=st:=by grind[Be]
 have i:=o st (Aai c);rcases d with d|⟨e,j,m⟩;· exact Jp (w:=[]) (by grind[Av,runT,fin])
 ·have n:=i.rg e j;have g:=k _ (by omega) m;refine RQ (b:=e.1.toNat) ?_;rw[Fp _ _ _ (by omega)];have:Bl l (s:Nat) e.1.toNat=e.2.2:=by unfold Bl;grind[Oa]
  grind
theorem GI.all{l:Tb}{f:Nat->Bool}(m:Bf l)(h:GI l f):∀(w:List UInt8) (s:Nat),s<l.length->Av l (s:Nat) w=Bp->f s=Bp
 | [],s,c,a=>by refine h s c ⟨l[s],GB c, .inl ?_⟩;grind[Av,runT,fin,Be]
 |b::w,s,c,a=>by
  have g:Be l (s:Nat)=l[s]:=Bs (by omega) (by omega);have e:Av l (s:Nat) (b::w)=Av l (Bl l (s:Nat) b.toNat) w:=rfl;rw[e]at a;have k:Bl l (s:Nat) b.toNat=AQ l[s].2 b.toNat:=by grind[Bl]
  rw[k]at a;unfold AQ at a;cases j:l[s].2.find? (BN b.toNat)with
  |none=>grind[Ee]
  |some e=>
   have d:=Acj j;have n:=(m _ (AN c)).rg e d;refine h s c ⟨l[s],GB c, .inr ⟨e,d,?_⟩⟩;refine GI.all m h w e.2.2.toNat (by omega) ?_;grind
theorem JY{k:Nat}(I:Bf l)(H:DT l n)(J:n<fu)(v:k<l.length){P:List Bool->Prop}{nx:(List Bool×Nat)->Option (List Bool)}
  (b:(Nat->((List Bool)×Nat->Option (List Bool))->List Bool->Nat->((List Bool)×Nat->Option (List Bool))->Option (List Bool)))
  (C:∀y o j f,b k y o j f=zM fu k y l[k] o j f)
  (F:∀m,(∀j,j<l.length->m j=if j=k then(g k||l[k].2.any λe=>g e.2.2.toNat)else g j)->Ok (nx (Bh l.length m,k+1)) P):
  Ok (Ad fu (λp f=>b k nx p.1 p.2 f) (Bh l.length g,0)) P:=by
 have D:=I _ (AN v);refine Sj (λj o=> ∃m,o=Bh l.length m/\∀i,i<l.length->m i=if i=k then(g k||(l[k].2.take j).any λe=>g e.2.2.toNat)else g i) l[k].2.length ⟨g,rfl,λi _=>by grind⟩ (by have:=H.2 _ (AN v);omega) (λj o f B A w=>?_) (λo f A=>?_)
 ·obtain⟨m,rfl,c⟩:=A;have G:=D.rg _ (AN B)
  rw[C];have q:((l[k].2.take (j+1)).any λe=>g e.2.2.toNat)=(((l[k].2.take j).any λe=>g e.2.2.toNat)||g l[k].2[j].2.2.toNat):=by rw[<-Acm B,Aeu];simp
  refine PW (Aah B (BY (AW v) (PS (λh=>BY (AW v) (w _ ⟨_,A' _ _ _ _,λi u=>?_⟩)) λh=>?_)))
  ·grind
  ·have x:l[k].2[j].2.2.toNat<l.length:=by omega
   refine BY (a:=m l[k].2[j].2.2.toNat) (Hq G.2.2.2.1 x) (BY (AW v) (w _ ⟨_,A' _ _ _ _,λi u=>?_⟩));by_cases d:i=k
   ·subst d;have t:=c i u;rw[h]at t;simp only[if_true]at t⊢;rw[q,<-Bool.or_assoc,<-t,All,c _ x]
    all_goals grind
   grind
 ·obtain⟨m,rfl,c⟩:=A;simp_all[zM]
theorem Pb(z:Bf l)(X:DT l n)(hn:n<4294967296)(hf:n<fu):Ok (xR fu l) (λr=>r=Bh l.length λs=>live (Av l (s:Nat))):=by
 have hln:=X.1;rw[xR];refine PA (by grind) ?_;rw[DA];refine Sj (λk o=> ∃f,o=Bh l.length f/\Nr l f/\(GI l f\/AE l.length f+k<=l.length)) l.length ⟨_,rfl,λs _ h=>(by grind), .inr (by grind[Qr])⟩ (by omega) (λk o nx hk C W=>?_) (λo nx C=>?_)
 ·obtain⟨
      f,rfl,Q,P⟩:=C
  refine TJ (by omega) ?_;refine Sj (λq o=> ∃g,o=Bh l.length g/\Nr l g/\(∀j,j<l.length->f j=Bp->g j=Bp)/\(∀s,s<q->Ar l f s->g s=Bp)/\(GI l f->∀j,j<l.length->g j=f j)) l.length ⟨f,rf,Q,λ_ _ h=>h,λs h=>by omega,λ_ _ _=>rfl⟩ (by omega) (λq o K u C U=>?_) (λo K C=>?_)
  ·obtain⟨
       g,rfl,t,y,O,x⟩:=C
   have B:∀i:Nat->Bool,(∀j,j<l.length->i j=if j=q then(g q||l[q].1)else g j)->∀v,(∀j,j<l.length->v j=if j=q then(i q||l[q].2.any λe=>i e.2.2.toNat)else i j)->Ok (K (Bh l.length v,q+1)) (λr=>r=Bh l.length λs=>live (Av l (s:Nat))):=λi G v L=>by
    have E:∀j,j<l.length->g j=Bp->i j=Bp:=λj b h=>by grind
    have D:Nr l i:=λs a h=>by
     rw[G s a]at h;by_cases e:s=q
     ·subst e;rw[if_pos rfl]at h;cases I:g s;· rw[I,All]at h;exact Ar.live z t ⟨l[s],GB a, .inl h⟩
      ·exact t s a I
     ·rw[if_neg e]at h;exact t s a h
    have p:∀j,j<l.length->i j=Bp->v j=Bp:=λj b h=>by grind
    have R:Nr l v:=λs a h=>by
     rw[L s a]at h;by_cases e:s=q
     ·subst e;rw[if_pos rfl]at h;cases I:i s;· rw[I,All,Aca]at h;obtain⟨e,A,M⟩:=h;exact Ar.live z D ⟨l[s],GB a, .inr ⟨e,A,M⟩⟩
      ·exact D s a I
     ·rw[if_neg e]at h;exact D s a h
    refine U _ ⟨v,rf,R,λj b h=>p j b (E j b (y j b h)),λs hsq m=>?_,λc j b=>?_⟩
    ·by_cases e:s=q
     ·subst e;obtain⟨st,Z,H⟩:=m;rw[GB u]at Z;cases Z;rw[L s u,if_pos rfl];rcases H with H|⟨e,A,H⟩;· grind
      ·have:(l[s].2.any λe=>i e.2.2.toNat)=Bp:=Aca.2 ⟨e,A,E _ (by have:=(z _ (AN u)).rg e A;omega) (y _ (by have:=(z _ (AN u)).rg e A;omega) H)⟩;rw[this];simp
     grind
    ·have J:=x c;have N:∀j,j<l.length->i j=f j:=λj b=>by
      rw[G j b];split
      ·rename_i e;subst e;rw[J j b];cases S:l[j].1;· simp
       ·rw[c j b ⟨l[j],GB b, .inl S⟩];rfl
      ·exact J j b
     rw[L j b];split
     ·rename_i e;subst e;rw[N j b];cases S:l[j].2.any λe=>i e.2.2.toNat;· simp
      ·obtain⟨e,A,M⟩:=Aca.1 S;rw[N _ (by have:=(z _ (AN b)).rg e A;omega)]at M;rw[c j b ⟨l[j],GB b, .inr ⟨e,A,M⟩⟩];rfl
     ·exact N j b
   refine PW (Aah u (BY (AW u) (PS (λh=>BY (AW u) ?_) λh=>BY (AW u) ?_)));· rw[A'];refine JY z X hf u (λk nx o j F=>zM fu k nx l[q] o j F) (λ_ _ _ _=>rfl) λv p=>B _ (λj b=>?_) v p;by_cases e:j=q<;>simp[e,h]
   ·rw[A'];refine JY z X hf u (λk nx o j F=>zM fu k nx l[q] o j F) (λ_ _ _ _=>rfl) λv p=>B _ (λj b=>?_) v p;by_cases e:j=q<;>simp[e,h]
  ·obtain⟨g,rfl,t,y,O,x⟩:=C
   refine PY (W _ ⟨g,rfl,t,?_⟩);by_cases c:GI l f;· left;intro s a m;rw[x c s a];exact c s a (m.mono z λj b h=>by rw[x c j b]at h;exact h)
   ·have G:=P.resolve_left c;have:∃s,s<l.length/\f s=Ak/\g s=Bp:=IS λV=>c λs a m=>by
     cases d:f s;· exact absurd ⟨s,a,d,O s a m⟩ V
     ·rfl
    have:=Qs (n:=l.length) (f:=f) (g:=g) y this;omega
 ·obtain⟨f,rfl,Q,P⟩:=C
  have c:GI l f:=by
   rcases P with h|h;· exact h
   ·intro s a _;cases d:f s;· have:=Qs (n:=l.length) (f:=f) (g:=λ_=>Bp) (λ_ _ _=>rfl) ⟨s,a,d,rfl⟩;omega
    ·rfl
  refine PY (MH (AP λs a=>?_));cases d:f s
  ·cases T:live (Av l (s:Nat));· rfl
   ·obtain⟨w,Y⟩:=Hn.1 T;rw[c.all z w s a Y]at d;cases d
  ·exact(Q s a d).symm
noncomputable def Il(l:Tb)(e:Cm):Bool:=live (Av l e.2.2)
noncomputable def DS(l:Tb):Tb:=l.map λs=>(s.1,s.2.filter (Il l))
theorem L5(l:Tb):(DS l).length=l.length:=by simp[DS]
theorem BQ.filter(h:BQ es m n)(p:Cm->Bool):BQ (es.filter p) m n:=⟨λe a=>h.rg e (Aba.1 a).1,h.so.filter _⟩
theorem eY(h:Bf l):Bf (DS l):=λs a=>by obtain⟨t,b,rfl⟩:=By.1 a;rw[L5];exact(h t b).filter _
theorem Ss{p q:Cm->Bool}(l:∀e∈es,∀b∈es,q e=Bp->q b=Bp->e=b):(es.filter p).find? q=match es.find? q with
  |some e=>if p e then Ac e else C7
  |none=>C7:=by
 cases h:es.find? q with
 |none=>
  grind
 |some e=>
  try dsimp only
  by_cases c:p e=Bp;· cases d:(es.filter p).find? q with
   |none=>grind
   |some b=>
    grind
  grind
theorem BQ.uniq(h:BQ es m n)(b:Nat):∀e∈es,∀c∈es,BN b e=Bp->BN b c=Bp->e=c:=λe o c d k l=>by
 obtain⟨i,f,rfl⟩:=Aas o;obtain⟨j,g,rfl⟩:=Aas d;simp[BN]at k l;rcases Acx i j with a|a|a;· have:=Aaw.1 h.so i j f g a;omega
 ·grind
 ·have:=Aaw.1 h.so j i g f a;omega
theorem N8{l:Tb}(h:Bf l)(q:Int)(b:Nat):Bl (DS l) q b=if live (Av l (Bl l q b))then Bl l q b else-1:=by
 unfold Bl;split;· omega
 ·have a:Be (DS l) q=((Be l q).1,(Be l q).2.filter (Il l)):=by
   grind[Be,DS]
  rw[a]
  unfold AQ;have j:∀e∈(Be l q).2,∀f∈(Be l q).2,BN b e=Bp->BN b f=Bp->e=f:=by
   unfold Be;rw[Aaa];cases k:l[q.toNat]? with
   |none=>simp
   |some s=>exact(h s (Aai k)).uniq b
  rw[Ss j];grind[Be,BN,Il,live,Av]
theorem Pn{l:Tb}(h:Bf l):∀(w:List UInt8) (q:Int),Av (DS l) q w=Av l q w
 | [],q=>by grind[Av,runT,fin,Be,DS]
 |c::w,q=>by
  show Av (DS l) (Bl (DS l) q c.toNat) w=Av l (Bl l q c.toNat) w;rw[N8 h];split;· exact Pn h w _
  grind[live,Av,Bl,CY,Ee]
theorem eZ(h:DT l n):DT (DS l) n:=⟨by rw[L5];exact h.1,λs a=>by obtain⟨t,b,rfl⟩:=By.1 a;have:=h.2 t b;grind⟩
theorem Q0(y:Bf l)(t:DT l n)(B:n<4294967296)(z:n<fu):Ok (F12 fu l) (λr=>r=DS l):=by
 have A:=t.1;rw[F12];refine Oy (Pb y t B z) λx f=>?_;subst f;refine Sj (λk o=>o=(l.take k).map λs=>(s.1,s.2.filter (Il l))) l.length (by simp) (by omega) (λk o nx p i q=>?_) (λo nx i=>?_)
 ·subst i
  have v:=AN p;have C:=t.2 _ v;refine PW (Aah p ?_);refine Sj (λj x=>x=(l[k].2.take j).filter (Il l)) l[k].2.length (by simp) (by omega) (λj x u m f c=>?_) (λx u f=>?_)
  ·try dsimp only
   have w:=(y _ v).rg _ (AN m);have d:(l[k].2.take (j+1)).filter (Il l)=(l[k].2.take j).filter (Il l)++(if Il l l[k].2[j]then [l[k].2[j]]else []):=by rw[<-Acm m,Afx];simp[Afl]
   have e:Il l l[k].2[j]=live (Av l ((l[k].2[j].2.2.toNat:Nat):Int)):=by unfold Il;rw[Abd w.2.2.2.1]
   refine PW (Aah m (BY (Hq w.2.2.2.1 (by omega)) (PS (λh=>PA ?_ (c _ ?_)) λh=>c _ ?_)));all_goals grind
  ·subst f
   refine PY (PA ?_ (q _ ?_));· simp only[Aap,Abg,Abn,Adu];unfold Ai;omega
   ·rw[Al,<-Acm p,Aan];rfl
 ·subst i
  exact PY (MH (by rw[Al];rfl))
structure Ren(l:Tb)(ord:List Int):Prop where
 nd:ord.Nodup
 rg:∀q∈ord,0<=q/\q<l.length
def Ms(a:List Int)(e:Cm):Cm:=(e.1,e.2.1,((a.idxOf e.2.2:Nat):Int))
def Pg(l:Tb)(a:List Int)(q:Int)(s:TC):Prop:=s.1=(Be l q).1/\s.2=(Be l q).2.map (Ms a)/\∀e∈(Be l q).2,e.2.2∈a
theorem ot{d:Tb}(G:Bf l)(r:Ren l a)(I:d.length=a.length)(v:∀(k:Nat) (q:Int) (s:TC),a[k]?=Ac q->d[k]?=Ac s->Pg l a q s):
  Bf d/\∀(w:List UInt8) (k:Nat) (q:Int),a[k]?=Ac q->Av d (k:Nat) w=Av l q w:=by
 have g:∀(k:Nat) (q:Int),a[k]?=Ac q->Pg l a q (Be d (k:Nat)):=λk q f=>by grind[Be,FB]
 have A:∀q∈a,BQ (Be l q).2 256 l.length:=λq n=>by have:=r.rg q n;rw[Bs this.1 this.2];exact G _ (AN _)
 refine⟨λs F=>?_,λw=>?_⟩;· obtain⟨k,f,rfl⟩:=Aas F;have n:a[k]?=Ac a[k]:=GB (by omega);obtain⟨z,o,p⟩:=v k _ _ n (GB f);have i:=A _ (Aai n);rw[o];refine⟨λe B=>?_,Adr.2 i.so⟩;obtain⟨t,j,rfl⟩:=By.1 B;have E:=i.rg t j;grind[Ms]
 ·induction w with
  |nil=>
   intro k q f;have u:=r.rg q (Aai f);have:=(g k q f).1;grind[Av,runT,fin]
  |cons c w H=>
   intro k q f;have u:=r.rg q (Aai f);obtain⟨z,o,p⟩:=g k q f;show Av d (Bl d (k:Nat) c.toNat) w=Av l (Bl l q c.toNat) w;have x:Bl d (k:Nat) c.toNat=AQ ((Be l q).2.map (Ms a)) c.toNat:=by grind[Bl]
   have y:Bl l q c.toNat=AQ (Be l q).2 c.toNat:=by unfold Bl;rw[if_neg (by omega)]
   rw[x,y];unfold AQ;have m:((Be l q).2.map (Ms a)).find? (BN c.toNat)=((Be l q).2.find? (BN c.toNat)).map (Ms a):=by rw[List.find?_map];rfl
   rw[m];cases C:(Be l q).2.find? (BN c.toNat)with
   |none=>dsimp only[Option.map];rw[Ee (by decide),Ee (by decide)]
   |some e=>
    have D:=p e (Acj C);have h:=Adv D;exact H _ _ (by rw[GB h,Aew h])
theorem R9(h1:∀j (_:j<i) (f:j<a.length),a[j]≠x)(h2:i<=a.length)(h3:∀h:i<a.length,a[i]=x):a.idxOf x=i:=by
 rcases Aal i a.length with h|h
 ·have d:x∈a:=h3 h▸AN h;have c:=Adv d;have g:=Aew c;rcases Acx (a.idxOf x) i with b|b|b;all_goals simp_all[absurd,List.idxOf]
 grind
def Mv(a:List Int)(x:Int):List Int:=if x∈a then a else a++[x]
theorem ZJ(a:List Int)(x:Int):x∈Mv a x:=by grind[Mv]
theorem fM(a:List Int)(x:Int):(Mv a x).idxOf x=a.idxOf x:=by grind[Mv]
def FN(a b:List Int):Prop:= ∃m,b=a++m
theorem FN.refl(a:List Int):FN a a:=⟨[],by simp⟩
theorem FN.trans{c:List Int}(h:FN a b)(k:FN b c):FN a c:=by obtain⟨x,rfl⟩:=h;obtain⟨y,rfl⟩:=k;exact⟨x++y,by simp⟩
theorem FN.put(a:List Int)(x:Int):FN a (Mv a x):=by unfold Mv;split;exact .refl a;exact⟨[x],rfl⟩
theorem FN.mem(h:FN a b)(c:x∈a):x∈b:=by obtain⟨m,rfl⟩:=h;grind
theorem FN.ix(h:FN a b)(c:x∈a):b.idxOf x=a.idxOf x:=by obtain⟨m,rfl⟩:=h;grind
theorem FN.get(h:FN a b)(c:a[i]?=Ac x):b[i]?=Ac x:=by obtain⟨m,rfl⟩:=h;grind
theorem FN.len(h:FN a b):a.length<=b.length:=by obtain⟨m,rfl⟩:=h;simp
theorem Pg.ext{s:TC}(h:Pg l a q s)(f:FN a b):Pg l b q s:=by obtain⟨g,i,d⟩:=h;refine⟨g,?_,λe c=>f.mem (d e c)⟩;rw[i];refine Abs λe c=>?_;simp only[Ms,f.ix (d e c)]
theorem Ren.put(h:Ren l d)(h0:0<=x)(h1:x<l.length):Ren l (Mv d x):=by
 unfold Mv;split;· omega
 ·refine⟨Acv.2 ⟨h.nd,by simp,λa f b e=>?_⟩,λq c=>?_⟩;· grind
  ·rcases AS.1 c with c|c;· exact h.rg q c
   grind
theorem Ren.le{c:List Int}(h:Ren l c):c.length<=l.length:=by
 have e:(c.map Z5).Nodup:=by refine Adr.2 (Age (λ{a b} f i g=>?_) h.nd);have:=h.rg a f;have:=h.rg b i;omega
 have:=Ch (b:=aE l.length) e (λx k=>by obtain⟨q,j,rfl⟩:=By.1 k;have:=h.rg q j;grind);grind
theorem Rn(hw:Bf l)(h0:0<l.length)(hs:DT l n)(hn:n<4294967296)(hf:n+1<fu):
  Ok (F11 fu l) (λr=>Bf r/\Av r 0=Av l 0/\DT r n/\0<r.length):=by
 have hln:=hs.1;rw[F11];refine Xg (X:=List Int×Tb×Nat) (λx=>Ren l x.1/\x.1[0]?=Ac 0/\x.2.2=x.2.1.length/\x.2.1.length<=x.1.length/\∀(k:Nat) (q:Int) (s:TC),x.1[k]?=Ac q->x.2.1[k]?=Ac s->Pg l x.1 q s)
  (λx=>l.length+1-x.2.2) ⟨⟨by simp,by grind⟩,rfl,rfl,by simp,by simp⟩ (by omega) λx nx S _ hnx=>?_;obtain⟨c,out,k⟩:=x;obtain⟨I,P,F,W,d⟩:=S;dsimp only at I P F W d;subst F;have hol:=I.le;try dsimp only
 refine N6 (λY=>?_) λY=>MH ?_
 ·have A:out.length<c.length:=by omega
  have t:=I.rg _ (AN A);have p:=Bs t.1 t.2;have L:Be l c[out.length]∈l:=p▸AN _;have hE:=hw _ L;have hsl:=hs.2 _ L;refine Aah A (Adq t.1 t.2 (Aah A (Adq t.1 t.2 ?_)));rw[<-p];generalize H:Be l c[out.length]=st at L hE hsl;refine XD (λj o Q=>Ren l o/\FN c o/\Q=(st.2.take j).map (Ms o)/\∀e∈st.2.take j,e.2.2∈o) st.2.length ⟨I, .refl _,by simp,by simp⟩ (by omega) (λj o Q N O T Z=>?_) (λo Q N T=>?_)
  ·obtain⟨y,b,rfl,g⟩:=T
   have hr:=hE.rg _ (AN O);have hrl:=y.le;refine PW (Aah O ?_);have f:Ok (N (Mv o st.2[j].2.2,(st.2.take j).map (Ms o)++([(st.2[j].1,st.2[j].2.1,((o.idxOf st.2[j].2.2:Nat):Int))]:List (Int×Int×Int)),j+1)) (λr=>Bf r/\Av r 0=Av l 0/\DT r n/\0<r.length):=by
    refine Z _ _ ⟨y.put hr.2.2.2.1 hr.2.2.2.2,b.trans (.put _ _),?_,λe U=>?_⟩
    ·rw[<-Acm O,Aan];congr 1;· refine Abs λe U=>?_;simp only[Ms,(FN.put o st.2[j].2.2).ix (g e U)]
     grind[Ms,fM]
    ·rcases(Ag O).1 U with h|rfl;· exact(FN.put _ _).mem (g e h)
     grind[ZJ]
   refine Xg (X:=Int) (λi=>(0<=i/\i<=o.length)/\∀q (_:q<i.toNat) (t:q<o.length),o[q]≠st.2[j].2.2) (λi=>o.length-i.toNat) ⟨⟨by simp,by omega⟩,λq h=>by simp at h⟩ (by omega) λi nx2 S _ hn2=>?_;obtain⟨⟨C,Nz⟩,G⟩:=S;try dsimp only
   have B:((st.2.take j).map (Ms o)).length+([(st.2[j].1,st.2[j].2.1,i)]:List (Int×Int×Int)).length<=Ai:=by simp only[Aap,Abg,Abn,Adu];unfold Ai;omega
   refine N6 (λhi=>?_) λhi=>?_
   ·have D:i.toNat<o.length:=by omega
    refine Adq C hi (N6 (λhne=>PA (by omega) (hn2 (i+1) ⟨by omega,λq h1 R=>?_⟩ (by omega))) λheq=>?_)
    ·rcases Aal q i.toNat with h3|h3;· exact G q h3 R
     ·obtain rfl:q=i.toNat:=by omega
      exact hne
    ·have heq:o[i.toNat]=st.2[j].2.2:=IS heq;have E:o.idxOf st.2[j].2.2=i.toNat:=R9 G (by omega) λ_=>heq;have z:st.2[j].2.2∈o:=heq▸AN D;refine P7 (by omega) ?_;refine PA B ?_;rw[E,Abd C]at f;unfold Mv at f;rw[if_pos z]at f;exact f
   ·have D:i.toNat=o.length:=by omega
    have z:st.2[j].2.2∉o:=λL=>by obtain⟨q,t,e⟩:=Aas L;exact G q (by omega) t e
    have E:o.idxOf st.2[j].2.2=i.toNat:=by rw[List.idxOf_eq_length z,D]
    refine PW (PA (by(try simp)<;>(unfold Ai;omega)) ?_);refine PA B ?_;rw[E,Abd C]at f;unfold Mv at f;rw[if_neg z]at f;exact f
  ·obtain⟨y,b,rfl,g⟩:=T
   rw[Al]at g;have:=b.len;refine PY (PA (by(try simp)<;>(unfold Ai;omega)) (hnx _ ⟨y,b.get P,by simp,by simp;omega,λk q s F m=>?_⟩ (by dsimp only;omega)));by_cases V:k<out.length
   ·rw[Pe V]at m;have J:c[k]?=Ac c[k]:=GB (by omega);have u:=b.get J;rw[F]at u;obtain rfl:q=c[k]:=by simpa using u
    exact(d k _ s J m).ext b
   ·rw[Aab (by omega)]at m;have K:k=out.length:=by
     have:=(IT.1 m).1;simp at this;omega
    subst K;simp at m;subst m;have u:=b.get (GB A);rw[F]at u;obtain rfl:q=c[out.length]:=by simpa using u
    refine⟨by rw[H],by rw[H,Al],by rw[H];exact g⟩
 ·have hl:out.length=c.length:=by omega
  obtain⟨h1,R⟩:=ot hw I hl d;have hpos:=(IT.1 P).1;refine⟨h1,funext λw=>R w 0 0 P,⟨by omega,λs m=>?_⟩,by omega⟩;obtain⟨k,F,rfl⟩:=Aas m;have t:c[k]?=Ac c[k]:=GB (by omega);have p:=(d k _ _ t (GB F)).2.1;have M:=I.rg _ (Aai t);rw[p,Aap,Bs M.1 M.2];exact hs.2 _ (AN _)
theorem Rj(i:a.length<fu):Ok (F15 fu (a,b)) (λr=>r=Bp↔a=b):=by
 refine N6 (λh=>MH ⟨λh=>(by grind),λc=>by grind⟩) λh=>?_;have m:a.length=b.length:=by omega
 refine Vs (λk=> ∀j (_:j<k) (h:j<a.length) (c:j<b.length),a[j]=b[j]) a.length (by omega) i (λk nx l d n=>?_) (λnx d=>?_)
 ·refine PW (Aah l (Aah (by omega) (N6 (λh=>MH ⟨λh=>(by grind),λc=>by grind⟩) λh=>n λj o f g=>?_)));grind
 ·exact PY (MH ⟨λ_=>HB m λj h c=>d j h h c,λ_=>rfl⟩)
theorem R_[BEq α] [LawfulBEq α]{a:List α}{x:α}(h1:∀j (_:j<i) (f:j<a.length),a[j]≠x)(hi:i<a.length)(h3:a[i]=x):a.idxOf x=i:=by have e:x∈a:=h3▸AN hi;have c:=Adv e;have d:=Aew c;rcases Acx (a.idxOf x) i with b|b|b;all_goals simp_all[absurd,List.idxOf]
theorem bz{l:List (List Int)}{x:List Int}(n:l.length<fu)(o:∀y∈l,y.length<=m)(p:m<fu):Ok (F16 fu (l,x)) (λr=>if x∈l then r=(l.idxOf x:Nat)else r= -1):=by
 refine Vs (λk=> ∀j (_:j<k) (h:j<l.length),l[j]≠x) l.length (by omega) n (λk nx c a q=>?_) (λnx a=>?_)
 ·refine PW (Aah c (Oy (Rj (by grind)) λr g=>PS (λh=>MH ?_) λh=>q λj d i=>?_));· have b:=g.1 h;rw[if_pos (b▸AN c),R_ a c b]
  grind
 ·refine PY (MH ?_);grind
def Trim(l:Tb):Prop:= ∀(q:Int) (b:Nat),0<=Bl l q b->live (Av l (Bl l q b))=Bp
def c5(c:Nat->Int)(t:Int):Int:=if t<0 then t else c t.toNat
def E_(l:Tb)(cs:List Int)(c:Nat->Int)(s:Nat):List Int:=c s::cs.map λb=>c5 c (Bl l (s:Nat) b.toNat)
structure Cl5B(l:Tb)(c:Nat->Int):Prop where
 rg:∀s,s<l.length->0<=c s
structure WS(l:Tb)(c:Nat->Int):Prop where
 iff:∀s t,s<l.length->t<l.length->(c s=c t↔Av l (s:Nat)=Av l (t:Nat))
theorem Gb:E_ l cs c s=E_ l cs c t↔c s=c t/\∀b∈cs,c5 c (Bl l (s:Nat) b.toNat)=c5 c (Bl l (t:Nat) b.toNat):=by simp[E_]
theorem RT{l:Tb}(f:Bf l){cs:List Int}(hc:Br cs)(n:DN cs l)(c:Nat->Int)(j:Cl5B l c)
  (h1:∀s t,s<l.length->t<l.length->c s=c t->(Be l (s:Nat)).1=(Be l (t:Nat)).1)
  (h2:∀s t,s<l.length->t<l.length->c s=c t->∀b∈cs,c5 c (Bl l (s:Nat) b.toNat)=c5 c (Bl l (t:Nat) b.toNat)):
  ∀(w:List UInt8) (s t:Nat),s<l.length->t<l.length->c s=c t->Av l (s:Nat) w=Av l (t:Nat) w
 | [],s,t,k,m,h=>by grind[Av,runT,fin]
 |b::w,s,t,k,m,h=>by
  obtain⟨i,o,p,r⟩:=hc.find b.toNat b.toNat_lt;have e:∀q:Nat,Av l (q:Nat) (b::w)=Av l (Bl l (q:Nat) cs[i].toNat) w:=λq=>by show Av l (Bl l (q:Nat) b.toNat) w=_;rw[n.const hc f o p r]
  have a:=h2 s t k m h _ (AN o);have u:=f.st (s:Nat) cs[i].toNat;have v:=f.st (t:Nat) cs[i].toNat;rw[e,e];unfold c5 at a;by_cases g:Bl l (s:Nat) cs[i].toNat<0
  ·by_cases d:Bl l (t:Nat) cs[i].toNat<0;· simp_all
   ·have:=j.rg (Bl l (t:Nat) cs[i].toNat).toNat (by omega);omega
  ·by_cases d:Bl l (t:Nat) cs[i].toNat<0;· have:=j.rg (Bl l (s:Nat) cs[i].toNat).toNat (by omega);omega
   ·rw[if_neg g,if_neg d]at a;have:=RT f hc n c j h1 h2 w _ _ (by omega) (by omega) a;rwa [Abd (by omega),Abd (by omega)]at this
theorem aQ(i:Bf l)(ht:Trim l)(hc:Br cs)(a:∀s t,s<l.length->t<l.length->Av l (s:Nat)=Av l (t:Nat)->c s=c t)(k:s<l.length)(f:t<l.length)(h:Av l (s:Nat)=Av l (t:Nat)):
  E_ l cs c s=E_ l cs c t:=by
 refine Gb.2 ⟨a s t k f h,λb j=>?_⟩;have m:=hc.rg b j;have n:=i.st (s:Nat) b.toNat;have o:=i.st (t:Nat) b.toNat;have e:Av l (Bl l (s:Nat) b.toNat)=Av l (Bl l (t:Nat) b.toNat):=by rw[<-Fp _ _ _ (by omega),<-Fp _ _ _ (by omega),h]
 unfold c5;by_cases g:Bl l (s:Nat) b.toNat<0
 ·by_cases d:Bl l (t:Nat) b.toNat<0;· omega
  ·have:=ht (t:Nat) b.toNat (by omega);grind[Hm]
 ·by_cases d:Bl l (t:Nat) b.toNat<0;· have:=ht (s:Nat) b.toNat (by omega);rw[e,Hm d]at this;cases this
  ·rw[if_neg g,if_neg d];refine a _ _ (by omega) (by omega) ?_;rw[Abd (by omega),Abd (by omega),e]
theorem Gk.inj{f:Nat->α}{u:List α}(h:Gk n f u)(g:n<=u.length):∀s t,s<n->t<n->f s=f t->s=t:=λs t b c a=>by have d:Gk n (λi=>i) (aE n):=⟨List.nodup_range,λx=>by simp⟩;have:=(h.bu d (λs t _ _ e=>by rw[e])).2 (by have:=h.le;grind) s t b c a;omega
structure Ref5(l:Tb)(k r:Nat)(c:Nat->Int):Prop extends Cl5B l c where
 fwd:∀s t,s<l.length->t<l.length->Av l (s:Nat)=Av l (t:Nat)->c s=c t
 acc:∀s t,s<l.length->t<l.length->c s=c t->(Be l (s:Nat)).1=(Be l (t:Nat)).1
 AE:k=0\/∃(key:Nat->List Int) (u:List (List Int)),Gk l.length key u/\u.length=k/\∀s t,s<l.length->t<l.length->c s=c t->key s=key t
 rnd:r<=k
theorem SS(hw:Bf l)(htr:Trim l)(h0:0<l.length)(hc:Br cs)(hf:DN cs l)(d:DT l n)(hn:n<4294967296)(hfu:n+2<fu)(hfu':257<fu):
  Ok (F17 fu (l,cs)) (λr=> ∃c,WS l c/\r=Bh l.length c):=by
 have hln:=d.1;have hcl:=hc.le;have G:∀k (K:k<l.length),Be l (k:Nat)=l[k]:=λk K=>Bs (by omega) (by omega);refine PA (by grind) ?_;rw[DA];refine Sj (λk x=>x=Bh l.length (λs=>if s<k then(if(Be l (s:Nat)).1 then 1 else 0)else 0)) l.length (by simp) (by omega) (λk x nx K p E=>?_) (λx nx p=>?_)
 ·subst p
  refine PW (Aah K (PS (λh=>BY (AW K) (E _ ?_)) λh=>E _ (AP λs d=>?_)))
  ·rw[A'];grind
  grind
 ·subst p
  refine P7 (by omega) ?_;refine XD (S:=List Int) (T:=Nat) (λr X k=>k<=l.length/\∃c,X=Bh l.length c/\Ref5 l k r c) l.length ⟨by omega,_,rf,⟨λs d=>?_⟩,λs t d e h=>?_,λs t d e h=>?_, .inl rf,Aae _⟩ (by omega) (λr X k nx' hr f E=>?_) (λX k nx' f=>?_);· omega
  ·have:=congrFun h [];grind[Av,runT,fin]
  ·grind
  ·obtain⟨
       hkl,c,rfl,f⟩:=f
   refine PW (PA (by grind) ?_);refine XD (λj y u=>Gk j (E_ l cs c) u/\(∀x∈u,x.length=cs.length+1)/\y=Bh l.length (λs=>if s<j then((u.idxOf (E_ l cs c s):Nat):Int)else 0)) l.length ⟨.zero _,by simp,by simp⟩ (by omega) (λj y u nx2 hj Y P=>?_) (λy u nx2 Y=>?_)
   ·obtain⟨
        D,F,rfl⟩:=Y;have H:=D.le
    refine PW (BY (AW hj) ?_);refine Sj (λi x=>x=c j::(cs.take i).map λb=>c5 c (Bl l (j:Nat) b.toNat)) cs.length (by simp) (by omega) (λi x V hi p hn3=>?_) (λx V p=>?_)
    ·subst p;try dsimp only
     have Z:=hc.rg _ (AN hi);have hst:=hw.st (j:Nat) cs[i].toNat;have z:Ok (Af ((c j::(cs.take i).map λb=>c5 c (Bl l (j:Nat) b.toNat)).length+1<=Ai) (V ((c j::(cs.take i).map λb=>c5 c (Bl l (j:Nat) b.toNat))++[c5 c (Bl l (j:Nat) cs[i].toNat)],i+1))) (λr=> ∃c,WS l c/\r=Bh l.length c):=by refine PA (by(try simp)<;>(unfold Ai;omega)) (hn3 _ ?_);rw[<-Acm hi,Aan];rfl
     refine PW (Aah hi (PA (by omega) (Oy (Q:=λr=>r=Bl l (j:Nat) cs[i].toNat) ?_ λa I=>?_)));· have J:=Lz (b:=cs[i].toNat) (i:=(j:Int)) d (by omega:n<fu) (by omega);rwa [Abd Z.1]at J
     ·subst I;refine N6 (λh=>BY (Hq h (by omega)) ?_) λh=>?_;· unfold c5 at z;rw[if_neg (by omega)]at z;exact z
      ·unfold c5 at z;rw[if_pos (by omega)]at z;exact z
    ·subst p;try dsimp only
     rw[Al];refine PY (Oy (bz (m:=cs.length+1) (by omega) (λy hy=>by rw[F y hy];exact Aae _) (by omega)) λa I=>?_);have O:(c j::cs.map λb=>c5 c (Bl l (j:Nat) b.toNat))=E_ l cs c j:=rfl;rw[O]at I⊢;refine N6 (λh=>?_) λh=>?_
     ·have C:E_ l cs c j∉u:=λhm=>by rw[if_pos hm]at I;omega
      refine PA (by(try simp)<;>(unfold Ai;omega)) ?_;refine BY (AW hj) (P _ _ ⟨D.new C,λx p=>?_,?_⟩)
      ·rcases AS.1 p with p|p;· exact F x p
       ·simp at p;subst p;simp[E_]
      ·rw[A'];refine AP λs d=>?_;by_cases A:s=j;· subst A;rw[if_pos rfl,if_pos (by omega),Afd,if_neg C];simp
       ·rw[if_neg A];by_cases g:s<j;· rw[if_pos g,if_pos (by omega),Afd,if_pos ((D.mem _).2 ⟨s,g,rfl⟩)]
        ·rw[if_neg g,if_neg (by omega)]
     ·have C:E_ l cs c j∈u:=IS λhm=>by rw[if_neg hm]at I;omega
      rw[if_pos C]at I;refine BY (AW hj) (P _ _ ⟨D.old C,F,?_⟩);rw[A',I];refine AP λs d=>?_;by_cases A:s=j;· subst A;rw[if_pos rfl,if_pos (by omega)]
      ·rw[if_neg A];by_cases g:s<j;· rw[if_pos g,if_pos (by omega)]
       ·rw[if_neg g,if_neg (by omega)]
   ·obtain⟨D,F,rfl⟩:=Y;have H:=D.le;have B:∀s,s<l.length->E_ l cs c s∈u:=λs d=>(D.mem _).2 ⟨s,d,rfl⟩;have hpos:0<u.length:=Agp (B 0 h0);try dsimp only
    have L:Bh l.length (λs=>if s<l.length then((u.idxOf (E_ l cs c s):Nat):Int)else 0)=Bh l.length (λs=>((u.idxOf (E_ l cs c s):Nat):Int)):=
     AP λs d=>by rw[if_pos d]
    rw[L];have o:∀s t,s<l.length->t<l.length->(((u.idxOf (E_ l cs c s):Nat):Int)=((u.idxOf (E_ l cs c t):Nat):Int)↔E_ l cs c s=E_ l cs c t):=λs t d e=>
     ⟨λh=>OK (B s d) (B t e) (Int.ofNat_inj.1 h),λh=>by rw[h]⟩;have N:∀s t,s<l.length->t<l.length->Av l (s:Nat)=Av l (t:Nat)->E_ l cs c s=E_ l cs c t:=λs t d e h=>aQ hw htr hc f.fwd d e h;refine PY (N6 (λh=>MH ⟨λs=>((u.idxOf (E_ l cs c s):Nat):Int),⟨λs t d e=>?_⟩,rfl⟩) λh=>?_)
    ·rw[o s t d e];refine⟨λhe=>?_,N s t d e⟩;have hk':u.length=k:=by omega
     obtain⟨key,v,R,U,q⟩:=f.AE.resolve_left (by omega);have M:=(R.bu D (λs t d e h=>q s t d e (Gb.1 h).1)).2 (by omega);funext w;exact RT hw hc hf c f.toCl5B (λs t d e h=>f.acc s t d e h) (λs t d e h=>(Gb.1 (M s t d e (q s t d e h))).2) w s t d e (Gb.1 he).1
    ·have hlt:k<u.length:=by
      rcases f.AE with h0|⟨key,v,R,U,q⟩;· omega
      ·have:=(R.bu D (λs t d e h=>q s t d e (Gb.1 h).1)).1;omega
     have:=f.rnd;exact E _ _ ⟨H,_,rfl,⟨⟨λs d=>by omega⟩,λs t d e h=>(o s t d e).2 (N s t d e h),λs t d e h=>f.acc s t d e (Gb.1 ((o s t d e).1 h)).1, .inr ⟨E_ l cs c,u,D,rfl,λs t d e h=>(o s t d e).1 h⟩,by omega⟩⟩
  ·obtain⟨hkl,c,rfl,f⟩:=f;try dsimp only
   refine PY (MH ⟨c,⟨λs t d e=>⟨λh=>?_,f.fwd s t d e⟩⟩,rfl⟩);have:=f.rnd;obtain⟨key,v,R,U,q⟩:=f.AE.resolve_left (by omega);rw[R.inj (by omega) s t d e (q s t d e h)]
theorem OH{D:Lg}(h1:∀j (_:j<i) (e:j<kn.length),kn[j]≠D)(h2:i<=kn.length)(h3:∀h:i<kn.length,kn[i]=D):Ij kn D=i:=by grind[Ij,absurd]
structure uU(l:Tb)(kn:List Lg)(ord:List Int):Prop extends KnOk (pT l) kn where
 len:ord.length=kn.length
 ord:∀(i:Nat) (q:Int),ord[i]?=Ac q->(0<=q/\q<l.length)/\kn[i]?=Ac (Av l q)
theorem uU.put(h:uU l kn a)(h0:0<=q)(h1:q<l.length)(f:live (Av l q)=Bp)(g:Av l q∉kn):uU l (IP kn (Av l q)) (a++[q]):=by
 have e:IP kn (Av l q)=kn++[Av l q]:=by simp_all[IP,if_pos,GA]
 refine⟨h.toKnOk.IP (Jr h0 h1) f,by rw[e];simp[h.len],λi x b=>?_⟩;rw[e];by_cases d:i<a.length;· rw[Pe d]at b;have:=h.ord i x b;grind
 ·have c:i=a.length:=by
   grind
  subst c;simp at b;subst b;exact⟨⟨h0,h1⟩,by rw[h.len];simp⟩
theorem PK(v:WS l c)(h:uU l kn a)(h0:0<=q)(h1:q<l.length)(t:a.length<fu):
  Ok (xK fu (a,(Bh l.length c),q)) (λr=>r=(Ij kn (Av l q):Nat)):=by
 have p:=h.len;refine Vs (λk=> ∀j (_:j<k) (u:j<kn.length),kn[j]≠Av l q) a.length (by omega) t (λk nx f i w=>?_) (λnx i=>?_)
 ·obtain⟨⟨g,x⟩,o⟩:=h.ord k _ (GB f)
  have b:c a[k].toNat=c q.toNat↔Av l a[k]=Av l q:=by have:=v.iff a[k].toNat q.toNat (by omega) (by omega);grind
  refine PW (Aah f (BY (Hq g (by omega)) (BY (Hq h0 (by omega)) (N6 (λm=>MH ?_) λm=>w λj u s=>?_))));· rw[OH i (by omega) λ_=>by simp_all]
  grind
 ·refine PY (MH ?_);rw[OH i (by omega) λh=>by omega]
def gJ(fu:Nat)(es:List Cm)(i:Nat)(nx:(List Int×List Cm×Nat)->Option (Tb×Int))(lo hi n:Int)(a:List Int):Option (Tb×Int):=Aa (Lh.u8) lo<|Aa (Lh.u8) hi<|Af (FB es+1<=Ai)<|nx (a,es++[(lo,hi,n)],i+1)
def j20(fu:Nat)(es:List Cm)(i:Nat)(nx:(List Int×List Cm×Nat)->Option (Tb×Int))(lo hi n:Int)(a:List Int):Option (Tb×Int):=Aa (Lh.i64) ((↑(FB es):Int)-(1:Int))<|bif Dm ((0:Int)<=(↑(FB es):Int)-(1:Int))then Ab (idx es ((↑(FB es):Int)-(1:Int))) λd=>bif Dm (d.2.2=n)then Ab (idx es ((↑(FB es):Int)-(1:Int))) λb=>Aa (Lh.i64) (b.2.1+(1:Int))<|bif Dm (b.2.1+(1:Int)=lo)then Aa (Lh.u8) hi<|Ab (idx es ((↑(FB es):Int)-(1:Int))) λc=>nx (a,es.set (Z5 ((↑(FB es):Int)-(1:Int))) (c.1,hi,c.2.2),i+1)else gJ fu es i nx lo hi n a else gJ fu es i nx lo hi n a else gJ fu es i nx lo hi n a
noncomputable def zy(fu:Nat)(d a:List Int)(es:List Cm)(i:Nat)(nx:(List Int×List Cm×Nat)->Option (Tb×Int))(lo c hi:Int):Option (Tb×Int):=
 Ab (xK fu (a,d,c)) λb=>
 bif Dm (b=(↑(FB a):Int))then
  Af (FB a+1<=Ai)<|
  j20 fu es i nx lo hi b (a++[c])
 else
  j20 fu es i nx lo hi b a
theorem aR{q:Nat}{n:Int}{nx:(List Int×List Cm×Nat)->Option (Tb×Int)}{P:Tb×Int->Prop}
  (hc:Br cs) (hi:i<cs.length) (m:BQ es (pos cs i) q) (s:es.length<=256) (h:Ok (nx (d,push es cs[i] (GY cs i) n,i+1)) P):
  Ok (j20 fu es i nx cs[i] (GY cs i) n d) P:=by
 have o:=hc.rg _ (AN hi);have g:=hc.hi hi;have a:push es cs[i] (GY cs i) n=es++[(cs[i],GY cs i,n)]->Ok (gJ fu es i nx cs[i] (GY cs i) n d) P:=λr=>
  PA (p:=GK.F8 cs[i]) (by omega) (PA (p:=GK.F8 (GY cs i)) (by omega) (PA (by grind) (by grind)));refine PA (by omega) (N6 (λl=>?_) λl=>a ?_)
 ·have e:0<es.length:=by omega
  have k:((es.length:Int)-1)=((es.length-1:Nat):Int):=by omega
  have b:es.length-1<es.length:=by omega
  have u:=m.rg _ (AN b);have t:=PF hc i;have c:=Rs (lo:=cs[i]) (hi:=GY cs i) (n:=n) e;rw[k];refine Aah b (N6 (λf=>Aah b (PA (by omega) (N6 (λj=>?_) λj=>?_))) λf=>?_);· refine PA (by omega) (Aah b ?_);rw[if_pos ⟨f,j⟩]at c;rw[c]at h;rw[f];exact h
  all_goals grind
 ·obtain rfl:es=[]:=OF.1 (by omega);rfl
noncomputable def vV(fu:Nat)(l:Tb)(cs k:List Int):Option (Tb×Int):=
 Ad fu (
      λ(c:List Int×Tb×Nat) g=>
  bif Dm ((↑c.2.2:Int)<(↑(FB c.1):Int))then
   Ab (idx c.1 (↑c.2.2:Int)) λh=>
   Ab (idx l h) λi=>
   Ad fu (λ(a:List Int×List Cm×Nat) b=>
    bif Dm ((↑a.2.2:Int)<(↑(FB cs):Int))then
     Ab (idx cs (↑a.2.2:Int)) λd=>
     Ab (idx a.1 (↑c.2.2:Int)) λj=>
     Aa (Lh.u8) (d)<|
     Ab (t_ fu (l,j,d)) λe=>
     bif Dm (e<(0:Int))then
      b (a.1,a.2.1,a.2.2+1)
     else
      bif Dm ((↑(a.2.2+1):Int)<(↑(FB cs):Int))then
       Ab (idx cs (↑(a.2.2+1):Int)) λf=>
       Aa (Lh.i64) (f-(1:Int))<|
       zy fu k a.1 a.2.1 a.2.2 b d e (f-1)
      else
       zy fu k a.1 a.2.1 a.2.2 b d e 255
    else
     Af (FB c.2.1+1<=Ai)<|
     g (a.1,c.2.1++[(i.1,a.2.1)],c.2.2+1)) (c.1,[],0)
  else
   Ac (c.2.1,(0:Int))) ([(0:Int)],[],0)
theorem ae(S:Bf l)(htr:Trim l)(h0:0<l.length)(M:live (Av l 0)=Bp)(hc:Br cs)(hf:DN cs l)(hk:WS l c)(hs:DT l n)(hn:n<4294967296)(hfu:n+2<fu)(hfu':257<fu):
  Ok (vV fu l cs (Bh l.length c)) (λr=>r=(BW l,0)):=by
 have hcl:=hc.le;have hln:=hs.1;refine Xg (X:=List Int×Tb×Nat) (λx=> ∃f F,uU l f x.1/\x.2.2=x.2.1.length/\x.2.1.length<=f.length/\l.length<F+x.2.1.length/\DJ F f x.2.1=BW l) (λx=>l.length+1-x.2.2)
  ⟨[Av l 0],l.length+1,⟨⟨by simp,by grind[Jr],by grind⟩,rfl,λi q hq=>?_⟩,rfl,by simp,by simp,by grind[BW,Et]⟩ (by omega) λx nx hI _ hnx=>?_;· grind
 obtain⟨v,out,k⟩:=x;obtain⟨f,F,g,J,hol,hF,G⟩:=hI;dsimp only at g J hol hF G;subst J;have hkn:f.length<=l.length:=by have:=g.toKnOk.le;grind[Fi]
 have hlen:=g.len;try dsimp only
 refine N6 (λhlt=>?_) λhlt=>MH ?_
 ·have L:out.length<v.length:=by omega
  have p:v[out.length]?=Ac v[out.length]:=GB L;obtain⟨⟨y,z⟩,V⟩:=g.ord out.length _ p;generalize hqe:v[out.length]=q at y z V p;have P:=Bs y z;obtain⟨F,rfl⟩:∃F',F=F'+1:=⟨F-1,by omega⟩;have H:=Aai V;refine BY (by rw[Bk L,hqe]) (Adq y z ?_);rw[<-P];have hro:=λi w=>ER (H5 S) (g.sub _ H) g.toKnOk (pos cs i) w;refine XD (λi o R=>FN v o/\R=(AM (Av l q) f (pos cs i)).2/\R.length<=i/\uU l (AM (Av l q) f (pos cs i)).1 o) cs.length
   (by rw[Rw hc];exact⟨.refl _,rfl,by simp,g⟩) (by omega) (λi o R Q w U t=>?_) (λo R Q U=>?_)
  ·obtain⟨j,rfl,I,d⟩:=U;have hpl:=PF hc i;obtain⟨g1,g2,T⟩:=hro i hpl;have Y:=hc.rg _ (AN w);have hpa:=pos_at hc w;have hps:=Rx hc w;have hhi:=hc.hi w;have hst:=S.st q cs[i].toNat;have O:=j.get p;have hD:∀b,pos cs i<=b->b<=(GY cs i).toNat->Iv (Av l q) b=Av l (Bl l q cs[i].toNat):=λb b1 b2=>by
    rw[Js S hc hf q w (by omega) (by omega) (by omega),Fp _ _ _ (by omega)]
   have u:AM (Av l q) f (pos cs (i+1))=Db (AM (Av l q) f (pos cs i)) (Av l (Bl l q cs[i].toNat)) (pos cs i) (GY cs i).toNat:=by rw[show pos cs (i+1)=(GY cs i).toNat+1 by omega];exact HX _ _ _ _ _ (by omega) hD
   have D:=Lz (b:=cs[i].toNat) (i:=q) hs (by omega:n<fu) z;rw[Abd Y.1]at D;have B:=(IT.1 O).1;try dsimp only
   refine PW (Aah w (BY (by rw[Bk B];exact O▸(GB B).symm) (PA (by omega) (Oy D λa W=>?_))));subst W;refine N6 (λA=>t _ _ ?_) λA=>?_
   ·have e:AM (Av l q) f (pos cs (i+1))=AM (Av l q) f (pos cs i):=by rw[u];unfold Db;rw[Hm A];rfl
    rw[e];exact⟨j,rfl,by omega,d⟩
   ·have s:=htr q cs[i].toNat (by omega);have C:AM (Av l q) f (pos cs (i+1))=(IP (AM (Av l q) f (pos cs i)).1 (Av l (Bl l q cs[i].toNat)),push (AM (Av l q) f (pos cs i)).2 cs[i] (GY cs i) (Ij (AM (Av l q) f (pos cs i)).1 (Av l (Bl l q cs[i].toNat)):Nat)):=by
     rw[u];unfold Db;rw[if_pos s,hpa,Abd (by omega)]
    have K:=g2.le;rw[Fi]at K;have hlen':=d.len;have hpush:=Rt (AM (Av l q) f (pos cs i)).2 cs[i] (GY cs i) (Ij (AM (Av l q) f (pos cs i)).1 (Av l (Bl l q cs[i].toNat)):Nat);have h:Ok (zy fu (Bh l.length c) o (AM (Av l q) f (pos cs i)).2 i Q cs[i] (Bl l q cs[i].toNat) (GY cs i)) (λr=>r=(BW l,0)):=by
     unfold zy;refine Oy (PK hk d (by omega) (by omega) (by omega)) λa W=>?_;subst W;have Z:=aU (AM (Av l q) f (pos cs i)).1 (Av l (Bl l q cs[i].toNat));refine N6 (λhe=>?_) λhe=>?_
     ·have hnm:Av l (Bl l q cs[i].toNat)∉(AM (Av l q) f (pos cs i)).1:=λN=>by have:=Jw N;omega
      refine PA (by unfold Ai;omega) (aR hc w T.1 (by omega) (t _ _ ?_));rw[C];exact⟨j.trans ⟨_,rf⟩,rf,by omega,d.put (by omega) (by omega) s hnm⟩
     ·have N:Av l (Bl l q cs[i].toNat)∈(AM (Av l q) f (pos cs i)).1:=IS λN=>by have:=GA N;omega
      refine aR hc w T.1 (by omega) (t _ _ ?_);rw[C,Gz N];exact⟨j,rf,by omega,d⟩
    refine N6 (λh1=>?_) λh1=>?_
    ·have E:i+1<cs.length:=by omega
     have hr2:=hc.rg _ (AN E);refine Aah E (PA (by unfold GK.DW;omega) ?_);rw[EZ E]at h;exact h
    ·rw[Hr (by omega)]at h;exact h
  ·obtain⟨j,rfl,I,d⟩:=U;rw[Vy]at d⊢;obtain⟨g1,g2,T⟩:=ER (H5 S) (g.sub _ H) g.toKnOk 256 (Aae _);have:=g1.len;try dsimp only
   refine PY (PA (by(try simp)<;>(unfold Ai;omega)) (hnx _ ⟨(AM (Av l q) f 256).1,F,d,by simp,by simp;omega,by simp;omega,?_⟩ ?_))
   ·rw[<-G];dsimp only;conv=>rhs;unfold DJ
    rw[V];dsimp only;have:Av l q []=(Be l q).1:=by simp[Av,runT,fin,y]
    rw[this]
   ·dsimp only;omega
 ·have hno:f[out.length]?=C7:=Aco (by omega);rw[<-G];cases F with
  |zero=>rfl
  |succ F=>unfold DJ;rw[hno]
theorem N7(h:Bf l):Trim (DS l):=λq b c=>by have:Av (DS l) (Bl (DS l) q b)=Av l (Bl (DS l) q b):=funext λw=>Pn h w _;grind[N8]
theorem K3(C:NZ l)(v:DT l n)(f:n<4294967296)(k:n+2<fu)(e:257<fu):
  Ok (u6 fu l) (λr=>(Bf l->r=(BW l,0))/\(¬Bf l->r=([],11))):=by
 rw[u6];refine Oy (Ea C v (by omega) f) λx g=>PS (λh=>MH ?_) λh=>?_
 ·grind
 ·have d:Bf l:=g.1 (by grind);refine N6 (λh=>MH ⟨λ_=>?_,λa=>absurd d a⟩) λh=>?_;· obtain rfl:l=[]:=OF.1 (by omega);grind[live,Av,BW,Et,CY,Ed]
  ·refine Ok.mono (P:=λr=>r=(BW l,0)) ?_ λr E=>⟨λ_=>E,λa=>absurd d a⟩;refine Oy (Pb d v f (by omega)) λx g=>?_;subst g;have o:0<l.length:=by omega
   refine BY (AW (i:=0) o) (PS (λj=>MH ?_) λj=>?_)
   ·simp_all[live,Av,BW,Et]
   ·have u:live (Av l 0)=Bp:=by cases t:live (Av l 0)<;>simp[t]at j⊢
    refine Oy (Rn d o v f (by omega)) λm D=>?_;obtain⟨p,F,z,G⟩:=D;refine Oy (Q0 p z f (by omega)) λx g=>?_;subst g;have s:=eY p;have y:=eZ z;have B:Av (DS m) 0=Av l 0:=by rw[<-F];exact funext λw=>Pn p w 0
    have A:0<(DS m).length:=by rw[L5];exact G
    rw[TL];refine Oy (bY s y (by omega) (by omega)) λH b=>Oy (SS s (N7 p) A b.1 b.2 y f k e) λc hc=>?_;obtain⟨c,hc,rfl⟩:=hc;rw[<-IX s d B];exact ae s (N7 p) A (by rw[B];exact u) b.1 b.2 hc y f k e
theorem J6(f:NZ l)(d:DT l n)(g:n<4294967296)(c:n+2<fu)(a:257<fu):
  Ok (xJ fu l) (λr=>r=Bp↔Bf l/\BW l=l):=by
 refine Oy (K3 f d g c a) λx e=>?_;by_cases b:Bf l;· rw[e.1 b];refine TJ rf (Oy (Zu d (by omega)) λr i=>MH ?_);grind
 simp_all[absurd,P7,MH]
end
section
variable {σ : Type} {acc : σ -> Bool} {Ps : σ -> Nat -> σ}
section
variable{a:List σ}{T:Tb}
def rX(acc:σ->Bool)(Ps:σ->Nat->σ)(s:σ):Lg:=λw=>acc (w.foldl (λs c=>Ps s c.toNat) s)
structure UQ(acc:σ->Bool)(Ps:σ->Nat->σ)(ord:List σ)(s:σ)(r:TC):Prop where
 acc:r.1=acc s
 ed:BQ r.2 256 ord.length
 to:∀c,c<256->∃i:Nat,AQ r.2 c=i/\ord[i]?=Ac (Ps s c)
theorem UQ.ext{more:List σ}{s:σ}{r:TC}(h:UQ acc Ps a s r):UQ acc Ps (a++more) s r:=by refine⟨h.acc,h.ed.mono (Aae _) (by simp),λc hc=>?_⟩;obtain⟨i,d,b⟩:=h.to c hc;grind
structure Yk(acc:σ->Bool)(Ps:σ->Nat->σ)(ord:List σ)(T:Tb):Prop where
 len:T.length=ord.length
 row:∀(k:Nat) (s:σ) (r:TC),ord[k]?=Ac s->T[k]?=Ac r->UQ acc Ps ord s r
theorem Yk.wf(h:Yk acc Ps a T):Bf T:=λr b=>by obtain⟨k,d,rfl⟩:=Aas b;have:=(h.row k (a[k]'(by have:=h.len;omega)) T[k] (GB _) (GB _)).ed;rwa [h.len]
theorem Yk.lg{d:List σ}{T:Tb}(h:Yk acc Ps d T):∀(w:List UInt8) (k:Nat) (s:σ),d[k]?=Ac s->Av T (k:Int) w=rX acc Ps s w
 | [],k,s,b=>by
  have e:=(IT.1 b).1;have a:k<T.length:=by have:=h.len;omega
  have r:=h.row k s T[k] b (GB a);show fin T (k:Int)=acc s;rw[Ef (by omega) (by omega)];exact r.acc
 |c::w,k,s,b=>by
  have e:=(IT.1 b).1;have a:k<T.length:=by have:=h.len;omega
  have r:=h.row k s T[k] b (GB a);have hc:c.toNat<256:=c.toNat_lt;obtain⟨i,f,g⟩:=r.to c.toNat hc;show fin T (runT T (k:Int) (c::w))=rX acc Ps (Ps s c.toNat) w;rw[HW];have:Bl T (k:Int) c.toNat=(i:Int):=by simp_all[Bl,if_neg,Bs]
  rw[this];exact Yk.lg h w i _ g
end
end
section
variable{es:List Cm}
theorem Me{b:Nat}(h0:0<b)(h1:∀e∈es,e.1≠(b:Int))(h2:∀e∈es,e.2.1+1≠(b:Int)):AQ es b=AQ es (b-1):=by
 have:es.find? (BN b)=es.find? (BN (b-1)):=by
  induction es with
  |nil=>rfl
  |cons e es c=>
   grind[BN]
 grind[AQ]
theorem G8{es:List Cm}{lo:Nat} :∀(n:Nat),(∀b,lo<b->b<=lo+n->∀e∈es,e.1≠(b:Int)/\e.2.1+1≠(b:Int))->AQ es (lo+n)=AQ es lo
 |0,_=>rfl
 |n+1,h=>by rw[Me (by omega) (λe a=>(h _ (by omega) (Aae _) e a).1) (λe a=>(h _ (by omega) (Aae _) e a).2)];exact G8 n λb c d=>h b c (by omega)
end
section
variable {σ : Type} [BEq σ] [LawfulBEq σ]
section
variable{f:Nat->σ}{a:List σ}{es:List Cm}{c:Nat}
structure Fy(f:Nat->σ)(ord:List σ)(es:List Cm)(c:Nat):Prop where
 ed:BQ es c ord.length
 to:∀b,b<c->f b∈ord/\AQ es b=((ord.idxOf (f b):Nat):Int)
 last:0<c->∃es' lo q,es=es'++[(lo,(c:Int)-1,q)]
theorem Fy.zero:Fy f a [] 0:=⟨.nil,λb h=>by omega,λh=>by omega⟩
theorem Ja{es:List Cm}{c n:Nat}(h:BQ es c n){x:Cm}{b:Nat}(d:b<c)(a:BN b x=Ak):AQ (es++[x]) b=AQ es b:=by grind[AQ,BN]
theorem ED{es:List Cm}{c n:Nat}(h:BQ es c n){x:Cm}{b:Nat}(f:c<=b)(d:BN b x=Bp):AQ (es++[x]) b=x.2.2:=by
 unfold AQ;have:es.find? (BN b)=C7:=Adl.2 λe a=>by have:=h.rg e a;grind[BN]
 grind
theorem Fy.new{more:List σ}{e:Nat}(h:Fy f a es c)(j:f c∈a++more)(o:c<e)(p:∀b,c<=b->b<e->f b=f c):
  Fy f (a++more) (es++[((c:Int),(e:Int)-1,(((a++more).idxOf (f c):Nat):Int))]) e:=by
 refine⟨⟨λx d=>?_,Abb.2 ⟨h.ed.so,by simp,λx d y k=>?_⟩⟩,λb n=>?_,λ_=>⟨es,_,_,rf⟩⟩
 ·rcases AS.1 d with d|d;· have:=h.ed.rg x d;grind
  grind
 ·have:=h.ed.rg x d;grind
 ·rcases Aal b c with g|g;· obtain⟨l,q⟩:=h.to b g;refine⟨by grind,?_⟩;rw[Ja h.ed g (by unfold BN;simp;omega),q,Afd,if_pos l]
  ·have m:=p b g n;rw[m];refine⟨j,?_⟩;rw[ED h.ed g (by unfold BN;simp;omega)]
theorem Fy.more{i:List σ}{lo q:Int}(h:Fy f i (es++[(lo,(c:Int)-1,q)]) c)(h0:0<c)(m:f c=f (c-1)):Fy f i (es++[(lo,(c:Int),q)]) (c+1):=by
 have n:=h.ed.rg (lo,(c:Int)-1,q) (by simp);have d:BQ es c i.length:=⟨λx a=>h.ed.rg x (by grind),(Abb.1 h.ed.so).1⟩;have j:∀x∈es,x.2.1<lo:=λx a=>(Abb.1 h.ed.so).2.2 x a (lo,(c:Int)-1,q) (by simp);have e:BQ es lo.toNat i.length:=⟨λx a=>by have:=h.ed.rg x (by grind);grind,d.so⟩;have g:=h.to (c-1) (by omega);rw[ED e (by omega) (by grind[BN])]at g;refine⟨⟨λx a=>?_,Abb.2 ⟨d.so,by simp,λx a y l=>?_⟩⟩,λb s=>?_,λ_=>⟨es,lo,q,by simp⟩⟩
 ·rcases AS.1 a with a|a;· have:=d.rg x a;omega
  grind
 ·grind
 ·rcases Aal b c with k|k
  ·obtain⟨o,p⟩:=h.to b k;grind[BN,ED,Ja]
  ·obtain rfl:b=c:=by omega
   rw[m,ED e (by omega) (by unfold BN;simp;omega)];exact⟨g.1,g.2⟩
theorem Fy.row{acc:σ->Bool}{Ps:σ->Nat->σ}{s:σ}(h:Fy (Ps s) a es 256):UQ acc Ps a s (acc s,es):=
 ⟨rfl,h.ed,λc hc=>by obtain⟨d,e⟩:=h.to c hc;grind⟩
end
end
section
variable{fu n:Nat}{l a b:Tb}{m:Nat}{L:Lg}{r:Tb}{i:Int}{x:Int×Int}{f:Bool->Bool->Bool}{k c:Nat}{out:Tb}{is:Bool->Bool->Option Bool}{z:Int}{d:List (Int×Int)}{es:List Cm}{w:Au}
def jk(f:Bool->Bool->Bool)(a b:Tb)(p:Int×Int):Bool:=f (fin a p.1) (fin b p.2)
def CV(a b:Tb)(p:Int×Int)(c:Nat):Int×Int:=(Bl a p.1 c,Bl b p.2 c)
theorem Pc(f:Bool->Bool->Bool)(a b:Tb):∀(w:List UInt8) (p:Int×Int),rX (jk f a b) (CV a b) p w=f (Av a p.1 w) (Av b p.2 w)
 | [],p=>rfl
 |c::w,p=>Pc f a b w (CV a b p c.toNat)
open Classical in
noncomputable def Da(l:Tb):Tb:=if Bf l/\BW l=l then l else []
theorem Ht(l:Tb):Bf (Da l):=by grind[Da,Bf]
theorem Kq(l:Tb):(Da l).length<=l.length:=by grind[Da]
theorem Hu(h:DT l n):DT (Da l) n:=by
 unfold Da;split;· omega
 ·exact⟨by simp,by simp⟩
theorem Se(h:Bf l)(k:BW l=l):Da l=l:=by grind[Da]
theorem Na:BW ([]:Tb)=[]:=by grind[live,Av,BW,Et,CY,Ed]
theorem XL(l:Tb):BW (Da l)=Da l:=by grind[Da,Na]
theorem Gc(d:NZ l)(f:DT l n)(e:n<4294967296)(a:n+2<fu)(b:257<fu):QR fu l=Ac (Da l):=by refine(Ok.eq ?_);refine Oy (L2 d f e a (by omega)) λx c=>PS (λh=>MH ?_) λh=>MH ?_;all_goals grind[Da]
theorem MU(d:NZ l)(f:DT l n)(e:n<4294967296)(b:n+2<fu)(a:257<fu):xI fu l=Ac (Da l):=by refine(Ok.eq ?_);refine Oy (J6 d f e b a) λx c=>PS (λh=>MH ?_) λh=>MH ?_;all_goals grind[Da]
theorem Hb{l:Tb}{i:Int}(h:(l.length:Int)<=i):Be l i=(Ak,[]):=by grind[Be]
theorem Vk{l:Tb}{i:Int}(b:Nat)(h:(l.length:Int)<=i):Bl l i b= -1:=by unfold Bl;rw[if_neg (by omega),Hb h];rfl
theorem Qf{l:Tb}{i:Int}(h:(l.length:Int)<=i):fin l i=Ak:=by grind[fin,Hb]
theorem fin_neg{l:Tb}{i:Int}(h:i<0):fin l i=Ak:=by grind[fin]
theorem WJ:NY fu (l,i)=Ac (fin l i):=by refine(Ok.eq ?_);refine N6 (λh=>N6 (λk=>Adq h k (MH (Ef h k).symm)) λk=>MH (Qf (by omega)).symm) λh=>MH (fin_neg (by omega)).symm
theorem Q_{b:Nat}(v:DT l n)(w:n<fu):NW fu (l,i,(b:Int))=Ac (Bl l i b):=by
 refine(Ok.eq ?_);refine N6 (λh=>MH (Jb _ h).symm) λh=>N6 (λk=>MH (Vk _ k).symm) λk=>Adq (by omega) (by omega) ?_;have u:=Bs (l:=l) (i:=i) (by omega) (by omega);have p:Bl l i b=AQ (l[i.toNat]'(by omega)).2 b:=by grind[Bl]
 rw[p];have o:=v.2 _ (AN (by omega:i.toNat<l.length));generalize l[i.toNat]'(by omega)=s at o;refine Vs (λk=> ∀j (_:j<k) (q:j<s.2.length),BN b s.2[j]=Ak) s.2.length (by omega) (by omega) (λk nx r e t=>?_) (λnx e=>?_)
 ·have d:BN b s.2[k]=Ak->∀j (_:j<k+1) (q:j<s.2.length),BN b s.2[j]=Ak:=λh j q m=>by
   grind
  refine PW (Aah r (N6 (λc=>N6 (λg=>MH ?_) λg=>t (d ?_)) λc=>t (d ?_)));· grind[BN,G9]
  all_goals grind[BN]
 simp_all[PY,MH,Gr]
def J0(es:List Cm)(b:Nat):Prop:= ∃e∈es,e.1=(b:Int)\/e.2.1+1=(b:Int)
def CU(l:Tb)(i:Int):List Cm:=if i<0 then []else(Be l i).2
theorem HS(l:Tb)(i:Int)(b:Nat):Bl l i b=AQ (CU l i) b:=by unfold Bl CU;split<;>rfl
theorem fE(h:Bf l)(i:Int):BQ (CU l i) 256 l.length:=by
 unfold CU;split;· exact .nil
 ·rcases Ael i l.length with a|a;· rw[Bs (by omega) a];exact h _ (AN _)
  ·rw[Hb a];exact .nil
theorem Wf{p:Nat->Bool}(D:Bf l)(C:DT l n)(E:n<fu):
  Ok (NX fu (l,i,Bh 256 p)) λr=> ∃q,r=Bh 256 q/\∀b,b<256->(q b=Bp↔p b=Bp\/J0 (CU l i) b):=by
 have C7:CU l i=[]->∃q,Bh 256 p=Bh 256 q/\∀b,b<256->(q b=Bp↔p b=Bp\/J0 (CU l i) b):=λh=>⟨p,rfl,λb _=>by grind[J0]⟩;refine N6 (λh=>MH (C7 (by grind[CU]))) λh=>N6 (λk=>MH (C7 (by simp_all[CU,if_neg,Hb]))) λk=>Adq (by omega) (by omega) ?_;have B:CU l i=(l[i.toNat]'(by omega)).2:=by unfold CU;rw[if_neg h,Bs (by omega) (by omega)]
 have o:=fE D i;have w:=C.2 _ (AN (by omega:i.toNat<l.length));rw[B]at o⊢;generalize l[i.toNat]'(by omega)=s at o w;refine Sj (λj x=> ∃q,x=Bh 256 q/\∀b,b<256->(q b=Bp↔p b=Bp\/J0 (s.2.take j) b)) s.2.length ⟨p,rfl,λb _=>by simp[J0]⟩ (by omega) (λj x nx v t z=>?_) (λx nx t=>?_)
 ·obtain⟨
      q,rfl,d⟩:=t;have F:=o.rg _ (AN v);have y:∀b,J0 (s.2.take (j+1)) b↔J0 (s.2.take j) b\/s.2[j].1=(b:Int)\/s.2[j].2.1+1=(b:Int):=λb=>by
   unfold J0;simp only[Ag v];simp
  refine PW (Aah v ?_);dsimp only;rw[Abl,Acz,Abl,Acz];refine Abw (Abw (N6 (λA=>PA (p:=GK.F8 (s.2[j].2.1+1)) (by omega) (Abw (PA (by omega) ?_))) λA=>?_))
  ·rw[A',A'];refine z _ ⟨_,rfl,λb u=>?_⟩;rw[y];by_cases m:b=(s.2[j].2.1+1).toNat;· simp only[m,if_true,true_iff];exact .inr (.inr (.inr (by omega)))
   ·by_cases c:b=s.2[j].1.toNat;· simp only[m,if_false];simp only[c,if_true,true_iff];exact .inr (.inr (.inl (by omega)))
    ·simp only[m,c,if_false,d b u];constructor
     ·rintro(h|h);· exact .inl h
      ·exact .inr (.inl h)
     ·rintro(h|h|h|h);· exact .inl h
      ·exact .inr h
      ·omega
      ·omega
  ·rw[A'];refine z _ ⟨_,rfl,λb u=>?_⟩;rw[y];by_cases c:b=s.2[j].1.toNat;· simp only[c,if_true,true_iff];exact .inr (.inr (.inl (by omega)))
   ·simp only[c,if_false,d b u];constructor
    ·rintro(h|h);· exact .inl h
     ·exact .inr (.inl h)
    ·rintro(h|h|h|h);· exact .inl h
     ·exact .inr h
     ·omega
     ·omega
 ·obtain⟨q,rfl,d⟩:=t;rw[Al]at d;exact PY (MH ⟨q,rfl,d⟩)
theorem Ry{a:List (Int×Int)}{b:Nat->(Nat->Option Int)->Option Int}(p:a.length<fu)(n:∀k nx,k<a.length->b k nx=(bif Dm (x=a.getD k (0,0))then Ac (k:Int)else nx (k+1)))(o:∀nx,b a.length nx=Ac (-1)):
  Ad fu b 0=Ac (if x∈a then((a.idxOf x:Nat):Int)else-1):=by
 refine Ok.eq (Vs (λk=> ∀j (_:j<k) (h:j<a.length),a[j]≠x) a.length (by omega) p (λk nx d c q=>?_) (λnx c=>?_))
 ·rw[n k nx d];have e:a.getD k (0,0)=a[k]:=by grind
  rw[e];refine N6 (λh=>MH ?_) λh=>q λj f l=>?_;· have g:x∈a:=h▸AN d;rw[if_pos g,R_ c d h.symm]
  grind
 grind[MH]
theorem Xm{a:List (Int×Int)}(d:a.length<fu):uu fu (a,x)=Ac (if x∈a then((a.idxOf x:Nat):Int)else-1):=by
 refine Ry d (λk nx b=>?_) (λnx=>?_)
 all_goals grind[decide,Ab,idx]
theorem Xl{a:List (Int×Int)}(d:a.length<fu):F28 fu (a,x)=Ac (if x∈a then((a.idxOf x:Nat):Int)else-1):=by
 refine Ry d (λk nx b=>?_) (λnx=>?_)
 all_goals grind[decide,Ab,idx]
def ET(a:List (Int×Int))(x:Int×Int):List (Int×Int):=if x∈a then a else a++[x]
theorem Mu(a:List (Int×Int))(x:Int×Int):∃more,ET a x=a++more:=by unfold ET;split;all_goals simp
theorem Rp(a:List (Int×Int))(x:Int×Int):x∈ET a x:=by grind[ET]
theorem fL{c:List (Int×Int)}(h:c.Nodup):(ET c x).Nodup:=by grind[ET]
theorem PC(a:List (Int×Int))(x:Int×Int):(ET a x).idxOf x=if x∈a then a.idxOf x else a.length:=by grind[ET]
theorem ri:4294967296<=Ai:=by decide
theorem ga{a:List (Int×Int)}(d:a.length<fu)(e:a.length<4294967295):YI fu (x,a)=Ac ((((ET a x).idxOf x:Nat):Int),ET a x):=by
 refine(Ok.eq ?_);have c:=ri;refine BY (Xm d) ?_;by_cases h:x∈a;· simp_all[ET,if_pos,PY,MH,PC]
 ·rw[if_neg h];refine PW (Abw (MH ?_));grind[ET]
structure CD(r:Tb)(L:Lg)(m:Nat):Prop where
 wf:Bf r
 can:BW r=r
 lg:Av r 0=L
 len:r.length<=m
theorem CD.of{T:Tb}(a:Bf T)(b:Av T 0=L)(c:T.length<=m):CD (BW T) L m:=⟨Wu a,X' a,(Wv a).trans b,Aam (iO a) c⟩
theorem CD.unique{s:Tb}(h:CD r L m)(k:CD s L n):r=s:=by rw[<-h.can,<-k.can];exact IX h.wf k.wf (h.lg.trans k.lg.symm)
theorem CD.mono(h:CD r L m)(k:m<=n):CD r L n:=⟨h.wf,h.can,h.lg,Aam h.len k⟩
theorem CD.MV(h:CD r L m):Da r=r:=Se h.wf h.can
theorem CD.congr{M:Lg}(h:CD r L m)(k:L=M):CD r M m:=k▸h
theorem MT(l:Tb):CD (Da l) (Av (Da l) 0) l.length:=⟨Ht l,XL l,rfl,Kq l⟩
theorem CD.nil:CD [] (λ_=>Ak) m:=⟨by simp[Bf],Na,funext λw=>Ed 0 w,by simp⟩
def YR(a b:Tb)(p:Int×Int):Prop:=(-1<=p.1/\p.1<=a.length)/\ -1<=p.2/\p.2<=b.length
def GS(a b:Tb):Nat:=(a.length+2)*(b.length+2)
theorem Hj{c:List (Int×Int)}(f:c.Nodup)(h:∀p∈c,YR a b p):c.length<=GS a b:=by
 have key:∀(n m:Nat),((aE n).flatMap λ(i:Nat)=>(aE m).map λ(j:Nat)=>(((i:Int)-1,(j:Int)-1):Int×Int)).length=n*m:=λn m=>by
  induction n with
  |zero=>simp
  |succ n k=>simp_all[Aem,Acp,Aac,Aea]
 rw[GS,<-key];refine Ch f λp g=>?_;obtain⟨⟨l,o⟩,q,r⟩:=h p g;refine Aad.2 ⟨(p.1+1).toNat,Abf.2 (by omega),By.2 ⟨(p.2+1).toNat,Abf.2 (by omega),?_⟩⟩;grind
theorem YR.step(d:Bf a)(e:Bf b)(p:Int×Int)(c:Nat):YR a b (CV a b p c):=by have:=d.st p.1 c;have:=e.st p.2 c;grind[YR,CV]
structure GQ(f:Bool->Bool->Bool)(a b:Tb)(p0:Int×Int)(ord:List (Int×Int))(out:Tb):Prop where
 zero:ord[0]?=Ac p0
 nd:ord.Nodup
 mQ:∀p∈ord,YR a b p
 le:out.length<=ord.length
 row:∀(k:Nat) (s:Int×Int) (r:TC),ord[k]?=Ac s->out[k]?=Ac r->UQ (jk f a b) (CV a b) ord s r
theorem GQ.put{l:Int×Int}(h:GQ f a b l d out)(m:YR a b x):GQ f a b l (ET d x) out:=by
 obtain⟨j,e⟩:=Mu d x;refine⟨?_,fL h.nd,λp c=>?_,?_,λk s r g i=>?_⟩;· have:=(IT.1 h.zero).1;rw[e,Pe this];exact h.zero
 ·unfold ET at c;split at c;· exact h.mQ p c
  ·rcases AS.1 c with c|c;· exact h.mQ p c
   grind
 ·have:=h.le;grind
 ·have n:=(IT.1 i).1;have:=h.le;rw[e,Pe (by omega)]at g;rw[e];exact(h.row k s r g i).ext
theorem GQ.add{l s:Int×Int}{r:TC}(h:GQ f a b l d out)(j:d[out.length]?=Ac s)(m:UQ (jk f a b) (CV a b) d s r):GQ f a b l d (out++[r]):=by
 refine⟨h.zero,h.nd,h.mQ,by grind,λk o n e c=>?_⟩;by_cases i:k<out.length;· rw[Pe i]at c;exact h.row k o n e c
 grind
theorem GQ.done{e:Int×Int}{c:List (Int×Int)}(h:GQ f a b e c out)(i:¬out.length<c.length):Bf out/\Av out 0=(λw=>f (Av a e.1 w) (Av b e.2 w))/\out.length<=GS a b:=by
 have d:out.length=c.length:=by have:=h.le;omega
 have g:Yk (jk f a b) (CV a b) c out:=⟨d,h.row⟩;refine⟨g.wf,funext λw=>?_,by rw[d];exact Hj h.nd h.mQ⟩;have:=g.lg w 0 e h.zero;grind[Pc]
noncomputable def lP(fu:Nat)(is:Bool->Bool->Option Bool)(i o:Tb):Option Tb:=
 Ad fu (
      λ(c:List (Int×Int)×List (Bool×List (Int×Int×Int))×Nat) h=>
  bif Dm ((↑c.2.2:Int)<(↑(FB c.1):Int))then
   Ab (idx c.1 (↑c.2.2:Int)) λe=>
   Ab (NY fu (i,e.1)) λp=>
   Ab (NY fu (o,e.2)) λq=>
   Ab (is p q) λr=>
   Ab (NX fu (i,e.1,(kS (T0 256 Ak) 0 Bp))) λs=>
   Ab (NX fu (o,e.2,s)) λj=>
   Ad fu (λ(a:List (Int×Int)×List (Int×Int×Int)×Int) d=>
    bif Dm (a.2.2<(256:Int))then
     Af ((0:Int)<=a.2.2/\a.2.2<(↑256:Int))<|
     Ab (idx j (↑(0+Z5 a.2.2*1):Int)) λk=>
     bif k then
      Aa (Lh.u8) (a.2.2)<|
      Aa (Lh.u8) (a.2.2)<|
      Ab (NW fu (i,e.1,a.2.2)) λl=>
      Aa (Lh.u8) (a.2.2)<|
      Ab (NW fu (o,e.2,a.2.2)) λm=>
      Ab (YI fu ((l,m),a.1)) λb=>
      Af (FB a.2.1+1<=Ai)<|
      Aa (Lh.i64) ((↑(FB (a.2.1++[(a.2.2,(0:Int),b.1)])):Int)-(1:Int))<|
      Aa (Lh.u8) (a.2.2)<|
      Ab (idx (a.2.1++[(a.2.2,(0:Int),b.1)]) ((↑(FB (a.2.1++[(a.2.2,(0:Int),b.1)])):Int)-(1:Int))) λf=>
      Aa (Lh.i64) (a.2.2+(1:Int))<|
      d ((b.2,((a.2.1++[(a.2.2,(0:Int),b.1)]).set (Z5 ((↑(FB (a.2.1++[(a.2.2,(0:Int),b.1)])):Int)-(1:Int))) (f.1,a.2.2,f.2.2)),(a.2.2+(1:Int))))
     else
      Aa (Lh.i64) ((↑(FB a.2.1):Int)-(1:Int))<|
      Aa (Lh.u8) (a.2.2)<|
      Ab (idx a.2.1 ((↑(FB a.2.1):Int)-(1:Int))) λg=>
      Aa (Lh.i64) (a.2.2+(1:Int))<|
      d ((a.1,(a.2.1.set (Z5 ((↑(FB a.2.1):Int)-(1:Int))) (g.1,a.2.2,g.2.2)),(a.2.2+(1:Int))))
    else
     Af (FB c.2.1+1<=Ai)<|
     h ((a.1,(c.2.1++[(r,a.2.1)]),c.2.2+1))) ((c.1,[],(0:Int)))
  else
   Ab (nK fu c.2.1) λn=>
   Ac (n.1)) (([((0:Int),(0:Int))],[],0))
theorem ZL(Z:∀x y,is x y=Ac (f x y))(ha:Bf a)(hb:Bf b)(sa:DT a n)(sb:DT b n)(hM:GS a b<=4000000000)(hn:n<4294967296)(hf:n+2<fu)(bc:300<fu)(zD:GS a b+2<fu):
  Ok (lP fu is a b) λr=>CD r (λw=>f (Av a 0 w) (Av b 0 w)) (GS a b):=by
 refine Xg (X:=List (Int×Int)×Tb×Nat) (λx=>GQ f a b (0,0) x.1 x.2.1/\x.2.2=x.2.1.length) (λx=>GS a b+1-x.2.2)
  ⟨⟨rfl,by simp,λp hp=>by grind[YR],by simp,λk s r _ hr=>by grind⟩,rfl⟩ (by omega) λx nx H _ hnx=>?_;obtain⟨g,out,k⟩:=x;obtain⟨H,hk⟩:=H;dsimp only at H hk;subst hk;have hol:=Hj H.nd H.mQ;refine N6 (λd=>?_) λd=>?_
 ·have d:(out.length:Int)<g.length:=d;have d:out.length<g.length:=by omega
  have D:g[out.length]?=Ac g[out.length]:=GB d;refine Aah d ?_;generalize hs:g[out.length]=s at D;refine BY WJ (BY WJ (BY (Z _ _) ?_));rw[DA,A'];refine Oy (Wf ha sa (by omega)) λr9 h9=>?_;obtain⟨q9,rfl,hq9⟩:=h9;refine Oy (Wf hb sb (by omega)) λr10 Q=>?_;obtain⟨q,rfl,hq⟩:=Q;refine Xg (X:=List (Int×Int)×List Cm×Int) (λx=>GQ f a b (0,0) x.1 out/\(∃more,x.1=g++more)/\(0<=x.2.2/\x.2.2<=256)/\Fy (CV a b s) x.1 x.2.1 x.2.2.toNat) (λx=>256-x.2.2.toNat)
   ⟨H,⟨[],by simp⟩,⟨by simp,by simp⟩,Fy.zero⟩ (by omega) λx nx2 hJ _ j=>?_;obtain⟨o,J,ci⟩:=x;obtain⟨t,⟨more,A⟩,⟨S,T⟩,G⟩:=hJ;dsimp only at t A S T G j;obtain⟨c,rfl⟩:∃c:Nat,ci=c:=⟨ci.toNat,by omega⟩;rw[Ace]at G j;have hoM:=Hj t.nd t.mQ;have V:J.length<=256:=by have:=G.ed.len;omega
  refine N6 (λhc=>?_) λhc=>?_
  ·have hc:(c:Int)<256:=hc;have hc:c<256:=by omega
   dsimp only;rw[Ace,Abl,Acz];have v:GK.F8 (c:Int):=by omega
   have I:YR a b (CV a b s c):=YR.step ha hb s c;refine Abw (BY (AW hc) (PS (λh=>?_) λh=>?_))
   ·have R:=t.put I;refine PA (p:=GK.F8 (c:Int)) v (PA (p:=GK.F8 (c:Int)) v (BY (Q_ sa (by omega)) (PA (p:=GK.F8 (c:Int)) v (BY (Q_ sb (by omega)) (BY (ga (x:=CV a b s c) (by omega) (by omega)) ?_)))));have M:((J++[((c:Int),(0:Int),(((ET o (CV a b s c)).idxOf (CV a b s c):Nat):Int))]).length:Int)-1=(J.length:Nat):=by simp
    have N:idx (J++[((c:Int),(0:Int),(((ET o (CV a b s c)).idxOf (CV a b s c):Nat):Int))]) ((J.length:Nat):Int)=Ac ((c:Int),(0:Int),(((ET o (CV a b s c)).idxOf (CV a b s c):Nat):Int)):=by rw[Bk (by simp)];simp
    rw[M];refine PA (by unfold Ai;omega) (Aao (PA (p:=GK.F8 (c:Int)) v (BY N (Abx (by omega) ?_))));rw[Ace,Acy _ _ (by omega),Air,Ahy];obtain⟨m2,O⟩:=Mu o (CV a b s c);have E:=G.new (more:=m2) (e:=c+1) (O▸Rp o (CV a b s c)) (by omega) (λb' C h2=>by rw[show b'=c by omega]);rw[<-O,show(((c+1:Nat):Int)-1)=(c:Int) by omega]at E;exact j (_,_,(c:Int)+1) ⟨R,⟨more++m2,by rw[O,A];simp⟩,⟨by dsimp only;omega,by dsimp only;omega⟩,by exact E⟩ (by dsimp only;omega)
   ·have B:¬(q c=Bp):=by rw[h];decide
    rw[hq c hc,hq9 c hc]at B;have P:0<c:=by
     rcases Afu c with e|e;· subst e;exact absurd (.inl (.inl rfl)) B
     ·exact e
    obtain⟨z,lo,qq,rfl⟩:=G.last P;have F:∀ {l:Tb} {i:Int},¬J0 (CU l i) c->Bl l i c=Bl l i (c-1):=λ{l i} K=>by rw[HS,HS];exact Me P (λe U C=>K ⟨e,U, .inl C⟩) (λe U C=>K ⟨e,U, .inr C⟩)
    have W:CV a b s c=CV a b s (c-1):=Acu (F λC=>B (.inl (.inr C))) (F λC=>B (.inr C));have M:((z++[(lo,(c:Int)-1,qq)]).length:Int)-1=(z.length:Nat):=by simp
    have N:idx (z++[(lo,(c:Int)-1,qq)]) ((z.length:Nat):Int)=Ac (lo,(c:Int)-1,qq):=by rw[Bk (by simp)];simp
    rw[M];refine Aao (PA (p:=GK.F8 (c:Int)) v (BY N (Abx (by omega) ?_)));rw[Ace,Acy _ _ (by omega),Air,Ahy];exact j (_,_,(c:Int)+1) ⟨t,⟨more,A⟩,⟨by dsimp only;omega,by dsimp only;omega⟩,by rw[show((c:Int)+1).toNat=c+1 by omega];exact G.more P W⟩ (by dsimp only;omega)
  ·have hc:¬(c:Int)<256:=hc;obtain rfl:c=256:=by omega
   have Y:o[out.length]?=Ac s:=by rw[A,Pe d];exact D
   refine PA (by dsimp only;unfold Ai;omega) (hnx (_,_,out.length+1) ⟨t.add Y G.row,by simp⟩ (by dsimp only;omega))
 ·have d:¬(out.length:Int)<g.length:=d;obtain⟨L,t2,t3⟩:=H.done (by omega);have hsh:DT out (max (GS a b) 256):=L.sh (by omega) (by omega);refine Oy (MC L.by hsh (by omega) (by omega) (by omega)) λr hr=>MH ?_;rw[hr.1 L];exact CD.of L t2 t3
def DZ(l:Tb):Int:=if l.length=0 then-1 else 0
theorem Oc:xH fu l=Ac (DZ l):=by grind[xH,DZ]
theorem Ob(l:Tb):Av l (DZ l)=Av l 0:=by
 unfold DZ;split;· rename_i h;grind[Ee,Ed]
 rfl
theorem Ka(l:Tb): -1<=DZ l/\DZ l<l.length:=by grind[DZ]
theorem WI(h:i<l.length):u5 fu (l,i)=Ac (fin l i):=by refine(Ok.eq ?_);exact N6 (λa=>Adq a h (MH (Ef a h).symm)) λa=>MH (fin_neg (by omega)).symm
theorem RH{b:Nat}(w:DT l n)(x:n<fu)(h1:i<l.length):uZ fu (l,i,(b:Int))=Ac (Bl l i b):=by
 refine(Ok.eq ?_);refine N6 (λh=>MH (Jb _ h).symm) λh=>?_;have v:=Bs (l:=l) (i:=i) (by omega) (by omega);have q:Bl l i b=AQ (l[i.toNat]'(by omega)).2 b:=by grind[Bl]
 have c:idx l i=Ac (l[i.toNat]'(by omega)):=Fk (by omega) h1;rw[q];have p:=w.2 _ (AN (by omega:i.toNat<l.length));generalize l[i.toNat]'(by omega)=s at p c;refine Vs (λk=> ∀j (_:j<k) (r:j<s.2.length),BN b s.2[j]=Ak) s.2.length (by omega) (by omega) (λk nx t f u=>?_) (λnx f=>?_)
 ·have e:BN b s.2[k]=Ak->∀j (_:j<k+1) (r:j<s.2.length),BN b s.2[j]=Ak:=λh j r o=>by
   grind
  refine BY c (PW (BY c (Aah t (N6 (λd=>N6 (λm=>MH ?_) λm=>u (e ?_)) λd=>u (e ?_)))));· grind[BN,G9]
  all_goals grind[BN]
 simp_all[BY,PY,MH,Gr]
def Fc(es:List Cm)(c:Nat)(z:Int):Prop:= ∀e∈es,((c:Int)<e.1->z<=e.1)/\((c:Int)<=e.2.1->z<=e.2.1+1)
theorem Fc.no(h:Fc es c z){b:Nat}(h1:c<b)(h2:(b:Int)<z):∀e∈es,e.1≠(b:Int)/\e.2.1+1≠(b:Int):=λe a=>by have:=h e a;omega
theorem Fc.mono{y:Int}(h:Fc es c z)(k:y<=z):Fc es c y:=λe a=>by have:=h e a;omega
theorem Ky{s:TC}{P:Int->Prop}{nx:Int->Option Int}(hc:c<256)(F:(c:Int)<z/\z<=256)(q:∃n,BQ s.2 256 n)(D:s.2.length<fu)
  (E:∀y,(c:Int)<y/\y<=z->Fc s.2 c y->Ok (nx y) P):
  Ok (Ad fu (λ(a:Int×Nat) i=>
    bif Dm ((↑a.2:Int)<(↑(FB s.2):Int))then
     Ab (idx s.2 (↑a.2:Int)) λG=>
     bif Dm ((c:Int)<G.1)then
      Ab (idx s.2 (↑a.2:Int)) λb=>
      Aa (Lh.i64) (if b.1<a.1 then b.1 else a.1)<|
      Ab (idx s.2 (↑a.2:Int)) λv=>
      bif Dm ((c:Int)<=v.2.1)then
       Ab (idx s.2 (↑a.2:Int)) λd=>
       Aa (Lh.i64) (d.2.1+(1:Int))<|
       Aa (Lh.i64) (if d.2.1+(1:Int)<if b.1<a.1 then b.1 else a.1 then d.2.1+(1:Int)else if b.1<a.1 then b.1 else a.1)<|
       i (((if(d.2.1+(1:Int))<(if b.1<a.1 then b.1 else a.1)then d.2.1+(1:Int)else if b.1<a.1 then b.1 else a.1),a.2+1))
      else
       i (((if b.1<a.1 then b.1 else a.1),a.2+1))
     else
      Ab (idx s.2 (↑a.2:Int)) λw=>
      bif Dm ((c:Int)<=w.2.1)then
       Ab (idx s.2 (↑a.2:Int)) λf=>
       Aa (Lh.i64) (f.2.1+(1:Int))<|
       Aa (Lh.i64) (if f.2.1+(1:Int)<a.1 then f.2.1+(1:Int)else a.1)<|
       i (((if(f.2.1+(1:Int))<a.1 then f.2.1+(1:Int)else a.1),a.2+1))
      else
       i ((a.1,a.2+1))
    else
     nx a.1) ((z,0))) P:=by
 obtain⟨n,q⟩:=q;refine Sj (λj y=>((c:Int)<y/\y<=z)/\Fc (s.2.take j) c y) s.2.length ⟨⟨F.1,Abo _⟩,λe t=>by grind⟩ D (λj y o l r u=>?_) (λy o r=>?_)
 ·obtain⟨x,p⟩:=r;have J:=q.rg _ (AN l);have step:∀m,(c:Int)<m/\m<=y->((c:Int)<s.2[j].1->m<=s.2[j].1)->((c:Int)<=s.2[j].2.1->m<=s.2[j].2.1+1)->Ok (o (m,j+1)) P:=λm H B C=>u _ ⟨by omega,λe t=>by
   rcases(Ag l).1 t with h|rfl;· have:=p e h;omega
   omega⟩;dsimp only;refine PW (Aah l (N6 (λh=>Aah l (Abx (by omega) (Aah l (N6 (λk=>Aah l (Aao (Abx (by split<;>split<;>omega) (step _ ?_ ?_ ?_)))) λk=>step _ ?_ ?_ ?_)))) λh=>Aah l (N6 (λk=>Aah l (Aao (Abx (by split<;>omega) (step _ ?_ ?_ ?_)))) λk=>step _ ?_ ?_ ?_)));all_goals(first|(split<;>split<;>omega)|(split<;>omega)|omega|(split<;>split<;>omega)|(split<;>omega)|(omega))
 grind
theorem iz{p q:Int}(G:Bf a)(H:Bf b)(N:DT a n)(sb:DT b n)(O:n<fu)(I:2<fu)(hc:c<256)(C:p<a.length)(D:q<b.length):
  Ok (nL fu ([a,b],[p,q],(c:Int))) λe=>((c:Int)<e/\e<=256)/\Fc (CU a p) c e/\Fc (CU b q) c e:=by
 rw[nL];obtain⟨f,rfl⟩:∃f,fu=f+3:=⟨fu-3,by omega⟩;have neg:∀ {l:Tb} {i:Int},i<0->CU l i=[]:=λh=>by grind[CU]
 have row:∀ {l:Tb} {i:Int} (B:0<=i) (s:i<l.length),CU l i=(l[i.toNat]'(by omega)).2:=λB s=>by simp_all[CU,if_neg,Bs]
 rw[Ad];refine TJ (by simp) (BY (a:=p) rfl ?_);have j:∀y,(c:Int)<y/\y<=256->Fc (CU a p) c y->Ok (Ad (f+2) (λ(r:Int×Nat) w=>
  bif Dm (
        (↑r.2:Int)<(↑(FB [a,b]):Int))then
   Ab (idx [p,q] (↑r.2:Int)) λJ=>
   bif Dm (J<(0:Int))then
    w ((r.1,r.2+1))
   else
    Ab (idx [a,b] (↑r.2:Int)) λK=>
    Ab (idx [p,q] (↑r.2:Int)) λL=>
    Ab (idx K L) λt=>
    Ad (f+3) (λ(d:Int×Nat) o=>
     bif Dm ((↑d.2:Int)<(↑(FB t.2):Int))then
      Ab (idx t.2 (↑d.2:Int)) λM=>
      bif Dm ((c:Int)<M.1)then
       Ab (idx t.2 (↑d.2:Int)) λg=>
       Aa (Lh.i64) (if g.1<d.1 then g.1 else d.1)<|
       Ab (idx t.2 (↑d.2:Int)) λz=>
       bif Dm ((c:Int)<=z.2.1)then
        Ab (idx t.2 (↑d.2:Int)) λk=>
        Aa (Lh.i64) (k.2.1+(1:Int))<|
        Aa (Lh.i64) (if k.2.1+(1:Int)<if g.1<d.1 then g.1 else d.1 then k.2.1+(1:Int)else if g.1<d.1 then g.1 else d.1)<|
        o (((if(k.2.1+(1:Int))<(if g.1<d.1 then g.1 else d.1)then k.2.1+(1:Int)else if g.1<d.1 then g.1 else d.1),d.2+1))
       else
        o (((if g.1<d.1 then g.1 else d.1),d.2+1))
      else
       Ab (idx t.2 (↑d.2:Int)) λA=>
       bif Dm ((c:Int)<=A.2.1)then
        Ab (idx t.2 (↑d.2:Int)) λm=>
        Aa (Lh.i64) (m.2.1+(1:Int))<|
        Aa (Lh.i64) (if m.2.1+(1:Int)<d.1 then m.2.1+(1:Int)else d.1)<|
        o (((if(m.2.1+(1:Int))<d.1 then m.2.1+(1:Int)else d.1),d.2+1))
       else
        o ((d.1,d.2+1))
     else
      w ((d.1,r.2+1))) ((r.1,0))
  else
   Ac (r.1)) (y,1)) λe=>((c:Int)<e/\e<=256)/\Fc (CU a p) c e/\Fc (CU b q) c e:=λy E F=>by
  rw[Ad];refine TJ (by simp) (BY (a:=q) rfl ?_);have last:∀u,(c:Int)<u/\u<=y->Fc (CU b q) c u->Ok (Ac u) λe=>((c:Int)<e/\e<=256)/\Fc (CU a p) c e/\Fc (CU b q) c e:=λu s v=>MH ⟨by omega,F.mono s.2,v⟩;refine N6 (λh=>?_) λh=>BY (a:=b) rfl (BY (a:=q) rfl (Adq (by omega) D ?_));· rw[Ad];exact P7 (by simp) (last y ⟨E.1,Abo _⟩ (by intro e x;grind))
  ·refine Ky hc E ⟨_,H _ (AN _)⟩ (by have:=sb.2 _ (AN (by omega:q.toNat<b.length));omega) λu s v=>?_;grind
 refine N6 (λh=>j 256 (by omega) (by rw[neg h];intro e x;cases x)) λh=>BY (a:=a) rfl (BY (a:=p) rfl (Adq (by omega) C ?_));exact Ky hc (by omega) ⟨_,G _ (AN _)⟩ (by have:=N.2 _ (AN (by omega:p.toNat<a.length));omega) λy s v=>j y (by omega) (by rw[row (by omega) C];omega)
noncomputable def wN(fu:Nat)(is:Bool->Bool->Option Bool)(j m:Tb)(n o:Int):Option Tb:=
 Ad fu (
      λ(c:List (Int×Int)×List (Bool×List (Int×Int×Int))×Nat) i=>
  bif Dm ((↑c.2.2:Int)<(↑(FB c.1):Int))then
   Ab (idx c.1 (↑c.2.2:Int)) λe=>
   Af ((0:Int)<=(0:Int)/\(0:Int)<(↑2:Int))<|
   Ab (u5 fu (j,e.1)) λp=>
   Af ((0:Int)<=(1:Int)/\(1:Int)<(↑2:Int))<|
   Ab (u5 fu (m,e.2)) λq=>
   Ab (is p q) λk=>
   Ad fu (λ(a:List (Int×Int)×List (Int×Int×Int)×Int) d=>
    bif Dm (a.2.2<(256:Int))then
     Af ((0:Int)<=(0:Int)/\(0:Int)<(↑2:Int))<|
     Af ((0:Int)<=(1:Int)/\(1:Int)<(↑2:Int))<|
     Ab (nL fu ([j,m],[e.1,e.2],a.2.2)) λb=>
     Af ((0:Int)<=(0:Int)/\(0:Int)<(↑2:Int))<|
     Ab (uZ fu (j,e.1,a.2.2)) λf=>
     Af ((0:Int)<=(1:Int)/\(1:Int)<(↑2:Int))<|
     Ab (uZ fu (m,e.2,a.2.2)) λg=>
     Ab (F28 fu (a.1,f,g)) λh=>
     bif Dm (h<(0:Int))then
      Af (FB a.1+1<=Ai)<|
      Aa (Lh.u8) (a.2.2)<|
      Aa (Lh.i64) (b-(1:Int))<|
      Aa (Lh.u8) (b-(1:Int))<|
      Af (FB a.2.1+1<=Ai)<|
      d (((a.1++[(f,g)]),(a.2.1++[(a.2.2,(b-(1:Int)),(↑(FB a.1):Int))]),b))
     else
      Aa (Lh.u8) (a.2.2)<|
      Aa (Lh.i64) (b-(1:Int))<|
      Aa (Lh.u8) (b-(1:Int))<|
      Af (FB a.2.1+1<=Ai)<|
      d ((a.1,(a.2.1++[(a.2.2,(b-(1:Int)),h)]),b))
    else
     Af (FB c.2.1+1<=Ai)<|
     i ((a.1,(c.2.1++[(k,a.2.1)]),c.2.2+1))) ((c.1,[],(0:Int)))
  else
   Ab (u6 fu c.2.1) λl=>
   Ac (l.1)) (([(n,o)],[],0))
theorem rj:4294967296<=Ai:=by decide
def xh(a b:Tb)(p:Int×Int):Prop:=p.1<a.length/\p.2<b.length
theorem cc(Y:∀x y,is x y=Ac (f x y))(T:Bf a)(U:Bf b)(sa:DT a n)(sb:DT b n)(hM:GS a b<=4000000000)(hn:n<4294967296)(hf:n+2<fu)(bc:300<fu)(zD:GS a b+2<fu):
  Ok (wN fu is a b (DZ a) (DZ b)) λr=>CD r (λw=>f (Av a 0 w) (Av b 0 w)) (GS a b):=by
 have c187:=rj;refine Xg (X:=List (Int×Int)×Tb×Nat) (λx=>GQ f a b (DZ a,DZ b) x.1 x.2.1/\(∀p∈x.1,xh a b p)/\x.2.2=x.2.1.length) (λx=>GS a b+1-x.2.2)
  ⟨⟨rfl,by simp,λp j=>by grind[YR,Ka],by simp,λk s r _ hr=>by grind⟩,λp j=>by simp at j;subst j;exact⟨(Ka a).2,(Ka b).2⟩,rfl⟩ (by omega) λx nx B _ Z=>?_;obtain⟨l,out,k⟩:=x;obtain⟨B,R,hk⟩:=B;dsimp only at B R hk;subst hk;have hol:=Hj B.nd B.mQ;refine N6 (λh=>?_) λh=>?_
 ·have h:(out.length:Int)<l.length:=h;have h:out.length<l.length:=by omega
  have z:l[out.length]?=Ac l[out.length]:=GB h;have i:=R _ (AN h);refine Aah h ?_;generalize hs:l[out.length]=s at z i;refine PA (by simp) (BY (WI i.1) (PA (by simp) (BY (WI i.2) (BY (Y _ _) ?_))));refine Xg (X:=List (Int×Int)×List Cm×Int) (λx=>GQ f a b (DZ a,DZ b) x.1 out/\(∀p∈x.1,xh a b p)/\(∃more,x.1=l++more)/\(0<=x.2.2/\x.2.2<=256)/\Fy (CV a b s) x.1 x.2.1 x.2.2.toNat) (λx=>256-x.2.2.toNat)
   ⟨B,R,⟨[],by simp⟩,⟨by simp,by dsimp only;omega⟩,Fy.zero⟩ (by omega) λx nx2 hJ _ q=>?_;obtain⟨o,es,ci⟩:=x;obtain⟨m,u,⟨more,C⟩,⟨V,W⟩,G⟩:=hJ;dsimp only at m u C V W G q;obtain⟨c,rfl⟩:∃c:Nat,ci=c:=⟨ci.toNat,by omega⟩;have hoM:=Hj m.nd m.mQ;have hel:es.length<=256:=by have:=G.ed.len;omega
  refine N6 (λhc=>?_) λhc=>?_
  ·have hc:(c:Int)<256:=hc;have hc:c<256:=by omega
   have J:GK.F8 (c:Int):=by omega
   have D:YR a b (CV a b s c):=YR.step T U s c;have I:xh a b (CV a b s c):=by have:=T.st s.1 c;have:=U.st s.2 c;unfold xh CV;omega
   dsimp only;refine PA (by decide) (PA (by decide) (Oy (iz T U sa sb (by omega) (by omega) hc i.1 i.2) λe he=>?_));obtain⟨⟨he0,he1⟩,P,Q⟩:=he;obtain⟨t,rfl⟩:∃t:Nat,e=t:=⟨e.toNat,by omega⟩;have v:∀E,c<=E->E<t->CV a b s E=CV a b s c:=λE h1 h2=>by obtain⟨d,rfl⟩:∃d,E=c+d:=⟨E-c,by omega⟩;have k1:=G8 (es:=CU a s.1) (lo:=c) d λb2 O h4=>P.no O (by omega);have k2:=G8 (es:=CU b s.2) (lo:=c) d λb2 O h4=>Q.no O (by omega);unfold CV;rw[HS,HS,k1,k2,<-HS,<-HS]
   have H:=m.put D;obtain⟨m2,N⟩:=Mu o (CV a b s c);have A:=G.new (more:=m2) (e:=t) (N▸Rp o (CV a b s c)) (by omega) v;rw[<-N]at A;have S:∀p∈ET o (CV a b s c),xh a b p:=λp j=>by
    unfold ET at j;split at j;· exact u p j
    ·rcases AS.1 j with j|j;· exact u p j
     ·simp at j;subst j;exact I
   have g:=q (ET o (CV a b s c),es++[((c:Int),(t:Int)-1,(((ET o (CV a b s c)).idxOf (CV a b s c):Nat):Int))],(t:Int)) ⟨H,S,⟨more++m2,by rw[N,C];simp⟩,⟨by dsimp only;omega,by dsimp only;omega⟩,by rw[Ace];exact A⟩ (by dsimp only;omega);refine PA (by decide) (BY (RH sa (by omega) i.1) (PA (by decide) (BY (RH sb (by omega) i.2) (BY (Xl (x:=CV a b s c) (by omega)) ?_))));have K:GK.F8 ((t:Int)-1):=by unfold GK.F8;omega
   by_cases F:CV a b s c∈o;· rw[if_pos F];rw[PC,if_pos F]at g;unfold ET at g;rw[if_pos F]at g;exact PY (PA (p:=GK.F8 (c:Int)) J (Aao (PA (p:=GK.F8 ((t:Int)-1)) K (PA (by unfold Ai;omega) g))))
   ·rw[if_neg F];rw[PC,if_neg F]at g;unfold ET at g;rw[if_neg F]at g;exact PW (Abw (PA (p:=GK.F8 (c:Int)) J (Aao (PA (p:=GK.F8 ((t:Int)-1)) K (PA (by unfold Ai;omega) g)))))
  ·have hc:¬(c:Int)<256:=hc;obtain rfl:c=256:=by omega
   have g:o[out.length]?=Ac s:=by rw[C,Pe h];exact z
   refine PA (by dsimp only;unfold Ai;omega) (Z (_,_,out.length+1) ⟨m.add g G.row,u,by simp⟩ (by dsimp only;omega))
 ·have h:¬(out.length:Int)<l.length:=h;obtain⟨M,t2,t3⟩:=B.done (by omega);have hsh:DT out (max (GS a b) 256):=M.sh (by omega) (by omega);refine Oy (K3 M.by hsh (by omega) (by omega) (by omega)) λr hr=>MH ?_;rw[hr.1 M];refine(CD.of M t2 t3).congr (funext λw=>?_);rw[Ob,Ob]
structure ny(n fu:Nat)(a b:Tb):Prop where
 ha:NZ a
 hb:NZ b
 sa:DT a n
 sb:DT b n
 hM:GS a b<=4000000000
 hn:n<4294967296
 hf:n+2<fu
 bc:300<fu
 zD:GS a b+2<fu
theorem Rv(a b:Tb):GS (Da a) (Da b)<=GS a b:=Abv (by grind[Kq]) (by grind[Kq])
theorem lQ(a b:Tb):a.length<=GS a b:=Aam (by omega:a.length<=(a.length+2)*1) (Abv (Aae _) (by omega))
theorem vB(a b:Tb):b.length<=GS a b:=Aam (by omega:b.length<=1*(b.length+2)) (Abv (by omega) (Aae _))
noncomputable def gL(a:Tb):Lg:=Av (Da a) 0
theorem Hw:gL []=λ_=>Ak:=by unfold gL;rw[Se (by simp[Bf]) Na];exact funext λw=>Ed 0 w
theorem PE(c:ny n fu a b)(d:∀x y,is x y=Ac (f x y)):
  Ok (Ab (QR fu a) λg=>Ab (QR fu b) λi=>lP fu is g i) λr=>CD r (λw=>f (gL a w) (gL b w)) (GS a b):=by
 have h:=Rv a b;refine BY (Gc c.ha c.sa c.hn c.hf (by have:=c.bc;omega)) (BY (Gc c.hb c.sb c.hn c.hf (by have:=c.bc;omega)) ?_);exact(ZL d (Ht a) (Ht b) (Hu c.sa) (Hu c.sb) (by have:=c.hM;omega) c.hn c.hf c.bc (by have:=c.zD;omega)).mono λr e=>e.mono h
theorem iK{l:List Cm}(h:l.length<4294967296):zV fu l=Ac l:=by
 cases l with
 |nil=>grind[d99n]
 |cons x l=>exact(d99c fu x l).trans (by unfold Af Ai;grind)
theorem X4(e:DT l n)(g:n<4294967296)(i:n<fu):YJ fu l=Ac l:=by
 refine(Ok.eq ?_);refine Sj (λk (o:Tb)=>o=l.take k) l.length (by simp) (by have:=e.1;omega) (λk o nx c b d=>?_) (λo nx b=>?_);· have f:(l[k]).2.length<4294967296:=Aft (e.2 _ (AN c)) g;have h:=e.1;refine PW (Aah c (BY (iK f) (PA (by grind) (d _ ?_))));grind[List.take_add_one,List.getElem?_eq_getElem]
 simp_all[PY,MH]
theorem Qp(d:NZ a)(c:DT a n)(b:n<4294967296)(e:n+2<fu)(f:300<fu){P:Tb->Prop}(h:P (Da a)):
  Ok (Ab (QR fu a) λr=>Ab (YJ fu r) λr=>Ac r) P:=
 BY (Gc d c b e (by omega)) (BY (X4 (Hu c) b (by omega)) (MH h))
theorem T4(c:ny n fu a b):Ok (U9 fu (a,b)) λr=>CD r (λw=>gL a w||gL b w) (GS a b):=by
 refine N6 (λh=>?_) λ_=>N6 (λh=>?_) λ_=>?_;· obtain rfl:a=[]:=OF.1 (by omega);refine Qp c.hb c.sb c.hn c.hf c.bc (((MT b).congr (funext λw=>?_)).mono (vB _ _));rw[Hw];rfl
 ·obtain rfl:b=[]:=OF.1 (by omega);refine Qp c.ha c.sa c.hn c.hf c.bc (((MT a).congr (funext λw=>?_)).mono (lQ _ _));rw[Hw];simp[gL]
 ·refine Oy (PE (f:=λx y=>x||y) c λx y=>?_) λr h=>MH h;grind[uv]
theorem On(c:ny n fu a b):Ok (YD fu (a,b)) λr=>CD r (λw=>gL a w&& !gL b w) (GS a b):=by
 refine N6 (λh=>?_) λ_=>N6 (λh=>?_) λ_=>?_;· obtain rfl:a=[]:=OF.1 (by omega);refine MH (CD.nil.congr (funext λw=>?_));grind[Hw]
 ·obtain rfl:b=[]:=OF.1 (by omega);refine Qp c.ha c.sa c.hn c.hf c.bc (((MT a).congr (funext λw=>?_)).mono (lQ _ _));rw[Hw];simp[gL]
 ·refine Oy (PE (f:=λx y=>x&& !y) c λx y=>?_) λr h=>MH h;grind[tZ]
theorem jg(c:ny n fu a b):Ok (tF fu (a,b)) λr=>CD r (λw=>gL a w&&gL b w) (GS a b):=by
 refine N6 (λh=>?_) λ_=>N6 (λh=>?_) λ_=>?_;· obtain rfl:a=[]:=OF.1 (by omega);refine MH (CD.nil.congr (funext λw=>?_));grind[Hw]
 ·obtain rfl:b=[]:=OF.1 (by omega);refine MH (CD.nil.congr (funext λw=>?_));grind[Hw]
 ·refine Oy (PE (f:=λx y=>x&&y) c λx y=>?_) λr h=>MH h;grind[tG]
def fU(o:Int)(x y:Bool):Bool:=if o=38 then x&&y else if o=124 then x||y else x&& !y
theorem eU(fu:Nat)(o:Int)(x y:Bool):F25 fu (o,x,y)=Ac (fU o x y):=by
 rw[F25];unfold fU;dsimp only[iF,iB];by_cases h:o=38;· rw[decide_eq_true h,if_pos h];cases x<;>rfl
 ·by_cases a:o=124;· rw[decide_eq_false h,if_neg h,decide_eq_true a,if_pos a];cases x<;>rfl
  ·rw[decide_eq_false h,if_neg h,decide_eq_false a,if_neg a];cases x<;>rfl
theorem Wg{o:Int}(c:ny n fu a b):Ok (F29 fu (a,b,o)) λr=>CD r (λw=>fU o (gL a w) (gL b w)) (GS a b):=by have h:=Rv a b;refine BY (MU c.ha c.sa c.hn c.hf (by have:=c.bc;omega)) (BY (MU c.hb c.sb c.hn c.hf (by have:=c.bc;omega)) (BY Oc (BY Oc ?_)));exact(cc (eU fu o) (Ht a) (Ht b) (Hu c.sa) (Hu c.sb) (by have:=c.hM;omega) c.hn c.hf c.bc (by have:=c.zD;omega)).mono λr d=>d.mono h
theorem MB(c:ny n fu a b):Ok (WQ fu (a,b)) λr=>CD r (λw=>gL a w&& !gL b w) (GS a b):=by exact Oy (Wg c) λr h=>MH h
theorem c_(c:ny n fu a b):Ok (jE fu (a,b)) λr=>CD r (λw=>gL a w&&gL b w) (GS a b):=by rw[jE];exact Oy (Wg c) λr h=>MH h
theorem jh(fu:Nat):F8 fu () =Ac KI:=(rfl)
theorem CD.Gx(h:CD r L m):r=[]↔L=λ_=>Ak:=by
 constructor;· rintro rfl;rw[<-h.lg];exact funext λw=>Ed 0 w
 ·intro e;exact h.unique ((CD.nil (m:=0)).congr e.symm)
def Ii(l:Tb)(i:Nat):List Cm:=(Be l (i:Int)).2
def lw(l:Tb):Nat->Nat->Option Au
 |0,i=>if fin l (i:Int)then Ac []else C7
 |k+1,i=>(Ii l i).findSome? λe=>(lw l k e.2.2.toNat).map λw=>UInt8.ofNat e.1.toNat::w
def Em(l:Tb)(k i:Nat):Bool:=(lw l k i).isSome
theorem He(l:Tb)(i:Nat):Em l 0 i=fin l (i:Int):=by grind[Em,lw,fin]
theorem Hf(l:Tb)(k i:Nat):Em l (k+1) i=(Ii l i).any λe=>Em l k e.2.2.toNat:=by
 rw[Em,show lw l (k+1) i=(Ii l i).findSome? λe=>(lw l k e.2.2.toNat).map λw=>UInt8.ofNat e.1.toNat::w from rfl];induction Ii l i with
 |nil=>rfl
 |cons e c b=>
  rw[List.findSome?_cons,List.any_cons,<-b,Em];cases lw l k e.2.2.toNat with
  |none=>rfl
  |some w=>rfl
theorem Uc{l:Tb} :∀ {k i:Nat} {w:Au},lw l k i=Ac w->w.length=k
 |0,i,w,h=>by grind[lw]
 |k+1,i,w,h=>by obtain⟨e,_,a⟩:=Afe h;obtain⟨v,b,rfl⟩:=Pd.1 a;rw[Abn,Uc b]
theorem Hc{i:Nat}(h:i<l.length):Ii l i=l[i].2:=by grind[Ii,Bs]
theorem Rm{l:Tb}{i:Nat}(h:l.length<=i):Ii l i=[]:=by grind[Ii,Hb]
theorem Px{l:Tb}(h:Bf l)(i:Nat):BQ (Ii l i) 256 l.length:=by
 rcases Aal i l.length with k|k;· rw[Hc k];exact h _ (AN k)
 ·rw[Rm k];exact .nil
theorem ou(h:Bf l){i:Nat}(a:Em l k i=Bp):i<l.length:=by
 cases k with
 |zero=>grind[He,Qf]
 |succ k=>grind[Hf,Rm]
theorem Mt{l:Tb}(h:Bf l){k:Nat} :∀ {d i:Nat},Em l (k+d) i=Bp->∃j,j<l.length/\Em l k j=Bp
 |0,i,a=>⟨i,ou h a,a⟩
 |d+1,i,a=>by rw[<-Ado,Hf]at a;obtain⟨e,_,b⟩:=Aca.1 a;exact Mt h b
theorem ZI{l:Tb}(h:Bf l):∀ {w:Au} {i:Nat},Av l (i:Int) w=Bp->Em l w.length i=Bp
 | [],i,g=>by rw[Adu,He];exact g
 |c::w,i,g=>by
  have a:Av l (Bl l i c.toNat) w=Bp:=g;have f:Bl l i c.toNat=AQ (Ii l i) c.toNat:=by rfl
  rw[f]at a;unfold AQ at a;cases d:(Ii l i).find? (BN c.toNat)with
  |none=>grind[Ee]
  |some e=>
   have j:=Acj d;have k:=(Px h i).rg e j;rw[Abn,Hf];refine Aca.2 ⟨e,j,ZI h (w:=w) ?_⟩;grind
theorem Rk(l:Tb)(i:Int)(v w:Au):runT l i (v++w)=runT l (runT l i v) w:=by simp[runT]
theorem TT(C:Bf l) :∀(n:Nat) (w:Au),w.length=n->Av l i w=Bp->∃v,v.length<l.length/\Av l i v=Bp:=by
 intro n;induction n using ru with
 |_ n A=>
  intro w B p;rcases Aal w.length l.length with h|h;· grind
  ·have f:∀j,0<=runT l i (w.take j)/\runT l i (w.take j)<l.length:=λj=>by
    have e:runT l i w=runT l (runT l i (w.take j)) (w.drop j):=by grind[Rk,rS]
    have d:fin l (runT l (runT l i (w.take j)) (w.drop j))=Bp:=by rw[<-e];exact p
    constructor;· grind[Int.not_lt,fin_neg,G']
    ·refine Int.not_le.1 λm=>?_;cases y:w.drop j with
     |nil=>rw[y]at d;rw[show runT l (runT l i (w.take j)) []=runT l i (w.take j)from rfl,Qf m]at d;grind
     |cons c v=>
      grind[HW,Vk,fin_neg,G']
   have g:¬(Bh (w.length+1) λj=>(runT l i (w.take j)).toNat).Nodup:=λg=>by
    have:=Ch (b:=aE l.length) g λx z=>by obtain⟨j,_,rfl⟩:=EF.1 z;have:=f j;exact Abf.2 (by omega)
    rw[Az,Ais]at this;omega
   have s:∃a b,a<b/\b<=w.length/\runT l i (w.take a)=runT l i (w.take b):=by refine IS λt=>g ?_;refine Aaw.2 λa b p u k=>?_;rw[Bm,Bm];intro heq;rw[Az]at u;have:=f a;have:=f b;exact t ⟨a,b,k,by omega,by omega⟩
   obtain⟨a,b,k,u,heq⟩:=s;refine A (w.take a++w.drop b).length ?_ _ rfl ?_;· rw[Aac,Abg,Ajn];omega
   grind[Av,Rk,rS]
theorem Jt(h:CD r L m)(e:r≠ []):∃k,k<r.length/\Em r k 0=Bp:=by
 have a:∃w,Av r 0 w=Bp:=IS λb=>e (h.Gx.2 (by rw[<-h.lg];grind));obtain⟨w,d⟩:=a;obtain⟨v,f,c⟩:=TT h.wf _ w rfl d;exact⟨v.length,f,ZI h.wf (i:=0) c⟩
theorem H6(h:∃k,k<n/\Em l k 0=Bp):∃k,k<n/\Em l k 0=Bp/\∀j,j<k->Em l j 0=Ak:=by
 obtain⟨k,f,g⟩:=h;induction k using ru with
 |_ k i=>
  grind
def Cn(l:Tb)(k:Nat):List Bool:=Bh l.length (Em l k)
theorem cH(B:Bf l)(x:DT l n)(F:n<4294967296)(E:n<fu):uk fu (l,Cn l k)=Ac (Cn l (k+1)):=by
 refine(Ok.eq ?_);have z:=x.1;refine PA (by grind) ?_;refine Sj (λi (s:List Bool)=>s=Bh l.length λj=>Dm (j<i)&&Em l (k+1) j) l.length (by grind[DA,AP]) (by omega) (λi s nx p r u=>?_) (λs nx r=>?_)
 ·have A:(l[i]).2.length<=n:=x.2 _ (AN p);have y:=B _ (AN p);have g:Ii l i=(l[i]).2:=Hc p;refine PW (Aah p ?_);refine Sj (λm (t:List Bool)=>t=Bh l.length λj=>if j=i then((l[i]).2.take m).any (λe=>Em l k e.2.2.toNat)else Dm (j<i)&&Em l (k+1) j) (l[i]).2.length ?_ (by omega) (λm t v q d f=>?_) (λt v d=>?_)
  ·grind
  ·have w:t.length=l.length:=by rw[d,Az]
   have c:t[i]'(by omega)=((l[i]).2.take m).any (λe=>Em l k e.2.2.toNat):=by simp only[d];rw[Bm,if_pos rfl]
   have D:=y.rg _ (AN q);have C:idx (Cn l k) ((l[i]).2[m]).2.2=Ac (Em l k ((l[i]).2[m]).2.2.toNat):=by grind[Cn,Fk,Az,Bm]
   refine PW (Aah q (Aah (by dsimp only;omega) (PS (λh=>Aah (by dsimp only;omega) (f _ ?_)) λh=>BY C (Aah (by dsimp only;omega) (f _ ?_)))))
   ·rw[d,A'];refine AP λj _=>?_;by_cases a:j=i;· rw[if_pos a,if_pos a,IN q,Aeu,<-c,h];rfl
    ·rw[if_neg a,if_neg a,if_neg a]
   ·rw[d,A'];refine AP λj _=>?_;by_cases a:j=i;· rw[if_pos a,if_pos a,IN q,Aeu,<-c,h];simp
    ·rw[if_neg a,if_neg a,if_neg a]
  ·refine PY (u _ ?_);rw[d,Al];refine AP λj _=>?_;by_cases a:j=i;· rw[if_pos a,Hf,a,g];simp
   ·rw[if_neg a,show Dm (j<i+1)=Dm (j<i) by simp;omega]
 ·refine PY (MH ?_);rw[r];exact AP λj a=>by simp[a]
theorem LM{l:List Bool}(d:l.length<fu):eC fu (l,Bp)=Ac (l.any λb=>b):=by
 refine(Ok.eq ?_);rw[eC];have key:Ok (uj fu (l,Bp)) λi=>Dm ((0:Int)<=i)=l.any λb=>b:=by
  refine Vs (λk=>(l.take k).any (λb=>b)=Ak) l.length (by simp) d (λk nx c a f=>?_) (λnx a=>?_)
  ·refine PW (Aah c (PS (λh=>MH ?_) λh=>f ?_))
   ·grind[decide_eq_true,List.any_eq_true,Als]
   grind[cu]
  simp_all[PY,MH,Al]
 grind[Oy,MH]
theorem Vq{i:Nat}(hi:i<l.length)(h:Em l k i=Bp):((Cn l k).any λb=>b)=Bp:=
 Aca.2 ⟨_,EF.2 ⟨i,hi,rfl⟩,h⟩
def uV(w:Au)(r:List (List UInt8)×Option Bool):Prop:=r.1.head?=Ac w
theorem Wa{kb:Bool->Option (List (List UInt8)×Option Bool)}{r:List (List UInt8)×Option Bool}(h:uV w r):Ok (wJ kb r.1 r.2) (uV w):=by
 obtain⟨l,b⟩:=r;cases l with
 |nil=>cases h
 |cons y l=>
  cases h;unfold wJ;split;· exact MH rfl
  ·exact MH rf
theorem Wb{kb:Bool->Option (List (List UInt8)×Bool)}{r:List (List UInt8)×Option Bool}(h:uV w r):Ok (qT kb r.1 r.2) λo=>o.1.head?=Ac w:=by
 obtain⟨l,b⟩:=r;cases l with
 |nil=>cases h
 |cons y l=>
  cases h;unfold qT;split;· exact MH rfl
  ·exact MH rf
theorem Ro{i:Nat}(h:Em l k i=Ak):lw l k i=C7:=by simp_all[lw,Em]
def vh(l:List Int):Au:=l.map λn=>UInt8.ofNat n.toNat
theorem Vn{l:Tb}{n K:Nat}(G:Bf l)(E:DT l n)(N:n<4294967296){b:List (List Bool)}(D:b=Bh (K+1) (Cn l)):∀ {k fu:Nat} {i:Nat} {pre:List Int} {w:Au},
  k<=K->K<4294967296->n+300+k<fu->pre.length+k<4294967296->lw l k i=Ac w->i<l.length->Ok (YH fu ((i:Int),(k:Int),pre,l,b)) (uV (vh pre++w))
 |0,fu+1,i,pre,w,M,C,J,O,h,o=>by
  rw[show YH (fu+1) ((i:Int),((0:Nat):Int),pre,l,b)=_ from d120 fu _ _ _ _ _];unfold uw;have:w=[]:=by have:=Uc h;grind
  subst this;exact TJ (by rfl) (MH (by simp[uV,vh]))
 |k+1,fu+1,i,pre,w,M,C,J,O,h,o=>by
  rw[show YH (fu+1) ((i:Int),((k+1:Nat):Int),pre,l,b)=_ from d120 fu _ _ _ _ _];unfold uw;have P:(l[i]).2.length<=n:=E.2 _ (AN o);have L:=G _ (AN o);have s:Ii l i=(l[i]).2:=Hc o;have h:((l[i]).2.findSome? λe=>(lw l k e.2.2.toNat).map λw=>UInt8.ofNat e.1.toNat::w)=Ac w:=s▸h;refine PY (Aah o ?_);refine Vs (λm=> ∀j (_:j<m) (d:j<(l[i]).2.length),Em l k ((l[i]).2[j]).2.2.toNat=Ak) (l[i]).2.length (by omega) (by omega) (λm nx x t y=>?_) (λnx t=>?_)
  ·have g:=L.rg _ (AN x);refine PW (Aah x ?_);obtain⟨f,rfl⟩:∃f,fu=f+1:=⟨fu-1,by omega⟩;refine PW (Abx (by omega) ?_);have Q:idx b (((k+1:Nat):Int)-1)=Ac (Cn l k):=by
    grind[Bk,Az,Bm]
   have R:idx (Cn l k) ((l[i]).2[m]).2.2=Ac (Em l k ((l[i]).2[m]).2.2.toNat):=by simp_all[Cn,Fk,Az,Bm]
   refine BY Q (BY R (PS (λq=>?_) λq=>y ?_))
   ·obtain⟨v,F⟩:=Abk.1 q;have z:w=UInt8.ofNat ((l[i]).2[m]).1.toNat::v:=by
     have:((l[i]).2.findSome? λe=>(lw l k e.2.2.toNat).map λw=>UInt8.ofNat e.1.toNat::w)=Ac (UInt8.ofNat ((l[i]).2[m]).1.toNat::v):=by
      conv=>lhs;rw[<-Acf m (l[i]).2]
      rw[Agu,Aaq x,List.findSome?_cons,F];have:((l[i]).2.take m).findSome? (λe=>(lw l k e.2.2.toNat).map λw=>UInt8.ofNat e.1.toNat::w)=C7:=by refine Alh.2 λe g=>?_;obtain⟨j,d,rfl⟩:=Aes.1 g;rw[Ro (t j (by omega) (by omega))];rfl
      rw[this];rfl
     rw[this]at h;cases h;rfl
    have A:=Vn G E N D (k:=k) (fu:=f+1) (i:=((l[i]).2[m]).2.2.toNat) (pre:=pre++[((l[i]).2[m]).1]) (w:=v) (by omega) C (by omega) (by rw[Aac,Acn];omega) F (by omega);rw[Abd g.2.2.2.1,show(k:Int)=(((k+1:Nat):Int)-1) by omega]at A;have I:vh (pre++[((l[i]).2[m]).1])++v=vh pre++w:=by rw[z];simp[vh]
    rw[I]at A;refine Aao (PA ⟨rfl,rfl⟩ (PA (p:=GK.F8 _) (by omega) (PA ⟨by unfold Ai;omega,by decide⟩ (Oy A λr q=>Wa q))))
   grind
  ·have:((l[i]).2.findSome? λe=>(lw l k e.2.2.toNat).map λw=>UInt8.ofNat e.1.toNat::w)=C7:=by
    refine Alh.2 λe g=>?_;obtain⟨j,d,rfl⟩:=Aas g;rw[Ro (t j d d)];rfl
   rw[this]at h;cases h
theorem Wt:4294967296<=Ai:=by decide
theorem Rf(p:Bf l)(m:DT l n)(g:n<4294967296)(h0:0<l.length)(f:k<4294967296)(e:n+300+k<fu):
  Ok (YG fu (l,k,1,(k:Int),Bh (k+1) (Cn l))) λr=>(Em l k 0=Ak->r=([],Ac Bp))/\∀w,lw l k 0=Ac w->uV w r:=by
 have q:idx (Bh (k+1) (Cn l)) ((k:Int)+0)=Ac (Cn l k):=by simp_all[Int.add_zero,Bk,Az,Bm]
 have s:idx (Cn l k) (0:Int)=Ac (Em l k 0):=by grind[Cn,Fk,Az,Bm]
 refine PA (by simp) (BY q (BY s ?_));cases b:Em l k 0 with
 |false=>exact VO rfl (MH ⟨λ_=>rfl,λw h=>by grind[Em]⟩)
 |true=>
  obtain⟨w,a⟩:=Abk.1 b;have:=Vn p m g (K:=k) rfl (k:=k) (fu:=fu) (i:=0) (pre:=[]) (Aae _) f e (by grind) a h0;refine P1 rfl (Oy this λr c=>(Wa c).mono λo j=>⟨λh=>(by grind),λv d=>?_⟩);rw[a]at d;cases d;exact j
theorem YX(J:Bf l)(I:DT l n)(hn:n<4294967295)(h0:0<l.length)(C:m<l.length)(N:Em l m 0=Bp)(v:∀j,j<m->Em l j 0=Ak)(hf:2*n+400<fu):
  Ok (TA fu l) λr=> ∃w,r.1.head?=Ac w:=by
 have Q:=Wt;obtain⟨P,K⟩:=Abk.1 N;have Y:=I.1;refine Sj (λk (s:List Bool)=>s=(Bh k λi=>fin l (i:Int))) l.length rfl (by omega) (λk s nx C B H=>?_) (λs nx B=>?_);· refine PW (Aah C (PA (by grind[Az]) (H _ ?_)));grind[Dg,Ef]
 refine PY (PA (by omega) ?_);have t:s=Cn l 0:=by rw[B];exact AP λi _=>(He l i).symm
 refine Xg (X:=List (List Bool)×Int) (λx=> ∃k:Nat,x.2=k/\k<=m/\x.1=Bh (max k 1) (Cn l)) (λx=>m+1-x.2.toNat) ⟨0,rfl,by omega,by rw[t];rfl⟩ (by omega) λx nx2 S _ g=>?_;obtain⟨e,z⟩:=x;obtain⟨k,O,V,c⟩:=S;dsimp only at O c g;subst O;have q:((Cn l k).any λb=>b)=Bp:=by obtain⟨j,U,E⟩:=Mt J (k:=k) (d:=m-k) (i:=0) (by rw[show k+(m-k)=m by omega];exact N);exact Vq U E
 have u:(Cn l k).length<fu:=by unfold Cn;rw[Az];omega
 have p:∀ {R:List (List Bool)} {kb:Bool->Option (List (List UInt8)×Bool)},R=Bh (k+1) (Cn l)->
   (k<m->Ok (kb Bp) λr=> ∃w,r.1.head?=Ac w)->
   Ok (Ab (YG fu (l,Z5 (k:Int),Z5 ((k:Int)+1-(k:Int)),(k:Int),R)) λA=>qT kb A.1 A.2) λr=> ∃w,r.1.head?=Ac w:=λ{R kb} T F=>by
  rw[T,show Z5 (k:Int)=k by omega,show Z5 ((k:Int)+1-(k:Int))=1 by omega];refine Oy (Rf J I (by omega) h0 (by omega) (by omega)) λr y=>?_;rcases Aal k m with h|h;· rw[y.1 (v k h)];have:=F h;exact this
  ·obtain rfl:k=m:=by omega
   exact(Wb (y.2 P K)).mono λo W=>⟨P,W⟩
 dsimp only;refine PW (N6 (λC=>?_) λC=>?_)
 ·have Z:idx e ((k:Int)-1)=Ac (Cn l (k-1)):=by
   rw[show((k:Int)-1)=((k-1:Nat):Int) by omega,c,Bk (by rw[Az];omega),Bm]
  have hc:=cH (l:=l) (k:=k-1) (fu:=fu) J I (by omega) (by omega);rw[show k-1+1=k by omega]at hc;have a:e++[Cn l k]=Bh (k+1) (Cn l):=by rw[c,show max k 1=k by omega,Dg]
  have M:e.length=k:=by rw[c,Az];omega
  have L:idx (e++[Cn l k]) (k:Int)=Ac (Cn l k):=by rw[a,Bk (by rw[Az];omega),Bm]
  refine Aao (BY Z (BY hc (Abw (BY L (BY (LM u) ?_)))));rw[q];refine P1 rf (Aao (Aao (PA ⟨⟨by omega,by omega⟩,rf,by rw[a,Az];omega⟩ ?_)));refine p a λG=>P1 rf (Aao (g _ ⟨k+1,by dsimp only;omega,by omega,by dsimp only;rw[a,show max (k+1) 1=k+1 by omega]⟩ (by dsimp only;omega)))
 ·obtain rfl:k=0:=by omega
  have a:e=Bh (0+1) (Cn l):=c;have L:idx e ((0:Nat):Int)=Ac (Cn l 0):=by rw[a,Bk (by rw[Az];omega),Bm]
  refine BY L (BY (LM u) ?_);rw[q];refine P1 rf (Aao (Aao (PA ⟨⟨by omega,by omega⟩,rf,by rw[a,Az];omega⟩ ?_)));refine p a λG=>P1 rf (Aao (g _ ⟨1,by dsimp only;omega,by omega,by dsimp only;rw[a];rfl⟩ (by dsimp only;omega)))
theorem ay(h:CD r L m)(i:DT r n)(t:n<4294967295)(p:2*n+400<fu):Ok (U6 fu r) λo=>o.2=Dm (r≠ []):=by
 have key:Ok (YF fu (r,1)) λo=>(r=[]->o=[])/\(r≠ []->∃w,o=[w]):=by
  rw[YF];refine P7 (by simp) (BY (Gc h.wf.by i (by omega) (by omega) (by omega)) ?_);rw[h.MV];refine BY (rfl) ?_;by_cases c:r=[]
  ·subst c;have:TA fu []=Ac ([],Bp):=by
    refine(Ok.eq ?_);have j:=Wt;rw[TA];obtain⟨f,rfl⟩:∃f,fu=f+1:=⟨fu-1,by omega⟩;rw[Ad];exact P7 (by simp) (MH rfl)
   refine BY this ?_;exact MH ⟨λ_=>rfl,λh=>absurd rf h⟩
  ·have s:0<r.length:=Aed.2 c;obtain⟨k,q,e,g⟩:=H6 (Jt h c);refine Oy (YX h.wf i t s q e g p) λo d=>?_;obtain⟨l,b⟩:=o;cases l with
   |nil=>grind
   |cons y l=>
    refine PA (by trivial) (Abx (by decide) (TJ (by simp) (MH ⟨λh=>absurd h c,λ_=>⟨y,rf⟩⟩)))
 rw[U6];refine Oy key λo d=>?_;by_cases c:r=[];· rw[d.1 c];exact TJ rfl (MH (by simp[c]))
 ·obtain⟨w,rfl⟩:=d.2 c;exact P7 (by simp) (BY (a:=w) rfl (MH (by simp[c])))
abbrev Sc:=Bool×Bool×Bool×(List Sp×List Sp)×Tb
end
section
variable{m k:Nat}{s:Sc}{fu:Nat}{L:Lg}{r:Tb}
def Fz:Sc:=(Ak,Ak,Ak,([],[]),[])
structure dq(k m:Nat)(s:Sc):Prop where
 sm:Lt s.2.2.2.1
 n1:s.2.2.2.1.1.length<=k
 n2:s.2.2.2.1.2.length<=k
 bt:NZ s.2.2.2.2
 sh:DT s.2.2.2.2 m
structure Ie(k m:Nat)(s:Sc):Prop where
 nu:Eh s.2.2.2.1 (A8 s.2.2.2.1) (A6 s.2.2.2.1)
 n1:s.2.2.2.1.1.length<=k
 n2:s.2.2.2.1.2.length<=k
 ln:CD s.2.2.2.2 (Av s.2.2.2.2 0) m
theorem CD.self(h:CD r L m):CD r (Av r 0) m:=⟨h.wf,h.can,rfl,h.len⟩
theorem CD.gL(h:CD r L m):gL r=L:=by unfold Go.GL.gL;rw[h.MV,h.lg]
theorem Eh.self{r:List Sp×List Sp}{I F:Int->Prop}(h:Eh r I F)(hi:∀n,I n-> -100000000000<=n/\n<=100000000000)(a:∀y,F y-> -1000000000000000<=ur y/\ur y<=1000000000000000):Eh r (GL.A8 r) (GL.A6 r):=
 h.congr (λn=>((h.A8 n).trans ⟨Aiu,λk=>⟨k,hi n k⟩⟩).symm) λy=>((h.A6 y).trans ⟨Aiu,λk=>⟨k,a y k⟩⟩).symm
theorem Ie.sc(h:Ie k m s)(a:k<=12):dq k (max m 256) s:=
 ⟨h.nu.sm (Aam h.n1 a) (Aam h.n2 a),h.n1,h.n2,h.ln.wf.by,h.ln.wf.sh (Aam h.ln.len (Alb _ _)) (Ajm _ _)⟩
theorem PL:Eh (([],[]):List Sp×List Sp) (A8 ([],[])) (A6 ([],[])):=
 ⟨[],rfl, .nil,by simp, .nil,by simp,λn=>⟨λh=>absurd h Ba,λh=>absurd h.1 Ba⟩,λn=>⟨λh=>absurd h Ba,λh=>absurd h.1 Ba⟩⟩
theorem LW:Ie k m Fz:=⟨PL,Abh _,Abh _,CD.nil.self⟩
theorem HV(h:dq k m s)(j:m<1000000000)(i:1000000000000<fu):Ok (dC fu s) λb=>b=Bp↔Eh s.2.2.2.1 (A8 s.2.2.2.1) (A6 s.2.2.2.1)/\Bf s.2.2.2.2/\BW s.2.2.2.2=s.2.2.2.2:=by
 obtain⟨r,e,d,_⟩:=Ep (fu:=fu) h.sm (by omega);have l:=h.sm.n1;have n:=h.sm.n2;have g:F79 fu s.2.2.2.1=Ac (Dm (s.2.2.2.1=r)):=by refine(Ok.eq ?_);exact BY e (BY (vr (by omega) (by omega)) (MH rf))
 have a:s.2.2.2.1=r↔Eh s.2.2.2.1 (A8 s.2.2.2.1) (A6 s.2.2.2.1):=⟨λc=>c▸d,λc=>c.unique d⟩;refine BY g (PS (λc=>Oy (L2 h.bt h.sh (by omega) (by omega) (by omega)) λb f=>MH ?_) λc=>MH ?_);all_goals grind
theorem Ie.valid(h:Ie k m s)(d:k<=12)(f:m<=100000000)(a:1000000000000<fu):dC fu s=Ac Bp:=by obtain⟨b,e,c⟩:=HV (fu:=fu) (h.sc d) (by omega) a;rw[e,c.2 ⟨h.nu,h.ln.wf,h.ln.can⟩]
theorem Ie.MV(h:Ie k m s)(b:k<=12)(c:m<=100000000)(a:1000000000000<fu):nJ fu s=Ac s:=by refine(Ok.eq ?_);exact BY (h.valid b c a) (P1 rf (MH rf))
theorem Gy{a b:Tb}{M:Lg}{p:Nat}(c:CD a L m)(d:CD b M p)(h:(m+2)*(p+2)<=1000000000)(g:1000000000000<fu):ny (max (max m p) 256) fu a b:=by have e:=c.len;have f:=d.len;have i:GS a b<=(m+2)*(p+2):=Abv (by omega) (by omega);have j:m<=(m+2)*(p+2):=Aam (by omega:m<=(m+2)*1) (Abv (Aae _) (by omega));have k:p<=(m+2)*(p+2):=Aam (by omega:p<=1*(p+2)) (Abv (by omega) (Aae _));exact⟨c.wf.by,d.wf.by,c.wf.sh (by omega) (by omega),d.wf.sh (by omega) (by omega),by omega,by omega,by omega,by omega,by omega⟩
theorem orB(fu:Nat)(x y:Bool):uX fu (x,y)=Ac (x||y):=(by grind[uX])
theorem Ub(fu:Nat)(x y:Bool):Yz fu (x,y)=Ac (x&& !y):=(by grind[Yz])
theorem SE(h:Ie k m s)(v:k<=12)(C:m<=100000)(g:1000000000000<fu):um fu s=Ac s:=by
 obtain⟨a,b,c,d,L⟩:=s;have z:nJ fu Fz=Ac Fz:=(LW (k:=0) (m:=0)).MV (by omega) (by omega) g;have i:=h.nu;have A:=h.n1;have B:=h.n2;have f:=h.ln;obtain⟨r,o,x,_⟩:=oz (fu:=fu) (i.sm (by omega) (by omega)) ((PL).sm (by simp) (by simp)) (by grind) (by omega);have j:d=r:=i.unique (x.congr (λn=>⟨λh=>h.resolve_right λh=>absurd h.1 Ba, .inl⟩) λn=>⟨λh=>h.resolve_right λh=>absurd h.1 Ba, .inl⟩);obtain⟨t,p,y⟩:=T4 (Gy (fu:=fu) f (CD.nil (m:=0)) (by omega) g);have l:L=t:=f.unique (y.congr (funext λw=>by rw[f.gL,Hw,Alk]));rw[<-j]at o;rw[<-l]at p;have e:uq fu ((a,b,c,d,L),Fz)=Ac (a,b,c,d,L):=by refine(Ok.eq ?_);refine BY (h.MV v (by omega) g) (BY z (BY (orB fu _ _) (BY (orB fu _ _) (BY (orB fu _ _) (BY o (BY p (MH ?_)))))));simp[Fz]
 have u:uo fu ((a,b,c,d,L),Fz)=Ac (a,b,c,d,L):=by refine(Ok.eq ?_);exact BY e (MH rf)
 refine(Ok.eq ?_);exact BY u (MH rf)
theorem IU{fu k m:Nat}{s:Sc}(h:Ie k m s)(C:k<=12)(H:m<=100000000)(A:1000000000000<fu):Ok (YE fu s) λb=>b=Bp↔s=Fz:=by
 obtain⟨a,b,c,t,L⟩:=s;have l:=h.nu;have F:=h.n1;have G:=h.n2;have q:=h.ln;dsimp only at l F G q;obtain⟨r,v,f,E,y,lf⟩:=XB (fu:=fu) (l.sm (by omega) (by omega)) (by omega);obtain rfl:t=r:=l.unique E;have B:f= !decide (t=([],[])):=by
  cases f with
  |false=>rw[(Agl l).1 (lf.no rfl).2];rfl
  |true=>rw[decide_eq_false λe=>(Agl l).2 e v (lf.yes rfl).1];rfl
 obtain⟨⟨w,g⟩,z,x⟩:=ay (fu:=fu) (n:=max m 256) q (q.wf.sh (Aam q.len (by omega)) (by omega)) (by omega) (by omega);have key:Ok (ui fu (a,b,c,t,L)) λo=>o.2.2.2.2.2=(a||b||c||f||g):=by refine BY (h.MV C (by omega) A) (BY y (BY z ?_));dsimp only;refine PS (λd=>MH (by grind)) λd=>PS (λi=>MH (by grind)) λi=>PS (λj=>MH (by grind)) λj=>PS (λp=>MH (by rw[d,i,j,p];rfl)) λp=>PS (λu=>MH (by rw[d,i,j,p,u];rfl)) λu=>MH (by rw[d,i,j,p,u];rfl)
 grind[YE,Fz,Oy,MH]
abbrev Bc:=Vl×Vl
end
abbrev BA:=List (Au×Int×Bc)×List (Tb×Bc)
abbrev G4:=List Bc×List Bc
section
variable{c:BA}{fu:Nat}{v:List Int}{d k b i m:Nat}{ls:List Tb}{n:Nat}{s:Au}{x:Bc}{α:Type}{y:Sc}{l:List (Au×Int×Bc)}{a:Nat}{u:List Int}{es:List Cm}{p j:Nat}{r:List Sp×List Sp}{P:Bc->Prop}
structure BX(c:BA)(v:List Int):Prop where
 len:v.length=c.2.length+c.1.length
 cl:∀i (h:i<c.2.length), -1<=v.getD i 0/\v.getD i 0<(c.2[i]).1.length
 fd:∀j (h:j<c.1.length), -1<=v.getD (c.2.length+j) 0/\v.getD (c.2.length+j) 0<=(c.1[j]).1.length
structure dp(c:BA):Prop where
 nf:c.1.length<=4
 nc:c.2.length<=4
 lb:∀f∈c.1,f.1.length<=60
 st:∀k∈c.2,k.1.length<=20000
 bt:∀k∈c.2,NZ k.1
 ed:∀k∈c.2,∀s∈k.1,s.2.length<=256
theorem AO{α:Type}{l:List α}{i:Nat}{d:α}(h:i<l.length):l.getD i d=l[i]:=by grind
theorem BG{l:List Int}(h:i<l.length):idx l (i:Int)=Ac (l.getD i 0):=by grind[Bk,AO]
theorem JA{l:List Int}(h:a+b<l.length):idx l ((a:Int)+(b:Int))=Ac (l.getD (a+b) 0):=by rw[show((a:Int)+(b:Int))=((a+b:Nat):Int) by omega,BG h]
def XC(v:List Int):List Int:=v.flatMap λn=>44::(Lib.itoa n).map λb=>((b.toNat:Nat):Int)
def Du(v:List Int):Au:=(XC v).map λn=>UInt8.ofNat n.toNat
theorem XE{n:Int}(h0: -1<=n)(h:n<10000000000):(Lib.itoa n).length<=10:=by
 rcases Ael n 0 with b|b
 ·obtain rfl:n= -1:=by omega
  have:(Lib.itoa (-1)).length=(Lib.decDigits 1).length+1:=rfl;simp_all[Lib.decDigits_length,IJ]
 grind[OJ]
theorem RZ{v:List Int}(h:∀n∈v, -1<=n/\n<10000000000):(XC v).length<=11*v.length:=by
 induction v with
 |nil=>trivial
 |cons n v c=>
  have d:=XE (h n (Aat ..)).1 (h n (Aat ..)).2;have:=c λm b=>h m (Aag _ b);grind[XC]
theorem qi{v:List Int}{fu:Nat}(h:∀n∈v, -1<=n/\n<10000000000)(i:v.length<=100)(g:1000000000000<fu):xt fu v=Ac (Du v):=by
 refine(Ok.eq ?_);refine Sj (λk (s:List Int)=>s=XC (v.take k)) v.length (by rfl) (by omega) (λk s nx d c e=>?_) (λs nx c=>?_)
 ·have j:=h _ (AN d);have a:=RZ (v:=v.take k) λn e=>h n (Acl e);have f:F58 fu (v[k],10,s++[44])=Ac (s++[44]++(Lib.itoa v[k]).map λb=>((b.toNat:Nat):Int)):=by
   exact(d58i fu _ _).trans (Ok.eq (PA (by grind) (Aao (MH rf))))
  refine PW (Aah d (PA (by grind) (BY f (e _ ?_))));grind[XC,cu]
 ·refine PY (MH ?_);rw[c,Al];rfl
theorem BX.mem(d:dp c)(b:BX c v):∀n∈v, -1<=n/\n<20001:=λn f=>by
 obtain⟨i,e,rfl⟩:=Aas f;have g:=b.len;rcases Aal i c.2.length with h|h;· have:=b.cl i h;rw[AO e]at this;have:=d.st _ (AN h);omega
 ·obtain⟨j,rfl⟩:∃j,i=c.2.length+j:=⟨i-c.2.length,by omega⟩;have:=b.fd j (by omega);rw[AO e]at this;have:=d.lb _ (AN (by omega:j<c.1.length));omega
theorem BX.key(d:dp c)(e:BX c v)(f:1000000000000<fu):xt fu v=Ac (Du v)/\(Du v).length<=100:=by
 have g:=e.mem d;have k:=e.len;have i:=d.nf;have j:=d.nc;have a:∀n∈v, -1<=n/\n<10000000000:=λn h=>by grind
 grind[Du,qi,RZ,List.length_map]
theorem Hv{l:List Int}{i j:Nat}{x:Int}(h:i<l.length):(l.set i x).getD j 0=if i=j then x else l.getD j 0:=by grind
def GU:List Nat->Nat
 | []=>1
 |n::l=>n*GU l
def NC:List Nat->List (List Int)
 | []=>[[]]
 |n::l=>(aE n).flatMap λ(i:Nat)=>(NC l).map λv=>((i:Int)-1)::v
theorem L1:∀l,(NC l).length=GU l
 | []=>rfl
 |n::l=>by
  have:∀m,((aE m).flatMap λ(i:Nat)=>(NC l).map λv=>((i:Int)-1)::v).length=m*GU l:=λm=>by
   induction m with
   |zero=>simp
   |succ m c=>rw[Aem,Acp,Aac,c,Aek,Aap,L1 l,Aea]
  exact this n
theorem MD:∀ {l:List Nat} {v:List Int},v.length=l.length->(∀i (h:i<l.length), -1<=v.getD i 0/\v.getD i 0+1<l[i])->v∈NC l
 | [],v,h,_=>by obtain rfl:v=[]:=OF.1 h;trivial
 |n::l,[],h,_=>by grind
 |n::l,x::v,h,k=>by have a:=k 0 (by simp);have a: -1<=x/\x+1<(n:Int):=a;refine Aad.2 ⟨(x+1).toNat,Abf.2 (by omega),By.2 ⟨v,MD (by grind) (λi b=>?_),by grind⟩⟩;exact k (i+1) (by grind)
def GD(c:BA):List Nat:=c.2.map (λk=>k.1.length+1)++c.1.map λf=>f.1.length+2
theorem BX.NC(b:BX c v):v∈NC (GD c):=by
 refine MD (by rw[b.len];simp[GD]) λi d=>?_;have e:i<c.2.length+c.1.length:=by grind[GD]
 rcases Aal i c.2.length with h|h;· have:=b.cl i h;grind[GD]
 ·obtain⟨j,rfl⟩:∃j,i=c.2.length+j:=⟨i-c.2.length,by omega⟩;have:=b.fd j (by omega);grind[GD]
theorem gF{l:List Au}(a:l.Nodup)(h:∀x∈l,∃v,BX c v/\x=Du v):l.length<=GU (GD c):=by rw[<-L1,<-Aap (f:=Du)];refine Ch a λx d=>?_;obtain⟨v,b,rfl⟩:=h x d;exact By.2 ⟨v,b.NC,rfl⟩
theorem rh:1000000000000<=Ai:=by decide
structure FM(c:BA)(m:List (Au×Bool)):Prop where
 nd:(m.map (·.1)).Nodup
 tr:∀p∈m,p.2=Bp
 ky:∀p∈m,∃v,BX c v/\p.1=Du v
theorem FM.le{m:List (Au×Bool)}(h:FM c m):m.length<=GU (GD c):=by rw[<-Aap (f:=λp:Au×Bool=>p.1)];refine gF h.nd λx b=>?_;obtain⟨p,a,rfl⟩:=By.1 b;exact h.ky p a
theorem Ur{m:List (Au×Bool)}{x:Au}(h:AB m x=C7):x∉m.map (·.1):=by
 induction m with
 |nil=>simp
 |cons p m d=>
  grind[AB]
theorem ON{m:List (Au×Bool)}{x:Au}{b:Bool}(h:AB m x=Ac b):(x,b)∈m:=by
 induction m with
 |nil=>cases h
 |cons p m d=>
  grind[AB]
theorem FM.get{m:List (Au×Bool)}(h:FM c m){x:Au} :AB m x=C7\/AB m x=Ac Bp:=by
 cases a:AB m x with
 |none=>simp
 |some b=>exact .inr (congrArg Ac (h.tr _ (ON a)))
theorem FM.put{m:List (Au×Bool)}(h:FM c m)(k:BX c v)(i:AB m (Du v)=C7):FM c (Bv m (Du v) Bp)/\(Bv m (Du v) Bp).length=m.length+1:=by
 have e:Bv m (Du v) Bp=m++[(Du v,Bp)]:=by grind[Bv]
 rw[e];refine⟨⟨?_,λp d=>?_,λp d=>?_⟩,by simp⟩;· rw[Aan];refine Abb.2 ⟨h.nd,by simp,λa j b g=>?_⟩;simp at g;grind[Ur]
 ·rcases AS.1 d with d|d;· exact h.tr p d
  grind
 ·rcases AS.1 d with d|d;· exact h.ky p d
  grind
theorem nq:4294967296<=4294967296:=by decide
theorem bh(h:n<4294967296):z8 fu n=Ac []:=by refine(Ok.eq ?_);rw[z8];have a:=nq;refine PY (Aao (Aao (N6 (λc=>PA (by omega) ?_) (λ_=>MH rfl))));obtain⟨k,b⟩:∃k,Z5 ((n:Int)-((0:Int)-(0:Int)))=k+1:=⟨n-1,by omega⟩;rw[b];simp only[pI];exact Abw (PA ⟨by omega,by omega⟩ (MH rfl))
theorem Uz{fu:Nat}{L:List (List Bc)}(h:L.flatten.length<1000000000)(g:L.length<fu):xo fu L=Ac L.flatten:=by
 refine(Ok.eq ?_);rw[xo];have j:=nq;have i (k:Nat) (b:k<L.length):(L.take (k+1)).flatten=(L.take k).flatten++L[k]:=by rw[IN b,Ahg];simp
 have le (k:Nat):(L.take k).flatten.length<=L.flatten.length:=by have:=congrArg FB (congrArg List.flatten (Acf k L));rw[Ahg,Aac]at this;omega
 refine Sj (λk (s:Int)=>s=((L.take k).flatten.length:Nat)) L.length (by simp) g ?_ ?_;· intro k s nx b e c;have t:=i k b;have l:=le (k+1);rw[t,Aac]at l;refine TJ (by show(k:Int)<L.length;omega) (Aah b ?_);dsimp only;refine Aao (PY (c _ ?_));rw[t,Aac,e];omega
 ·intro s nx e;refine P7 (by show¬(L.length:Int)<L.length;omega) ?_;rw[Aau]at e;dsimp only;rw[e];refine BY (bh (by omega)) ?_;refine Sj (λk out=>out=(L.take k).flatten) L.length (by simp) g ?_ ?_
  ·intro k out nx b d c;have t:=i k b;have l:=le (k+1);rw[t,Aac]at l;have m:out.length+L[k].length<=4294967296:=by rw[d];omega
   refine TJ (by show(k:Int)<L.length;omega) (Aah b (PA m (c _ ?_)));rw[t,d]
  ·intro out nx d;refine P7 (by show¬(L.length:Int)<L.length;omega) (MH ?_);rw[d,Aau]
def Bq(c:BA):List Bc:=c.1.map (·.2.2)++c.2.map (·.2)
def AY(c:G4):List Bc:=c.1++c.2
def kids(v:Vl):List Bc:=v.lists.flatMap AY++v.structs.flatMap Bq
structure NQ(c:BA):Prop where
 nf:c.1.length<=4
 nc:c.2.length<=4
 lb:∀f∈c.1,f.1.length<=60
 st:GU (c.2.map λk=>k.1.length+3)<=14641
 bt:∀k∈c.2,NZ k.1
 ed:∀k∈c.2,∀s∈k.1,s.2.length<=256
theorem Vv{l:List Nat}(h:∀n∈l,0<n):0<GU l:=by
 induction l with
 |nil=>exact Nat.one_pos
 |cons n l b=>exact Nat.mul_pos (h n (Aat ..)) (b λm a=>h m (Aag _ a))
theorem Vw{l:List Nat}(h:∀n∈l,0<n)(a:n∈l):n<=GU l:=by
 induction l with
 |nil=>cases a
 |cons m l e=>
  have d:=Vv λk b=>h k (Aag _ b);have c:=h m (Aat ..);rcases Aav.1 a with rfl|a;· exact Aey _ d
  ·exact Aam (e (λk b=>h k (Aag _ b)) a) (Nat.le_mul_of_pos_left _ c)
theorem Vx(a b:List Nat):GU (a++b)=GU a*GU b:=by
 induction a with
 |nil=>simp[GU]
 |cons n a c=>rw[Aer,GU,GU,c,Aeo]
theorem T2{l:List α}{f g:α->Nat}(h:∀x∈l,f x<=g x):GU (l.map f)<=GU (l.map g):=by
 induction l with
 |nil=>exact Aae _
 |cons x l b=>exact Abv (h x (Aat ..)) (b λy a=>h y (Aag _ a))
theorem Og(n:Nat)(l:List α):GU (l.map λ_=>n)=n^l.length:=by
 induction l with
 |nil=>rfl
 |cons x l a=>rw[Aar,GU,a,Abn,Nat.pow_succ,Ada]
theorem NQ.each(h:NQ c):∀k∈c.2,k.1.length<=14641:=λk b=>by have:=Vw (l:=c.2.map λk=>k.1.length+3) (λn d=>by obtain⟨q,_,rfl⟩:=By.1 d;omega) (By.2 ⟨k,b,rfl⟩);have:=h.st;omega
theorem NQ.lim(h:NQ c):dp c:=⟨h.nf,h.nc,h.lb,λk a=>by have:=h.each k a;omega,h.bt,h.ed⟩
theorem NQ.GD(h:NQ c):GU (GD c)<=400000000000:=by
 unfold Go.GL.GD;rw[Vx];have b:GU (c.2.map λk=>k.1.length+1)<=14641:=Aam (T2 λk _=>by omega) h.st;have d:GU (c.1.map λf=>f.1.length+2)<=62^c.1.length:=by rw[<-Og 62 c.1];exact T2 λf g=>by have:=h.lb f g;omega
 have e:62^c.1.length<=62^4:=Agw (by decide) h.nf;exact Aam (Abv b (Aam d e)) (by decide)
def Bd:Nat->Vl->Prop
 |0,_=>False
 |d+1,v=>dq 5 12 v.sc/\(v.lists.length<=3/\∀c∈v.lists,c.1.length<=3/\c.2.length<=2)/\(v.structs.length<=3/\∀c∈v.structs,NQ c)/\∀x∈kids v,Bd d x.1/\Bd d x.2
def eH(l:List (Au×Int×Bc)):Prop:= ∀i (h:i+1<l.length),fS l[i].1 l[i+1].1=Bp
def Snd:Nat->Vl->Prop
 |0,_=>False
 |d+1,v=>Ie 5 12 v.sc/\(∀c∈v.lists,c.2.length<=1)/\(∀c∈v.structs,eH c.1/\∀k∈c.2,Bf k.1/\BW k.1=k.1)/\∀x∈kids v,Snd d x.1/\Snd d x.2
theorem Dv{α β:Type}{f:α->List β}{n:Nat} :∀ {l:List α},(∀x∈l,(f x).length<=n)->(l.flatMap f).length<=l.length*n
 | [],_=>by simp
 |x::l,h=>by have:=Dv (f:=f) (n:=n) (l:=l) λy b=>h y (Aag _ b);have:=h x (Aat ..);rw[Aga,Aac,Abn,Aea];omega
theorem Bd.kids{v:Vl}(h:Bd (d+1) v):(kids v).length<=39:=by
 obtain⟨_,⟨j,i⟩,⟨k,g⟩,_⟩:=h;have a:=Dv (f:=AY) (n:=5) (l:=v.lists) λc hc=>by have:=i c hc;unfold AY;rw[Aac];omega
 have b:=Dv (f:=Bq) (n:=8) (l:=v.structs) λc hc=>by have:=(g c hc).nf;have:=(g c hc).nc;unfold Bq;rw[Aac,Aap,Aap];omega
 unfold Go.GL.kids;rw[Aac];omega
theorem VE{s:Sc}(h1:s.2.2.2.1.1.length<=12)(h2:s.2.2.2.1.2.length<=12)(h3:s.2.2.2.2.length<=1000000):Ok (xx fu s) λr=>r=Bp↔s=Fz:=by
 rw[xx];obtain⟨a,b,c,⟨e,f⟩,l⟩:=s;dsimp only at h1 h2 h3;have no:∀ {P:Prop},¬P->Ok (Ac Ak) λr=>r=Bp↔P:=λh=>MH ⟨λk=>(by cases k),λk=>absurd k h⟩;cases a with
 |true=>exact no λh=>by cases h
 |false=>cases b with
  |true=>exact no λh=>by cases h
  |false=>cases c with
   |true=>exact no λh=>by cases h
   |false=>
    refine VO rfl (VO rfl (VO rfl (Aao (Aao (MH ?_)))));rw[decide_eq_true_iff];constructor;· intro h;have h:((e.length:Int)+f.length+l.length)=0:=h;obtain rfl:e=[]:=OF.1 (by omega);obtain rfl:f=[]:=OF.1 (by omega);obtain rfl:l=[]:=OF.1 (by omega);rfl
    ·intro h;unfold Fz at h;simp only[Aet]at h;obtain⟨_,_,_,⟨rfl,rfl⟩,rfl⟩:=h;rfl
theorem Hl{c:G4}(h:c.1.length<=1000/\c.2.length<=1000)(b:1000000000000<fu):eR fu c=Ac (AY c):=by
 refine(Ok.eq ?_);have e:xo fu [c.1,c.2]=Ac (AY c):=by grind[AY,Uz]
 exact BY e (MH rf)
theorem Zd(h:c.1.length<=1000/\c.2.length<=1000)(j:1000000000000<fu):z7 fu c=Ac (Bq c):=by
 refine(Ok.eq ?_);refine Sj (λk (s:List Bc)=>s=(c.1.take k).map (·.2.2)) c.1.length rf (by omega) (λk s nx e d g=>?_) (λs nx d=>?_);· refine PW (Aah e (PA (by grind) (g _ ?_)));rw[d,IN e,Aan];rfl
 rw[Al]at d;refine P7 (by omega) ?_;refine Sj (λk (s:List Bc)=>s=c.1.map (·.2.2)++(c.2.take k).map (·.2)) c.2.length (by grind) (by omega) (λk s nx e b g=>?_) (λs nx b=>?_);· refine PW (Aah e (PA (by grind) (g _ ?_)));rw[b,IN e,Aan,<-Aaj];rfl
 ·refine PY (MH ?_);rw[b,Al];rfl
theorem VS{v:Vl}(h:Bd (d+1) v)(u:1000000000000<fu):zZ fu v=Ac (kids v):=by
 obtain⟨_,⟨B,w⟩,⟨E,t⟩,_⟩:=h;have x:∀k,((v.lists.take k).flatMap AY).length<=15:=λk=>by
  have:=Dv (f:=AY) (n:=5) (l:=v.lists.take k) λc hc=>by grind[AY]
  grind
 have lb:∀k,((v.structs.take k).flatMap Bq).length<=24:=λk=>by
  have:=Dv (f:=Bq) (n:=8) (l:=v.structs.take k) λc hc=>by have:=(t c (Acl hc)).nf;have:=(t c (Acl hc)).nc;grind[Bq]
  grind
 refine(Ok.eq ?_);refine Sj (λk (s:List Bc)=>s=(v.lists.take k).flatMap AY) v.lists.length rf (by omega) (λk s nx m o r=>?_) (λs nx o=>?_)
 ·have hc:=w _ (AN m);have e:(v.lists.take (k+1)).flatMap AY=s++AY v.lists[k]:=by rw[o,IN m,Acp,Aek]
  have:=x (k+1);rw[e,Aac]at this;have p:eR fu v.lists[k]=Ac (AY v.lists[k]):=Hl (by omega) u;refine PW (Aah m (BY p (Abw (r _ e.symm))))
 rw[Al]at o;refine P7 (by omega) ?_;refine Sj (λk (s:List Bc)=>s=v.lists.flatMap AY++(v.structs.take k).flatMap Bq) v.structs.length (by simp[o]) (by omega) (λk s nx m j r=>?_) (λs nx j=>?_)
 ·have hc:=t _ (AN m);have z:=hc.nf;have A:=hc.nc;have e:v.lists.flatMap AY++(v.structs.take (k+1)).flatMap Bq=s++Bq v.structs[k]:=by rw[j,IN m,Acp,Aek,Aaj]
  have a:=x v.lists.length;rw[Al]at a;have b:=lb (k+1);have:=congrArg FB e;rw[Aac,Aac]at this;have q:z7 fu v.structs[k]=Ac (Bq v.structs[k]):=Zd (by omega) u;refine PW (Aah m (BY q (Abw (r _ e.symm))))
 ·refine PY (MH ?_);rw[j,Al];rfl
def FG:Nat->Nat
 |0=>0
 |d+1=>1+78*FG d
def Hi(es:List Cm)(q:Int)(b:Int):Int:=es.foldl (λq e=>if e.1<=b/\b<=e.2.1 then e.2.2 else q) q
theorem Rz{b:Int} :∀ {es:List Cm} {q:Int},(∀e∈es,¬(e.1<=b/\b<=e.2.1))->Hi es q b=q
 | [],q,_=>rfl
 |e::es,q,h=>by unfold Hi;rw[Afp,if_neg (h e (Aat ..))];exact Rz (es:=es) λf a=>h f (Aag _ a)
theorem ZO(m:es.Pairwise λa b=>a.2.1<b.1) :Hi es (-1) b=AQ es b:=by
 induction es with
 |nil=>rfl
 |cons e es n=>
  obtain⟨i,j⟩:=Abj.1 m;by_cases h:e.1<=(b:Int)/\(b:Int)<=e.2.1
  ·have c:AQ (e::es) b=e.2.2:=by
    grind[AQ,BN]
   have d:Hi (e::es) (-1) b=Hi es e.2.2 b:=by simp_all[Hi]
   grind[Rz]
  grind[AQ,BN,Hi]
def YN(s:Au)(n:Int)(b:Nat):Int:=if 0<=n/\n<s.length/\(s.getD n.toNat 0).toNat=b then n+1 else-1
def zJ:Vl:= .mk Ak (Ak,Ak,Ak,([],[]),[]) [] []
def dK:Tb×Bc:=([],zJ,zJ)
def dF:Au×Int×Bc:=([],0,zJ,zJ)
def Xr(c:BA)(v:List Int)(b:Nat)(i:Nat):Int:=Bl (c.2.getD i dK).1 (v.getD i 0) b
def T9(c:BA)(v:List Int)(b:Nat)(j:Nat):Int:=YN (c.1.getD j dF).1 (v.getD (c.2.length+j) 0) b
structure eQ(c:BA)(v u:List Int)(b:Nat):Prop where
 len:u.length=c.2.length+c.1.length
 cl:∀i,i<c.2.length->u.getD i 0=Xr c v b i
 fd:∀j,j<c.1.length->u.getD (c.2.length+j) 0=T9 c v b j
theorem M0(c:u.length=v.length)(h:∀i,i<u.length->u.getD i 0=v.getD i 0):u=v:=by grind[List.ext_getElem,AO]
theorem eQ.uniq{d:List Int}(h:eQ c v u b)(k:eQ c v d b):u=d:=by
 refine M0 (by rw[h.len,k.len]) λi e=>?_;have:=h.len;rcases Aal i c.2.length with hc|hc;· rw[h.cl i hc,k.cl i hc]
 ·obtain⟨j,rfl⟩:∃j,i=c.2.length+j:=⟨i-c.2.length,by omega⟩;rw[h.fd j (by omega),k.fd j (by omega)]
theorem dj(H:dp c)(hw:∀k∈c.2,Bf k.1)(S:BX c v)(hF:1000000000000<fu):Ok (F62 fu (c,v,(b:Int))) λu=>eQ c v u b:=by
 have h1:=H.nf;have h2:=H.nc;have Z:=S.len;refine PA (by grind) ?_;refine Sj (λk (s:List Int)=>s.length=v.length/\∀i,i<k->s.getD i 0= -1) v.length ⟨by simp,λi h=>by omega⟩ (by omega) (λk s nx l g E=>?_) (λs nx g=>?_)
 ·refine TJ (by grind) (BY (BG (by grind)) (E _ ⟨by grind,λi f=>?_⟩));grind[Hv]
 refine P7 (by simp) ?_;obtain⟨Q,R⟩:=g;refine Sj (λk (s:List Int)=>s.length=v.length/\(∀i,i<k->s.getD i 0=Xr c v b i)/\∀i,k<=i->i<v.length->s.getD i 0= -1) c.2.length ⟨Q,λi f=>by omega,λi _ f=>R i f⟩ (by omega) (λk s nx l g E=>?_) (λs nx g=>?_)
 ·have hc:=S.cl k l;have C:=AN l;obtain⟨w,F,x⟩:=g;have M:=H.ed _ C;have z:c.2.getD k dK=c.2[k]:=AO l;have step:∀t:List Int,t.length=v.length->t.getD k 0=Xr c v b k->(∀i,i≠k->t.getD i 0=s.getD i 0)->Ok (nx (t,k+1)) λu=>eQ c v u b:=λt I p y=>E _ ⟨I,λi f=>by
   rcases Aal i k with h|h;· rw[y i (by omega)];exact F i h
   ·obtain rfl:i=k:=by omega
    exact p,λi f N=>by rw[y i (by omega)];exact x i (by omega) N⟩;refine PW (Aah l (BY (BG (by omega)) (N6 (λh=>step _ w (by
   rw[x k (Aae _) (by omega)];unfold Xr;rw[Jb b h]) λ_ _=>rfl) λh=>(by
   have h:¬v.getD k 0<0:=h;refine BY (BG (by omega)) (Adq (Agq.1 h) hc.2 ?_);have D:(c.2[k]).1[(v.getD k 0).toNat]'(by omega)∈(c.2[k]).1:=AN _;have W:=(hw _ C) _ D;have K:=M _ D;have V:Xr c v b k=AQ ((c.2[k]).1[(v.getD k 0).toNat]'(by omega)).2 b:=by unfold Xr Bl Be;rw[z,if_neg h,AO (by omega)]
   dsimp only;generalize(c.2[k]).1[(v.getD k 0).toNat]'(by omega)=st at W K V;refine Sj (λm (t:List Int)=>t.length=v.length/\t.getD k 0=Hi (st.2.take m) (-1) b/\∀i,i≠k->t.getD i 0=s.getD i 0) st.2.length ⟨w,x k (Aae _) (by omega),λ_ _=>rfl⟩ (by omega) (λm t T C L r=>?_) (λt T L=>?_)
   ·obtain⟨G,t2,t3⟩:=L;have J:∀q,Hi (st.2.take (m+1)) q b=if(st.2[m]).1<=(b:Int)/\(b:Int)<=(st.2[m]).2.1 then(st.2[m]).2.2 else Hi (st.2.take m) q b:=λq=>by
     unfold Hi;rw[IN C,Adc];rfl
    refine PW (Aah C (N6 (λa=>N6 (λp=>BY (BG (by dsimp only;omega)) (r _ ⟨by rw[Abq];exact G,?_,λi f=>?_⟩)) λp=>r _ ⟨G,?_,t3⟩) λa=>r _ ⟨G,?_,t3⟩));· rw[J,if_pos ⟨a,p⟩];dsimp only;rw[Hv (by omega),if_pos rf]
    ·dsimp only;rw[Hv (by omega),if_neg (Ne.symm f)];exact t3 i f
    ·rw[J,if_neg λh=>p h.2];exact t2
    ·rw[J,if_neg λh=>a h.1];exact t2
   ·obtain⟨G,t2,t3⟩:=L;rw[Aau]at t2;exact PY (step _ G (by rw[V,t2];exact ZO W.so) t3)))))
 obtain⟨i1,i2,i3⟩:=g;refine P7 (by dsimp only;omega) ?_;refine Sj (λk (s:List Int)=>s.length=v.length/\(∀i,i<c.2.length->s.getD i 0=Xr c v b i)/\(∀j,j<k->s.getD (c.2.length+j) 0=T9 c v b j)/\∀j,k<=j->j<c.1.length->s.getD (c.2.length+j) 0= -1) c.1.length ⟨i1,i2,λj O=>by omega,λj _ O=>i3 _ (by omega) (by omega)⟩ (by omega) (λk s nx l g E=>?_) (λs nx g=>?_)
 ·have hc:=S.fd k l;obtain⟨w,F,x,Y⟩:=g;have z:c.1.getD k dF=c.1[k]:=AO l;have step:∀t:List Int,t.length=v.length->t.getD (c.2.length+k) 0=T9 c v b k->(∀i,i≠c.2.length+k->t.getD i 0=s.getD i 0)->Ok (nx (t,k+1)) λu=>eQ c v u b:=λt I p y=>E _ ⟨I,λi f=>by rw[y i (by omega)];exact F i f,λj O=>by
   rcases Aal j k with h|h;· rw[y _ (by omega)];exact x j h
   ·obtain rfl:j=k:=by omega
    exact p,λj O P=>by rw[y _ (by omega)];exact Y j (by omega) P⟩;have no:T9 c v b k= -1->Ok (nx (s,k+1)) λu=>eQ c v u b:=λh=>step _ w (by rw[Y k (Aae _) l,h]) λ_ _=>rfl;refine PW (Aah l (Aao (BY (JA (by omega)) (N6 (λA=>N6 (λB=>?_) λB=>no ?_) λA=>no ?_))))
  ·have B:v.getD (c.2.length+k) 0<(c.1[k]).1.length:=B;have A:0<=v.getD (c.2.length+k) 0:=A;have f:Ey (c.1[k]).1 (v.getD (c.2.length+k) 0)=Ac (((c.1[k]).1[(v.getD (c.2.length+k) 0).toNat]'(by omega)).toNat:Int):=by
    obtain⟨q,hq⟩:∃q:Nat,v.getD (c.2.length+k) 0=q:=⟨(v.getD (c.2.length+k) 0).toNat,by omega⟩;simp only[hq];rw[MP (by omega)];rfl
   have hlb:=H.lb _ (AN l);have U:((c.1[k]).1.getD (v.getD (c.2.length+k) 0).toNat 0)=(c.1[k]).1[(v.getD (c.2.length+k) 0).toNat]'(by omega):=AO (by omega);refine BY f (N6 (λX=>Aao (BY (JA (by dsimp only;omega)) (step _ (by dsimp only;rw[Abq];exact w) ?_ λi f=>?_))) λX=>no ?_);· dsimp only;rw[show((c.2.length:Int)+(k:Int)).toNat=c.2.length+k by omega,Hv (by omega),if_pos rfl];unfold T9 YN;rw[z,if_pos ⟨A,B,by rw[U];omega⟩]
   ·dsimp only;rw[show((c.2.length:Int)+(k:Int)).toNat=c.2.length+k by omega,Hv (by omega),if_neg (Ne.symm f)]
   ·unfold T9 YN;rw[z,if_neg];rintro⟨_,_,e⟩;rw[U]at e;exact X (by omega)
  ·unfold T9 YN;rw[z,if_neg];rintro⟨_,e,_⟩;exact B e
  ·unfold T9 YN;rw[if_neg];rintro⟨e,_⟩;exact A e
 ·obtain⟨w,F,x,_⟩:=g;exact PY (MH ⟨by rw[w,Z],F,x⟩)
def Ll(c:BA)(v:List Int)(k:Nat):Nat:=((aE k).filter λi=>fin (c.2.getD i dK).1 (v.getD i 0)).length
def P6(c:BA)(v:List Int)(k:Nat):Nat:=((aE k).filter λj=>Dm (v.getD (c.2.length+j) 0=((c.1.getD j dF).1.length:Int))).length
def MQ(c:BA)(v:List Int):Nat:=Ll c v c.2.length+P6 c v c.1.length
theorem Hz{p:Nat->Bool}{k:Nat} :((aE (k+1)).filter p).length=((aE k).filter p).length+(if p k=Bp then 1 else 0):=by rw[Aem,Afx,Aac];grind
theorem filter_le{p:Nat->Bool} :((aE k).filter p).length<=k:=by grind
theorem g_(n:dp c)(o:BX c v)(t:1000000000000<fu):F60 fu (c,v)=Ac (MQ c v:Int):=by
 have q:=n.nf;have r:=n.nc;have w:=o.len;refine(Ok.eq ?_);refine Sj (λk (s:Int)=>s=(Ll c v k:Int)) c.2.length rfl (by omega) (λk s nx f d g=>?_) (λs nx d=>?_)
 ·have hc:=o.cl k f;have l:Ll c v k<=k:=filter_le;have e:(Ll c v (k+1):Int)=(Ll c v k:Int)+(if fin (c.2.getD k dK).1 (v.getD k 0)=Bp then 1 else 0:Nat):=by
   grind[Ll,Hz]
  have m:∀h:0<=v.getD k 0,fin (c.2.getD k dK).1 (v.getD k 0)=((c.2[k]).1[(v.getD k 0).toNat]'(by omega)).1:=λh=>by grind[fin,Be]
  subst d;refine PW (Aah f (BY (BG (by omega)) (N6 (λh=>BY (BG (by omega)) (Adq h hc.2 (PS (λj=>Aao (g _ ?_)) λj=>g _ ?_))) λh=>g _ ?_)))
  all_goals grind[fin]
 ·refine P7 (by omega) ?_;have u:Ll c v c.2.length<=c.2.length:=filter_le;refine Sj (λk (s:Int)=>s=(Ll c v c.2.length:Int)+(P6 c v k:Int)) c.1.length (by rw[d];show _=_+((0:Nat):Int);simp) (by omega) (λk s nx f d g=>?_) (λs nx d=>?_)
  ·have i:c.1.getD k dF=c.1[k]:=AO f;have l:P6 c v k<=k:=filter_le;have e:(P6 c v (k+1):Int)=(P6 c v k:Int)+(if Dm (v.getD (c.2.length+k) 0=((c.1.getD k dF).1.length:Int))=Bp then 1 else 0:Nat):=by
    unfold P6;rw[Hz];omega
   subst d;refine PW (Aah f (Aao (BY (JA (by omega)) (N6 (λh=>Aao (g _ ?_)) λh=>g _ ?_))));· rw[e,if_pos (decide_eq_true (by rw[i];exact h))];omega
   ·rw[e,if_neg (by rw[decide_eq_true_eq,i];exact h)];simp
  ·refine PY (MH ?_);unfold MQ;omega
theorem FW{s:List Bool}{x:Nat}(h:s.getD x Ak=Bp):(s.set i Bp).getD x Ak=Bp:=by grind
theorem Jd{s:List Bool}(h:i<s.length):(s.set i Bp).getD i Ak=Bp:=by grind
def iw(c:BA)(v:List Int)(i:Nat):List Cm:=if v.getD i 0<0 then []else(Be (c.2.getD i dK).1 (v.getD i 0)).2
def ni(c:BA)(v:List Int)(j:Nat):Option Nat:=if 0<=v.getD (c.2.length+j) 0/\v.getD (c.2.length+j) 0<(c.1.getD j dF).1.length then Ac ((c.1.getD j dF).1.getD (v.getD (c.2.length+j) 0).toNat 0).toNat else C7
structure UR(c:BA)(v:List Int)(s:List Bool)(k m:Nat):Prop where
 len:s.length=257
 z:s.getD 0 Ak=Bp
 ed:∀i,i<k->∀e∈iw c v i,s.getD e.1.toNat Ak=Bp/\s.getD (e.2.1+1).toNat Ak=Bp
 ch:∀j,j<m->∀x,ni c v j=Ac x->s.getD x Ak=Bp/\s.getD (x+1) Ak=Bp
theorem UR.up{s t:List Bool}(h:UR c v s k m)(l:t.length=257)(a:∀x,s.getD x Ak=Bp->t.getD x Ak=Bp):UR c v t k m:=
 ⟨l,a _ h.z,λi d e b=>⟨a _ (h.ed i d e b).1,a _ (h.ed i d e b).2⟩,λj f x g=>⟨a _ (h.ch j f x g).1,a _ (h.ch j f x g).2⟩⟩
def Zv(c:BA)(v:List Int)(a b:Nat):Prop:=(∀i,i<c.2.length->Xr c v a i=Xr c v b i)/\∀j,j<c.1.length->T9 c v a j=T9 c v b j
def StV(c:BA)(v:List Int)(l:List Int):Prop:=(∀s∈l,∃a:Nat,s=a/\a<256)/\∀b,b<256->∃a:Nat,(a:Int)∈l/\Zv c v a b
theorem Rb(h:∀e∈es,BN a e=BN b e):AQ es a=AQ es b:=by
 unfold AQ;rw[show es.find? (BN a)=es.find? (BN b) by
  induction es with
  |nil=>rfl
  |cons e es d=>
   grind]
theorem OA{s:List Bool}(h0:s.getD 0 Ak=Bp):∀b:Nat,∃a,a<=b/\s.getD a Ak=Bp/\∀x,a<x->x<=b->s.getD x Ak=Ak
 |0=>⟨0,Aae _,h0,λx d c=>by omega⟩
 |b+1=>by
  cases h:s.getD (b+1) Ak with
  |true=>grind
  |false=>
   obtain⟨a,d,c,f⟩:=OA h0 b;grind
theorem UR.st{s:List Bool}(q:UR c v s c.2.length c.1.length)(A:∀i,i<c.2.length->∀e∈iw c v i,0<=e.1/\0<=e.2.1):StV c v (((aE 256).filter λx=>s.getD x Ak).map λ(x:Nat)=>(x:Int)):=by
 refine⟨λx B=>?_,λb F=>?_⟩;· grind
 obtain⟨a,E,t,p⟩:=OA q.z b;refine⟨a,By.2 ⟨a,Aba.2 ⟨Abf.2 (by omega),t⟩,rfl⟩,λi r=>?_,λj z=>?_⟩
 ·unfold Xr Bl;by_cases f:v.getD i 0<0;· omega
  ·rw[if_neg f,if_neg f];refine Rb λe w=>?_;have o:e∈iw c v i:=by grind[iw]
   obtain⟨m,n⟩:=q.ed i r e o;have C:¬(a<e.1.toNat/\e.1.toNat<=b):=λ⟨k,l⟩=>by rw[p _ k l]at m;cases m
   have D:¬(a<(e.2.1+1).toNat/\(e.2.1+1).toNat<=b):=λ⟨k,l⟩=>by rw[p _ k l]at n;cases n
   unfold BN;rw[show Dm (e.1<=(a:Int))=Dm (e.1<=(b:Int)) by rw[decide_eq_decide];omega,show Dm ((a:Int)<=e.2.1)=Dm ((b:Int)<=e.2.1) by rw[decide_eq_decide];omega]
 ·unfold T9 YN;by_cases f:0<=v.getD (c.2.length+j) 0/\v.getD (c.2.length+j) 0<(c.1.getD j dF).1.length
  ·obtain⟨m,n⟩:=q.ch j z _ (by unfold ni;rw[if_pos f]);generalize((c.1.getD j dF).1.getD (v.getD (c.2.length+j) 0).toNat 0).toNat=y at m n;have C:¬(a<y/\y<=b):=λ⟨k,l⟩=>by rw[p _ k l]at m;cases m
   have D:¬(a<y+1/\y+1<=b):=λ⟨k,l⟩=>by rw[p _ k l]at n;cases n
   have:(y=a)↔(y=b):=by omega
   simp only[this]
  ·rw[if_neg λh=>f ⟨h.1,h.2.1⟩,if_neg λh=>f ⟨h.1,h.2.1⟩]
theorem UR.ck{s:List Bool}(h:UR c v s k m)(b:∀e∈iw c v k,s.getD e.1.toNat Ak=Bp/\s.getD (e.2.1+1).toNat Ak=Bp):UR c v s (k+1) m:=
 ⟨h.len,h.z,λi d=>by
  rcases Aal i k with a|a;· exact h.ed i a
  grind,h.ch⟩
theorem UR.cj{s:List Bool}(h:UR c v s k m)(b:∀x,ni c v m=Ac x->s.getD x Ak=Bp/\s.getD (x+1) Ak=Bp):UR c v s k (m+1):=
 ⟨h.len,h.z,h.ed,λi d=>by
  rcases Aal i m with a|a;· exact h.ch i a
  grind⟩
theorem W9(H:dp c)(hw:∀k∈c.2,Bf k.1)(K:BX c v)(hF:1000000000000<fu):Ok (F61 fu (c,v)) λl=>l.length<=256/\StV c v l:=by
 have h1:=H.nf;have h2:=H.nc;have hl:=K.len;have m0:UR c v (kS (T0 257 Ak) 0 Bp) 0 0:=⟨by grind,Jd (by grind),λi u=>by omega,λj hj=>by omega⟩;refine Sj (λk (s:List Bool)=>UR c v s k 0) c.2.length m0 (by omega) (λk s nx w d n=>?_) (λs nx d=>?_);· have hc:=K.cl k w;have A:=AN w;have O:=H.ed _ A;refine PW (Aah w (BY (BG (by omega)) (N6 (λh=>n _ (d.ck λe f=>by
   grind[iw])) λh=>(by
   have h:¬v.getD k 0<0:=h;refine BY (BG (by omega)) (Adq (Agq.1 h) hc.2 ?_);have I:(c.2[k]).1[(v.getD k 0).toNat]'(by omega)∈(c.2[k]).1:=AN _;have V:=H.bt _ A _ I;have M:=O _ I;have ev:iw c v k=((c.2[k]).1[(v.getD k 0).toNat]'(by omega)).2:=by unfold iw Be;grind
   dsimp only;generalize(c.2[k]).1[(v.getD k 0).toNat]'(by omega)=st at V M ev;refine Sj (λm (t:List Bool)=>UR c v t k 0/\∀e∈st.2.take m,t.getD e.1.toNat Ak=Bp/\t.getD (e.2.1+1).toNat Ak=Bp) st.2.length ⟨d,by simp⟩ (by omega) (λm t T A N P=>?_) (λt T N=>?_)
   ·have f:=V _ (AN A);obtain⟨L,t2⟩:=N;have tl:=L.len;have mono:∀x,t.getD x Ak=Bp->((t.set (0+Z5 (st.2[m]).1*1) Bp).set (0+Z5 ((st.2[m]).2.1+1)*1) Bp).getD x Ak=Bp:=λx g=>FW (FW g);refine PW (Aah A (Aao (PA ⟨by grind,by grind⟩ (Abw (PA ⟨by dsimp only;omega,by dsimp only;omega⟩ (Abw (P _ ⟨L.up (by rw[Abq,Abq];exact tl) mono,λe r=>?_⟩)))))));rcases(Ag A).1 r with r|rfl;· exact⟨mono _ (t2 e r).1,mono _ (t2 e r).2⟩
    ·refine⟨FW ?_,?_⟩;· have:=Jd (s:=t) (i:=0+Z5 (st.2[m]).1*1) (by omega);rwa [show 0+Z5 (st.2[m]).1*1=(st.2[m]).1.toNat by omega]at this⊢
     ·have:=Jd (s:=t.set (0+Z5 (st.2[m]).1*1) Bp) (i:=0+Z5 ((st.2[m]).2.1+1)*1) (by rw[Abq];omega);rwa [show 0+Z5 ((st.2[m]).2.1+1)*1=((st.2[m]).2.1+1).toNat by omega]at this⊢
   ·obtain⟨L,t2⟩:=N;rw[Aau,<-ev]at t2;exact PY (n _ (L.ck t2))))))
 refine P7 (by omega) ?_;refine Sj (λk (s:List Bool)=>UR c v s c.2.length k) c.1.length d (by omega) (λk s nx w d n=>?_) (λs nx d=>?_)
 ·have hc:=K.fd k w;have C:c.1.getD k dF=c.1[k]:=AO w;have no:ni c v k=C7->Ok (nx (s,k+1)) λl=>l.length<=256/\StV c v l:=λh=>n _ (d.cj λx g=>by rw[h]at g;cases g);refine PW (Aah w (Aao (BY (JA (by omega)) (N6 (λF=>N6 (λG=>?_) λG=>no ?_) λF=>no ?_))))
  ·have G:v.getD (c.2.length+k) 0<(c.1[k]).1.length:=G;have F:0<=v.getD (c.2.length+k) 0:=F;have u:Ey (c.1[k]).1 (v.getD (c.2.length+k) 0)=Ac (((c.1[k]).1[(v.getD (c.2.length+k) 0).toNat]'(by omega)).toNat:Int):=by
    obtain⟨q,R⟩:∃q:Nat,v.getD (c.2.length+k) 0=q:=⟨(v.getD (c.2.length+k) 0).toNat,by omega⟩;simp only[R];rw[MP (by omega)];rfl
   have Z:((c.1[k]).1.getD (v.getD (c.2.length+k) 0).toNat 0)=(c.1[k]).1[(v.getD (c.2.length+k) 0).toNat]'(by omega):=AO (by omega);have B:ni c v k=Ac ((c.1[k]).1[(v.getD (c.2.length+k) 0).toNat]'(by omega)).toNat:=by unfold ni;rw[C,if_pos ⟨F,G⟩,Z]
   have D:=((c.1[k]).1[(v.getD (c.2.length+k) 0).toNat]'(by omega)).toNat_lt;dsimp only at u B D⊢;generalize((c.1[k]).1[(v.getD (c.2.length+k) 0).toNat]'(by omega)).toNat=y at u B D;have sl:=d.len;refine BY u (BY u (Aao (PA ⟨by omega,by omega⟩ (Abw (PA ⟨by omega,by omega⟩ (Abw (n _ ((d.up (by rw[Abq,Abq];exact sl) λx g=>FW (FW g)).cj λx g=>?_))))))));rw[B]at g;cases g;refine⟨FW ?_,?_⟩;· have:=Jd (s:=s) (i:=0+Z5 (y:Int)*1) (by omega);rwa [show 0+Z5 (y:Int)*1=y by omega]at this⊢
   ·have:=Jd (s:=s.set (0+Z5 (y:Int)*1) Bp) (i:=0+Z5 ((y:Int)+1)*1) (by rw[Abq];omega);rwa [show 0+Z5 ((y:Int)+1)*1=y+1 by omega]at this⊢
  ·unfold ni;rw[C,if_neg];rintro⟨_,e⟩;exact G e
  ·unfold ni;rw[if_neg];rintro⟨e,_⟩;exact F e
 refine P7 (by dsimp only;omega) ?_;have sl:=d.len;have S:=d.st λi u e f=>by
  unfold iw at f;split at f;· cases f
  ·rename_i n;have hc:=K.cl i u;have A:=AN u;have C:c.2.getD i dK=c.2[i]:=AO u;unfold Be at f;rw[C,show(c.2[i]).1.getD (v.getD i 0).toNat (Ak,[])=(c.2[i]).1[(v.getD i 0).toNat]'(by omega)from AO _]at f;have:=H.bt _ A _ (AN (by omega:(v.getD i 0).toNat<(c.2[i]).1.length)) e f;exact⟨this.1.1,by omega⟩
 refine Xg (X:=List Int×Int) (λx=>(0<=x.2/\x.2<=256)/\x.1=((aE x.2.toNat).filter λx=>s.getD x Ak).map λ(x:Nat)=>(x:Int)) (λx=>256-x.2.toNat) ⟨by decide,rfl⟩ (by dsimp only;omega) λx nx g _ n=>?_;obtain⟨o,z⟩:=x;obtain⟨W,J⟩:=g;dsimp only at W J n;have Q:o.length<=z.toNat:=by rw[J,Aap];exact filter_le
 refine N6 (λh=>?_) λh=>MH ⟨by dsimp only;omega,?_⟩
 ·have h:z<256:=h;obtain⟨q,rfl⟩:∃q:Nat,z=q:=⟨z.toNat,by omega⟩;rw[Ace]at J Q;refine PA ⟨W.1,by dsimp only;omega⟩ ?_;rw[show((0+Z5 (q:Int)*1:Nat):Int)=((q:Nat):Int) by omega];have eq:s.getD q Ak=s[q]'(by omega):=AO (by omega);have U:((aE (q+1)).filter λx=>s.getD x Ak).map (λ(x:Nat)=>(x:Int))=o++(if s.getD q Ak=Bp then [(q:Int)]else []):=by
   rw[J,Aem,Afx,Aan];congr 1;cases R:s.getD q Ak<;>simp only[Afl,R,List.filter_nil,if_true,Aar,Aei]<;>rfl
  refine Aah (by dsimp only;omega) (PS (λD=>PA (p:=GK.F8 q) (by unfold GK.F8;omega) (PA (by unfold Ai;dsimp only;omega) (Aao (n _ ⟨by dsimp only;omega,?_⟩ (by dsimp only;omega))))) λD=>Aao (n _ ⟨by dsimp only;omega,?_⟩ (by dsimp only;omega)));· dsimp only;rw[show((q:Int)+1).toNat=q+1 by omega,U,if_pos (by rw[eq];exact D)]
  ·dsimp only;rw[show((q:Int)+1).toNat=q+1 by omega,U,if_neg (by rw[eq,D];decide),Adi]
 grind
theorem VV:Lib.itoa (-1)=[45,49]:=by decide+kernel
theorem R6{n:Int}(h: -1<=n):(44:UInt8)∉Lib.itoa n:=by
 rcases Ael n 0 with a|a
 ·grind[VV]
 grind[Jy]
theorem VW{m:Int}(h:0<=m):Lib.itoa (-1)≠Lib.itoa m:=λe=>by obtain⟨u,rfl⟩:∃u:Nat,m=u:=⟨m.toNat,by omega⟩;rw[VV,Jz]at e;have:=Iw u 45 (by grind);grind
theorem XF{n m:Int}(h: -1<=n)(k: -1<=m)(e:Lib.itoa n=Lib.itoa m):n=m:=by
 rcases Ael n 0 with b|b
 ·grind[absurd,Int.lt_or_le,VW]
 ·rcases Ael m 0 with a|a
  ·grind[absurd,VW]
  grind[MN]
def R3(v:List Int):Au:=v.flatMap λn=>44::Lib.itoa n
theorem aP(v:List Int):Du v=R3 v:=by unfold Du XC R3;rw[List.map_flatMap];simp_all[Lib.itoa,Aar,Aak,Afm,Abs]
theorem OE(v:List Int):R3 v=[]\/(R3 v).head?=Ac 44:=by
 cases v with
 |nil=>trivial
 |cons n v=>exact .inr rfl
theorem R2:∀ {u v:List Int},(∀n∈u, -1<=n)->(∀n∈v, -1<=n)->R3 u=R3 v->u=v
 | [],[],_,_,_=>rfl
 | [],n::v,_,_,e=>by cases e
 |n::u,[],_,_,e=>by cases e
 |n::u,m::v,h,k,e=>by have d:(44:UInt8)::(Lib.itoa n++R3 u)=44::(Lib.itoa m++R3 v):=e;obtain⟨a,b⟩:=Fs (R6 (h n (Aat ..))) (R6 (k m (Aat ..))) (OE u) (OE v) (List.cons.inj d).2;rw[XF (h n (Aat ..)) (k m (Aat ..)) a,R2 (λx c=>h x (Aag _ c)) (λx c=>k x (Aag _ c)) b]
theorem R1{c:BA}{u v:List Int}(b:dp c)(d:BX c u)(f:BX c v)(e:Du u=Du v):u=v:=by rw[aP,aP]at e;exact R2 (λn a=>(d.mem b n a).1) (λn a=>(f.mem b n a).1) e
def En(c:BA)(v:List Int)(b:Nat):List Int:=(aE c.2.length).map (Xr c v b)++(aE c.1.length).map (T9 c v b)
theorem Hk(c:BA)(v:List Int)(b:Nat):eQ c v (En c v b) b:=by
 refine⟨by simp[En],λi a=>?_,λj d=>?_⟩;· grind[En]
 simp_all[En]
theorem eQ.eq(h:eQ c v u b):u=En c v b:=h.uniq (Hk c v b)
theorem Zv.eq(h:Zv c v a b):En c v a=En c v b:=by
 unfold En;congr 1;· exact Abs λi d=>h.1 i (Abf.1 d)
 ·exact Abs λj e=>h.2 j (Abf.1 e)
def CJ(c:BA):List Int:=T0 (c.2.length+c.1.length) 0
def Gv(c:BA)(w:Au):List Int:=w.foldl (λv x=>En c v x.toNat) (CJ c)
theorem FY(c:BA)(w:Au)(x:UInt8):Gv c (w++[x])=En c (Gv c w) x.toNat:=by simp[Gv]
def Lf(c:BA):Prop:= ∀w:Au,MQ c (Gv c w)=1
theorem aG{n:Int}(h:n<=s.length): -1<=YN s n b/\YN s n b<=s.length:=by grind[YN]
theorem BX.nx(n:∀k∈c.2,Bf k.1)(l:BX c v)(b:Nat):BX c (En c v b):=by
 have h:=Hk c v b;refine⟨h.len,λi d=>?_,λj g=>?_⟩
 ·rw[h.cl i d];have hc:=l.cl i d;have f:c.2.getD i dK=c.2[i]:=AO d;have m:=AN d;unfold Xr Bl;rw[f];split;· omega
  ·unfold Be;rw[show(c.2[i]).1.getD (v.getD i 0).toNat (Ak,[])=(c.2[i]).1[(v.getD i 0).toNat]'(by omega)from AO _];have:=((n _ m) _ (AN (by omega:(v.getD i 0).toNat<(c.2[i]).1.length))).step b;omega
 ·rw[h.fd j g];have hc:=l.fd j g;have f:c.1.getD j dF=c.1[j]:=AO g;unfold T9;rw[f];exact aG hc.2
theorem Rc(h:∀k∈c.2,k.1≠ []):BX c (CJ c):=by
 have b:∀i,(CJ c).getD i 0=0:=λi=>by grind[CJ]
 refine⟨by simp[CJ],λi d=>?_,λj e=>?_⟩;all_goals grind[List.length_pos_iff,Als]
theorem Mk{c:BA}(h:∀k∈c.2,k.1≠ [])(a:∀k∈c.2,Bf k.1)(w:Au):BX c (Gv c w):=by
 have:∀(w:Au) {v:List Int},BX c v->BX c (w.foldl (λv x=>En c v x.toNat) v):=λw=>by
  induction w with
  |nil=>simp
  |cons x w b=>exact λh=>b (h.nx a _)
 exact this w (Rc h)
structure ux(c:BA)(m:List (Au×Bool))(todo:List (List Int)):Prop where
 z:Du (CJ c)∈m.map (·.1)
 rc:∀v∈todo,∃w,v=Gv c w
 dn:∀x∈m.map (·.1),∃v,BX c v/\x=Du v/\(v∈todo\/MQ c v=1/\∀b,b<256->Du (En c v b)∈m.map (·.1))
theorem ux.once{m:List (Au×Bool)}(d:dp c)(h:∀k∈c.2,k.1≠ [])(e:∀k∈c.2,Bf k.1)(hc:ux c m []):Lf c:=by
 have all:∀w:Au,Du (Gv c w)∈m.map (·.1):=λw=>by
  have:∀(l:Au),Du (Gv c l.reverse)∈m.map (·.1):=λl=>by
   induction l with
   |nil=>exact hc.z
   |cons x l f=>
    rw[Afb,FY];obtain⟨v,v1,b,a⟩:=hc.dn _ f;rw[R1 d (Mk h e _) v1 b];rcases a with a|a;· grind
    ·exact a.2 _ x.toNat_lt
  have:=this w.reverse;grind
 intro w;obtain⟨v,v1,b,a⟩:=hc.dn _ (all w);grind[R1,Mk]
def Dz(c:BA):Prop:=(∀k∈c.2,k.1≠ []/\Bf k.1/\BW k.1=k.1)/\Lf c
structure CloI(c:BA)(v:List Int)(bs:List Int)(m:List (Au×Bool))(todo:List (List Int))(k:Nat):Prop where
 z:Du (CJ c)∈m.map (·.1)
 rc:∀v∈todo,∃w,v=Gv c w
 dn:∀x∈m.map (·.1),∃u,BX c u/\x=Du u/\(u∈todo\/u=v\/MQ c u=1/\∀b,b<256->Du (En c u b)∈m.map (·.1))
 pg:∀i,i<k->∀a:Nat,bs[i]?=Ac (a:Int)->Du (En c v a)∈m.map (·.1)
theorem OM{m:List (Au×Bool)}{x:Au}(h:AB m x=C7):(Bv m x Bp).map (·.1)=m.map (·.1)++[x]:=by grind[Bv]
theorem UA(B:dp c)(hN:GU (GD c)<=400000000000)(R:1000000000000<fu):Ok (F63 fu c) λr=>r=Bp↔Dz c:=by
 have c308:=rh;have h1:=B.nf;have h2:=B.nc;have K:¬Dz c->Ok (Ac Ak) λr=>r=Bp↔Dz c:=λh=>MH ⟨λe=>(by grind),λe=>absurd e h⟩;refine Vs (λn=> ∀k∈c.2.take n,k.1≠ []/\Bf k.1/\BW k.1=k.1) c.2.length (by simp) (by omega) (λn nx hn P F=>?_) (λnx P=>?_)
 ·have M:=AN hn;have hst:=B.st _ M;refine PW (Aah hn (N6 (λe=>K λA=>(A.1 _ M).1 (OF.1 (by omega))) λh0=>Oy (L2 (n:=20000) (B.bt _ M) ⟨hst,λs W=>by have:=B.ed _ M s W;omega⟩ (by omega) (by omega) (by omega)) λb Q=>PS (λD=>K λA=>?_) λD=>F λk E=>?_));· have:=Q.2 (A.1 _ M).2;grind
  ·rcases(Ag hn).1 E with h|rfl;all_goals grind
 rw[Al]at P;have V:∀k∈c.2,k.1≠ []:=λk E=>(P k E).1;have p:∀k∈c.2,Bf k.1:=λk E=>(P k E).2.1;have G:BX c (CJ c):=Rc V;refine PY (Aao (Abw (PA (by omega) ?_)));obtain⟨hk0,hkl⟩:=G.key B R;refine BY (a:=CJ c) rfl (BY hk0 (PA ⟨by omega,by omega⟩ ?_));have hs0:FM c []:=⟨by simp,by simp,by simp⟩;obtain⟨hs1,hl1⟩:=hs0.put G rfl;have T:(Bv ([]:List (Au×Bool)) (Du (CJ c)) Bp).map (·.1)=[Du (CJ c)]:=OM rfl;refine Xg (X:=List (Au×Bool)×List (List Int)) (λx=>FM c x.1/\(∀v∈x.2,BX c v)/\x.2.length<=x.1.length/\ux c x.1 x.2) (λx=>2*(GU (GD c)-x.1.length)+x.2.length)
  ⟨hs1,λv hv=>by rw[Aaf.1 hv];exact G,by rw[hl1];simp,⟨by exact Aaf.2 rfl,λv hv=>⟨[],Aaf.1 hv⟩,λx o=>⟨CJ c,G,by exact Aaf.1 o, .inl (Aaf.2 rfl)⟩⟩⟩ (by rw[Acn];omega) λx nx o _ F=>?_;obtain⟨seen,d⟩:=x;obtain⟨W,ht,hle,hc⟩:=o;dsimp only at W ht hle F hc;have hsl:=W.le;refine N6 (λh=>?_) λh=>MH ⟨λ_=>⟨P,?_⟩,λ_=>rfl⟩;rotate_left;· have h:¬0<(d.length:Int):=h;have:d=[]:=OF.1 (by omega);rw[this]at hc;exact hc.once B V p
 have h:0<(d.length:Int):=h
 have H:=AN (by omega:d.length-1<d.length);have g:=ht _ H;have hix:idx d ((d.length:Int)-1)=Ac (d[d.length-1]'(by omega)):=by rw[show((d.length:Int)-1)=((d.length-1:Nat):Int) by omega,Bk (by omega)]
 have q:∀u∈d,u∈d.take (d.length-1)\/u=d[d.length-1]'(by omega):=λu C=>by
  have:=(Ag (l:=d) (k:=d.length-1) (by omega)).1 (by rw[show d.length-1+1=d.length by omega,Aau];exact C);rcases this with h|h;· exact .inl h
  ·exact .inr h
 obtain⟨w0,N⟩:=hc.rc _ H;refine Aao (BY hix (Aao (PA ⟨by omega,by omega⟩ (BY (g_ B g R) (N6 (λhh=>K λA=>hh (by rw[N,A.2 w0];rfl)) λhh=>Oy (W9 B p g R) λbs S=>?_)))));rw[show Z5 ((d.length:Int)-1)=d.length-1 by omega];obtain⟨S,I,J⟩:=S;dsimp only;generalize d[d.length-1]'(by omega)=v at g q N hh I J;have hh1:MQ c v=1:=by omega
 refine XD (λk (s:List (Au×Bool)) (t:List (List Int))=>(FM c s/\(∀v∈t,BX c v)/\t.length<=s.length/\2*(GU (GD c)-s.length)+t.length<2*(GU (GD c)-seen.length)+d.length)/\CloI c v bs s t k) bs.length
  ⟨⟨W,λu C=>ht u (Acl C),by rw[Abg];omega,by rw[Abg];omega⟩,⟨hc.z,λu C=>hc.rc u (Acl C),λx o=>?_,λi hi=>by omega⟩⟩ (by omega) (λk s t nx2 E L U=>?_) (λs t nx2 L=>?_)
 ·obtain⟨u,Y,Z,j⟩:=hc.dn x o;refine⟨u,Y,Z,?_⟩;rcases j with j|j
  ·rcases q u j with u4|u4;· exact .inl u4
   ·exact .inr (.inl u4)
  ·exact .inr (.inr j)
 ·obtain⟨⟨O,a2,a3,a4⟩,z⟩:=L;obtain⟨a,ea,ha⟩:=I _ (AN E);refine PW (Aah E ?_);dsimp only;rw[ea];refine Oy (dj (b:=a) B p g R) λu hu'=>?_;have eu:=hu'.eq;have C:BX c u:=by rw[eu];exact g.nx p a
  obtain⟨e,el⟩:=C.key B R;have hsl2:=O.le;refine BY e (PA (by omega) ?_);have pg:∀(m:List Au),(∀x∈s.map (·.1),x∈m)->Du u∈m->∀i,i<k+1->∀y:Nat,bs[i]?=Ac (y:Int)->Du (En c v y)∈m:=λm M hu2 i hi y hy=>by
   rcases Aal i k with h|h;· exact M _ (z.pg i h y hy)
   ·obtain rfl:i=k:=by omega
    rw[GB E,ea]at hy;have:a=y:=by have:=Abp hy;omega
    rw[<-this,<-eu];exact hu2
  rcases O.get (x:=Du u)with A|A
  ·rw[A];obtain⟨b1,b2⟩:=O.put C A;have b3:=b1.le;have ek:=OM A;have up:∀x∈s.map (·.1),x∈(Bv s (Du u) Bp).map (·.1):=λx o=>by rw[ek];exact AS.2 (.inl o)
   refine VO rf (PA ⟨by omega,by omega⟩ (Abw (U _ _ ⟨⟨b1,λw p=>?_,by rw[b2,Aac,Acn];omega,by rw[b2,Aac,Acn];omega⟩,⟨up _ z.z,λw p=>?_,λx o=>?_,pg _ up (by rw[ek];exact AS.2 (.inr (Aaf.2 rf)))⟩⟩)))
   ·rcases AS.1 p with p|p;· exact a2 w p
    ·rw[Aaf.1 p];exact C
   ·rcases AS.1 p with p|p;· exact z.rc w p
    ·refine⟨w0++[UInt8.ofNat a],?_⟩;rw[Aaf.1 p,eu,FY,<-N,show(UInt8.ofNat a).toNat=a by rw[Afs];exact Agg ha]
   ·rw[ek]at o;rcases AS.1 o with o|o
    ·obtain⟨u',Y,Z,j⟩:=z.dn x o;refine⟨u',Y,Z,?_⟩;rcases j with j|j|j;· exact .inl (AS.2 (.inl j))
     ·exact .inr (.inl j)
     ·exact .inr (.inr ⟨j.1,λb Q=>up _ (j.2 b Q)⟩)
    ·exact⟨u,C,Aaf.1 o, .inl (AS.2 (.inr (Aaf.2 rf)))⟩
  ·rw[A];exact P1 rfl (U _ _ ⟨⟨O,a2,a3,a4⟩,⟨z.z,z.rc,z.dn,pg _ (λx o=>o) (By.2 ⟨_,ON A,rfl⟩)⟩⟩)
 ·obtain⟨⟨O,a2,a3,a4⟩,z⟩:=L;refine PY (F _ ⟨O,a2,a3,⟨z.z,z.rc,λx o=>?_⟩⟩ a4);obtain⟨u,Y,Z,j⟩:=z.dn x o;refine⟨u,Y,Z,?_⟩;rcases j with j|j|j;· exact .inl j
  ·subst j;refine .inr ⟨hh1,λb Q=>?_⟩;obtain⟨a,ha,hab⟩:=J b Q;obtain⟨i,hi,ei⟩:=Aas ha;rw[<-hab.eq];exact z.pg i hi a (by rw[GB hi,ei])
  ·exact .inr j
def CM(ls:List Tb)(v:List Int)(b:Nat):List Int:=(aE ls.length).map λi=>Bl (ls.getD i []) (v.getD i 0) b
def MR(ls:List Tb)(v:List Int)(k:Nat):Nat:=((aE k).filter λi=>fin (ls.getD i []) (v.getD i 0)).length
def Gt(ls:List Tb):List Int:=T0 ls.length 0
def Rl(ls:List Tb)(w:Au):List Int:=w.foldl (λv x=>CM ls v x.toNat) (Gt ls)
def WK(ls:List Tb):Prop:= ∀w:Au,MR ls (Rl ls w) ls.length=1
theorem Ke(ls:List Tb)(w:Au)(x:UInt8):Rl ls (w++[x])=CM ls (Rl ls w) x.toNat:=by simp[Rl]
structure QI(ls:List Tb)(v:List Int):Prop where
 len:v.length=ls.length
 rg:∀i (h:i<ls.length), -1<=v.getD i 0/\v.getD i 0<(ls[i]).length
structure uT(ls:List Tb)(n:Nat):Prop where
 ln:ls.length<=100
 ne:∀l∈ls,l≠ []
 wf:∀l∈ls,Bf l
 sh:∀l∈ls,DT l n
def Ql(ls:List Tb):List Nat:=ls.map λl=>l.length+1
theorem QI.NC(c:QI ls v):v∈NC (Ql ls):=by
 refine MD (by rw[c.len];simp[Ql]) λi b=>?_;have a:i<ls.length:=by grind[Ql]
 have:=c.rg i a;grind[Ql]
theorem Zr{l:List (List Int)}(a:l.Nodup)(h:∀v∈l,QI ls v):l.length<=GU (Ql ls):=by rw[<-L1];exact Ch a λx b=>(h x b).NC
theorem Kj(h:i<ls.length):(CM ls v b).getD i 0=Bl (ls.getD i []) (v.getD i 0) b:=by grind[CM]
theorem QI.nx(e:uT ls n)(g:QI ls v)(b:Nat):QI ls (CM ls v b):=by
 refine⟨by simp[CM],λi a=>?_⟩;have hc:=g.rg i a;have f:=AN a;rw[Kj a,show ls.getD i []=ls[i]from AO a];unfold Bl;split;· omega
 ·unfold Be;rw[show(ls[i]).getD (v.getD i 0).toNat (Ak,[])=(ls[i])[(v.getD i 0).toNat]'(by omega)from AO _];have:=((e.wf _ f) _ (AN (by omega:(v.getD i 0).toNat<(ls[i]).length))).step b;omega
theorem W_(b:uT ls n):QI ls (Gt ls):=by
 have d:∀i,(Gt ls).getD i 0=0:=λi=>by grind[Gt]
 refine⟨by simp[Gt],λi c=>?_⟩;have:=Aed.2 (b.ne _ (AN c));grind
theorem iA{c:Nat}(j:uT ls n)(B:n<fu)(w:100<fu)(hc:c<256)(q:QI ls v):
  Ok (nL fu (ls,v,(c:Int))) λe=>((c:Int)<e/\e<=256)/\∀i,i<ls.length->Fc (CU (ls.getD i []) (v.getD i 0)) c e:=by
 have D:=j.ln;have C:=q.len;refine Sj (λk (y:Int)=>((c:Int)<y/\y<=256)/\∀i,i<k->Fc (CU (ls.getD i []) (v.getD i 0)) c y) ls.length ⟨⟨by omega,by simp⟩,λi x=>by omega⟩ (by omega) (λk y nx d g l=>?_) (λy nx g=>?_)
 ·obtain⟨m,A⟩:=g;have p:=AN d;have r:ls.getD k []=ls[k]:=AO d;have t:=q.rg k d;have step:∀z,((c:Int)<z/\z<=y)->Fc (CU (ls.getD k []) (v.getD k 0)) c z->Ok (nx (z,k+1)) λe=>((c:Int)<e/\e<=256)/\∀i,i<ls.length->Fc (CU (ls.getD i []) (v.getD i 0)) c e:=λz b f=>l _ ⟨⟨b.1,by omega⟩,λi x=>by
   rcases Aal i k with h|h;· exact(A i h).mono b.2
   grind⟩;refine PW (BY (BG (by omega)) (N6 (λh=>step _ ⟨m.1,Abo _⟩ (by unfold CU;rw[if_pos h];intro e u;cases u)) λh=>(by
   have h:¬v.getD k 0<0:=h;have s:CU (ls.getD k []) (v.getD k 0)=((ls[k])[(v.getD k 0).toNat]'(by omega)).2:=by unfold CU Be;rw[if_neg h,r,show(ls[k]).getD (v.getD k 0).toNat (Ak,[])=(ls[k])[(v.getD k 0).toNat]'(by omega)from AO _]
   have a:(ls[k])[(v.getD k 0).toNat]'(by omega)∈ls[k]:=AN _;refine Aah d (BY (BG (by omega)) (Adq (by omega) (by dsimp only;omega) ?_));exact Ky hc ⟨m.1,m.2⟩ ⟨_,(j.wf _ p) _ a⟩ (by have:=(j.sh _ p).2 _ a;omega) λz b f=>step z b (by rw[s];exact f))))
 ·exact PY (MH g)
theorem Fc.Bl{l:Tb}{i:Int}{c:Nat}{e:Int}(h:Fc (CU l i) c e)(h1:c<=b)(h2:(b:Int)<e):GL.Bl l i c=GL.Bl l i b:=by
 unfold GL.Bl;unfold CU at h;split;· rfl
 ·rename_i a;rw[if_neg a]at h;refine Rb λx d=>?_;obtain⟨f,g⟩:=h x d;grind[BN,decide]
theorem gr{l:List (List Int)}{x:List Int}(h:∀y∈l,y.length=x.length)(s:l.length<fu)(o:x.length<fu):sD fu (l,x)=Ac (Dm (x∈l)):=by
 refine(Ok.eq ?_);refine Vs (λk=>x∉l.take k) l.length (by simp) s (λk nx d c t=>?_) (λnx c=>?_)
 ·have n:=AN d;have p:=h _ n;have e:sE fu (l[k],x)=Ac (Dm (l[k]=x)):=by
   refine(Ok.eq ?_);generalize l[k]=y at p;refine Vs (λj=> ∀i,i<j->y.getD i 0=x.getD i 0) y.length (λi q=>by omega) (by omega) (λj m r a f=>?_) (λm a=>?_)
   ·refine PW (BY (BG r) (BY (BG (by omega)) (N6 (λg=>MH (decide_eq_false λe=>g (by rw[e])).symm) λheq=>f λi q=>?_)));grind
   ·exact PY (MH (decide_eq_true (M0 p a)).symm)
  refine PW (Aah d (BY e (N6 (λh=>MH (decide_eq_true (h▸n)).symm) λh=>t λo=>?_)));grind[Ag]
 simp_all[Al,PY,MH,decide_eq_false]
structure Ns(ls:List Tb)(s:List (List Int))(k:Nat):Prop where
 nd:s.Nodup
 vl:∀v∈s,QI ls v
 z:Gt ls∈s
 rc:∀v∈s,∃w,v=Rl ls w
 dn:∀j v,j<k->s[j]?=Ac v->MR ls v ls.length=1/\∀b,b<256->CM ls v b∈s
theorem Ns.once{s:List (List Int)}(h:Ns ls s s.length):WK ls:=by
 have at_:∀v∈s,MR ls v ls.length=1/\∀b,b<256->CM ls v b∈s:=λv c=>by obtain⟨j,a,rfl⟩:=Aas c;exact h.dn j _ a (GB a)
 have all:∀l:Au,Rl ls l.reverse∈s:=λl=>by
  induction l with
  |nil=>exact h.z
  |cons x l d=>rw[Afb,Ke];exact(at_ _ d).2 _ x.toNat_lt
 intro w;have:=all w.reverse;grind
theorem Ns.more{s:List (List Int)}(g:uT ls n)(h:Ns ls s k)(r:k<=s.length)(e:v∈s)(l:b<256)(o:CM ls v b∉s):Ns ls (s++[CM ls v b]) k:=by
 refine⟨?_,λu d=>?_,AS.2 (.inl h.z),λu d=>?_,λj u m d=>?_⟩;· refine Acv.2 ⟨h.nd,by simp,λa i c hc=>?_⟩;grind
 ·rcases AS.1 d with d|d;· exact h.vl u d
  ·rw[Aaf.1 d];exact(h.vl v e).nx g b
 ·rcases AS.1 d with d|d;· exact h.rc u d
  ·obtain⟨w,p⟩:=h.rc v e;refine⟨w++[UInt8.ofNat b],?_⟩;grind[UInt8.ofNat,List.mem_singleton,Ke,UInt8.toNat_ofNat',Nat.mod_eq_of_lt]
 ·have f:j<s.length:=by omega
  rw[Pe f]at d;obtain⟨a,b⟩:=h.dn j u m d;simp_all
theorem fV(L:uT ls n)(hf:n<fu)(hN:GU (Ql ls)<=400000000000)(hF:1000000000000<fu):Ok (sC fu ls) λr=>r=Bp↔WK ls:=by
 have hln:=L.ln;refine Sj (λk (z:List Int)=>z=T0 k 0) ls.length rfl (by omega) (λk z nx C B P=>?_) (λz nx B=>?_);· have hp:=Aed.2 (L.ne _ (AN C));refine PW (Aah C (PY (PA (by grind) (P _ ?_))));grind[List.replicate_succ']
 subst B;have hs0:=W_ L;refine P7 (by omega) ?_;show Ok (Ad fu _ ([Gt ls],0)) _;refine Xg (X:=List (List Int)×Nat) (λx=>Ns ls x.1 x.2/\x.2<=x.1.length) (λx=>GU (Ql ls)-x.2) ⟨⟨by simp,λv hv=>by simp_all,Aaf.2 rfl,λv hv=>⟨[],Aaf.1 hv⟩,λj v W=>by omega⟩,Abh _⟩ (by omega) λx nx K _ Q=>?_;obtain⟨s,k⟩:=x;obtain⟨I,C⟩:=K;dsimp only at I C Q;refine N6 (λh=>?_) λh=>MH ⟨λ_=>?_,λ_=>rfl⟩;rotate_left
 ·have h:¬(k:Int)<(s.length:Int):=h;have:k=s.length:=by omega
  subst this;exact I.once
 have h:(k:Int)<(s.length:Int):=h;have C:k<s.length:=by omega
 have J:=AN C;have m:=I.vl _ J;obtain⟨w0,R⟩:=I.rc _ J;have O:s[k]?=Ac s[k]:=GB C;have l:idx s (k:Int)=Ac s[k]:=Bk C;generalize s[k]=v at J m R O l;have hl:=m.len;refine Sj (λi (c:Int)=>c=(MR ls v i:Int)) ls.length rfl (by omega) (λi c nx2 g B P=>?_) (λc nx2 B=>?_)
 ·have ei:ls.getD i []=ls[i]:=AO g;have hc:=m.rg i g;have hle:MR ls v i<=i:=filter_le;have U:(MR ls v (i+1):Int)=(MR ls v i:Int)+(if fin (ls.getD i []) (v.getD i 0)=Bp then 1 else 0:Nat):=by
   unfold MR;rw[Hz];omega
  have ef:∀h:0<=v.getD i 0,fin (ls.getD i []) (v.getD i 0)=((ls[i])[(v.getD i 0).toNat]'(by omega)).1:=λh=>by rw[ei];exact Ef h (by omega)
  subst B;refine PW (BY l (BY (BG (by omega)) (N6 (λh=>Aah g (BY l (BY (BG (by omega)) (Adq h hc.2 (PS (λd=>Aao (P _ ?_)) λd=>P _ ?_))))) λh=>P _ ?_)))
  ·rw[U,if_pos]; · rfl
   rw[ef h];exact d
  ·rw[U,if_neg]; · simp
   rw[ef h];intro K;rw[K]at d;cases d
  ·rw[U,if_neg]; · simp
   have h:¬0<=v.getD i 0:=h;unfold fin;rw[decide_eq_false h];simp
 refine PY (N6 (λZ=>MH ⟨λe=>(by cases e),λho=>absurd (by rw[B,R,ho w0];rfl) Z⟩) λheq=>?_);have h1:MR ls v ls.length=1:=by omega
 refine Xg (X:=List (List Int)×Int) (λy=>(Ns ls y.1 k/\s.length<=y.1.length/\y.1[k]?=Ac v)/\(0<=y.2/\y.2<=256)/\∀b:Nat,(b:Int)<y.2->CM ls v b∈y.1) (λy=>256-y.2.toNat) ⟨⟨I,Aae _,O⟩,⟨by omega,by omega⟩,λb d=>by omega⟩ (by omega) λy nx3 hy _ G=>?_;obtain⟨t,z⟩:=y;obtain⟨⟨o,t2,t3⟩,hz,d⟩:=hy;dsimp only at o t2 t3 hz d G;have htl:=Zr o.nd o.vl;have hvt:v∈t:=Aai t3;have F:k<t.length:=by omega
 have M:idx t (k:Int)=Ac v:=by rw[Bk F,<-GB F,t3]
 refine N6 (λh=>?_) λh=>?_
 ·obtain⟨b,rfl⟩:∃b:Nat,z=b:=⟨z.toNat,by omega⟩;have f:b<256:=by omega
  have H:(CM ls v b).length=ls.length:=by unfold CM;simp
  refine Sj (λi (u:List Int)=>u=(CM ls v b).take i) ls.length (by simp) (by omega) (λi u nx4 g q Y=>?_) (λu nx4 q=>?_);· have hm:=AN g;have hc:=m.rg i g;refine PW (Aah g (BY M (BY (BG (by omega)) (PA (p:=GK.F8 b) (by unfold GK.F8;omega) (Oy (Lz (L.sh _ hm) hf hc.2) λr hr=>PA (by unfold Ai;dsimp only;rw[q,Abg];omega) (Y _ ?_))))));dsimp only;rw[q,hr,IN (by omega)];congr 2;have:=Kj (ls:=ls) (v:=v) (b:=b) g;rw[AO (by omega)]at this;rw[this,show ls.getD i []=ls[i]from AO g]
  ·have V:u=CM ls v b:=by rw[q,<-H,Aau]
   refine PY (BY (gr (λy hy=>by rw[(o.vl y hy).len];dsimp only;rw[V,H]) (by dsimp only;omega) (by dsimp only;rw[V,H];omega)) ?_);dsimp only;rw[V];have cut:=iA (c:=b) L hf (by omega) f m;have D:∀e:Int,(∀i,i<ls.length->Fc (CU (ls.getD i []) (v.getD i 0)) b e)->∀x:Nat,b<=x->(x:Int)<e->CM ls v x=CM ls v b:=λe E x hx1 hx2=>by unfold CM;exact Abs λi g=>((E i (Abf.1 g)).Bl hx1 hx2).symm
   by_cases w:CM ls v b∈t
   ·rw[decide_eq_true w];refine P1 rfl (BY M (Oy cut λe E=>G _ ⟨⟨o,t2,t3⟩,⟨by dsimp only;omega,E.1.2⟩,λx K=>?_⟩ (by dsimp only;omega)));rcases Aal x b with A|A;· exact d x (by omega)
    ·rw[D e E.2 x A K];exact w
   ·rw[decide_eq_false w];have t1':=o.more L (by omega) hvt f w;have S:(t++[CM ls v b])[k]?=Ac v:=by rw[Pe F,t3]
    have N:idx (t++[CM ls v b]) (k:Int)=Ac v:=by rw[Bk (by simp;omega),<-GB (by simp;omega),S]
    refine VO rfl (PA (by unfold Ai;omega) (BY N (Oy cut λe E=>G _ ⟨⟨t1',by dsimp only;rw[Aac];omega,S⟩,⟨by dsimp only;omega,E.1.2⟩,λx K=>?_⟩ (by dsimp only;omega))));rcases Aal x b with A|A;· exact AS.2 (.inl (d x (by omega)))
    ·rw[D e E.2 x A K];exact AS.2 (.inr (Aaf.2 rfl))
 ·have h:¬z<256:=h;refine Q _ ⟨⟨o.nd,o.vl,o.z,o.rc,λj u W T=>?_⟩,by dsimp only;omega⟩ (by dsimp only;omega);rcases Aal j k with A|A;· exact o.dn j u A T
  ·obtain rfl:j=k:=by dsimp only at W;omega
   dsimp only at T;rw[t3]at T;cases T;exact⟨h1,λb hb2=>d b (by omega)⟩
theorem DY(s:Au):(Bu s).length=s.length+1:=by simp[Bu]
theorem WW(h:i<s.length):(Bu s)[i]'(by grind[DY])=KR i s[i]:=by grind[Bu]
theorem N3(s:Au):(Bu s)[s.length]'(by grind[DY])=(Bp,[]):=by simp[Bu]
theorem QT{n:Int}(h: -1<=n/\n<=s.length):Bl (Bu s) n b=YN s n b:=by
 unfold Bl YN;by_cases e:n<0;· omega
 rw[if_neg e,Bs (by omega) (by grind[DY])];obtain⟨k,rfl⟩:∃k:Nat,n=k:=⟨n.toNat,by omega⟩;rcases Aal k s.length with d|d
 ·grind[Bu,KR,AQ,BN,decide]
 ·obtain rfl:k=s.length:=by omega
  have c:(Bu s)[((s.length:Int)).toNat]'(by grind[DY])=(Bp,[]):=by grind[N3]
  rw[c,if_neg (by omega)];rfl
theorem N2{n:Int}(h: -1<=n/\n<=s.length):fin (Bu s) n=Dm (n=(s.length:Int)):=by
 by_cases b:n<0;· grind[fin_neg,decide_eq_false]
 rw[Ef (by omega) (by grind[DY])];obtain⟨k,rfl⟩:∃k:Nat,n=k:=⟨n.toNat,by omega⟩;simp only[Ace];rcases Aal k s.length with a|a;· rw[WW a,decide_eq_false (by omega)];rfl
 ·obtain rfl:k=s.length:=by omega
  rw[N3,decide_eq_true rfl]
theorem QU(s:Au):DT (Bu s) (s.length+1):=by
 refine⟨by simp_all[DY,Aae],λx a=>?_⟩;rcases AS.1 a with a|a;· obtain⟨i,b,rfl⟩:=List.mem_mapIdx.1 a;simp[KR]
 grind
def PR(c:BA):List Tb:=c.2.map (·.1)++c.1.map λf=>Bu f.1
theorem H0(c:BA):(PR c).length=c.2.length+c.1.length:=by simp[PR]
theorem ai{c:BA}{i:Nat}(h:i<c.2.length):(PR c).getD i []=(c.2.getD i dK).1:=by grind[PR]
theorem ah(h:j<c.1.length):(PR c).getD (c.2.length+j) []=Bu (c.1.getD j dF).1:=by grind[PR]
theorem gk{c:BA}{v:List Int}{b:Nat}(l:BX c v):CM (PR c) v b=En c v b:=by
 have h:=Hk c v b;refine M0 (by rw[h.len];grind[CM,H0]) λi k=>?_;have g:i<c.2.length+c.1.length:=by grind[CM,H0]
 rw[Kj (by grind[H0])];rcases Aal i c.2.length with f|f;· rw[ai f,h.cl i f];rfl
 ·obtain⟨j,rfl⟩:∃j,i=c.2.length+j:=⟨i-c.2.length,by omega⟩;have e:j<c.1.length:=by omega
  have hc:=l.fd j e;rw[ah e,h.fd j e,show c.1.getD j dF=c.1[j]from AO e];unfold T9;rw[show c.1.getD j dF=c.1[j]from AO e];exact QT hc
theorem ba{c:BA}{v:List Int}(f:BX c v):MR (PR c) v (PR c).length=MQ c v:=by
 unfold MR MQ Ll P6;rw[H0,List.range_add,Afx,Aac];congr 1;· grind[List.filter_congr,ai]
 ·rw[Ald,Aap];congr 1;refine Agb λj d=>?_;have d:=Abf.1 d;have hc:=f.fd j d;show fin ((PR c).getD (c.2.length+j) []) (v.getD (c.2.length+j) 0)=_;rw[ah d,show c.1.getD j dF=c.1[j]from AO d];exact N2 hc
theorem Zy{c:BA}(h:∀k∈c.2,k.1≠ [])(a:∀k∈c.2,Bf k.1)(w:Au):Rl (PR c) w=Gv c w:=by
 have:∀l:Au,Rl (PR c) l.reverse=Gv c l.reverse:=λl=>by
  induction l with
  |nil=>show Gt (PR c)=CJ c;grind[Gt,CJ,H0]
  |cons x l b=>grind[List.reverse_cons,Ke,FY,gk,Mk]
 have:=this w.reverse;grind
theorem oB(h:∀k∈c.2,k.1≠ [])(a:∀k∈c.2,Bf k.1):WK (PR c)↔Lf c:=by
 unfold WK Lf;constructor<;>intro k w;· have:=k w;grind[Zy,ba,Mk]
 grind[Zy,ba,Mk]
theorem qU(c:BA):Ql (PR c)=GD c:=by unfold Ql PR GD;rw[Aan,Aak,Aak];congr 1;simp[Bu]
theorem vW(b:dp c)(h:∀k∈c.2,k.1≠ [])(g:∀k∈c.2,Bf k.1):uT (PR c) 20000:=by
 have i:=b.nf;have j:=b.nc;refine⟨by grind[H0],λl a=>?_,λl a=>?_,λl a=>?_⟩<;>unfold PR at a<;>rcases AS.1 a with a|a<;>obtain⟨x,d,rfl⟩:=By.1 a;· grind
 ·grind[DY]
 ·exact g x d
 ·exact(TE x.1).1
 ·exact⟨b.st x d,λs f=>by have:=b.ed x d s f;omega⟩
 ·have:=b.lb x d;exact⟨by have:=(QU x.1).1;omega,λs f=>by have:=(QU x.1).2 s f;omega⟩
theorem SQ(m:dp c)(G:GU (GD c)<=400000000000)(F:1000000000000<fu):Ok (dV fu c) λr=>r=Bp↔Dz c:=by
 have K:=m.nf;have L:=m.nc;have u:¬Dz c->Ok (Ac Ak) λr=>r=Bp↔Dz c:=λh=>MH ⟨λe=>(by grind),λe=>absurd e h⟩;refine Sj (λn (s:List Tb)=>s=(c.2.take n).map (·.1)/\∀k∈c.2.take n,k.1≠ []/\Bf k.1/\BW k.1=k.1) c.2.length ⟨rfl,by simp⟩ (by omega) (λn s nx j i p=>?_) (λs nx i=>?_)
 ·obtain⟨q,J⟩:=i;have o:=AN j;have z:=m.st _ o;refine PW (Aah j (Oy (J6 (n:=20000) (m.bt _ o) ⟨z,λs I=>by have:=m.ed _ o s I;omega⟩ (by omega) (by omega) (by omega)) λb B=>PS (λd=>u λx=>?_) λd=>N6 (λe=>u λx=>(x.1 _ o).1 (OF.1 (by grind))) λE=>PA (by grind) (p _ ⟨?_,λk v=>?_⟩)));· have:=B.2 (x.1 _ o).2;rw[this]at d;cases d
  ·rw[q,IN j,Aan];rfl
  ·rcases(Ag j).1 v with h|rfl;· exact J k h
   ·exact⟨λe=>E (by rw[e];rfl),B.1 (by simpa using d)⟩
 obtain⟨q,i⟩:=i;rw[Al]at i q;have w:∀k∈c.2,k.1≠ []:=λk v=>(i k v).1;have C:∀k∈c.2,Bf k.1:=λk v=>(i k v).2.1;refine P7 (by omega) ?_;refine Sj (λn (t:List Tb)=>t=s++(c.1.take n).map λf=>Bu f.1) c.1.length (by simp) (by omega) (λn t A j a p=>?_) (λt A a=>?_);· have o:=AN j;have H:=m.lb _ o;refine PW (Aah j (Oy (eT (by dsimp only;omega) (by dsimp only;omega)) λr y=>PA (by unfold Ai;rw[a,q,Aac,Aap,Aap,Abg];omega) (p _ ?_)));rw[a,y,IN j,Aan,Aaj];rfl
 ·rw[Al]at a;have D:t=PR c:=by rw[a,q];rfl
  refine P7 (by omega) ?_;rw[D];refine Oy (fV (vW m w C) (by omega) (by rw[qU];exact G) F) λr y=>MH ?_;rw[y,oB w C];exact⟨λh=>⟨i,h⟩,λh=>h.2⟩
def uS(s:Sc):Prop:=Eh s.2.2.2.1 (A8 s.2.2.2.1) (A6 s.2.2.2.1)/\Bf s.2.2.2.2/\BW s.2.2.2.2=s.2.2.2.2
theorem N4{s:Sc}(h:dq k m s)(j:m<1000000000)(i:1000000000000<fu):Ok (NU fu s) λb=>b=Bp↔uS s:=by
 obtain⟨r,e,_,d,_⟩:=PO (fu:=fu) (gu:=fu) h.sm (by omega) (by omega);have l:=h.sm.n1;have n:=h.sm.n2;have g:sF fu s.2.2.2.1=Ac (Dm (s.2.2.2.1=r)):=by refine(Ok.eq ?_);exact BY e (BY (vq (by omega) (by omega)) (MH rf))
 have a:s.2.2.2.1=r↔Eh s.2.2.2.1 (A8 s.2.2.2.1) (A6 s.2.2.2.1):=⟨λc=>c▸d,λc=>c.unique d⟩;refine BY g (PS (λc=>Oy (J6 h.bt h.sh (by omega) (by omega) (by omega)) λb f=>MH ?_) λc=>MH ?_);· rw[f];exact⟨λk=>⟨a.1 (of_decide_eq_true c),k⟩,And.right⟩
 ·exact⟨λh=>(by grind),λk=>absurd (a.2 k.1) (of_decide_eq_false c)⟩
def QL(l:List (Au×Int×Bc)):Prop:=(∀f∈l,f.2.1=1\/f.2.1=2)/\eH l
def jo(l:List (Au×Int×Bc))(k:Nat):Prop:=(∀f∈l.take k,f.2.1=1\/f.2.1=2)/\∀i (h:i+1<l.length),i+1<k->fS l[i].1 l[i+1].1=Bp
theorem Qa(g:k<l.length){nx:Nat->Option Bool}(s:l.length<=4)(c:jo l k)(p:l[k].2.1=1\/l[k].2.1=2)(m:jo l (k+1)->Ok (nx (k+1)) λr=>r=Bp↔QL l):
  Ok (bif Dm ((0:Int)<(k:Int))then Aa .i64 ((k:Int)-1) (Ab (idx l ((k:Int)-1)) λq=>bif !Go.Op.bytesLess q.1 l[k].1 then Ac Ak else nx (k+1))else nx (k+1)) λr=>r=Bp↔QL l:=by
 have mem:∀f∈l.take (k+1),f.2.1=1\/f.2.1=2:=λf o=>by
  rcases(Ag g).1 o with h|rfl;· exact c.1 f h
  omega
 refine N6 (λn=>Aao (Adq (by omega) (by omega) (PS (λa=>MH ⟨λh=>(by grind),λh=>?_⟩) λa=>m ⟨mem,λi d b=>?_⟩))) λn=>m ⟨mem,λi d b=>by omega⟩
 ·obtain⟨j,rfl⟩:∃j,k=j+1:=⟨k-1,by omega⟩;have e:((j+1:Nat):Int)-1=(j:Int):=by omega
  simp only[e,Ace]at a;rw[h.2 j g]at a;grind
 ·rcases Aal (i+1) k with h|h;· exact c.2 i d h
  ·obtain rfl:k=i+1:=by omega
   simp_all
theorem XS(e:l.length<=4)(m:1000000000000<fu):Ok (F36 fu l) λr=>r=Bp↔QL l:=by
 refine Vs (jo l) l.length ⟨by simp,λi h k=>by omega⟩ (by omega) (λk nx b a g=>?_) (λnx a=>?_)
 ·refine PW (Aah b (N6 (λc=>N6 (λd=>MH ⟨λh=>(by grind),λh=>?_⟩) λd=>Qa b e a (.inr (IS d)) g) λc=>Qa b e a (.inl (IS c)) g));rcases h.1 _ (AN b)with h|h;all_goals omega
 ·exact PY (MH ⟨λ_=>⟨λf j=>a.1 f (by grind),λi h=>a.2 i h h⟩,λ_=>rfl⟩)
theorem Uv(g:l.length<=4)(p:1000000000000<fu):Ok (dW fu l) λr=>r=Bp↔QL l:=by
 refine Vs (jo l) l.length ⟨by simp,λi h k=>by omega⟩ (by omega) (λk nx a b j=>?_) (λnx b=>?_)
 ·have go:(l[k].2.1=1\/l[k].2.1=2)->Ok (bif Dm ((0:Int)<(k:Int))then Aa .i64 ((k:Int)-1) (Ab (idx l ((k:Int)-1)) λn=>Ab (idx l (k:Int)) λo=>bif !Go.Op.bytesLess n.1 o.1 then Ac Ak else nx (k+1))else nx (k+1)) λr=>r=Bp↔QL l:=λm=>by
   have:=Qa a g b m j;rw[Bk a];trivial
  refine PW (Aah a (N6 (λc=>Aah a (N6 (λd=>MH ⟨λh=>(by grind),λh=>?_⟩) λd=>go (.inr (IS d)))) λc=>go (.inl (IS c))));rcases h.1 _ (AN a)with h|h;all_goals omega
 ·exact PY (MH ⟨λ_=>⟨λf e=>b.1 f (by simp_all),λi h=>b.2 i h h⟩,λ_=>rfl⟩)
structure zS(v:Vl):Prop where
 an:v.any=Bp->v.sc=Fz/\v.lists=[]/\v.structs=[]
 sc:uS v.sc
 rs:∀c∈v.lists,c.2.length<=1
 st:∀c∈v.structs,QL c.1/\Dz c
def D_:Nat->Vl->Prop
 |0,_=>False
 |d+1,v=>zS v/\∀x∈kids v,D_ d x.1/\D_ d x.2
theorem QS:uS Fz:=by have h:Ie 5 12 Fz:=LW;exact⟨h.nu,h.ln.wf,h.ln.can⟩
theorem V2{v:Vl}(h:Bd (d+1) v)(w:1000000000000<fu):Ok (z_ fu v) λr=>r=Bp↔zS v:=by
 obtain⟨t,⟨C,D⟩,⟨H,z⟩,_⟩:=h;have no:¬zS v->Ok (Ac Ak) λr=>r=Bp↔zS v:=λh=>MH ⟨λe=>(by grind),λe=>absurd e h⟩;have E:=t.n1;have F:=t.n2;have G:=t.sh.1;refine PS (λs=>Oy (VE (by omega) (by omega) (by omega)) λb l=>PS (λf=>Aao (MH ?_)) λf=>no λh=>?_) λs=>?_
 ·have e:=l.1 f;rw[decide_eq_true_iff];constructor;· intro h;have o:v.lists=[]:=OF.1 (by omega);have p:v.structs=[]:=OF.1 (by omega);exact⟨λ_=>⟨e,o,p⟩,e▸QS,by grind,by rw[p];simp⟩
  ·intro h;obtain⟨_,o,p⟩:=h.an s;rw[o,p];rfl
 ·rw[l.2 (h.an s).1]at f;cases f
 refine Vs (λk=> ∀c∈v.lists.take k,c.2.length<=1) v.lists.length (by simp) (by omega) (λk nx j q x=>?_) (λnx q=>?_)
 ·refine PW (Aah j (N6 (λB=>no λh=>by have:=h.rs _ (AN j);omega) λh=>x λc hc=>?_));rcases(Ag j).1 hc with hc|rfl;· exact q c hc
  ·omega
 rw[Al]at q;refine P7 (by omega) ?_;refine Vs (λk=> ∀c∈v.structs.take k,QL c.1/\Dz c) v.structs.length (by simp) (by omega) (λk nx j a x=>?_) (λnx a=>?_)
 ·have l:=z _ (AN j);refine PW (Aah j (Oy (XS l.nf w) λb m=>PS (λg=>no λh=>?_) λg=>Oy (UA l.lim l.GD w) λA n=>PS (λi=>no λh=>?_) λi=>x λc hc=>?_));· rw[m.2 (h.st _ (AN j)).1]at g;cases g
  ·rw[n.2 (h.st _ (AN j)).2]at i;cases i
  ·rcases(Ag j).1 hc with hc|rfl;· exact a c hc
   ·exact⟨m.1 (by simpa using g),n.1 (by simpa using i)⟩
 rw[Al]at a;refine PY (Oy (HV t (by omega) w) λb l=>MH ?_);rw[l];exact⟨λh=>⟨λy=>absurd y (by rw[s];decide),h,q,a⟩,λh=>h.sc⟩
theorem I9:∀ {d fu:Nat} {v:Vl} {lv n a:Int} {b:Bool},Bd d v->1000000000000+d<fu->(1<=lv/\lv+d<=17)->(0<=n/\n+FG d<=1000000000000)->(0<=a/\a<=1000)->
  Ok (si fu (v,lv,n,a,b)) λr=>(0<=r.1/\r.1<=n+FG d)/\(0<=r.2.1/\r.2.1<=1000)/\(r.2.2=Ak↔b=Ak/\D_ d v)
 |0,_,_,_,_,_,_,h,_,_,_,_=>h.elim
 |d+1,0,_,_,_,_,_,_,h,_,_,_=>by omega
 |d+1,fu+1,v,lv,n,a,b,h,W,P,X,O=>by
  have hc:FG (d+1)=1+78*FG d:=rfl;rw[show si (fu+1) (v,lv,n,a,b)=_ from d88 fu v lv n a b];have u:F87 fu (lv,n,a,b)=Ac (n+1,(if a<lv then lv else a),b):=by refine(Ok.eq ?_);exact Aao (Abx (by omega) (MH rf))
  have c:0<=(if a<lv then lv else a)/\(if a<lv then lv else a)<=1000:=by omega
  refine BY u ?_;generalize(if a<lv then lv else a)=t at c;have q:¬D_ (d+1) v->Ok (Ac (n+1,t,Bp)) λr=>(0<=r.1/\r.1<=n+FG (d+1))/\(0<=r.2.1/\r.2.1<=1000)/\(r.2.2=Ak↔b=Ak/\D_ (d+1) v):=
   λE=>MH ⟨⟨by omega,by omega⟩,c,λh=>(by grind),λh=>absurd h.2 E⟩;refine N6 (λj=>absurd j (by omega)) λ_=>Oy (V2 h (by omega)) λg I=>PS (λe=>q λG=>by rw[I.2 G.1]at e;cases e) λe=>BY (VS h (by omega)) ?_;have B:=I.1 (by simpa using e);have J:=h.kids;have C:=h.2.2.2;refine ZY (λk (x:Int) (y:Int) (z:Bool)=>(0<=x/\x<=n+1+((2*k*FG d:Nat):Int))/\(0<=y/\y<=1000)/\(z=Ak↔b=Ak/\∀w∈(kids v).take k,D_ d w.1/\D_ d w.2)) (kids v).length ⟨⟨by omega,by simp⟩,c,⟨λh=>⟨h,by simp⟩,λh=>h.1⟩⟩ (by omega) (λk x y z nx l A F=>?_) (λx y z nx A=>?_)
  ·obtain⟨M,H,o⟩:=A;have i:=C _ (AN l);have D:2*k*FG d<=76*FG d:=Abi _ (by omega);have m:2*(k+1)*FG d=2*k*FG d+2*FG d:=by rw[Nat.mul_add,Adp]
   refine PW (Aah l (Aao (Oy (I9 i.1 (by omega) (by omega) (by omega) H) λr L=>?_)));obtain⟨Y,Q,R⟩:=L;refine Aao (Oy (I9 i.2 (by omega) (by omega) (by omega) Q) λs G=>?_);obtain⟨S,T,U⟩:=G;refine F _ _ _ ⟨⟨S.1,by omega⟩,T,?_⟩;rw[U,R,o];constructor
   ·rintro⟨⟨⟨v1,p⟩,V⟩,t2⟩;refine⟨v1,λw i=>?_⟩;rcases(Ag l).1 i with i|rfl;· exact p w i
    ·exact⟨V,t2⟩
   ·rintro⟨v1,p⟩;have K:=p _ ((Ag l).2 (.inr rfl));exact⟨⟨⟨v1,λw i=>p w ((Ag l).2 (.inl i))⟩,K.1⟩,K.2⟩
  ·obtain⟨M,H,o⟩:=A;have D:2*(kids v).length*FG d<=78*FG d:=Abi _ (by omega);refine PY (MH ⟨⟨M.1,by omega⟩,H,?_⟩);rw[Al]at o;exact o.trans ⟨λh=>⟨h.1,B,h.2⟩,λh=>⟨h.1,h.2.2⟩⟩
theorem Jc{v:Vl}(h:Bd d v)(T:d<=3)(S:1000000001000<fu):Ok (sg fu v) λr=>r=Bp↔D_ d v:=by
 have J:d≠0:=by rintro rfl;trivial
 obtain⟨d,rfl⟩:∃e,d=e+1:=⟨d-1,by omega⟩;have hc:FG d<=6163:=by rcases(by omega:d=0\/d=1\/d=2)with rfl|rfl|rfl<;>decide
 have key:Ok (zY fu (v,1,(0,0),Ak)) λr=>r.2.2=Ak↔D_ (d+1) v:=by
  rw[zY];have p:F34 fu (1,((0,0),Ak))=Ac (1,1,Ak):=by rfl
  refine BY p ?_;have o:¬D_ (d+1) v->Ok (Ac ((1:Int),(1:Int),Bp)) λr=>r.2.2=Ak↔D_ (d+1) v:=λB=>MH ⟨λh=>(by grind),λh=>absurd h B⟩;refine N6 (λf=>absurd f (by simp)) λ_=>Oy (V2 h (by omega)) λg E=>PS (λa=>o λD=>by rw[E.2 D.1]at a;grind) λa=>BY (VS h (by omega)) ?_;have u:=E.1 (by grind);have F:=h.kids;have A:=h.2.2.2;refine ZY (λk (x:Int) (y:Int) (z:Bool)=>(0<=x/\x<=1+((2*k*FG d:Nat):Int))/\(0<=y/\y<=1000)/\(z=Ak↔∀w∈(kids v).take k,D_ d w.1/\D_ d w.2)) (kids v).length ⟨⟨by simp,by simp⟩,⟨by decide,by decide⟩,⟨λ_=>by simp,λ_=>rfl⟩⟩ (by omega) (λk x y z nx i t C=>?_) (λx y z nx t=>?_)
  ·obtain⟨L,H,l⟩:=t;have b:=A _ (AN i);have K:2*k*FG d<=76*FG d:=Abi _ (by omega);have j:2*(k+1)*FG d=2*k*FG d+2*FG d:=by rw[Nat.mul_add,Adp]
   refine PW (Aah i (Aao (Oy (I9 b.1 (by omega) (by omega) (by omega) H) λr c=>?_)));obtain⟨U,M,N⟩:=c;refine Aao (Oy (I9 b.2 (by omega) (by omega) (by omega) M) λs D=>?_);obtain⟨O,P,Q⟩:=D;refine C _ _ _ ⟨⟨O.1,by omega⟩,P,?_⟩;rw[Q,N,l];constructor
   ·rintro⟨⟨n,R⟩,t2⟩ w b;rcases(Ag i).1 b with b|rfl;· exact n w b
    ·exact⟨R,t2⟩
   ·intro n;have G:=n _ ((Ag i).2 (.inr rfl));exact⟨⟨λw b=>n w ((Ag i).2 (.inl b)),G.1⟩,G.2⟩
  ·obtain⟨L,H,l⟩:=t;refine PY (MH ?_);rw[Al]at l;exact l.trans ⟨λh=>⟨u,h⟩,λh=>h.2⟩
 rw[sg];have q:Ok (F90 fu v) λr=>r.2.2=Ak↔D_ (d+1) v:=by exact Oy key λr c=>MH c
 grind[Oy,MH]
theorem Xb(h:Bd d x.1/\Bd d x.2)(g:d<=3)(e:1000000001000<fu):Ok (zX fu x) λr=>r=Bp↔D_ d x.1/\D_ d x.2:=by refine Oy (Jc h.1 g e) λa f=>PS (λc=>Oy (Jc h.2 g e) λb i=>MH ?_) λc=>MH ⟨λh=>(by grind),λh=>?_⟩;all_goals grind
theorem Xy{c:G4}(h:c.1.length<=1000/\c.2.length<=1000):dU fu c=Ac (AY c):=by refine(Ok.eq ?_);rw[dU];refine Abw (PA (by grind) (MH ?_));rfl
theorem W4(h:c.1.length<=1000/\c.2.length<=1000)(j:1000000000000<fu):jK fu c=Ac (Bq c):=by
 refine(Ok.eq ?_);refine Sj (λk (s:List Bc)=>s=(c.1.take k).map (·.2.2)) c.1.length rf (by omega) (λk s nx e d g=>?_) (λs nx d=>?_);· refine PW (Aah e (PA (by grind) (g _ ?_)));grind[cu]
 rw[Al]at d;refine P7 (by omega) ?_;refine Sj (λk (s:List Bc)=>s=c.1.map (·.2.2)++(c.2.take k).map (·.2)) c.2.length (by grind) (by omega) (λk s nx e b g=>?_) (λs nx b=>?_);· refine PW (Aah e (PA (by grind) (g _ ?_)));grind[cu,List.append_assoc]
 ·refine PY (MH ?_);rw[b,Al];rfl
theorem aO{v:Vl}(h:Bd (d+1) v)(y:1000000000000<fu):dT fu v=Ac (kids v):=by
 obtain⟨_,⟨B,u⟩,⟨E,t⟩,_⟩:=h;have w:∀k,((v.lists.take k).flatMap AY).length<=15:=λk=>by
  have:=Dv (f:=AY) (n:=5) (l:=v.lists.take k) λc hc=>by grind[AY]
  grind
 have lb:∀k,((v.structs.take k).flatMap Bq).length<=24:=λk=>by
  have:=Dv (f:=Bq) (n:=8) (l:=v.structs.take k) λc hc=>by have:=(t c (Acl hc)).nf;have:=(t c (Acl hc)).nc;grind[Bq]
  grind
 refine(Ok.eq ?_);refine Sj (λk (s:List Bc)=>s=(v.lists.take k).flatMap AY) v.lists.length rf (by omega) (λk s nx m o r=>?_) (λs nx o=>?_)
 ·have hc:=u _ (AN m);have e:(v.lists.take (k+1)).flatMap AY=s++AY v.lists[k]:=by grind[cu,List.flatMap_singleton]
  have:=w (k+1);rw[e,Aac]at this;have p:dU fu v.lists[k]=Ac (AY v.lists[k]):=Xy (by omega);refine PW (Aah m (BY p (Abw (r _ e.symm))))
 rw[Al]at o;refine P7 (by omega) ?_;refine Sj (λk (s:List Bc)=>s=v.lists.flatMap AY++(v.structs.take k).flatMap Bq) v.structs.length (by simp[o]) (by omega) (λk s nx m j r=>?_) (λs nx j=>?_)
 ·have hc:=t _ (AN m);have z:=hc.nf;have A:=hc.nc;have e:v.lists.flatMap AY++(v.structs.take (k+1)).flatMap Bq=s++Bq v.structs[k]:=by rw[j,IN m,Acp,Aek,Aaj]
  have a:=w v.lists.length;rw[Al]at a;have b:=lb (k+1);have:=congrArg FB e;rw[Aac,Aac]at this;have q:jK fu v.structs[k]=Ac (Bq v.structs[k]):=W4 (by omega) y;refine PW (Aah m (BY q (Abw (r _ e.symm))))
 ·refine PY (MH ?_);rw[j,Al];rfl
theorem cR{v:Vl} :Ok (jS fu v) λr=>r=Bp↔v.sc=Fz/\v.lists=[]/\v.structs=[]:=by
 obtain⟨a,⟨m,o,p,⟨i,j⟩,l⟩,n,q⟩:=v;have no:∀ {P:Prop},¬P->Ok (Ac Ak) λr=>r=Bp↔P:=λh=>MH ⟨λk=>(by grind),λk=>absurd k h⟩;have g:∀ {α:Type} {l:List α},((l.length:Nat):Int)=0->l=[]:=λh=>OF.1 (by omega);cases m with
 |true=>exact no λh=>by have:=h.1;cases this
 |false=>cases o with
  |true=>exact no λh=>by have:=h.1;cases this
  |false=>cases p with
   |true=>exact no λh=>by have:=h.1;cases this
   |false=>
    rw[jS];unfold iF iB;refine VO rfl (VO rfl (VO rfl (N6 (λb=>N6 (λc=>N6 (λd=>N6 (λf=>MH ?_) λf=>no ?_) λd=>no ?_) λc=>no ?_) λb=>no ?_)));· have b:=g b;have c:=g c;have d:=g d;have f:=g f;subst b;subst c;subst d;subst f;rw[decide_eq_true_iff];exact⟨λh=>⟨rfl,rfl,g h⟩,λh=>by grind⟩
    ·simp_all
    ·rintro⟨h,_⟩;have h:(Ak,Ak,Ak,(i,j),l)=Fz:=h;unfold Fz at h;obtain⟨_,_,_,_,rfl⟩:=h;exact d rfl
    ·rintro⟨h,_⟩;have h:(Ak,Ak,Ak,(i,j),l)=Fz:=h;unfold Fz at h;obtain⟨_,_,_,⟨_,rfl⟩,_⟩:=h;exact c rfl
    ·rintro⟨h,_⟩;have h:(Ak,Ak,Ak,(i,j),l)=Fz:=h;unfold Fz at h;obtain⟨_,_,_,⟨rfl,_⟩,_⟩:=h;exact b rfl
theorem HU:∀ {d fu:Nat} {v:Vl} {lv:Int},Bd d v->1000000000000+d<fu->(1<=lv/\lv+d<=17)->Ok (NT fu (v,lv)) λr=>r=Bp↔D_ d v
 |0,_,_,_,h,_,_=>h.elim
 |d+1,0,_,_,_,h,_=>by omega
 |d+1,fu+1,v,lv,h,hF,Y=>by
  rw[show NT (fu+1) (v,lv)=_ from d289 fu v lv];have no:¬D_ (d+1) v->Ok (Ac Ak) λr=>r=Bp↔D_ (d+1) v:=λh=>MH ⟨λk=>(by grind),λk=>absurd k h⟩;have e:=aO (fu:=fu) h (by omega);have T:=h.kids;obtain⟨V,⟨l1,l2⟩,⟨s1,Z⟩,I⟩:=h;have tail:(v.any=Bp->v.sc=Fz/\v.lists=[]/\v.structs=[])->uS v.sc->Ok (Ad fu (λ(q:Nat) C=>
     bif Dm ((↑q:Int)<(↑(FB (Vl.lists v)):Int))then
      Ab (idx (Vl.lists v) (↑q:Int)) λK=>
      bif Dm ((1:Int)<(↑(FB K.2):Int))then
       Ac (Ak)
      else
       C (q+1)
     else
      Ad fu (
           λ(n:Nat) D=>
       bif Dm ((↑n:Int)<(↑(FB (Vl.structs v)):Int))then
        Ab (idx (Vl.structs v) (↑n:Int)) λL=>
        Ab (dW fu L.1) λM=>
        bif !M then
         Ac (Ak)
        else
         Ab (idx (Vl.structs v) (↑n:Int)) λN=>
         Ab (dV fu N) λO=>
         bif !O then
          Ac (Ak)
         else
          D (n+1)
       else
        Ab (dT fu v) λp=>
        Ad fu (λ(o:Nat) E=>
         bif Dm ((↑o:Int)<(↑(FB p):Int))then
          Ab (idx p (↑o:Int)) λP=>
          Aa (Lh.i64) (lv+(1:Int))<|
          Ab (NT fu (P.1,(lv+(1:Int)))) λQ=>
          bif !Q then
           Ac (Ak)
          else
           Ab (idx p (↑o:Int)) λR=>
           Aa (Lh.i64) (lv+(1:Int))<|
           Ab (NT fu (R.2,(lv+(1:Int)))) λS=>
           bif !S then
            Ac (Ak)
           else
            E (o+1)
         else
          Ac (Bp)) (0)) (0)) (0)) λr=>r=Bp↔D_ (d+1) v:=λH J=>by
   refine Vs (λk=> ∀c∈v.lists.take k,c.2.length<=1) v.lists.length (by simp) (by omega) (λk nx e F z=>?_) (λnx F=>?_)
   ·refine PW (Aah e (N6 (λg=>no λh=>by have:=h.1.rs _ (AN e);omega) λh=>z λc hc=>?_));rcases(Ag e).1 hc with hc|rfl;all_goals grind
   rw[Al]at F;refine P7 (by omega) ?_;refine Vs (λk=> ∀c∈v.structs.take k,QL c.1/\Dz c) v.structs.length (by simp) (by omega) (λk nx e i z=>?_) (λnx i=>?_)
   ·have s:=Z _ (AN e);refine PW (Aah e (Oy (Uv s.nf (by omega)) λb u=>PS (λa=>no λh=>?_) λa=>Aah e (Oy (SQ s.lim s.GD (by omega)) λb' x=>PS (λl=>no λh=>?_) λl=>z λc hc=>?_)));· rw[u.2 (h.1.st _ (AN e)).1]at a;grind
    ·rw[x.2 (h.1.st _ (AN e)).2]at l;grind
    ·rcases(Ag e).1 hc with hc|rfl;all_goals grind
   rw[Al]at i;refine PY (BY e ?_);refine Vs (λk=> ∀w∈(kids v).take k,D_ d w.1/\D_ d w.2) (kids v).length (by simp) (by omega) (λk nx e j z=>?_) (λnx j=>?_)
   ·have t:=I _ (AN e);refine PW (Aah e (Aao (Oy (HU t.1 (by omega) (by omega)) λr U=>PS (λg=>no λh=>?_) λg=>Aah e (Aao (Oy (HU t.2 (by omega) (by omega)) λr2 A=>PS (λf=>no λh=>?_) λf=>z λw t=>?_)))));· rw[U.2 (h.2 _ (AN e)).1]at g;cases g
    ·rw[A.2 (h.2 _ (AN e)).2]at f;cases f
    ·rcases(Ag e).1 t with t|rfl;· exact j w t
     ·exact⟨U.1 (by simpa using g),A.1 (by simpa using f)⟩
   ·rw[Al]at j;exact PY (MH ⟨λ_=>⟨⟨H,J,F,i⟩,j⟩,λ_=>rfl⟩)
  refine N6 (λy=>absurd y (by omega)) λ_=>PS (λG=>Oy cR λb s=>PS (λg=>no λB=>?_) λg=>Oy (N4 V (by decide) (by omega)) λX a=>PS (λf=>no λB=>?_) λf=>tail (λ_=>s.1 (by simpa using g)) (a.1 (by simpa using f))) λG=>Oy (N4 V (by decide) (by omega)) λX a=>PS (λf=>no λB=>?_) λf=>tail (λh=>absurd h (by rw[G];decide)) (a.1 (by simpa using f));· rw[s.2 (B.1.an G)]at g;cases g
  ·rw[a.2 B.1.sc]at f;cases f
  ·rw[a.2 B.1.sc]at f;cases f
theorem IE(h:Bd d x.1/\Bd d x.2)(k:d<=3)(j:1000000001000<fu):Ok (UZ fu x) λr=>r=Bp↔D_ d x.1/\D_ d x.2:=by
 have one:∀ {v:Vl},Bd d v->Ok (Tt fu v) λr=>r=Bp↔D_ d v:=λi=>by exact Oy (HU i (by omega) (by omega)) λr g=>MH g
 rw[UZ];refine Oy (one h.1) λa e=>PS (λc=>Oy (one h.2) λb f=>MH ?_) λc=>MH ⟨λh=>(by grind),λh=>?_⟩;all_goals grind
def Q8(x y:Sc):Prop:=(x.1=Bp->y.1=Bp)/\(x.2.1=Bp->y.2.1=Bp)/\(x.2.2.1=Bp->y.2.2.1=Bp)/\(∀n,A8 x.2.2.2.1 n->A8 y.2.2.2.1 n)/\(∀n,A6 x.2.2.2.1 n->A6 y.2.2.2.1 n)/\∀w,Av x.2.2.2.2 0 w=Bp->Av y.2.2.2.2 0 w=Bp
theorem Ki{x y:List Sp×List Sp}(a:Eh r (λn=>A8 x n/\¬A8 y n) (λn=>A6 x n/\¬A6 y n)):r=([],[])↔(∀n,A8 x n->A8 y n)/\∀n,A6 x n->A6 y n:=by
 constructor
 ·rintro rfl;refine⟨λn h=>IS λk=>?_,λn h=>IS λk=>?_⟩;· have:=(a.A8 n).2 ⟨⟨h,k⟩,h.2⟩;exact Ba this.1
  ·have:=(a.A6 n).2 ⟨⟨h,k⟩,h.2⟩;exact Ba this.1
 ·rintro⟨b,c⟩;exact a.unique (PL.congr (λn=>⟨λh=>absurd h.1 Ba,λh=>absurd (b n h.1) h.2⟩) λn=>⟨λh=>absurd h.1 Ba,λh=>absurd (c n h.1) h.2⟩)
theorem Vh{x:Sc}{t:Tb}(j:Eh r (λn=>A8 x.2.2.2.1 n/\¬A8 y.2.2.2.1 n) (λn=>A6 x.2.2.2.1 n/\¬A6 y.2.2.2.1 n))(ht:CD t (λw=>Av x.2.2.2.2 0 w&& !Av y.2.2.2.2 0 w) m):
  ((x.1&& !y.1,x.2.1&& !y.2.1,x.2.2.1&& !y.2.2.1,r,t):Sc)=Fz↔Q8 x y:=by
 have h:=Ki j;have i:=ht.Gx;unfold Fz Q8;simp only[Aet];rw[show(r=(([],[]):List Sp×List Sp))↔_ from h,i];have g:∀a b:Bool,((a&& !b)=Ak)↔(a=Bp->b=Bp):=by simp
 rw[g,g,g];constructor;· rintro⟨a,b,c,⟨d,e⟩,f⟩;exact⟨a,b,c,d,e,λw k=>(g _ _).1 (congrFun f w) k⟩
 grind
theorem Ua{fu k i m p:Nat}{x y:Sc}(b:Ie k m x)(c:Ie i p y)(v:k+i<=11)(w:(m+2)*(p+2)<=100000000)(d:1000000000000<fu):
  Ok (kA fu (x,y)) λo=>Ie 12 ((m+2)*(p+2)) o/\(o=Fz↔Q8 x y):=by
 have z:m<=(m+2)*(p+2):=Aam (by omega:m<=(m+2)*1) (Abv (Aae _) (by omega));have A:p<=(m+2)*(p+2):=Aam (by omega:p<=1*(p+2)) (Abv (by omega) (Aae _));have D:=b.n1;have E:=b.n2;have F:=c.n1;have G:=c.n2;obtain⟨r,l,g,B,C⟩:=Xu (fu:=fu) (b.nu.sm (by omega) (by omega)) (c.nu.sm (by omega) (by omega)) (by omega) (by omega);obtain⟨t,q,f⟩:=On (Gy (fu:=fu) b.ln c.ln (by omega) d);rw[b.ln.gL,c.ln.gL]at f;have e:Ok (tH fu (x,y)) λo=>o=(x.1&& !y.1,x.2.1&& !y.2.1,x.2.2.1&& !y.2.2.1,r,t):=by exact BY (b.MV (by omega) (by omega) d) (BY (c.MV (by omega) (by omega) d) (BY (Ub fu _ _) (BY (Ub fu _ _) (BY (Ub fu _ _) (BY l (BY q (MH rf)))))))
 rw[kA];refine Oy e λo s=>MH ?_;subst s;refine⟨⟨g.self (λn h=>h.1.2) (λn h=>h.1.2),?_,?_,?_⟩,Vh g f⟩;· grind
 ·grind
 ·have u:GS x.2.2.2.2 y.2.2.2.2<=(m+2)*(p+2):=Abv (by have:=b.ln.len;omega) (by have:=c.ln.len;omega);exact(f.mono u).self
theorem W6{e:Nat}{x:Sc}(h:Ie k m x)(i:Ie e p y)(g:k+e<=11)(c:(m+2)*(p+2)<=100000000)(a:1000000000000<fu):
  Ok (kx fu (x,y)) λr=>r=Bp↔Q8 x y:=by
 grind[kx,Oy,Ua,IU,MH]
theorem Ie.bj{s:Sc}(h:Ie k m s)(d:k<=12)(e:m<=100000000)(a:1000000000000<fu):Yt fu s=Ac s:=by refine(Ok.eq ?_);rw[Yt];refine Oy (N4 (h.sc d) (by omega) a) λb c=>?_;rw[c.2 ⟨h.nu,h.ln.wf,h.ln.can⟩];exact P1 rf (MH rf)
theorem OS{s:Sc}(h:Ie k m s)(p:k<=12)(t:m<=100000000)(o:1000000000000<fu):Ok (dS fu s) λb=>b=Bp↔s=Fz:=by
 have j:=h.bj (fu:=fu) p t o;obtain⟨a,b,c,f,L⟩:=s;have g:=h.nu;have v:=h.n1;have w:=h.n2;dsimp only at g v w;obtain⟨r,l,_,u,_⟩:=PO (fu:=fu) (gu:=fu) (g.sm (by omega) (by omega)) (by omega) (by omega);obtain rfl:f=r:=g.unique u;have n:Ok (jJ fu f) λb=>b=Bp↔f=([],[]):=by rw[jJ];refine BY l (N6 (λd=>MH ?_) λd=>MH ⟨λh=>(by cases h),λh=>absurd (by rw[h];rfl) d⟩);have d:f.1=[]:=OF.1 (by omega);rw[decide_eq_true_iff];exact⟨λe=>Acu d (OF.1 (by omega)),λe=>by rw[e];rfl⟩
 have no:∀ {P:Prop},¬P->Ok (Ac Ak) λr=>r=Bp↔P:=λh=>MH ⟨λk=>(by cases k),λk=>absurd k h⟩;rw[dS];refine BY j ?_;unfold Fz;cases a with
 |true=>exact no λh=>by cases h
 |false=>cases b with
  |true=>exact no λh=>by cases h
  |false=>cases c with
   |true=>exact no λh=>by cases h
   |false=>
    refine VO rf (VO rf (VO rf (Oy n λq i=>PS (λd=>MH ?_) λd=>no λh=>?_)))
    ·rw[decide_eq_true_iff,i.1 d];constructor;· intro e;have:L=[]:=OF.1 (by dsimp only at e;omega);rw[this]
     ·intro e;simp only[Aet]at e;rw[e.2.2.2.2];rfl
    ·simp only[Aet]at h;rw[i.2 h.2.2.2.1]at d;cases d
theorem Ma{q:Nat}{x:Sc}(f:Ie k m x)(g:Ie q p y)(D:k+q<=11)(z:(m+2)*(p+2)<=100000000)(i:1000000000000<fu):
  Ok (dR fu (x,y)) λr=>r=Bp↔Q8 x y:=by
 have E:m<=(m+2)*(p+2):=Aam (by omega:m<=(m+2)*1) (Abv (Aae _) (by omega));have F:p<=(m+2)*(p+2):=Aam (by omega:p<=1*(p+2)) (Abv (by omega) (Aae _));have I:=f.n1;have J:=f.n2;have K:=g.n1;have L:=g.n2;obtain⟨r,u,_,l,G,H⟩:=Ga (fu:=fu) (gu:=fu) (f.nu.sm (by omega) (by omega)) (g.nu.sm (by omega) (by omega)) (by omega) (by omega) (by omega);obtain⟨t,v,j⟩:=MB (Gy (fu:=fu) f.ln g.ln (by omega) i);rw[f.ln.gL,g.ln.gL]at j;have B:GS x.2.2.2.2 y.2.2.2.2<=(m+2)*(p+2):=Abv (by have:=f.ln.len;omega) (by have:=g.ln.len;omega);have C:Ie 12 ((m+2)*(p+2)) (x.1&& !y.1,x.2.1&& !y.2.1,x.2.2.1&& !y.2.2.1,r,t):=⟨l.self (λn h=>h.1.2) (λn h=>h.1.2),by show r.1.length<=12;omega,by show r.2.length<=12;omega,(j.mono B).self⟩;have e:Ok (jF fu (x,y)) λo=>o=(x.1&& !y.1,x.2.1&& !y.2.1,x.2.2.1&& !y.2.2.1,r,t):=by rw[jF];refine BY (f.bj (by omega) (by omega) i) (BY (g.bj (by omega) (by omega) i) ?_);refine PS (λa=>PS (λb=>PS (λc=>?_) λc=>?_) λb=>PS (λc=>?_) λc=>?_) λa=>PS (λb=>PS (λc=>?_) λc=>?_) λb=>PS (λc=>?_) λc=>?_;all_goals exact BY u (BY v (MH (by rw[a,b,c];simp)))
 rw[dR];refine Oy e λo A=>?_;subst A;exact Oy (OS C (by omega) z i) λb w=>MH (w.trans (Vh l j))
theorem Kx{a b:List α}{f:α->α->Option Bool}(o:a.length<fu)(h:∀i (h1:i<a.length) (h2:i<b.length),Ok (f a[i] b[i]) λr=>r=Bp↔a[i]=b[i]):
  Ok (bif Dm ((a.length:Int)≠(b.length:Int))then Ac Ak else Ad fu (λ(c:Nat) g=>bif Dm ((c:Int)<(a.length:Int))then Ab (idx a (c:Int)) λt=>Ab (idx b (c:Int)) λu=>Ab (f t u) λv=>bif !v then Ac Ak else g (c+1)else Ac Bp) 0) λr=>r=Bp↔a=b:=by
 have no:a≠b->Ok (Ac Ak) λr=>r=Bp↔a=b:=λh=>MH ⟨λk=>(by grind),λk=>absurd k h⟩;refine N6 (λh=>no (by grind)) λm=>?_;have m:a.length=b.length:=by omega
 refine Vs (λk=> ∀i (h1:i<a.length),i<k->a[i]=b[i]'(by omega)) a.length (λi _ h=>by omega) o (λk nx l d s=>?_) (λnx d=>?_)
 ·refine PW (Aah l (Aah (by omega) (Oy (h k l (by omega)) λr n=>PS (λh2=>no ?_) λh2=>s λi p q=>?_)));all_goals grind
 ·exact PY (MH ⟨λ_=>Adm m λi h1 h2=>d i h1 h1,λ_=>rfl⟩)
theorem Ahz{v w:Vl}(h1:v.any=w.any)(h2:v.sc=w.sc)(h3:v.lists=w.lists)(a:v.structs=w.structs):v=w:=by cases v;cases w;grind[Vl.any,Vl.sc,Vl.lists,Vl.structs]
theorem Xe{x:Sc}{w f:Nat}(e:dq k m x)(v:dq w f y)(G:m<=100000000/\f<=100000000)(F:1000000000000<fu):Ok (kG fu (x,y)) λr=>r=Bp↔x=y:=by
 obtain⟨a,b,c,⟨H,I⟩,l⟩:=x;obtain⟨C,D,E,⟨A,B⟩,z⟩:=y;have no:∀ {P:Prop},¬P->Ok (Ac Ak) λr=>r=Bp↔P:=λh=>MH ⟨λk=>(by grind),λk=>absurd k h⟩;have i:=e.sm.n1;have j:=e.sm.n2;rw[kG];simp only[Aet];dsimp only at i j⊢;refine PS (λo=>PS (λp=>PS (λhc=>BY (zH (by omega)) (N6 (λq=>BY (zH (by omega)) (N6 (λd=>Oy (Q:=λr=>r=Bp↔l=z) ?_ λr t=>MH ?_) λh=>no λk=>h k.2.2.2.1.2)) λh=>no λk=>h k.2.2.2.1.1)) λh=>no λk=>?_) λh=>no λk=>?_) λh=>no λk=>?_;· have g:=e.sh;grind[max,KG,Nat.le_trans]
 all_goals grind
def J3(d:Nat)(x:Bc):Prop:=Bd d x.1/\Bd d x.2
theorem Bd.lv{v:Vl}(h:Bd (d+1) v){c:G4}(hc:c∈v.lists):∀x∈AY c,J3 d x:=λx a=>
 h.2.2.2 x (AS.2 (.inl (Aad.2 ⟨c,hc,a⟩)))
theorem Bd.sv{v:Vl}(h:Bd (d+1) v)(hc:c∈v.structs):∀x∈Bq c,J3 d x:=λx a=>
 h.2.2.2 x (AS.2 (.inr (Aad.2 ⟨c,hc,a⟩)))
theorem AR{P:Prop}(h:¬P):Ok (Ac Ak) λr=>r=Bp↔P:=MH ⟨λk=>(by grind),λk=>absurd k h⟩
theorem LB:∀ {d fu:Nat} {v w:Vl},Bd d v->Bd d w->1000000000000+10*d<fu->Ok (eB fu (v,w)) λr=>r=Bp↔v=w
 |0,_,_,_,h,_,_=>h.elim
 |d+1,fu,v,w,F,G,hF=>by
  obtain⟨f,rfl⟩:∃f,fu=f+5:=⟨fu-5,by omega⟩;have sv:∀ {g:Nat} {x y:Bc},J3 d x->J3 d y->1000000000000+10*d+1<g->Ok (Nw g (x,y)) λr=>r=Bp↔x=y:=λ{g x y} M N hg=>by obtain⟨e,rfl⟩:∃e,g=e+1:=⟨g-1,by omega⟩;rw[show Nw (e+1) (x,y)=_ from d136 e x y];refine Oy (LB M.1 N.1 (by omega)) λr a=>PS (λh=>Oy (LB M.2 N.2 (by omega)) λs p=>MH ?_) λh=>AR λe=>?_;all_goals grind
  obtain⟨O,⟨a2,P⟩,⟨a4,R⟩,_⟩:=id F;obtain⟨S,⟨b2,T⟩,⟨b4,U⟩,_⟩:=id G;rw[show eB (f+5) (v,w)=_ from d135 (f+4) v w];refine PS (λh=>AR λe=>?_) λc=>Oy (Xe O S (by omega) (by omega)) λr a=>PS (λh=>AR λe=>?_) λq=>N6 (λh=>AR λe=>h (by rw[e])) λB=>N6 (λh=>AR λe=>h (by rw[e])) λC=>?_;· grind
  ·grind
  have c:v.any=w.any:=by grind
  have q:v.sc=w.sc:=a.1 (by grind);have B:v.lists.length=w.lists.length:=by omega
  have C:v.structs.length=w.structs.length:=by omega
  refine Vs (λk=> ∀i (h:i<v.lists.length),i<k->v.lists[i]=w.lists[i]'(by omega)) v.lists.length (λi _ h=>by omega) (by omega) (λk nx A m J=>?_) (λnx m=>?_)
  ·have t:=AN A;have u:=AN (show k<w.lists.length by omega);have E:=P _ t;have q2:=T _ u;have V:eR (f+4) v.lists[k]=Ac (AY v.lists[k]):=Hl (by omega) (by omega);have W:eR (f+4) (w.lists[k]'(by omega))=Ac (AY (w.lists[k]'(by omega))):=Hl (by omega) (by omega);have ne:v.lists[k]≠w.lists[k]'(by omega)->¬v=w:=λh e=>h (by simp only[e]);refine PW (Aah A (Aah (by omega) (N6 (λh=>AR (ne λe=>h (by rw[e]))) λo=>BY V (BY W (Oy (Q:=λr=>r=Bp↔AY v.lists[k]=AY (w.lists[k]'(by omega))) ?_ λr a=>PS (λh=>AR (ne λe=>?_)) λh=>J λi H I=>?_)))));· rw[show uh (f+4) (AY v.lists[k],AY (w.lists[k]'(by omega)))=_ from d129 (f+3) _ _];refine Kx (f:=λx y=>Nw (f+3) (x,y)) (by unfold AY;rw[Aac];omega) λi b l=>sv (F.lv t _ (AN b)) (G.lv u _ (AN l)) (by omega)
   ·rw[a.2 (by rw[e])]at h;cases h
   ·rcases Aal i k with z|z;· exact m i H z
    ·obtain rfl:i=k:=by omega
     have a:=a.1 (by simpa using h);have o:(v.lists[i]).1.length=(w.lists[i]'(by omega)).1.length:=by omega
     exact Acu (Alf a o).1 (Alf a o).2
  have X:v.lists=w.lists:=Adm B λi b l=>m i b b;refine P7 (by omega) ?_;refine Vs (λk=> ∀i (h:i<v.structs.length),i<k->v.structs[i]=w.structs[i]'(by omega)) v.structs.length (λi _ h=>by omega) (by omega) (λk nx A m J=>?_) (λnx m=>?_)
  ·have t:=AN A;have u:=AN (show k<w.structs.length by omega);have E:=R _ t;have n1:=E.nf;have n2:=E.nc;have ne:v.structs[k]≠w.structs[k]'(by omega)->¬v=w:=λh e=>h (by simp only[e]);refine PW (Aah A (Aah (by omega) (Oy (Q:=λr=>r=Bp↔v.structs[k]=w.structs[k]'(by omega)) ?_ λr a=>PS (λh=>AR (ne λe=>?_)) λh=>J λi H I=>?_)))
   ·rw[show ue (f+4) (v.structs[k],w.structs[k]'(by omega))=_ from d134 (f+3) _ _];refine Oy (Q:=λr=>r=Bp↔(v.structs[k]).1=(w.structs[k]'(by omega)).1) ?_ λr a=>PS (λh=>Oy (Q:=λr=>r=Bp↔(v.structs[k]).2=(w.structs[k]'(by omega)).2) ?_ λs p=>MH ?_) λh=>AR λe=>?_;· rw[show ug (f+3) ((v.structs[k]).1,(w.structs[k]'(by omega)).1)=_ from d131 (f+2) _ _];refine Kx (f:=λx y=>kF (f+2) (x,y)) (by omega) λi b l=>?_;rw[show kF (f+2) ((v.structs[k]).1[i],(w.structs[k]'(by omega)).1[i])=_ from d130 (f+1) _ _];have K:=F.sv t _ (AS.2 (.inl (By.2 ⟨_,AN b,rfl⟩)));have L:=G.sv u _ (AS.2 (.inl (By.2 ⟨_,AN l,rfl⟩)));refine N6 (λZ=>N6 (λk2=>Oy (sv K L (by omega)) λr a=>MH ?_) λh=>AR λe=>h (by rw[e])) λh=>AR λe=>h (by rw[e]);rw[a];exact⟨λD=>Acu Z (Acu k2 D),λe=>by rw[e]⟩
    ·rw[show uf (f+3) ((v.structs[k]).2,(w.structs[k]'(by omega)).2)=_ from d133 (f+2) _ _];unfold yr;refine Kx (f:=λx y=>kE (f+2) (x,y)) (by omega) λi b l=>?_;rw[show kE (f+2) ((v.structs[k]).2[i],(w.structs[k]'(by omega)).2[i])=_ from d132 (f+1) _ _];unfold yt;have K:=F.sv t _ (AS.2 (.inr (By.2 ⟨_,AN b,rfl⟩)));have L:=G.sv u _ (AS.2 (.inr (By.2 ⟨_,AN l,rfl⟩)));have y1:=E.each _ (AN b);have y2:=E.ed _ (AN b);refine Oy (KG (n:=14641) ⟨y1,λs p=>by have:=y2 s p;omega⟩ (by omega)) λr a=>PS (λh=>Oy (sv K L (by omega)) λs p=>MH ?_) λh=>AR λe=>?_;· rw[p];exact⟨λD=>Acu (a.1 h) D,λe=>by rw[e]⟩
     ·rw[a.2 (by rw[e])]at h;cases h
    ·rw[p];exact⟨λD=>Acu (a.1 h) D,λe=>by rw[e]⟩
    ·rw[a.2 (by rw[e])]at h;cases h
   ·rw[a.2 e]at h;cases h
   ·rcases Aal i k with z|z;· exact m i H z
    ·obtain rfl:i=k:=by omega
     exact a.1 (by simpa using h)
  ·have Y:v.structs=w.structs:=Adm C λi b l=>m i b b;exact PY (MH ⟨λ_=>Ahz c q X Y,λ_=>rfl⟩)
theorem Zt{y:Bc}(b:J3 d x)(c:J3 d y)(g:1000000000000+10*d+1<fu):Ok (Nw fu (x,y)) λr=>r=Bp↔x=y:=by obtain⟨e,rfl⟩:∃e,fu=e+1:=⟨fu-1,by omega⟩;rw[show Nw (e+1) (x,y)=_ from d136 e x y];refine Oy (LB b.1 c.1 (by omega)) λr a=>PS (λh=>Oy (LB b.2 c.2 (by omega)) λs f=>MH ?_) λh=>AR λe=>?_;all_goals grind
theorem Mj{y:Bc}(c:J3 d x)(e:J3 d y)(a:1000000000000+10*d+1<fu):Ok (eA fu (x,y)) λr=>r=Bp↔x=y:=by exact Oy (Zt c e a) λr b=>MH b
def v0:Vl:= .mk Ak Fz [] []
def NB(v:Vl):Prop:=v.any=Bp\/v.lists≠ []\/v.structs≠ []\/v.sc≠Fz
def SB(d:Nat)(v:Vl):Prop:=Bd d v/\Snd d v
def SX(d:Nat)(x:Bc):Prop:=SB d x.1/\SB d x.2
theorem L3(d:Nat):SB (d+1) v0:=by have z:=(LW (k:=5) (m:=0)).sc (by simp);refine⟨⟨⟨z.sm,z.n1,z.n2,z.bt,by trivial⟩,⟨Abh _,?_⟩,⟨Abh _,?_⟩,?_⟩,⟨LW,?_,?_,?_⟩⟩<;>intro c h<;>cases h
theorem Dy{v:Vl}(h:SB d v)(g:1000000000000<fu):Ok (Tz fu v) λr=>r=Bp↔¬NB v:=by
 cases d with
 |zero=>exact h.1.elim
 |succ d=>
  obtain⟨⟨b,⟨l,_⟩,⟨p,_⟩,_⟩,j,_⟩:=h;have m:=b.n1;have n:=b.n2;have o:=b.sh.1;have no:NB v->Ok (Ac Ak) λr=>r=Bp↔¬NB v:=λk=>MH ⟨λh=>(by grind),λh=>absurd k h⟩;refine PS (λa=>Aao (N6 (λf=>Oy (VE (by omega) (by omega) (by omega)) λr i=>?_) λf=>no ?_)) λa=>no (.inl (by grind))
  ·have a:v.any=Ak:=by simpa using a
   have c:v.lists=[]:=OF.1 (by omega);have e:v.structs=[]:=OF.1 (by omega);have iff:v.sc=Fz↔¬NB v:=by unfold NB;rw[a,c,e];simp
   refine PS (λh=>MH ?_) λ_=>Oy (IU j (by omega) (by omega) g) λs b=>MH (b.trans iff);simp_all
  ·by_cases c:v.lists=[];· refine .inr (.inr (.inl λe=>f ?_));rw[c,e];rfl
   ·exact .inr (.inl c)
noncomputable def vw(c:BA)(s:Au):Bc×Int:=match c.1.find? (λf=>Dm (f.1=s))with
 |some f=>(f.2.2,f.2.1)
 |none=>match c.2.find? (λk=>I1 k.1 s)with
  |some k=>(k.2,3)
  |none=>((v0,v0),3)
theorem Va(h:NQ c)(C:s.length<=1000)(B:1000000000000<fu):Yw fu (c,s)=Ac (vw c s):=by
 have D:=h.nf;have E:=h.nc;refine(Ok.eq ?_);refine Vs (λk=> ∀i (d:i<c.1.length),i<k->Dm (c.1[i].1=s)=Ak) c.1.length (λi _ h=>by omega) (by omega) (λk nx o q x=>?_) (λnx q=>?_)
 ·refine PW (Aah o (N6 (λl=>MH ?_) λl=>x λi d v=>?_));· have e:c.1.find? (λf=>Dm (f.1=s))=Ac c.1[k]:=Adk.2 ⟨decide_eq_true l,k,o,rf,λj w=>by grind⟩;grind[vw]
  grind
 ·have e:c.1.find? (λf=>Dm (f.1=s))=C7:=Adl.2 λf u=>by
   obtain⟨i,d,rfl⟩:=Aas u;grind
  refine P7 (by omega) ?_;refine Vs (λk=> ∀i (d:i<c.2.length),i<k->I1 c.2[i].1 s=Ak) c.2.length (λi _ h=>by omega) (by omega) (λk nx o g x=>?_) (λnx g=>?_)
  ·have m:=AN o;have A:=h.each _ m;have y:kv fu (c.2[k].1,s)=Ac (I1 c.2[k].1 s):=(UO (n:=14641) (h.bt _ m) ⟨A,λt z=>by have:=h.ed _ m t z;omega⟩ (by omega) (by omega) (by omega) (by omega)).eq;refine PW (Aah o (BY y (PS (λl=>MH ?_) λl=>x λi d v=>?_)));· have r:c.2.find? (λk=>I1 k.1 s)=Ac c.2[k]:=Adk.2 ⟨l,k,o,rfl,λj w=>by simp only[g j (by omega) w];rfl⟩;unfold vw;rw[e,r]
   grind
  ·have r:c.2.find? (λk=>I1 k.1 s)=C7:=Adl.2 λf u=>by
    obtain⟨i,d,rfl⟩:=Aas u;rw[g i d d];decide
   refine PY (MH ?_);unfold vw;rw[e,r];rfl
theorem U'(h0:P (v0,v0))(h:∀x∈Bq c,P x):P (vw c s).1:=by
 unfold vw;split;· rename_i f a;exact h _ (AS.2 (.inl (By.2 ⟨f,Acj a,rfl⟩)))
 ·split;· rename_i k b;exact h _ (AS.2 (.inr (By.2 ⟨k,Acj b,rfl⟩)))
  omega
theorem va(h:∃f∈c.1,f.1=s):∃f∈c.1,f.1=s/\vw c s=(f.2.2,f.2.1):=by grind[vw]
def XG(c:G4)(i:Nat):Bc:=match c.1[i]? with
 |some x=>x
 |none=>match c.2 with
  |x::_=>x
  | []=>(v0,v0)
theorem gO{c:G4} :Ok (YA fu (c,(i:Int))) λr=>r.1=XG c i:=by
 rw[YA];unfold XG;refine PW (N6 (λh=>Aah (by omega) (MH ?_)) λh=>TJ (by omega) ?_);· grind
 ·rw[Aco (by omega)];cases hc:c.2 with
  |nil=>exact P7 (by simp) (MH rfl)
  |cons x l=>exact TJ (by simp) (BY (a:=x) rfl (MH rfl))
theorem aX{c:G4}(h0:P (v0,v0))(h:∀x∈AY c,P x):P (XG c i):=by
 unfold XG;split;· rename_i x a;exact h _ (AS.2 (.inl (Aai a)))
 ·split;· rename_i x l a;exact h _ (AS.2 (.inr (by rw[a];exact Aat ..)))
  omega
def KL(R:Vl->Vl->Prop)(x y:Bc):Prop:=R x.1 y.1/\R x.2 y.2
structure WL(R:Vl->Vl->Prop)(c c':G4):Prop where
 ln:c'.1.length<=c.1.length
 cl:c'.2=[]->c.1.length<=c'.1.length/\c.2=[]
 it:∀i (h:i<c.1.length),KL R c.1[i] (XG c' i)
 rs:∀h:0<c.2.length,KL R c.2[0] (c'.2.getD 0 (v0,v0))
structure US(R:Vl->Vl->Prop)(c c':BA):Prop where
 fa:∀f∈c.1,(vw c f.1).2<=(vw c' f.1).2/\KL R (vw c f.1).1 (vw c' f.1).1
 fb:∀f∈c'.1,(vw c f.1).2<=(vw c' f.1).2/\KL R (vw c f.1).1 (vw c' f.1).1
 cl:∀k∈c.2,∀k'∈c'.2,KL R k.2 k'.2\/∀w,¬(Av k.1 0 w=Bp/\Av k'.1 0 w=Bp)
def De:Nat->Vl->Vl->Prop
 |0,_,_=>False
 |d+1,a,b=>b.any=Bp\/a.any=Ak/\Q8 a.sc b.sc/\(∀c∈a.lists,∃e∈b.lists,WL (De d) c e)/\∀c∈a.structs,∃e∈b.structs,US (De d) c e
theorem Vp(hi:i<c.2.length)(w:Au):(Gv c w).getD i 0=runT (c.2.getD i dK).1 0 w:=by
 have:∀l:Au,(Gv c l.reverse).getD i 0=runT (c.2.getD i dK).1 0 l.reverse:=λl=>by
  induction l with
  |nil=>
   show(CJ c).getD i 0=0;grind[CJ]
  |cons x l d=>
   rw[Afb,FY,(Hk c _ _).cl i hi];grind[Xr,runT]
 have:=this w.reverse;grind
theorem nU{l:List Nat}{i j:Nat}(hi:i∈l)(a:j∈l)(h:i≠j):2<=l.length:=by
 match l with
 | []=>grind
 | [x]=>
  grind
 |x::y::l=>simp
theorem Dz.Iu(h:Dz c)(hi:i<c.2.length)(k:j<c.2.length)(g:i≠j)(w:Au):¬(Av c.2[i].1 0 w=Bp/\Av c.2[j].1 0 w=Bp):=λ⟨a,b⟩=>by
 have one:=h.2 w;have e:∀ {i:Nat} (hi:i<c.2.length),Av c.2[i].1 0 w=Bp->i∈(aE c.2.length).filter λi=>fin (c.2.getD i dK).1 ((Gv c w).getD i 0):=λhi h=>by refine Aba.2 ⟨Abf.2 hi,?_⟩;rw[Vp hi w,show c.2.getD _ dK=c.2[_]from AO hi];exact h
 grind[MQ,Ll,nU]
theorem aW{c:G4}(h:i<c.1.length):XG c i=c.1[i]:=by grind[XG]
theorem N'(x:Sc):Q8 x x:=⟨id,id,id,λ_=>id,λ_=>id,λ_=>id⟩
theorem De.refl:∀ {d:Nat} {a:Vl},D_ d a->De d a a
 |0,_,h=>h.elim
 |d+1,a,⟨n,l⟩=>by
  by_cases q:a.any=Bp;· exact .inl q
  have r:∀x∈kids a,KL (De d) x x:=λx b=>⟨De.refl (l x b).1,De.refl (l x b).2⟩;refine .inr ⟨by grind,N' _,λc hc=>⟨c,hc,?_⟩,λc hc=>⟨c,hc,?_⟩⟩
  ·have t:∀x∈AY c,KL (De d) x x:=λx b=>r x (AS.2 (.inl (Aad.2 ⟨c,hc,b⟩)));refine⟨Aae _,λh=>⟨Aae _,h⟩,λi m=>?_,λh=>?_⟩;· rw[aW m];exact t _ (AS.2 (.inl (AN m)))
   ·rw[show c.2.getD 0 (GL.v0,GL.v0)=c.2[0]from AO h];exact t _ (AS.2 (.inr (AN h)))
  ·have u:∀x∈Bq c,KL (De d) x x:=λx b=>r x (AS.2 (.inr (Aad.2 ⟨c,hc,b⟩)));have v:∀f∈c.1,(vw c f.1).2<=(vw c f.1).2/\KL (De d) (vw c f.1).1 (vw c f.1).1:=λf y=>⟨Abo _,by
    obtain⟨g,n,_,e⟩:=va (c:=c) (s:=f.1) ⟨f,y,rfl⟩;rw[e];exact u _ (AS.2 (.inl (By.2 ⟨g,n,rfl⟩)))⟩;refine⟨v,v,λk l A o=>?_⟩;obtain⟨i,m,rfl⟩:=Aas l;obtain⟨j,z,rfl⟩:=Aas o;by_cases e:i=j;· subst e;exact .inl (u _ (AS.2 (.inr (By.2 ⟨_,l,rfl⟩))))
   ·exact .inr ((n.st c hc).2.Iu m z e)
theorem QW(h:NQ c)(C:s.length<=1000)(B:1000000000000<fu):dP fu (c,s)=Ac (vw c s):=by
 have D:=h.nf;have E:=h.nc;refine(Ok.eq ?_);rw[dP];refine Vs (λk=> ∀i (d:i<c.1.length),i<k->Dm (c.1[i].1=s)=Ak) c.1.length (λi _ h=>by omega) (by omega) (λk nx l q x=>?_) (λnx q=>?_)
 ·refine PW (Aah l (N6 (λo=>Aah l (Aah l (MH ?_))) λo=>x λi d v=>?_));· have e:c.1.find? (λf=>Dm (f.1=s))=Ac c.1[k]:=Adk.2 ⟨decide_eq_true o,k,l,rf,λj w=>by simp only[q j (by omega) w];rfl⟩;unfold vw;rw[e]
  ·rcases Aal i k with p|p;· exact q i d p
   ·obtain rfl:i=k:=by omega
    exact decide_eq_false o
 ·have e:c.1.find? (λf=>Dm (f.1=s))=C7:=Adl.2 λf u=>by
   obtain⟨i,d,rfl⟩:=Aas u;rw[q i d d];decide
  refine P7 (by omega) ?_;refine Vs (λk=> ∀i (d:i<c.2.length),i<k->I1 c.2[i].1 s=Ak) c.2.length (λi _ h=>by omega) (by omega) (λk nx l g x=>?_) (λnx g=>?_)
  ·have m:=AN l;have A:=h.each _ m;have y:dQ fu (c.2[k].1,s)=Ac (I1 c.2[k].1 s):=(Th (n:=14641) (h.bt _ m) ⟨A,λt z=>by have:=h.ed _ m t z;omega⟩ (by omega) (by omega) (by omega) (by omega)).eq;refine PW (Aah l (BY y (PS (λo=>Aah l (MH ?_)) λo=>x λi d v=>?_)));· have r:c.2.find? (λk=>I1 k.1 s)=Ac c.2[k]:=Adk.2 ⟨o,k,l,rfl,λj w=>by simp only[g j (by omega) w];rfl⟩;unfold vw;rw[e,r]
   ·rcases Aal i k with p|p;· exact g i d p
    ·obtain rfl:i=k:=by omega
     exact o
  ·have r:c.2.find? (λk=>I1 k.1 s)=C7:=Adl.2 λf u=>by
    obtain⟨i,d,rfl⟩:=Aas u;rw[g i d d];decide
   refine PY (MH ?_);unfold vw;rw[e,r];rfl
theorem aZ{c:G4} :Ok (Yq fu (c,(i:Int))) λr=>r.1=XG c i:=by
 rw[Yq];unfold XG;refine PY (N6 (λh=>Aah (by omega) (MH ?_)) λh=>?_);· rw[GB (by omega)]
 ·rw[Aco (by omega)];cases hc:c.2 with
  |nil=>exact P7 (by simp) (MH rfl)
  |cons x l=>exact TJ (by simp) (BY (a:=x) rfl (MH rfl))
def SV(d:Nat)(v:Vl):Prop:=Bd d v/\D_ d v
def SW(d:Nat)(x:Bc):Prop:=SV d x.1/\SV d x.2
theorem Dr{s:Sc}(h:dq k m s)(a:uS s):Ie k m s:=⟨a.1,h.n1,h.n2,⟨a.2.1,a.2.2,rfl,h.sh.1⟩⟩
theorem kO(d:Nat):SV (d+1) v0:=⟨(L3 d).1,⟨λh=>(by cases h),QS,λc hc=>(by cases hc),λc hc=>(by cases hc)⟩,λx a=>by cases a⟩
theorem SV.qh{v:Vl}(h:SV (d+1) v):∀x∈kids v,SW d x:=λx a=>⟨⟨(h.1.2.2.2 x a).1,(h.2.2 x a).1⟩,⟨(h.1.2.2.2 x a).2,(h.2.2 x a).2⟩⟩
theorem SV.lv{v:Vl}(h:SV (d+1) v){c:G4}(hc:c∈v.lists):∀x∈AY c,SW d x:=λx a=>h.qh x (AS.2 (.inl (Aad.2 ⟨c,hc,a⟩)))
theorem SV.sv{v:Vl}(h:SV (d+1) v)(hc:c∈v.structs):∀x∈Bq c,SW d x:=λx a=>h.qh x (AS.2 (.inr (Aad.2 ⟨c,hc,a⟩)))
theorem SW.v0(h:SW d x):SW d (v0,v0):=by
 cases d with
 |zero=>trivial
 |succ d=>exact⟨kO d,kO d⟩
end
section
variable {d : Nat} (ih : ∀ {fu : Nat} {a b : Vl}, SV d a -> SV d b -> 1000000000000 + 20 * d < fu -> Ok (Tp fu (a, b)) λr => r = Bp ↔ De d a b)
section
variable{fu:Nat}
include ih
theorem JS{x y:Bc}(e:SW d x)(g:SW d y)(j:1000000000000+20*d+1<fu):Ok (Nv fu (x,y)) λr=>r=Bp↔KL (De d) x y:=by
 obtain⟨f,rfl⟩:∃f,fu=f+1:=⟨fu-1,by omega⟩;rw[show Nv (f+1) (x,y)=_ from d309 f x y];unfold yd;refine Oy (ih e.1 g.1 (by omega)) λr c=>PS (λh=>Oy (ih e.2 g.2 (by omega)) λs i=>MH ?_) λh=>AR λk=>?_;· exact i.trans ⟨λk=>⟨c.1 h,k⟩,λk=>k.2⟩
 ·rw[c.2 k.1]at h;cases h
theorem RR{x y:G4}(h1:x.1.length<=3)(G:∀w∈AY x,SW d w)(H:∀w∈AY y,SW d w)(Q:1000000000000+20*d+2<fu):Ok (Tr fu (x,y)) λr=>r=Bp↔WL (De d) x y:=by
 obtain⟨
     f,rfl⟩:∃f,fu=f+1:=⟨fu-1,by omega⟩;rw[show Tr (f+1) (x,y)=_ from d310 f x y];unfold yc;have loop:(y.1.length<=x.1.length)->(y.2=[]->x.1.length<=y.1.length/\x.2=[])->Ok (Ad f (λ(n:Nat) j=>
    bif Dm ((n:Int)<(x.1.length:Int))then
     Ab (Yq f (y,(n:Int))) λz=>
     Ab (idx x.1 (n:Int)) λv=>
     Ab (Nv f (v,z.1)) λA=>
     bif !A then
      Ac Ak
     else
      j (n+1)
    else
     bif Dm ((x.2.length:Int)=0)then
      Ac Bp
     else
      Ab (idx x.2 0) λB=>
      Ab (idx y.2 0) λC=>
      Ab (Nv f (B,C)) λD=>
      Ac D) 0) λr=>r=Bp↔WL (De d) x y:=λF s=>by
  refine Vs (λk=> ∀i (h:i<x.1.length),i<k->KL (De d) x.1[i] (XG y i)) x.1.length (λi h k=>by omega) (by omega) (λk nx q p M=>?_) (λnx p=>?_)
  ·have m:=G _ (AS.2 (.inl (AN q)));refine PW (Oy aZ λr t=>Aah q ?_);rw[t];refine Oy (JS ih m (aX m.v0 H) (by omega)) λb l=>PS (λh=>AR λN=>?_) λh=>M λi K L=>?_;· rw[l.2 (N.it k q)]at h;cases h
   ·rcases Aal i k with o|o;· exact p i K o
    ·obtain rfl:i=k:=by omega
     exact l.1 (by simpa using h)
  ·have I:∀i (h:i<x.1.length),KL (De d) x.1[i] (XG y i):=λi h=>p i h h;refine PY (N6 (λO=>MH ⟨λ_=>⟨F,s,I,λh=>by omega⟩,λ_=>rfl⟩) λh=>?_);have u:0<x.2.length:=by omega
   have J:0<y.2.length:=by
    rcases Afu y.2.length with e|e;· have:=(s (OF.1 e)).2;rw[this]at u;exact absurd u (by decide)
    ·exact e
   refine Adq (by decide) (by omega) (Adq (by decide) (by omega) (Oy (JS ih (G _ (AS.2 (.inr (AN _)))) (H _ (AS.2 (.inr (AN _)))) (by omega)) λb l=>MH (l.trans ⟨λk=>⟨F,s,I,λ_=>?_⟩,λk=>?_⟩)));· rw[show y.2.getD 0 (v0,v0)=y.2[0]from AO J];exact k
   ·have:=k.rs u;rwa [show y.2.getD 0 (v0,v0)=y.2[0]from AO J]at this
 refine N6 (λh=>AR λk=>by have:=k.ln;omega) λo=>N6 (λe=>?_) λe=>loop (by omega) λE=>absurd (by rw[E];rfl) e;have e:y.2=[]:=OF.1 (by omega);refine N6 (λh=>AR λk=>by have:=(k.cl e).1;omega) λE=>N6 (λh=>AR λk=>by have:=(k.cl e).2;rw[this]at h;exact absurd h (by decide)) λP=>loop (by omega) λ_=>⟨by omega,OF.1 (by omega)⟩
theorem Mb{x y:BA}(B:NQ x)(o:NQ y)(V:Dz x)(W:Dz y)(M:∀w∈Bq x,SW d w)(N:∀w∈Bq y,SW d w)(Y:1000000000000+20*d+3<fu):Ok (Tq fu (x,y)) λr=>r=Bp↔US (De d) x y:=by
 obtain⟨f,rfl⟩:∃f,fu=f+1:=⟨fu-1,by omega⟩;rw[show Tq (f+1) (x,y)=_ from d312 f x y];unfold ya;have n1:=B.nf;have n2:=B.nc;have n3:=o.nf;have n4:=o.nc;have A:∀s:Au,s.length<=60->SW d (v0,v0)->Ok (dO f (x,y,s)) λr=>r=Bp↔(vw x s).2<=(vw y s).2/\KL (De d) (vw x s).1 (vw y s).1:=λs Z R=>by obtain⟨g,rfl⟩:∃g,f=g+1:=⟨f-1,by omega⟩;rw[show dO (g+1) (x,y,s)=_ from d311 g x y s];unfold yb;refine BY (QW B (by omega) (by omega)) (BY (QW o (by omega) (by omega)) (N6 (λh=>Oy (JS ih (U' R M) (U' R N) (by omega)) λb i=>MH (i.trans ⟨λk=>⟨h,k⟩,λk=>k.2⟩)) λh=>AR λk=>h k.1))
 refine Vs (λk=> ∀g∈x.1.take k,(vw x g.1).2<=(vw y g.1).2/\KL (De d) (vw x g.1).1 (vw y g.1).1) x.1.length (by simp) (by omega) (λk nx n H E=>?_) (λnx H=>?_)
 ·have m:=AN n;refine PW (Aah n (Oy (A _ (B.lb _ m) (M _ (AS.2 (.inl (By.2 ⟨_,m,rfl⟩)))).v0) λb i=>PS (λh=>AR λG=>?_) λh=>E λg z=>?_));· rw[i.2 (G.fa _ m)]at h;cases h
  ·rcases(Ag n).1 z with z|rfl;· exact H g z
   ·exact i.1 (by simpa using h)
 rw[Al]at H;refine P7 (by omega) ?_;refine Vs (λk=> ∀g∈y.1.take k,(vw x g.1).2<=(vw y g.1).2/\KL (De d) (vw x g.1).1 (vw y g.1).1) y.1.length (by simp) (by omega) (λk nx n p E=>?_) (λnx p=>?_)
 ·have m:=AN n;refine PW (Aah n (Oy (A _ (o.lb _ m) (N _ (AS.2 (.inl (By.2 ⟨_,m,rfl⟩)))).v0) λb i=>PS (λh=>AR λG=>?_) λh=>E λg z=>?_));· rw[i.2 (G.fb _ m)]at h;cases h
  ·rcases(Ag n).1 z with z|rfl;· exact p g z
   ·exact i.1 (by simpa using h)
 rw[Al]at p;refine P7 (by omega) ?_;refine Vs (λk=> ∀a∈x.2.take k,∀b∈y.2,KL (De d) a.2 b.2\/∀w,¬(Av a.1 0 w=Bp/\Av b.1 0 w=Bp)) x.2.length (by simp) (by omega) (λk nx n q E=>?_) (λnx q=>?_)
 ·have m:=AN n;refine TJ (by omega) ?_;refine Vs (λj=> ∀b∈y.2.take j,KL (De d) (x.2[k]).2 b.2\/∀w,¬(Av (x.2[k]).1 0 w=Bp/\Av b.1 0 w=Bp)) y.2.length (by simp) (by omega) (λj O I u F=>?_) (λO u=>?_)
  ·have J:=AN I;have P:=V.1 _ m;have Q:=W.1 _ J;have U:CD (x.2[k]).1 (Av (x.2[k]).1 0) 14641:=⟨P.2.1,P.2.2,rfl,B.each _ m⟩;have lb:CD (y.2[j]).1 (Av (y.2[j]).1 0) 14641:=⟨Q.2.1,Q.2.2,rfl,o.each _ J⟩;refine PW (Aah n (Aah I (Oy (c_ (Gy (fu:=f) U lb (by decide) (by omega))) λt S=>?_)));rw[U.gL,lb.gL]at S;have C:sA f t=Ac (Dm ((t.length:Int)=0)):=(rfl);refine BY C ?_;have v:(KL (De d) (x.2[k]).2 (y.2[j]).2\/∀w,¬(Av (x.2[k]).1 0 w=Bp/\Av (y.2[j]).1 0 w=Bp))->∀b∈y.2.take (j+1),KL (De d) (x.2[k]).2 b.2\/∀w,¬(Av (x.2[k]).1 0 w=Bp/\Av b.1 0 w=Bp):=λh b i=>by
    rcases(Ag I).1 i with i|rfl;· exact u b i
    ·exact h
   have emp:t=[]↔∀w,¬(Av (x.2[k]).1 0 w=Bp/\Av (y.2[j]).1 0 w=Bp):=by
    rw[S.Gx];constructor;· intro e w T;have:=congrFun e w;rw[T.1,T.2]at this;cases this
    ·intro e;funext w;have:=e w;cases X:Av (x.2[k]).1 0 w<;>cases D:Av (y.2[j]).1 0 w<;>simp_all
   refine PS (λh=>Aah n (Aah I (Oy (JS ih (M _ (AS.2 (.inr (By.2 ⟨_,m,rf⟩)))) (N _ (AS.2 (.inr (By.2 ⟨_,J,rf⟩)))) (by omega)) λb i=>PS (λD=>AR λG=>?_) λD=>F (v (.inl (i.1 (by simpa using D))))))) λh=>F (v (.inr (emp.1 ?_)))
   ·rcases G.cl _ m _ J with K|K;· rw[i.2 K]at D;cases D
    ·rw[emp.2 K]at h;cases h
   ·have h:Dm ((t.length:Int)=0)=Bp:=by simpa using h
    have:=of_decide_eq_true h;exact OF.1 (by omega)
  ·rw[Al]at u;refine PY (E λa L=>?_);rcases(Ag n).1 L with L|rfl;· exact q a L
   ·exact u
 ·rw[Al]at q;exact PY (MH ⟨λ_=>⟨H,p,q⟩,λ_=>rfl⟩)
end
end
theorem So{α:Type}{n bs:List α}{g:α->α->Option Bool}{P:α->Prop}{fu k:Nat}{Q:Bool->Prop}{nx:Option Bool}(v:k<n.length)(t:bs.length<fu)(u:∀b∈bs,Ok (g n[k] b) λr=>r=Bp↔P b)(a:(∃b∈bs,P b)->Ok nx Q)(o:(¬ ∃b∈bs,P b)->Q Ak):
  Ok (
    Ad fu (λ(f:Bool×Nat) c=>
   bif Dm ((f.2:Int)<(bs.length:Int))then
    bif !f.1 then
     Ab (idx n (k:Int)) λy=>
     Ab (idx bs (f.2:Int)) λz=>
     Ab (g y z) λA=>
     c (A,f.2+1)
    else
     bif !f.1 then Ac Ak else nx
   else
    bif !f.1 then Ac Ak else nx) (Ak,0)) Q:=by
 refine Sj (λj (s:Bool)=>s=Bp↔∃b∈bs.take j,P b) bs.length ⟨λh=>(by cases h),λh=>by simp at h⟩ t (λj s c l d w=>?_) (λs c d=>?_)
 ·have m:=AN l;refine PW (PS (λh=>Aah v (Aah l (Oy (u _ m) λr x=>w _ ?_))) λh=>PS (λq=>absurd q (by dsimp only at h⊢;rw[h];decide)) λ_=>a ?_)
  ·have p:s=Ak:=by simpa using h
   rw[x];constructor;· intro e;exact⟨_,(Ag l).2 (.inr rfl),e⟩
   ·rintro⟨b,i,e⟩;rcases(Ag l).1 i with i|rfl;· have:=d.2 ⟨b,i,e⟩;rw[p]at this;cases this
    ·exact e
  ·have p:s=Bp:=by simpa using h
   obtain⟨b,i,e⟩:=d.1 p;exact⟨b,Acl i,e⟩
 ·rw[Al]at d;refine PY (PS (λh=>MH (o λk=>?_)) λh=>a (d.1 (by simpa using h)));rw[d.2 k]at h;cases h
theorem HZ:∀ {d fu:Nat} {a b:Vl},SV d a->SV d b->1000000000000+20*d<fu->Ok (Tp fu (a,b)) λr=>r=Bp↔De d a b
 |0,_,_,_,h,_,_=>h.1.elim
 |d+1,0,_,_,_,_,h=>by omega
 |d+1,f+1,a,b,n,o,G=>by
  have A:∀ {fu:Nat} {a b:Vl},SV d a->SV d b->1000000000000+20*d<fu->Ok (Tp fu (a,b)) λr=>r=Bp↔De d a b:=HZ;have D:=Dr n.1.1 n.2.1.sc;have sb:=Dr o.1.1 o.2.1.sc;have B:=n.1.2.1;have F:=o.1.2.1;have u:=n.1.2.2.1;have v:=o.1.2.2.1;rw[show Tp (f+1) (a,b)=_ from d313 f a b];unfold x_;refine PS (λh=>MH ⟨λk=> .inl k,λk=>?_⟩) λh=>PS (λq=>MH ⟨λk=> .inl k,λ_=>q⟩) λq=>Oy (Ma D sb (by decide) (by decide) (by omega)) λr z=>PS (λs=>AR λk=>?_) λs=>?_
  ·rcases k with k|k;· exact k
   ·rw[h]at k;exact absurd k.1 (by decide)
  ·rcases k with k|k;· rw[q]at k;cases k
   ·rw[z.2 k.2.1]at s;cases s
  have C:=z.1 (by simpa using s);refine Vs (λk=> ∀c∈a.lists.take k,∃l∈b.lists,WL (De d) c l) a.lists.length (by simp) (by omega) (λk nx p t w=>?_) (λnx t=>?_)
  ·have m:=AN p;refine PW (So (g:=λx y=>Tr f (x,y)) (P:=λl=>WL (De d) a.lists[k] l) p (by omega) (λc hc=>RR A (B.2 _ m).1 (n.lv m) (o.lv hc) (by omega)) (λh=>w λc hc=>?_) λh=>⟨λe=>(by cases e),λi=>?_⟩)
   ·rcases(Ag p).1 hc with hc|rfl;· exact t c hc
    ·exact h
   ·rcases i with i|i;· rw[q]at i;cases i
    ·exact absurd (i.2.2.1 _ m) h
  rw[Al]at t;refine P7 (by omega) ?_;refine Vs (λk=> ∀c∈a.structs.take k,∃l∈b.structs,US (De d) c l) a.structs.length (by simp) (by omega) (λk nx p j w=>?_) (λnx j=>?_)
  ·have m:=AN p;refine PW (So (g:=λx y=>Tq f (x,y)) (P:=λl=>US (De d) a.structs[k] l) p (by omega) (λc hc=>Mb A (u.2 _ m) (v.2 _ hc) (n.2.1.st _ m).2 (o.2.1.st _ hc).2 (n.sv m) (o.sv hc) (by omega)) (λh=>w λc hc=>?_) λh=>⟨λe=>(by cases e),λi=>?_⟩)
   ·rcases(Ag p).1 hc with hc|rfl;· exact j c hc
    ·exact h
   ·rcases i with i|i;· rw[q]at i;cases i
    ·exact absurd (i.2.2.2 _ m) h
  ·rw[Al]at j;exact PY (MH ⟨λ_=> .inr ⟨h,C,t,j⟩,λ_=>rfl⟩)
end Go.GL
