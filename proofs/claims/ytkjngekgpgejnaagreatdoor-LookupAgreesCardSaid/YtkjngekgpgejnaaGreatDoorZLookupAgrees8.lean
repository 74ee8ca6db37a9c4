/- Part 8 of the texts of this claim: what its theorem leans on. -/
import Derived.Test.YtkjngekgpgejnaaGreatDoorZLookupAgrees7
import Derived.Test.YtkjngekgpgejnaaGreatDoorZLookupAgrees4
import Derived.LaidMore
set_option linter.all false
namespace Go.GL
open Go Go.GV Go.GK Go.Proofs
abbrev Sc:=Bool×Bool×Bool×(List Sp×List Sp)×Tb
def JB:Sc:=(false,false,false,([],[]),[])
structure W5(k m:Nat)(s:Sc):Prop where
 sm:OW s.2.2.2.1
 n1:s.2.2.2.1.1.length<=k
 n2:s.2.2.2.1.2.length<=k
 bt:OT s.2.2.2.2
 sh:HF s.2.2.2.2 m
structure OQ(k m:Nat)(s:Sc):Prop where
 nu:Fj s.2.2.2.1 (CM s.2.2.2.1) (CE s.2.2.2.1)
 n1:s.2.2.2.1.1.length<=k
 n2:s.2.2.2.1.2.length<=k
 ln:Ds s.2.2.2.2 (AV s.2.2.2.2 0) m
theorem Ds.self{r:Tb}{L:Lg}{m:Nat}(h:Ds r L m):Ds r (AV r 0) m:=⟨h.wf,h.can,rfl,h.len⟩
theorem Ds.gL{r:Tb}{L:Lg}{m:Nat}(h:Ds r L m):gL r=L:=by unfold Go.GL.gL;rw[h.MG,h.lg]
theorem Fj.self{r:List Sp×List Sp}{I F:Int->Prop}(h:Fj r I F)(hi:∀n,I n-> -100000000000<=n/\n<=100000000000)(hf:∀y,F y-> -1000000000000000<=ur y/\ur y<=1000000000000000):Fj r (GL.CM r) (GL.CE r):=
 h.congr (fun n=>((h.CM n).trans ⟨And.left,fun k=>⟨k,hi n k⟩⟩).symm) fun y=>((h.CE y).trans ⟨And.left,fun k=>⟨k,hf y k⟩⟩).symm
theorem OQ.sc{k m:Nat}{s:Sc}(h:OQ k m s)(hk:k<=12):W5 k (max m 256) s:=
 ⟨h.nu.sm (Nat.le_trans h.n1 hk) (Nat.le_trans h.n2 hk),h.n1,h.n2,h.ln.wf.by,h.ln.wf.sh (Nat.le_trans h.ln.len (Nat.le_max_left _ _)) (Nat.le_max_right _ _)⟩
theorem QN:Fj (([],[]):List Sp×List Sp) (CM ([],[])) (CE ([],[])):=
 ⟨[],rfl, .nil,by simp, .nil,by simp,fun n=>⟨fun h=>absurd h A8,fun h=>absurd h.1 A8⟩,fun n=>⟨fun h=>absurd h A8,fun h=>absurd h.1 A8⟩⟩
theorem GC{k m:Nat} :OQ k m JB:=⟨QN,Nat.zero_le _,Nat.zero_le _,Ds.nil.self⟩
theorem FW{fu k m:Nat}{s:Sc}(h:W5 k m s)(hm:m<1000000000)(hF:1000000000000<fu):Ok (dO fu s) fun b=>b=true↔Fj s.2.2.2.1 (CM s.2.2.2.1) (CE s.2.2.2.1)/\Bz s.2.2.2.2/\Cl s.2.2.2.2=s.2.2.2.2:=by
 obtain⟨r,e,hr,_⟩:=Dq (fu:=fu) h.sm (by omega)
 have n1:=h.sm.n1;have n2:=h.sm.n2
 have hv:s6 fu s.2.2.2.1=some (decide (s.2.2.2.1=r)):=by
  refine(d79 fu _).trans (Ok.eq ?_);unfold vY
  exact Ok.Ag e (Ok.Ag (nw (by omega) (by omega)) (Ok.some rf))
 have hiff:s.2.2.2.1=r↔Fj s.2.2.2.1 (CM s.2.2.2.1) (CE s.2.2.2.1):=⟨fun c=>c▸hr,fun c=>c.unique hr⟩
 rw[d80];unfold vX
 refine Ok.Ag hv (Ok.bif (fun c=>Ok.Ac (JF h.bt h.sh (by omega) (by omega) (by omega)) fun b hb=>Ok.some ?_) fun c=>Ok.some ?_)
 ·rw[hb];exact⟨fun k=>⟨hiff.1 (of_decide_eq_true c),k⟩,And.right⟩
 ·exact⟨fun h=>(by cases h),fun k=>absurd (hiff.2 k.1) (of_decide_eq_false c)⟩
theorem OQ.valid{fu k m:Nat}{s:Sc}(h:OQ k m s)(hk:k<=12)(hm:m<=100000000)(hF:1000000000000<fu):dO fu s=some true:=by
 obtain⟨b,e,hb⟩:=FW (fu:=fu) (h.sc hk) (by omega) hF
 rw[e,hb.2 ⟨h.nu,h.ln.wf,h.ln.can⟩]
theorem OQ.MG{fu k m:Nat}{s:Sc}(h:OQ k m s)(hk:k<=12)(hm:m<=100000000)(hF:1000000000000<fu):Zm fu s=some s:=by
 refine(d93 fu s).trans (Ok.eq ?_);unfold vL
 exact Ok.Ag (h.valid hk hm hF) (Ok.F rf (Ok.some rf))
theorem GP{a b:Tb}{L M:Lg}{m p fu:Nat}(ha:Ds a L m)(hb:Ds b M p)(hm:(m+2)*(p+2)<=1000000000)(hF:1000000000000<fu):pb (max (max m p) 256) fu a b:=by
 have h1:=ha.len;have h2:=hb.len
 have hp:IC a b<=(m+2)*(p+2):=Nat.mul_le_mul (by omega) (by omega)
 have q1:m<=(m+2)*(p+2):=Nat.le_trans (by omega:m<=(m+2)*1) (Nat.mul_le_mul (Nat.le_refl _) (by omega))
 have q2:p<=(m+2)*(p+2):=Nat.le_trans (by omega:p<=1*(p+2)) (Nat.mul_le_mul (by omega) (Nat.le_refl _))
 exact⟨ha.wf.by,hb.wf.by,ha.wf.sh (by omega) (by omega),hb.wf.sh (by omega) (by omega),by omega,by omega,by omega,by omega,by omega⟩
theorem FL{a b:Tb}{L M:Lg}{m p fu:Nat}(ha:Ds a L m)(hb:Ds b M p)(hm:(m+2)*(p+2)<=1000000000)(hF:1000000000000<fu):Ok (OS fu (a,b)) fun _=>True:=by
 have hl:=GP ha hb hm hF
 have hl':=GP hb ha (by rw[Nat.mul_comm];exact hm) hF
 have p1:IC a b<=(m+2)*(p+2):=Nat.mul_le_mul (by have:=ha.len;omega) (by have:=hb.len;omega)
 have p2:IC b a=IC a b:=Nat.mul_comm _ _
 have g:∀ {l:Tb} {K:Lg} {q:Nat},Ds l K q->OT l->HF l (max (max m p) 256)->I8 fu l=some l:=fun{l K q} h1 h2 h3=>by
  rw[FC h2 h3 hl.hn hl.hf (by omega),h1.MG]
 rw[show OS fu (a,b)=_ from d148 fu a b];unfold lD
 refine Ok.Ag (g ha hl.ha hl.sa) (Ok.Ag (g hb hl.hb hl.sb) (Ok.Ac (HW hl) fun r3 h3=>Ok.Ac (Kg (n:=max (IC a b) 256) h3 (h3.wf.sh (Nat.le_trans h3.len (by omega)) (by omega)) (by omega) (by omega)) fun r4 _=>Ok.Ac (HW hl') fun r5 h5=>Ok.Ac (Kg (n:=max (IC a b) 256) h5 (h5.wf.sh (Nat.le_trans h5.len (by omega)) (by omega)) (by omega) (by omega)) fun r6 _=>?_))
 have last:Ok (Ac (KV fu ((r4.1.length:Int),(r6.1.length:Int))) fun r7=>Ac (Lf fu (r4.1,r6.1)) fun r8=>Ac (WL fu [r7,r8]) fun r9=>some r9) fun _=>True:=by
  have h144:∀x y:Int,Ok (KV fu (x,y)) fun _=>True:=fun x y=>by
   rw[show KV fu (x,y)=_ from d144 fu x y];unfold aQ
   have e:∀z,Tz fu z=some false:=fun z=>(d143 fu z).trans (by unfold aR;simp)
   refine Ok.Ag (e x) (Ok.Ag (e y) (Ok.F rf (Ok.F rf ?_)))
   exact Ok.bif (fun _=>Ok.some trivial) fun _=>Ok.bif (fun _=>Ok.some trivial) fun _=>Ok.some trivial
  have h146:∀x y:Ax,Ok (Lf fu (x,y)) fun _=>True:=fun x y=>by
   rw[show Lf fu (x,y)=_ from d146 fu x y];unfold aP
   refine Ok.Ag (d145 fu x) (Ok.Ag (d145 fu y) ?_)
   exact Ok.bif (fun _=>Ok.bif (fun _=>Ok.some trivial) fun _=>Ok.some trivial) fun _=>Ok.bif (fun _=>Ok.some trivial) fun _=>Ok.bif (fun _=>Ok.some trivial) fun _=>Ok.bif (fun _=>Ok.some trivial) fun _=>Ok.some trivial
  refine Ok.Ac (h144 _ _) fun r7 _=>Ok.Ac (h146 _ _) fun r8 _=>Ok.Ac (Q:=fun _=>True) ?_ fun _ _=>Ok.some trivial
  rw[d147];unfold lE
  exact Ok.count (fun _=>True) 2 trivial (by omega) (fun k nx hk _ hn=>Ok.iT (by simp;omega) (Ok.Aw (by simp;omega) (Ok.ite (fun _=>Ok.some trivial) fun _=>hn trivial))) (fun nx _=>Ok.iF (by simp) (Ok.some trivial))
 exact Ok.bif (fun _=>Ok.bif (fun _=>Ok.some trivial) fun _=>Ok.bif (fun _=>Ok.some trivial) fun _=>Ok.bif (fun _=>Ok.some trivial) fun _=>last) fun _=>Ok.bif (fun _=>Ok.some trivial) fun _=>Ok.bif (fun _=>Ok.some trivial) fun _=>last
end Go.GL
namespace Go.GL
open Go Go.GV Go.GK Go.Proofs
theorem uj(fu:Nat)(x y:Bool):mP fu (x,y)=some (x||y):=(d94 fu x y).trans (by unfold vK;cases x<;>rfl)
theorem Pu(fu:Nat)(x y:Bool):Tv fu (x,y)=some (x&& !y):=(d154 fu x y).trans (by unfold lA;cases x<;>rfl)
theorem Ot{fu k m:Nat}{s:Sc}(h:OQ k m s)(hk:k<=12)(hm:m<=100000)(hF:1000000000000<fu):aw fu s=some s:=by
 obtain⟨a,b,c,nu,L⟩:=s
 have hz:Zm fu JB=some JB:=(GC (k:=0) (m:=0)).MG (by omega) (by omega) hF
 have hn:=h.nu;have n1:=h.n1;have n2:=h.n2;have hl:=h.ln
 dsimp only at hn n1 n2 hl
 obtain⟨r,er,hr,_⟩:=eM (fu:=fu) (hn.sm (by omega) (by omega)) ((QN).sm (by simp) (by simp)) (by simp;omega) (by omega)
 have hr':nu=r:=hn.unique (hr.congr (fun n=>⟨fun h=>h.resolve_right fun h=>absurd h.1 A8, .inl⟩) fun n=>⟨fun h=>h.resolve_right fun h=>absurd h.1 A8, .inl⟩)
 obtain⟨t,et,ht⟩:=Pm (GP (fu:=fu) hl (Ds.nil (m:=0)) (by omega) hF)
 have ht':L=t:=hl.unique (ht.congr (funext fun w=>by rw[hl.gL,FE,Bool.or_false]))
 rw[<-hr']at er;rw[<-ht']at et
 have e:aA fu ((a,b,c,nu,L),JB)=some (a,b,c,nu,L):=by
  refine(d109 fu _ _).trans (Ok.eq ?_);unfold lZ
  refine Ok.Ag (h.MG hk (by omega) hF) (Ok.Ag hz (Ok.Ag (uj fu _ _) (Ok.Ag (uj fu _ _) (Ok.Ag (uj fu _ _) (Ok.Ag er (Ok.Ag et (Ok.some ?_)))))))
  simp[JB]
 have e':ay fu ((a,b,c,nu,L),JB)=some (a,b,c,nu,L):=by
  refine(d110 fu _ _).trans (Ok.eq ?_);unfold lY
  exact Ok.Ag e (Ok.some rf)
 refine(d111 fu _).trans (Ok.eq ?_);unfold lX
 exact Ok.Ag e' (Ok.some rf)
theorem GR{fu k m:Nat}{s:Sc}(h:OQ k m s)(hk:k<=12)(hm:m<=100000000)(hF:1000000000000<fu):Ok (TA fu s) fun b=>b=true↔s=JB:=by
 obtain⟨a,b,c,nu,L⟩:=s
 have hn:=h.nu;have n1:=h.n1;have n2:=h.n2;have hl:=h.ln
 dsimp only at hn n1 n2 hl
 obtain⟨r,v,f,hr,ef,lf⟩:=H4 (fu:=fu) (hn.sm (by omega) (by omega)) (by omega)
 obtain rfl:nu=r:=hn.unique hr
 have hf:f= !decide (nu=([],[])):=by
  cases f with
  |false=>rw[(Fj.none hn).1 (lf.no rfl).2];rfl
  |true=>rw[decide_eq_false fun e=>(Fj.none hn).2 e v (lf.yes rfl).1];rfl
 obtain⟨⟨w,g⟩,eg,hg⟩:=Kg (fu:=fu) (n:=max m 256) hl (hl.wf.sh (Nat.le_trans hl.len (by omega)) (by omega)) (by omega) (by omega)
 dsimp only at hg
 have key:Ok (au fu (a,b,c,nu,L)) fun o=>o.2.2.2.2.2=(a||b||c||f||g):=by
  rw[d125];unfold lM
  refine Ok.Ag (h.MG hk (by omega) hF) (Ok.Ag ef (Ok.Ag eg ?_))
  dsimp only
  refine Ok.bif (fun h1=>Ok.some (by rw[h1];rfl)) fun h1=>Ok.bif (fun h2=>Ok.some (by rw[h1,h2];rfl)) fun h2=>Ok.bif (fun h3=>Ok.some (by rw[h1,h2,h3];rfl)) fun h3=>Ok.bif (fun h4=>Ok.some (by rw[h1,h2,h3,h4];rfl)) fun h4=>Ok.bif (fun h5=>Ok.some (by rw[h1,h2,h3,h4,h5];rfl)) fun h5=>Ok.some (by rw[h1,h2,h3,h4,h5];rfl)
 rw[d126];unfold lL
 refine Ok.Ac key fun o ho=>Ok.some ?_
 rw[ho,hf,hg]
 unfold JB
 cases a<;>cases b<;>cases c<;>by_cases h1:nu=([],[])<;>by_cases h2:L=[]<;>simp[h1,h2]
theorem Pt{fu k k' m p:Nat}{x y:Sc}(hx:OQ k m x)(hy:OQ k' p y)(hk:k+k'<=11)(hm:(m+2)*(p+2)<=100000000)(hF:1000000000000<fu):
  Ok (WH fu (x,y)) fun r=>OQ 12 ((m+2)*(p+2)) r/\(y=JB->r=JB->x=JB):=by
 have q1:m<=(m+2)*(p+2):=Nat.le_trans (by omega:m<=(m+2)*1) (Nat.mul_le_mul (Nat.le_refl _) (by omega))
 have q2:p<=(m+2)*(p+2):=Nat.le_trans (by omega:p<=1*(p+2)) (Nat.mul_le_mul (by omega) (Nat.le_refl _))
 have x1:=hx.n1;have x2:=hx.n2;have y1:=hy.n1;have y2:=hy.n2
 obtain⟨r,er,hr,r1,r2⟩:=HV (fu:=fu) (hx.nu.sm (by omega) (by omega)) (hy.nu.sm (by omega) (by omega)) (by omega) (by omega)
 obtain⟨t,et,ht⟩:=HW (GP (fu:=fu) hx.ln hy.ln (by omega) hF)
 rw[hx.ln.gL,hy.ln.gL]at ht
 have e:Ok (WI fu (x,y)) fun o=>o=(x.1&& !y.1,x.2.1&& !y.2.1,x.2.2.1&& !y.2.2.1,r,t):=by
  rw[show WI fu (x,y)=_ from d171 fu x y];unfold kY
  exact Ok.Ag (hx.MG (by omega) (by omega) hF) (Ok.Ag (hy.MG (by omega) (by omega) hF) (Ok.Ag (Pu fu _ _) (Ok.Ag (Pu fu _ _) (Ok.Ag (Pu fu _ _) (Ok.Ag er (Ok.Ag et (Ok.some rf)))))))
 rw[show WH fu (x,y)=_ from d172 fu x y];unfold kX
 refine Ok.Ac e fun o ho=>Ok.some ?_
 subst ho
 refine⟨⟨hr.self (fun n h=>h.1.2) (fun n h=>h.1.2),?_,?_,?_⟩,fun hy0 h0=>?_⟩
 ·show r.1.length<=12;omega
 ·show r.2.length<=12;omega
 ·have hp:IC x.2.2.2.2 y.2.2.2.2<=(m+2)*(p+2):=Nat.mul_le_mul (by have:=hx.ln.len;omega) (by have:=hy.ln.len;omega)
  exact(ht.mono hp).self
 ·subst hy0
  obtain⟨a,b,c,nu,L⟩:=x
  unfold JB at h0
  simp only[Prod.mk.injEq]at h0
  obtain⟨h1,h2,h3,h4,h5⟩:=h0
  subst h4 h5
  have e1:nu=([],[]):=hx.nu.unique (hr.congr (fun n=>⟨And.left,fun h=>⟨h,fun k=>absurd k.1 A8⟩⟩) fun n=>⟨And.left,fun h=>⟨h,fun k=>absurd k.1 A8⟩⟩)
  have e2:L=[]:=hx.ln.unique (ht.congr (funext fun w=>by simp[JB,E1]))
  unfold JB
  subst e1 e2
  cases a<;>cases b<;>cases c<;>simp_all [JB]
theorem Nt{fu k k' m p:Nat}{x y:Sc}(hx:OQ k m x)(hy:OQ k' p y)(hk:k+k'<=11)(hm:(m+2)*(p+2)<=100000000)(hF:1000000000000<fu):
  Ok (WG fu (x,y)) fun r=>y=JB->r=true->x=JB:=by
 rw[show WG fu (x,y)=_ from d173 fu x y];unfold kW
 refine Ok.Ac (Pt hx hy hk hm hF) fun r hr=>Ok.Ac (GR hr.1 (by omega) hm hF) fun b hb=>Ok.some fun h1 h2=>hr.2 h1 (hb.1 h2)
theorem HB{fu k k' m p:Nat}{x y:Sc}(hx:W5 k m x)(hy:W5 k' p y)(hk:k+k'<=11)(hm:(m+2)*(p+2)<=100000000)(hF:1000000000000<fu):Ok (Tq fu (x,y)) fun _=>True:=by
 have q1:m<=(m+2)*(p+2):=Nat.le_trans (by omega:m<=(m+2)*1) (Nat.mul_le_mul (Nat.le_refl _) (by omega))
 have q2:p<=(m+2)*(p+2):=Nat.le_trans (by omega:p<=1*(p+2)) (Nat.mul_le_mul (by omega) (Nat.le_refl _))
 have x1:=hx.n1;have x2:=hx.n2;have y1:=hy.n1;have y2:=hy.n2
 rw[show Tq fu (x,y)=_ from d195 fu x y];unfold kO
 refine Ok.Ac (FW hx (by omega) hF) fun b hb=>Ok.bif (fun _=>Ok.some trivial) fun h1=>Ok.Ac (FW hy (by omega) hF) fun c hc=>Ok.bif (fun _=>Ok.some trivial) fun h2=>?_
 have h1:b=true:=by cases b<;>simp_all
 have h2:c=true:=by cases c<;>simp_all
 have vx:=hb.1 h1;have vy:=hc.1 h2
 have lx:Ds x.2.2.2.2 (AV x.2.2.2.2 0) m:=⟨vx.2.1,vx.2.2,rfl,hx.sh.1⟩
 have ly:Ds y.2.2.2.2 (AV y.2.2.2.2 0) p:=⟨vy.2.1,vy.2.2,rfl,hy.sh.1⟩
 have last:Ok (Ac (Tr fu (x.2.2.2.1,y.2.2.2.1)) fun r6=>bif decide (r6≠0)then some r6 else Ac (OS fu (x.2.2.2.2,y.2.2.2.2)) fun r7=>some r7) fun _=>True:=
  Ok.Ac (Ov hx.sm hy.sm (by omega) (by omega)) fun r _=>Ok.ite (fun _=>Ok.some trivial) fun _=>Ok.Ac (FL lx ly (by omega) hF) fun r _=>Ok.some trivial
 refine Ok.loop (X:=Int) (fun z=>0<=z/\z<=3) (fun z=>3-z.toNat) ⟨by decide,by decide⟩ (by simp;omega) fun z nx hz _ hn=>?_
 refine Ok.ite (fun hlt=>Ok.Ah ⟨hz.1,hlt⟩ ?_) fun _=>last
 refine Ok.Ff hz.1 (by simp;omega) ?_
 exact Ok.ite (fun _=>Ok.some trivial) fun _=>Ok.ite (fun _=>Ok.some trivial) fun _=>Ok.fit (by omega) (hn _ (by omega) (by omega))
end Go.GL
namespace Go.GL
open Go Go.GV Go.GK Go.Proofs
abbrev Ci:=Vl×Vl
abbrev DI:=List (Ax×Int×Ci)×List (Tb×Ci)
abbrev Ng:=List Ci×List Ci
structure BM(c:DI)(v:List Int):Prop where
 len:v.length=c.2.length+c.1.length
 cl:∀i (h:i<c.2.length), -1<=v.getD i 0/\v.getD i 0<(c.2[i]).1.length
 fd:∀j (h:j<c.1.length), -1<=v.getD (c.2.length+j) 0/\v.getD (c.2.length+j) 0<=(c.1[j]).1.length
structure jA(c:DI):Prop where
 nf:c.1.length<=4
 nc:c.2.length<=4
 lb:∀f∈c.1,f.1.length<=60
 st:∀k∈c.2,k.1.length<=20000
 bt:∀k∈c.2,OT k.1
 ed:∀k∈c.2,∀s∈k.1,s.2.length<=256
theorem Ks{α:Type}{l:List α}{i:Nat}{d:α}(h:i<l.length):l.getD i d=l[i]:=by
 rw[List.getD_eq_getElem?_getD,List.getElem?_eq_getElem h];rfl
theorem CW{l:List Int}{i:Nat}(h:i<l.length):idx l (i:Int)=some (l.getD i 0):=by
 rw[BN h,Ks h]
theorem Hm{l:List Int}{a b:Nat}(h:a+b<l.length):idx l ((a:Int)+(b:Int))=some (l.getD (a+b) 0):=by
 rw[show((a:Int)+(b:Int))=((a+b:Nat):Int) by omega,CW h]
theorem Yo{c:DI}{v:List Int}{fu:Nat}(hL:jA c)(hv:BM c v)(hF:1000000000000<fu):Ok (pG fu (c,v)) fun _=>True:=by
 have h1:=hL.nf;have h2:=hL.nc;have hl:=hv.len
 rw[show pG fu (c,v)=_ from d60 fu c v];unfold wb
 refine Ok.range (fun k (s:Int)=>0<=s/\s<=k) c.2.length ⟨by decide,by decide⟩ (by omega) (fun k s nx hk hJ hn=>?_) (fun s nx hJ=>?_)
 ·have hc:=hv.cl k hk
  have hb:=hL.bt _ (List.getElem_mem hk)
  refine Ok.iT (by dsimp only;omega) (Ok.Aw hk (Ok.Ag (CW (by omega)) (Ok.ite (fun h=>Ok.Ag (CW (by omega)) (Ok.Ff h hc.2 (Ok.bif (fun _=>Ok.fit (by dsimp only;omega) (hn _ ⟨by dsimp only;omega,by dsimp only;omega⟩)) fun _=>hn _ ⟨by dsimp only;omega,by dsimp only;omega⟩))) fun h=>hn _ ⟨by dsimp only;omega,by dsimp only;omega⟩)))
 ·refine Ok.iF (by dsimp only;omega) ?_
  refine Ok.range (fun k (s:Int)=>0<=s/\s<=4+k) c.1.length ⟨hJ.1,by dsimp only;omega⟩ (by omega) (fun k s nx hk hJ hn=>?_) (fun s nx hJ=>?_)
  ·refine Ok.iT (by dsimp only;omega) (Ok.Aw hk (Ok.fit (by omega) (Ok.Ag (Hm (by omega)) (Ok.ite (fun _=>Ok.fit (by dsimp only;omega) (hn _ ⟨by dsimp only;omega,by dsimp only;omega⟩)) fun _=>hn _ ⟨by dsimp only;omega,by dsimp only;omega⟩))))
  ·exact Ok.iF (by dsimp only;omega) (Ok.some trivial)
def PB(v:List Int):List Int:=v.flatMap fun n=>44::(Lib.itoa n).map fun b=>((b.toNat:Nat):Int)
def H5(v:List Int):Ax:=(PB v).map fun n=>UInt8.ofNat n.toNat
theorem Sx{n:Int}(h0: -1<=n)(h:n<10000000000):(Lib.itoa n).length<=10:=by
 rcases Int.lt_or_le n 0 with h1|h1
 ·obtain rfl:n= -1:=by omega
  have:(Lib.itoa (-1)).length=(Lib.decDigits 1).length+1:=rfl
  rw[this,Lib.decDigits_length]
  have:=GN 8 1 (by decide)
  omega
 ·exact LI h1 h
theorem N5{v:List Int}(h:∀n∈v, -1<=n/\n<10000000000):(PB v).length<=11*v.length:=by
 induction v with
 |nil=>simp[PB]
 |cons n v ih=>
  have h1:=Sx (h n (List.mem_cons_self ..)).1 (h n (List.mem_cons_self ..)).2
  have:=ih fun m hm=>h m (List.mem_cons_of_mem _ hm)
  unfold PB at this⊢
  rw[List.flatMap_cons,List.length_append,List.length_cons,List.length_cons,List.length_map];omega
theorem gK{v:List Int}{fu:Nat}(h:∀n∈v, -1<=n/\n<10000000000)(hl:v.length<=100)(hF:1000000000000<fu):mT fu v=some (H5 v):=by
 refine(d59 fu v).trans (Ok.eq ?_);unfold wc
 refine Ok.range (fun k (s:List Int)=>s=PB (v.take k)) v.length (by simp[PB]) (by omega) (fun k s nx hk hJ hn=>?_) (fun s nx hJ=>?_)
 ·have hm:=h _ (List.getElem_mem hk)
  have hlen:=N5 (v:=v.take k) fun n hn=>h n (List.mem_of_mem_take hn)
  rw[List.length_take,<-hJ]at hlen
  have he:vj fu (v[k],10,s++[44])=some (s++[44]++(Lib.itoa v[k]).map fun b=>((b.toNat:Nat):Int)):=by
   exact(uS fu _ _).trans (Ok.eq (Ok.Ah (by rw[List.length_append,List.length_singleton];omega) (Ok.fit (by omega) (Ok.some rf))))
  refine Ok.iT (by dsimp only;omega) (Ok.Aw hk (Ok.Ah (by unfold Ak;dsimp only;omega) (Ok.Ag he (hn _ ?_))))
  rw[hJ,List.take_succ_eq_append_getElem hk];unfold PB;rw[List.flatMap_append,List.flatMap_singleton];simp
 ·refine Ok.iF (by dsimp only;omega) (Ok.some ?_)
  rw[hJ,Au];rfl
theorem BM.mem{c:DI}{v:List Int}(hL:jA c)(hv:BM c v):∀n∈v, -1<=n/\n<20001:=fun n hn=>by
 obtain⟨i,hi,rfl⟩:=List.getElem_of_mem hn
 have hl:=hv.len
 rcases Nat.lt_or_ge i c.2.length with h|h
 ·have:=hv.cl i h;rw[Ks hi]at this
  have:=hL.st _ (List.getElem_mem h);omega
 ·obtain⟨j,rfl⟩:∃j,i=c.2.length+j:=⟨i-c.2.length,by omega⟩
  have:=hv.fd j (by omega);rw[Ks hi]at this
  have:=hL.lb _ (List.getElem_mem (by omega:j<c.1.length));omega
theorem BM.key{c:DI}{v:List Int}{fu:Nat}(hL:jA c)(hv:BM c v)(hF:1000000000000<fu):mT fu v=some (H5 v)/\(H5 v).length<=100:=by
 have hm:=hv.mem hL
 have hl:=hv.len;have h1:=hL.nf;have h2:=hL.nc
 have hm':∀n∈v, -1<=n/\n<10000000000:=fun n hn=>by have:=hm n hn;omega
 refine⟨gK hm' (by omega) hF,?_⟩
 have:=N5 hm'
 unfold H5;rw[List.length_map];omega
end Go.GL
namespace Go.GL
open Go Go.GV Go.GK Go.Proofs
theorem FD{l:List Int}{i j:Nat}{x:Int}(h:i<l.length):(l.set i x).getD j 0=if i=j then x else l.getD j 0:=by
 rw[List.getD_eq_getElem?_getD,List.getD_eq_getElem?_getD,List.getElem?_set]
 by_cases e:i=j
 ·subst e;rw[if_pos rfl,if_pos rfl,if_pos h];rfl
 ·rw[if_neg e,if_neg e]
theorem BM.eC{c:DI}{v:List Int}(hv:BM c v){i:Nat}(hi:i<c.2.length){x:Int}(hx: -1<=x/\x<(c.2[i]).1.length):BM c (v.set i x):=by
 have hl:=hv.len
 refine⟨by rw[List.length_set];exact hl,fun k hk=>?_,fun j hj=>?_⟩
 ·rw[FD (by omega)]
  split
  ·subst_vars;exact hx
  ·exact hv.cl k hk
 ·rw[FD (by omega),if_neg (by omega)];exact hv.fd j hj
theorem BM.eB{c:DI}{v:List Int}(hv:BM c v){i:Nat}(hi:i<c.1.length){x:Int}(hx: -1<=x/\x<=(c.1[i]).1.length):BM c (v.set (c.2.length+i) x):=by
 have hl:=hv.len
 refine⟨by rw[List.length_set];exact hl,fun k hk=>?_,fun j hj=>?_⟩
 ·rw[FD (by omega),if_neg (by omega)];exact hv.cl k hk
 ·rw[FD (by omega)]
  split
  ·obtain rfl:i=j:=by omega
   exact hx
  ·exact hv.fd j hj
theorem Wd{c:DI}{v:List Int}{fu:Nat}{b:Int}(hL:jA c)(hw:∀k∈c.2,Bz k.1)(hv:BM c v)(hF:1000000000000<fu):Ok (pE fu (c,v,b)) (BM c):=by
 have h1:=hL.nf;have h2:=hL.nc;have hl:=hv.len
 rw[show pE fu (c,v,b)=_ from d62 fu c v b];unfold v_
 refine Ok.Ah (by unfold Ak;omega) ?_
 refine Ok.range (fun k (s:List Int)=>s.length=v.length/\∀i,i<k->s.getD i 0= -1) v.length ⟨by simp,fun i h=>by omega⟩ (by omega) (fun k s nx hk hJ hn=>?_) (fun s nx hJ=>?_)
 ·have hs:=hJ.1
  refine Ok.iT (by rw[List.length_replicate];dsimp only;omega) (Ok.Ag (CW (by dsimp only;omega)) (hn _ ⟨by dsimp only;rw[List.length_set];exact hs,fun i hi=>?_⟩))
  dsimp only
  rw[FD (by omega)]
  split
  ·rfl
  ·exact hJ.2 i (by omega)
 refine Ok.iF (by rw[List.length_replicate];dsimp only;omega) ?_
 have hs0:BM c s:=⟨by rw[hJ.1,hl],fun i hi=>by rw[hJ.2 i (by omega)];omega,fun j hj=>by rw[hJ.2 _ (by omega)];omega⟩
 refine Ok.range (fun k (s:List Int)=>BM c s) c.2.length hs0 (by omega) (fun k s nx hk hJ hn=>?_) (fun s nx hJ=>?_)
 ·have hc:=hv.cl k hk
  have hm:=List.getElem_mem hk
  have hed:=hL.ed _ hm
  refine Ok.iT (by dsimp only;omega) (Ok.Aw hk (Ok.Ag (CW (by omega)) (Ok.ite (fun h=>hn _ hJ) fun h=>(by
   have h:¬v.getD k 0<0:=h
   refine Ok.Ag (CW (by omega)) (Ok.Ff (Int.not_lt.1 h) hc.2 ?_)
   have hm2:(c.2[k]).1[(v.getD k 0).toNat]'(by omega)∈(c.2[k]).1:=List.getElem_mem _
   have hE:=(hw _ hm) _ hm2
   have hEl:=hed _ hm2
   dsimp only
   generalize(c.2[k]).1[(v.getD k 0).toNat]'(by omega)=st at hE hEl
   refine Ok.range (fun _ (t:List Int)=>BM c t) st.2.length hJ (by omega) (fun m t nx2 hm hT hn2=>?_) (fun t nx2 hT=>?_)
   ·have he:=hE.rg _ (List.getElem_mem hm)
    have htl:=hT.len
    refine Ok.iT (by dsimp only;omega) (Ok.Aw hm (Ok.ite (fun _=>Ok.ite (fun _=>Ok.Ag (CW (by dsimp only;omega)) (hn2 _ (hT.eC hk ⟨Int.le_trans (by decide) he.2.2.2.1,he.2.2.2.2⟩))) fun _=>hn2 _ hT) fun _=>hn2 _ hT))
   ·exact Ok.iF (by dsimp only;omega) (hn _ hT)))))
 refine Ok.iF (by dsimp only;omega) ?_
 refine Ok.range (fun k (s:List Int)=>BM c s) c.1.length hJ (by omega) (fun k s nx hk hJ hn=>?_) (fun s nx hJ=>?_)
 ·have hc:=hv.fd k hk
  have hsl:=hJ.len
  refine Ok.iT (by dsimp only;omega) (Ok.Aw hk (Ok.fit (by omega) (Ok.Ag (Hm (by omega)) (Ok.ite (fun h0=>Ok.ite (fun h3=>?_) fun _=>hn _ hJ) fun _=>hn _ hJ))))
  have h3:v.getD (c.2.length+k) 0<(c.1[k]).1.length:=h3
  have h0:0<=v.getD (c.2.length+k) 0:=h0
  have hi:EE (c.1[k]).1 (v.getD (c.2.length+k) 0)=some (((c.1[k]).1[(v.getD (c.2.length+k) 0).toNat]'(by omega)).toNat:Int):=by
   obtain⟨q,hq⟩:∃q:Nat,v.getD (c.2.length+k) 0=q:=⟨(v.getD (c.2.length+k) 0).toNat,by omega⟩
   simp only[hq];rw[Kl (by omega)];rfl
  have hlb:=hL.lb _ (List.getElem_mem hk)
  refine Ok.Ag hi (Ok.ite (fun _=>Ok.fit (by dsimp only;omega) (Ok.Ag (Hm (by dsimp only;omega)) (hn _ ?_))) fun _=>hn _ hJ)
  rw[show((c.2.length:Int)+(k:Int)).toNat=c.2.length+k by omega]
  dsimp only
  exact hJ.eB hk ⟨by omega,by omega⟩
 ·exact Ok.iF (by dsimp only;omega) (Ok.some hJ)
theorem R1{c:DI}{v:List Int}{fu:Nat}(hL:jA c)(hv:BM c v)(hF:1000000000000<fu):Ok (pF fu (c,v)) fun l=>l.length<=256:=by
 have h1:=hL.nf;have h2:=hL.nc;have hl:=hv.len
 rw[show pF fu (c,v)=_ from d61 fu c v];unfold wa
 refine Ok.range (fun _ (s:List Bool)=>s.length=257) c.2.length (by rw[List.length_set,List.length_replicate]) (by omega) (fun k s nx hk hJ hn=>?_) (fun s nx hJ=>?_)
 ·have hc:=hv.cl k hk
  have hm:=List.getElem_mem hk
  have hed:=hL.ed _ hm
  refine Ok.iT (by dsimp only;omega) (Ok.Aw hk (Ok.Ag (CW (by omega)) (Ok.ite (fun h=>hn _ hJ) fun h=>(by
   have h:¬v.getD k 0<0:=h
   refine Ok.Ag (CW (by omega)) (Ok.Ff (Int.not_lt.1 h) hc.2 ?_)
   have hm2:(c.2[k]).1[(v.getD k 0).toNat]'(by omega)∈(c.2[k]).1:=List.getElem_mem _
   have hE:=hL.bt _ hm _ hm2
   have hEl:=hed _ hm2
   dsimp only
   generalize(c.2[k]).1[(v.getD k 0).toNat]'(by omega)=st at hE hEl
   refine Ok.range (fun _ (t:List Bool)=>t.length=257) st.2.length hJ (by omega) (fun m t nx2 hm hT hn2=>?_) (fun t nx2 hT=>?_)
   ·have he:=hE _ (List.getElem_mem hm)
    refine Ok.iT (by dsimp only;omega) (Ok.Aw hm (Ok.fit (by dsimp only;omega) (Ok.Ah ⟨by dsimp only;omega,by dsimp only;omega⟩ (Ok.Ah (by dsimp only;omega) (Ok.Ah ⟨by dsimp only;omega,by dsimp only;omega⟩ (Ok.Ah (by dsimp only;omega) (hn2 _ (by dsimp only;rw[List.length_set,List.length_set];exact hT))))))))
   ·exact Ok.iF (by dsimp only;omega) (hn _ hT)))))
 refine Ok.iF (by dsimp only;omega) ?_
 refine Ok.range (fun _ (s:List Bool)=>s.length=257) c.1.length hJ (by omega) (fun k s nx hk hJ hn=>?_) (fun s nx hJ=>?_)
 ·have hc:=hv.fd k hk
  refine Ok.iT (by dsimp only;omega) (Ok.Aw hk (Ok.fit (by omega) (Ok.Ag (Hm (by omega)) (Ok.ite (fun h0=>Ok.ite (fun h3=>?_) fun _=>hn _ hJ) fun _=>hn _ hJ))))
  have h3:v.getD (c.2.length+k) 0<(c.1[k]).1.length:=h3
  have h0:0<=v.getD (c.2.length+k) 0:=h0
  have hi:EE (c.1[k]).1 (v.getD (c.2.length+k) 0)=some (((c.1[k]).1[(v.getD (c.2.length+k) 0).toNat]'(by omega)).toNat:Int):=by
   obtain⟨q,hq⟩:∃q:Nat,v.getD (c.2.length+k) 0=q:=⟨(v.getD (c.2.length+k) 0).toNat,by omega⟩
   simp only[hq];rw[Kl (by omega)];rfl
  have hb:=((c.1[k]).1[(v.getD (c.2.length+k) 0).toNat]'(by omega)).toNat_lt
  refine Ok.Ag hi (Ok.Ag hi (Ok.fit (by omega) (Ok.Ah ⟨by omega,by omega⟩ (Ok.Ah (by omega) (Ok.Ah ⟨by omega,by omega⟩ (Ok.Ah (by omega) (hn _ (by dsimp only;rw[List.length_set,List.length_set];exact hJ))))))))
 refine Ok.iF (by dsimp only;omega) ?_
 refine Ok.loop (X:=List Int×Int) (fun x=>(0<=x.2/\x.2<=256)/\(x.1.length:Int)<=x.2) (fun x=>256-x.2.toNat) ⟨by decide,by decide⟩ (by dsimp only;omega) fun x nx hx _ hn=>?_
 obtain⟨o,z⟩:=x
 obtain⟨hz,ho⟩:=hx
 dsimp only at hz ho hn
 refine Ok.ite (fun h=>?_) fun _=>Ok.some (by dsimp only;omega)
 have h:z<256:=h
 refine Ok.Ah ⟨hz.1,by dsimp only;omega⟩ ?_
 rw[show((0+Int.toNat z*1:Nat):Int)=((z.toNat:Nat):Int) by omega]
 refine Ok.Aw (by dsimp only;omega) (Ok.bif (fun _=>Ok.Ah (p:=GK.F8 z) (by unfold GK.F8;omega) (Ok.Ah (by unfold Ak;dsimp only;omega) (Ok.fit (by dsimp only;omega) (hn _ ⟨by dsimp only;omega,by dsimp only;rw[List.length_append,List.length_singleton];omega⟩ (by dsimp only;omega))))) fun _=>Ok.fit (by dsimp only;omega) (hn _ ⟨by dsimp only;omega,by dsimp only;omega⟩ (by dsimp only;omega)))
def FZ:List Nat->Nat
 | []=>1
 |n::l=>n*FZ l
def OY:List Nat->List (List Int)
 | []=>[[]]
 |n::l=>(List.range n).flatMap fun(i:Nat)=>(OY l).map fun v=>((i:Int)-1)::v
theorem Ni:∀l,(OY l).length=FZ l
 | []=>rfl
 |n::l=>by
  have:∀m,((List.range m).flatMap fun(i:Nat)=>(OY l).map fun v=>((i:Int)-1)::v).length=m*FZ l:=fun m=>by
   induction m with
   |zero=>simp
   |succ m ih=>rw[List.range_succ,List.flatMap_append,List.length_append,ih,List.flatMap_singleton,List.length_map,Ni l,Nat.succ_mul]
  exact this n
theorem NV:∀ {l:List Nat} {v:List Int},v.length=l.length->(∀i (h:i<l.length), -1<=v.getD i 0/\v.getD i 0+1<l[i])->v∈OY l
 | [],v,h,_=>by
  obtain rfl:v=[]:=List.length_eq_zero_iff.1 h
  exact List.mem_singleton.2 rf
 |n::l,[],h,_=>by simp at h
 |n::l,x::v,h,k=>by
  have h0:=k 0 (by simp)
  have h0: -1<=x/\x+1<(n:Int):=h0
  refine List.mem_flatMap.2 ⟨(x+1).toNat,List.mem_range.2 (by omega),List.mem_map.2 ⟨v,NV (by simpa using h) (fun i hi=>?_),by rw[show(((x+1).toNat:Nat):Int)-1=x by omega]⟩⟩
  exact k (i+1) (by simp;exact hi)
def GS(c:DI):List Nat:=c.2.map (fun k=>k.1.length+1)++c.1.map fun f=>f.1.length+2
theorem BM.OY{c:DI}{v:List Int}(hv:BM c v):v∈OY (GS c):=by
 refine NV (by rw[hv.len];unfold GS;simp) fun i hi=>?_
 have hi':i<c.2.length+c.1.length:=by unfold GS at hi;simpa using hi
 rcases Nat.lt_or_ge i c.2.length with h|h
 ·have:=hv.cl i h
  simp only[GS]
  rw[List.getElem_append_left (by simpa using h),List.getElem_map];omega
 ·obtain⟨j,rfl⟩:∃j,i=c.2.length+j:=⟨i-c.2.length,by omega⟩
  have:=hv.fd j (by omega)
  simp only[GS]
  rw[List.getElem_append_right (by simp),List.getElem_map]
  simp only[List.length_map,Nat.add_sub_cancel_left]
  omega
theorem X9{c:DI}{l:List Ax}(hn:l.Nodup)(h:∀x∈l,∃v,BM c v/\x=H5 v):l.length<=FZ (GS c):=by
 rw[<-Ni,<-List.length_map (f:=H5)]
 refine Cr hn fun x hx=>?_
 obtain⟨v,hv,rfl⟩:=h x hx
 exact List.mem_map.2 ⟨v,hv.OY,rf⟩
end Go.GL
namespace Go.GL
open Go Go.GV Go.GK Go.Proofs
theorem iP:1000000000000<=Ak:=by decide
structure Eu(c:DI)(m:List (Ax×Bool)):Prop where
 nd:(m.map (·.1)).Nodup
 tr:∀p∈m,p.2=true
 ky:∀p∈m,∃v,BM c v/\p.1=H5 v
theorem Eu.le{c:DI}{m:List (Ax×Bool)}(h:Eu c m):m.length<=FZ (GS c):=by
 rw[<-List.length_map (f:=fun p:Ax×Bool=>p.1)]
 refine X9 h.nd fun x hx=>?_
 obtain⟨p,hp,rfl⟩:=List.mem_map.1 hx
 exact h.ky p hp
theorem PJ{m:List (Ax×Bool)}{x:Ax}(h:Aq m x=none):x∉m.map (·.1):=by
 induction m with
 |nil=>simp
 |cons p m ih=>
  obtain⟨k,b⟩:=p
  unfold Aq at h
  split at h
  ·cases h
  ·rename_i hk
   intro hx
   rcases List.mem_cons.1 hx with hx|hx
   ·exact hk hx.symm
   ·exact ih h hx
theorem SI{m:List (Ax×Bool)}{x:Ax}{b:Bool}(h:Aq m x=some b):(x,b)∈m:=by
 induction m with
 |nil=>cases h
 |cons p m ih=>
  obtain⟨k,c⟩:=p
  unfold Aq at h
  split at h
  ·cases h;rename_i hk;subst hk;exact List.mem_cons_self ..
  ·exact List.mem_cons_of_mem _ (ih h)
theorem Eu.get{c:DI}{m:List (Ax×Bool)}(h:Eu c m){x:Ax} :Aq m x=none\/Aq m x=some true:=by
 cases hg:Aq m x with
 |none=>exact .inl rfl
 |some b=>exact .inr (congrArg some (h.tr _ (SI hg)))
theorem Eu.put{c:DI}{m:List (Ax×Bool)}(h:Eu c m){v:List Int}(hv:BM c v)(hg:Aq m (H5 v)=none):Eu c (Bk m (H5 v) true)/\(Bk m (H5 v) true).length=m.length+1:=by
 have e:Bk m (H5 v) true=m++[(H5 v,true)]:=by unfold Bk;rw[hg]
 rw[e]
 refine⟨⟨?_,fun p hp=>?_,fun p hp=>?_⟩,by simp⟩
 ·rw[List.map_append]
  refine List.pairwise_append.2 ⟨h.nd,by simp,fun a ha b hb=>?_⟩
  simp at hb;subst hb
  rintro rfl;exact PJ hg ha
 ·rcases List.mem_append.1 hp with hp|hp
  ·exact h.tr p hp
  ·rw[List.mem_singleton.1 hp]
 ·rcases List.mem_append.1 hp with hp|hp
  ·exact h.ky p hp
  ·rw[List.mem_singleton.1 hp];exact⟨v,hv,rfl⟩
theorem PR{c:DI}{fu:Nat}(hL:jA c)(hN:FZ (GS c)<=400000000000)(hF:1000000000000<fu):Ok (ta fu c) fun r=>r=true->∀k∈c.2,Bz k.1/\Cl k.1=k.1:=by
 have c308:=iP
 have h1:=hL.nf;have h2:=hL.nc
 rw[d63];unfold v8
 refine Ok.count (fun n=> ∀k∈c.2.take n,k.1≠ []/\Bz k.1/\Cl k.1=k.1) c.2.length (by simp) (by omega) (fun n nx hn hJ hnx=>?_) (fun nx hJ=>?_)
 ·have hm:=List.getElem_mem hn
  have hst:=hL.st _ hm
  refine Ok.iT (by omega) (Ok.Aw hn (Ok.ite (fun _=>Ok.some fun h=>(by cases h)) fun h0=>Ok.Ac (JF (n:=20000) (hL.bt _ hm) ⟨hst,fun s hs=>by have:=hL.ed _ hm s hs;omega⟩ (by omega) (by omega) (by omega)) fun b hb=>Ok.bif (fun _=>Ok.some fun h=>(by cases h)) fun hb'=>hnx fun k hk=>?_))
  rcases(Av hn).1 hk with h|rfl
  ·exact hJ k h
  ·exact⟨fun e=>h0 (by rw[e];rfl),hb.1 (by simpa using hb')⟩
 rw[Au]at hJ
 have hw:∀k∈c.2,Bz k.1:=fun k hk=>(hJ k hk).2.1
 have fin:∀ {b:Bool},Ok (some b) fun r=>r=true->∀k∈c.2,Bz k.1/\Cl k.1=k.1:=Ok.some fun _ k hk=>(hJ k hk).2
 have hv0:BM c (List.replicate (Int.toNat ((c.2.length:Int)+(c.1.length:Int))) 0):=by
  rw[show Int.toNat ((c.2.length:Int)+(c.1.length:Int))=c.2.length+c.1.length by omega]
  have hz:∀i,(List.replicate (c.2.length+c.1.length) (0:Int)).getD i 0=0:=fun i=>by
   rw[List.getD_eq_getElem?_getD,List.getElem?_replicate];split<;>rfl
  refine⟨by simp,fun i hi=>?_,fun j hj=>?_⟩
  ·have:=List.length_pos_iff.2 (hJ _ (List.getElem_mem hi)).1
   rw[hz];omega
  ·rw[hz];omega
 refine Ok.iF (by omega) (Ok.fit (by omega) (Ok.Ah (by omega) (Ok.Ah (by unfold Ak;omega) ?_)))
 obtain⟨hk0,hkl⟩:=hv0.key hL hF
 refine Ok.Ag (a:=List.replicate (Int.toNat ((c.2.length:Int)+(c.1.length:Int))) 0) rf (Ok.Ag hk0 (Ok.Ah ⟨by omega,by omega⟩ ?_))
 have hs0:Eu c []:=⟨by simp,by simp,by simp⟩
 obtain⟨hs1,hl1⟩:=hs0.put hv0 rfl
 refine Ok.loop (X:=List (Ax×Bool)×List (List Int)) (fun x=>Eu c x.1/\(∀v∈x.2,BM c v)/\x.2.length<=x.1.length) (fun x=>2*(FZ (GS c)-x.1.length)+x.2.length)
  ⟨hs1,fun v hv=>by rw[List.mem_singleton.1 hv];exact hv0,by dsimp only;rw[hl1];simp⟩ (by dsimp only;rw[List.length_singleton];omega) fun x nx hx _ hnx=>?_
 obtain⟨seen,todo⟩:=x
 obtain⟨hs,ht,hle⟩:=hx
 dsimp only at hs ht hle hnx
 have hsl:=hs.le
 refine Ok.ite (fun h=>?_) fun _=>fin
 have h:0<(todo.length:Int):=h
 have hpos:0<todo.length:=by omega
 have hlast:=ht _ (List.getElem_mem (by omega:todo.length-1<todo.length))
 have hix:idx todo ((todo.length:Int)-1)=some (todo[todo.length-1]'(by omega)):=by
  rw[show((todo.length:Int)-1)=((todo.length-1:Nat):Int) by omega,BN (by omega)]
 refine Ok.fit (by dsimp only;omega) (Ok.Ag hix (Ok.fit (by dsimp only;omega) (Ok.Ah ⟨by dsimp only;omega,by dsimp only;omega⟩ (Ok.Ac (Yo hL hlast hF) fun n _=>Ok.ite (fun _=>fin) fun _=>Ok.Ac (R1 hL hlast hF) fun bs hbs=>?_))))
 rw[show Int.toNat ((todo.length:Int)-1)=todo.length-1 by omega]
 have hbs:bs.length<=256:=hbs
 dsimp only
 generalize todo[todo.length-1]'(by omega)=v at hlast
 refine Ok.HS (fun k (s:List (Ax×Bool)) (t:List (List Int))=>Eu c s/\(∀v∈t,BM c v)/\t.length<=s.length/\2*(FZ (GS c)-s.length)+t.length<2*(FZ (GS c)-seen.length)+todo.length) bs.length ⟨hs,fun u hu=>ht u (List.mem_of_mem_take hu),by rw[List.length_take];omega,by rw[List.length_take];omega⟩ (by omega) (fun k s t nx2 hk hJ2 hn2=>?_) (fun s t nx2 hJ2=>?_)
 ·obtain⟨a1,a2,a3,a4⟩:=hJ2
  refine Ok.iT (by dsimp only;omega) (Ok.Aw hk (Ok.Ac (Wd hL hw hlast hF) fun u hu=>?_))
  obtain⟨e,el⟩:=hu.key hL hF
  have hsl2:=a1.le
  refine Ok.Ag e (Ok.Ah (by omega) ?_)
  dsimp only
  rcases a1.get (x:=H5 u)with hg|hg
  ·rw[hg]
   obtain⟨b1,b2⟩:=a1.put hu hg
   have b3:=b1.le
   refine Ok.T rf (Ok.Ah ⟨by omega,by omega⟩ (Ok.Ah (by omega) (hn2 _ _ ⟨b1,fun w hw=>?_,by rw[b2,List.length_append,List.length_singleton];omega,by rw[b2,List.length_append,List.length_singleton];omega⟩)))
   rcases List.mem_append.1 hw with hw|hw
   ·exact a2 w hw
   ·rw[List.mem_singleton.1 hw];exact hu
  ·rw[hg]
   exact Ok.F rf (hn2 _ _ ⟨a1,a2,a3,a4⟩)
 ·obtain⟨a1,a2,a3,a4⟩:=hJ2
  exact Ok.iF (by dsimp only;omega) (hnx _ ⟨a1,a2,a3⟩ a4)
end Go.GL
namespace Go.GL
open Go Go.GV Go.GK Go.Proofs
theorem LW:4294967296<=4294967296:=by decide
theorem Vj{fu:Nat}{n:Nat}(h:n<4294967296):s5 fu n=some []:=by
 refine(d82 fu n).trans (Ok.eq ?_)
 unfold vV
 have c35:=LW
 refine Ok.iF (by omega) (Ok.fit (by omega) (Ok.fit (by omega) (Ok.ite (fun c=>Ok.Ah (by omega) ?_) (fun _=>Ok.some rf))))
 obtain⟨k,hk⟩:∃k,Int.toNat ((n:Int)-((0:Int)-(0:Int)))=k+1:=⟨n-1,by omega⟩
 rw[hk]
 simp only[XT]
 exact Ok.Ah (by omega) (Ok.Ah ⟨by omega,by omega⟩ (Ok.some rf))
theorem PO{fu:Nat}{L:List (List Ci)}(h:L.flatten.length<1000000000)(hf:L.length<fu):pq fu L=some L.flatten:=by
 refine(d83 fu L).trans (Ok.eq ?_)
 unfold vU
 have c35:=LW
 have tk (k:Nat) (hk:k<L.length):(L.take (k+1)).flatten=(L.take k).flatten++L[k]:=by
  rw[List.take_succ_eq_append_getElem hk,List.flatten_append];simp
 have le (k:Nat):(L.take k).flatten.length<=L.flatten.length:=by
  have:=congrArg List.length (congrArg List.flatten (List.take_append_drop k L))
  rw[List.flatten_append,List.length_append]at this;omega
 refine Ok.range (fun k (s:Int)=>s=((L.take k).flatten.length:Nat)) L.length (by simp) hf ?_ ?_
 ·intro k s nx hk hs hnx
  have t:=tk k hk
  have l:=le (k+1)
  rw[t,List.length_append]at l
  refine Ok.iT (by show(k:Int)<L.length;omega) (Ok.Aw hk ?_)
  dsimp only
  refine Ok.fit (by omega) (Ok.iF (by omega) (hnx _ ?_))
  rw[t,List.length_append,hs];omega
 ·intro s nx hs
  refine Ok.iF (by show¬(L.length:Int)<L.length;omega) ?_
  rw[List.take_length]at hs
  dsimp only
  rw[hs]
  refine Ok.Ag (Vj (by omega)) ?_
  refine Ok.range (fun k out=>out=(L.take k).flatten) L.length (by simp) hf ?_ ?_
  ·intro k out nx hk ho hnx
   have t:=tk k hk
   have l:=le (k+1)
   rw[t,List.length_append]at l
   have hq:out.length+L[k].length<=4294967296:=by rw[ho];omega
   refine Ok.iT (by show(k:Int)<L.length;omega) (Ok.Aw hk (Ok.Ah hq (hnx _ ?_)))
   rw[t,ho]
  ·intro out nx ho
   refine Ok.iF (by show¬(L.length:Int)<L.length;omega) (Ok.some ?_)
   rw[ho,List.take_length]
def BQ(c:DI):List Ci:=c.1.map (·.2.2)++c.2.map (·.2)
def Bf(c:Ng):List Ci:=c.1++c.2
def kids(v:Vl):List Ci:=v.lists.flatMap Bf++v.structs.flatMap BQ
structure P5(c:DI):Prop where
 nf:c.1.length<=4
 nc:c.2.length<=4
 lb:∀f∈c.1,f.1.length<=60
 st:FZ (c.2.map fun k=>k.1.length+3)<=14641
 bt:∀k∈c.2,OT k.1
 ed:∀k∈c.2,∀s∈k.1,s.2.length<=256
theorem QB{l:List Nat}(h:∀n∈l,0<n):0<FZ l:=by
 induction l with
 |nil=>exact Nat.one_pos
 |cons n l ih=>exact Nat.mul_pos (h n (List.mem_cons_self ..)) (ih fun m hm=>h m (List.mem_cons_of_mem _ hm))
theorem QC{l:List Nat}(h:∀n∈l,0<n){n:Nat}(hn:n∈l):n<=FZ l:=by
 induction l with
 |nil=>cases hn
 |cons m l ih=>
  have hp:=QB fun k hk=>h k (List.mem_cons_of_mem _ hk)
  have hm:=h m (List.mem_cons_self ..)
  rcases List.mem_cons.1 hn with rfl|hn
  ·exact Nat.le_mul_of_pos_right _ hp
  ·exact Nat.le_trans (ih (fun k hk=>h k (List.mem_cons_of_mem _ hk)) hn) (Nat.le_mul_of_pos_left _ hm)
theorem QD(a b:List Nat):FZ (a++b)=FZ a*FZ b:=by
 induction a with
 |nil=>simp[FZ]
 |cons n a ih=>rw[List.cons_append,FZ,FZ,ih,Nat.mul_assoc]
theorem Pk{α:Type}{l:List α}{f g:α->Nat}(h:∀x∈l,f x<=g x):FZ (l.map f)<=FZ (l.map g):=by
 induction l with
 |nil=>exact Nat.le_refl _
 |cons x l ih=>exact Nat.mul_le_mul (h x (List.mem_cons_self ..)) (ih fun y hy=>h y (List.mem_cons_of_mem _ hy))
theorem Lo{α:Type}(n:Nat)(l:List α):FZ (l.map fun _=>n)=n^l.length:=by
 induction l with
 |nil=>rfl
 |cons x l ih=>rw[List.map_cons,FZ,ih,List.length_cons,Nat.pow_succ,Nat.mul_comm]
theorem P5.each{c:DI}(h:P5 c):∀k∈c.2,k.1.length<=14641:=fun k hk=>by
 have:=QC (l:=c.2.map fun k=>k.1.length+3) (fun n hn=>by obtain⟨q,_,rfl⟩:=List.mem_map.1 hn;omega) (List.mem_map.2 ⟨k,hk,rfl⟩)
 have:=h.st;omega
theorem P5.lim{c:DI}(h:P5 c):jA c:=⟨h.nf,h.nc,h.lb,fun k hk=>by have:=h.each k hk;omega,h.bt,h.ed⟩
theorem P5.GS{c:DI}(h:P5 c):FZ (GS c)<=400000000000:=by
 unfold Go.GL.GS;rw[QD]
 have h1:FZ (c.2.map fun k=>k.1.length+1)<=14641:=Nat.le_trans (Pk fun k _=>by omega) h.st
 have h2:FZ (c.1.map fun f=>f.1.length+2)<=62^c.1.length:=by rw[<-Lo 62 c.1];exact Pk fun f hf=>by have:=h.lb f hf;omega
 have h3:62^c.1.length<=62^4:=Nat.pow_le_pow_right (by decide) h.nf
 exact Nat.le_trans (Nat.mul_le_mul h1 (Nat.le_trans h2 h3)) (by decide)
def Bd:Nat->Vl->Prop
 |0,_=>False
 |d+1,v=>W5 5 12 v.sc/\(v.lists.length<=3/\∀c∈v.lists,c.1.length<=3/\c.2.length<=2)/\(v.structs.length<=3/\∀c∈v.structs,P5 c)/\∀x∈kids v,Bd d x.1/\Bd d x.2
def Li(l:List (Ax×Int×Ci)):Prop:= ∀i (h:i+1<l.length),Go.Op.bytesLess l[i].1 l[i+1].1=true
def P4:Nat->Vl->Prop
 |0,_=>False
 |d+1,v=>OQ 5 12 v.sc/\(∀c∈v.lists,c.2.length<=1)/\(∀c∈v.structs,Li c.1/\∀k∈c.2,Bz k.1/\Cl k.1=k.1)/\∀x∈kids v,P4 d x.1/\P4 d x.2
theorem DW{α β:Type}{f:α->List β}{n:Nat} :∀ {l:List α},(∀x∈l,(f x).length<=n)->(l.flatMap f).length<=l.length*n
 | [],_=>by simp
 |x::l,h=>by
  have:=DW (f:=f) (n:=n) (l:=l) fun y hy=>h y (List.mem_cons_of_mem _ hy)
  have:=h x (List.mem_cons_self ..)
  rw[List.flatMap_cons,List.length_append,List.length_cons,Nat.succ_mul];omega
theorem Bd.kids{d:Nat}{v:Vl}(h:Bd (d+1) v):(kids v).length<=39:=by
 obtain⟨_,⟨h1,h2⟩,⟨h3,h4⟩,_⟩:=h
 have a:=DW (f:=Bf) (n:=5) (l:=v.lists) fun c hc=>by have:=h2 c hc;unfold Bf;rw[List.length_append];omega
 have b:=DW (f:=BQ) (n:=8) (l:=v.structs) fun c hc=>by have:=(h4 c hc).nf;have:=(h4 c hc).nc;unfold BQ;rw[List.length_append,List.length_map,List.length_map];omega
 unfold Go.GL.kids;rw[List.length_append];omega
theorem SL{l:List (Ax×Int×Ci)}{fu:Nat}(hl:l.length<=4)(hF:1000000000000<fu):Ok (tu fu l) fun r=>r=true->Li l:=by
 rw[d36];unfold wE
 refine Ok.count (fun k=> ∀i (h:i+1<l.length),i+1<k->Go.Op.bytesLess l[i].1 l[i+1].1=true) l.length (fun i h k=>by omega) (by omega) (fun k nx hk hJ hn=>?_) (fun nx hJ=>?_)
 ·have go:Ok (bif decide ((0:Int)<(k:Int))then Ab .i64 ((k:Int)-1) (Ac (idx l ((k:Int)-1)) fun r4=>bif !Go.Op.bytesLess r4.1 l[k].1 then some false else nx (k+1))else nx (k+1)) fun r=>r=true->Li l:=by
   refine Ok.ite (fun h0=>Ok.fit (by omega) (Ok.Ff (by omega) (by omega) (Ok.bif (fun _=>Ok.some fun h=>(by cases h)) fun hb=>hn fun i hi hik=>?_))) fun h0=>hn fun i hi hik=>by omega
   rcases Nat.lt_or_ge (i+1) k with h|h
   ·exact hJ i hi h
   ·obtain rfl:k=i+1:=by omega
    have e:((i+1:Nat):Int)-1=(i:Int):=by omega
    simp only[e,Int.toNat_natCast]at hb
    simpa using hb
  refine Ok.iT (by omega) (Ok.Aw hk (Ok.ite (fun _=>Ok.ite (fun _=>Ok.some fun h=>(by cases h)) fun _=>go) fun _=>go))
 ·exact Ok.iF (by omega) (Ok.some fun _ i h=>hJ i h h)
theorem QK{s:Sc}{fu:Nat}(h1:s.2.2.2.1.1.length<=12)(h2:s.2.2.2.1.2.length<=12)(h3:s.2.2.2.2.length<=1000000):Ok (pK fu s) fun r=>r=true↔s=JB:=by
 rw[d35];unfold wF
 obtain⟨a,b,c,⟨n1,n2⟩,l⟩:=s
 dsimp only at h1 h2 h3
 have no:∀ {P:Prop},¬P->Ok (some false) fun r=>r=true↔P:=fun h=>Ok.some ⟨fun k=>(by cases k),fun k=>absurd k h⟩
 cases a with
 |true=>exact no fun h=>by cases h
 |false=>cases b with
  |true=>exact no fun h=>by cases h
  |false=>cases c with
   |true=>exact no fun h=>by cases h
   |false=>
    refine Ok.T rf (Ok.T rf (Ok.T rf (Ok.fit (by dsimp only;omega) (Ok.fit (by dsimp only;omega) (Ok.some ?_)))))
    rw[decide_eq_true_iff]
    constructor
    ·intro h
     have h:((n1.length:Int)+n2.length+l.length)=0:=h
     obtain rfl:n1=[]:=List.length_eq_zero_iff.1 (by omega)
     obtain rfl:n2=[]:=List.length_eq_zero_iff.1 (by omega)
     obtain rfl:l=[]:=List.length_eq_zero_iff.1 (by omega)
     rfl
    ·intro h;unfold JB at h;simp only[Prod.mk.injEq]at h
     obtain⟨_,_,_,⟨rfl,rfl⟩,rfl⟩:=h;rfl
end Go.GL
namespace Go.GL
open Go Go.GV Go.GK Go.Proofs
structure dI(v:Vl):Prop where
 sc:OQ 5 12 v.sc
 rs:∀c∈v.lists,c.2.length<=1
 st:∀c∈v.structs,Li c.1/\∀k∈c.2,Bz k.1/\Cl k.1=k.1
theorem Q'{d fu:Nat}{v:Vl}(h:Bd (d+1) v)(hF:1000000000000<fu):Ok (pv fu v) fun r=>r=true->dI v:=by
 obtain⟨hs,⟨l1,l2⟩,⟨s1,s2⟩,_⟩:=h
 have no:Ok (some false) fun r=>r=true->dI v:=Ok.some fun h=>by cases h
 have n1:=hs.n1;have n2:=hs.n2;have n3:=hs.sh.1
 rw[d81];unfold vW
 refine Ok.bif (fun _=>Ok.Ac (QK (by omega) (by omega) (by omega)) fun b hb=>Ok.bif (fun hb'=>Ok.fit (by omega) (Ok.some fun h=>?_)) fun _=>no) fun _=>?_
 ·have e:=hb.1 hb'
  have h:=of_decide_eq_true h
  have e1:v.lists=[]:=List.length_eq_zero_iff.1 (by omega)
  have e2:v.structs=[]:=List.length_eq_zero_iff.1 (by omega)
  exact⟨e▸GC,by rw[e1];simp,by rw[e2];simp⟩
 refine Ok.count (fun k=> ∀c∈v.lists.take k,c.2.length<=1) v.lists.length (by simp) (by omega) (fun k nx hk hJ hn=>?_) (fun nx hJ=>?_)
 ·refine Ok.iT (by omega) (Ok.Aw hk (Ok.ite (fun _=>no) fun h=>hn fun c hc=>?_))
  rcases(Av hk).1 hc with hc|rfl
  ·exact hJ c hc
  ·omega
 rw[Au]at hJ
 refine Ok.iF (by omega) ?_
 refine Ok.count (fun k=> ∀c∈v.structs.take k,Li c.1/\∀k∈c.2,Bz k.1/\Cl k.1=k.1) v.structs.length (by simp) (by omega) (fun k nx hk hJ2 hn=>?_) (fun nx hJ2=>?_)
 ·have hb:=s2 _ (List.getElem_mem hk)
  refine Ok.iT (by omega) (Ok.Aw hk (Ok.Ac (SL hb.nf hF) fun b hb1=>Ok.bif (fun _=>no) fun hb2=>Ok.Ac (PR hb.lim hb.GS hF) fun b' hb3=>Ok.bif (fun _=>no) fun hb4=>hn fun c hc=>?_))
  rcases(Av hk).1 hc with hc|rfl
  ·exact hJ2 c hc
  ·exact⟨hb1 (by simpa using hb2),hb3 (by simpa using hb4)⟩
 rw[Au]at hJ2
 refine Ok.iF (by omega) (Ok.Ac (FW hs (by omega) hF) fun b hb=>Ok.some fun h=>?_)
 have hv:=hb.1 h
 exact⟨⟨hv.1,hs.n1,hs.n2,⟨hv.2.1,hv.2.2,rf,hs.sh.1⟩⟩,hJ,hJ2⟩
theorem Fz{c:Ng}{fu:Nat}(h:c.1.length<=1000/\c.2.length<=1000)(hF:1000000000000<fu):Wr fu c=some (Bf c):=by
 refine(d84 fu c).trans (Ok.eq ?_);unfold vT
 have e:pq fu [c.1,c.2]=some (Bf c):=by
  rw[PO (by simp;omega) (by simp;omega)];simp[Bf]
 exact Ok.Ag e (Ok.some rf)
theorem TU{c:DI}{fu:Nat}(h:c.1.length<=1000/\c.2.length<=1000)(hF:1000000000000<fu):pn fu c=some (BQ c):=by
 have c35:=LW
 refine(d85 fu c).trans (Ok.eq ?_);unfold vS
 refine Ok.range (fun k (s:List Ci)=>s=(c.1.take k).map (·.2.2)) c.1.length rf (by omega) (fun k s nx hk hJ hn=>?_) (fun s nx hJ=>?_)
 ·refine Ok.iT (by dsimp only;omega) (Ok.Aw hk (Ok.Ah (by dsimp only;rw[hJ,List.length_map,List.length_take];omega) (hn _ ?_)))
  rw[hJ,List.take_succ_eq_append_getElem hk,List.map_append];rfl
 rw[Au]at hJ
 refine Ok.iF (by dsimp only;omega) ?_
 refine Ok.range (fun k (s:List Ci)=>s=c.1.map (·.2.2)++(c.2.take k).map (·.2)) c.2.length (by simp[hJ]) (by omega) (fun k s nx hk hJ2 hn=>?_) (fun s nx hJ2=>?_)
 ·refine Ok.iT (by dsimp only;omega) (Ok.Aw hk (Ok.Ah (by dsimp only;rw[hJ2,List.length_append,List.length_map,List.length_map,List.length_take];omega) (hn _ ?_)))
  rw[hJ2,List.take_succ_eq_append_getElem hk,List.map_append,<-List.append_assoc];rfl
 ·refine Ok.iF (by dsimp only;omega) (Ok.some ?_)
  rw[hJ2,Au];rfl
theorem Q0{d fu:Nat}{v:Vl}(h:Bd (d+1) v)(hF:1000000000000<fu):pk fu v=some (kids v):=by
 have c35:=LW
 obtain⟨_,⟨l1,l2⟩,⟨s1,s2⟩,_⟩:=h
 have la:∀k,((v.lists.take k).flatMap Bf).length<=15:=fun k=>by
  have:=DW (f:=Bf) (n:=5) (l:=v.lists.take k) fun c hc=>by have:=l2 c (List.mem_of_mem_take hc);unfold Bf;rw[List.length_append];omega
  rw[List.length_take]at this;omega
 have lb:∀k,((v.structs.take k).flatMap BQ).length<=24:=fun k=>by
  have:=DW (f:=BQ) (n:=8) (l:=v.structs.take k) fun c hc=>by have:=(s2 c (List.mem_of_mem_take hc)).nf;have:=(s2 c (List.mem_of_mem_take hc)).nc;unfold BQ;rw[List.length_append,List.length_map,List.length_map];omega
  rw[List.length_take]at this;omega
 refine(d86 fu v).trans (Ok.eq ?_);unfold vR
 refine Ok.range (fun k (s:List Ci)=>s=(v.lists.take k).flatMap Bf) v.lists.length rf (by omega) (fun k s nx hk hJ hn=>?_) (fun s nx hJ=>?_)
 ·have hc:=l2 _ (List.getElem_mem hk)
  have e:(v.lists.take (k+1)).flatMap Bf=s++Bf v.lists[k]:=by rw[hJ,List.take_succ_eq_append_getElem hk,List.flatMap_append,List.flatMap_singleton]
  have:=la (k+1);rw[e,List.length_append]at this
  have e84:Wr fu v.lists[k]=some (Bf v.lists[k]):=Fz (by omega) hF
  refine Ok.iT (by dsimp only;omega) (Ok.Aw hk (Ok.Ag e84 (Ok.Ah (by dsimp only;omega) (hn _ e.symm))))
 rw[Au]at hJ
 refine Ok.iF (by dsimp only;omega) ?_
 refine Ok.range (fun k (s:List Ci)=>s=v.lists.flatMap Bf++(v.structs.take k).flatMap BQ) v.structs.length (by simp[hJ]) (by omega) (fun k s nx hk hJ2 hn=>?_) (fun s nx hJ2=>?_)
 ·have hc:=s2 _ (List.getElem_mem hk)
  have h1:=hc.nf;have h2:=hc.nc
  have e:v.lists.flatMap Bf++(v.structs.take (k+1)).flatMap BQ=s++BQ v.structs[k]:=by rw[hJ2,List.take_succ_eq_append_getElem hk,List.flatMap_append,List.flatMap_singleton,List.append_assoc]
  have a:=la v.lists.length;rw[Au]at a
  have b:=lb (k+1)
  have:=congrArg List.length e;rw[List.length_append,List.length_append]at this
  have e85:pn fu v.structs[k]=some (BQ v.structs[k]):=TU (by omega) hF
  refine Ok.iT (by dsimp only;omega) (Ok.Aw hk (Ok.Ag e85 (Ok.Ah (by dsimp only;omega) (hn _ e.symm))))
 ·refine Ok.iF (by dsimp only;omega) (Ok.some ?_)
  rw[hJ2,Au];rfl
def Er:Nat->Nat
 |0=>0
 |d+1=>1+78*Er d
theorem G8:∀ {d fu:Nat} {v:Vl} {lv n dp:Int} {b:Bool},Bd d v->1000000000000+d<fu->(1<=lv/\lv+d<=1000)->(0<=n/\n+Er d<=1000000000000)->(0<=dp/\dp<=1000)->
  Ok (jH fu (v,lv,n,dp,b)) fun r=>(0<=r.1/\r.1<=n+Er d)/\(0<=r.2.1/\r.2.1<=1000)/\(r.2.2=false->b=false/\P4 d v)
 |0,_,_,_,_,_,_,h,_,_,_,_=>h.elim
 |d+1,0,_,_,_,_,_,_,h,_,_,_=>by omega
 |d+1,fu+1,v,lv,n,dp,b,h,hF,hlv,hn,hdp=>by
  have hc:Er (d+1)=1+78*Er d:=rfl
  rw[show jH (fu+1) (v,lv,n,dp,b)=_ from d88 fu v lv n dp b];unfold zN
  have e87:s4 fu (lv,n,dp,b)=some (n+1,(if dp<lv then lv else dp),b):=by
   refine(d87 fu lv n dp b).trans (Ok.eq ?_);unfold vQ
   exact Ok.fit (by omega) (Ok.fit (by split<;>omega) (Ok.some rf))
  have hdp':0<=(if dp<lv then lv else dp)/\(if dp<lv then lv else dp)<=1000:=by split<;>omega
  refine Ok.Ag e87 ?_
  dsimp only
  generalize(if dp<lv then lv else dp)=dp' at hdp'
  have bad:Ok (some (n+1,dp',true)) fun r=>(0<=r.1/\r.1<=n+Er (d+1))/\(0<=r.2.1/\r.2.1<=1000)/\(r.2.2=false->b=false/\P4 (d+1) v):=
   Ok.some ⟨⟨by dsimp only;omega,by dsimp only;omega⟩,hdp',fun h=>by cases h⟩
  refine Ok.ite (fun _=>bad) fun _=>Ok.Ac (Q' h (by omega)) fun g hg=>Ok.bif (fun _=>bad) fun hg'=>Ok.Ag (Q0 h (by omega)) ?_
  have hgv:=hg (by simpa using hg')
  have hk39:=h.kids
  have hkb:=h.2.2.2
  refine Ok.Ph (fun k (x:Int) (y:Int) (z:Bool)=>(0<=x/\x<=n+1+((2*k*Er d:Nat):Int))/\(0<=y/\y<=1000)/\(z=false->b=false/\∀w∈(kids v).take k,P4 d w.1/\P4 d w.2)) (kids v).length ⟨⟨by omega,by simp⟩,hdp',fun h=>⟨h,by simp⟩⟩ (by omega) (fun k x y z nx hk hJ hnx=>?_) (fun x y z nx hJ=>?_)
  ·obtain⟨hx,hy,hz⟩:=hJ
   have hw:=hkb _ (List.getElem_mem hk)
   have hkc:2*k*Er d<=76*Er d:=Nat.mul_le_mul_right _ (by omega)
   have hkc':2*(k+1)*Er d=2*k*Er d+2*Er d:=by rw[Nat.mul_add,Nat.add_mul]
   refine Ok.iT (by dsimp only;omega) (Ok.Aw hk (Ok.fit (by omega) (Ok.Ac (G8 hw.1 (by omega) (by omega) (by dsimp only;omega) hy) fun r hr=>?_)))
   dsimp only at hr
   obtain⟨r1,r2,r3⟩:=hr
   refine Ok.fit (by omega) (Ok.Ac (G8 hw.2 (by omega) (by omega) (by omega) r2) fun s hs=>?_)
   obtain⟨s1,s2,s3⟩:=hs
   refine hnx _ _ _ ⟨⟨s1.1,by rw[hkc'];omega⟩,s2,fun hs=>?_⟩
   obtain⟨t1,t2⟩:=s3 hs
   obtain⟨u1,u2⟩:=r3 t1
   obtain⟨v1,v2⟩:=hz u1
   refine⟨v1,fun w hw=>?_⟩
   rcases(Av hk).1 hw with hw|rfl
   ·exact v2 w hw
   ·exact⟨u2,t2⟩
  ·obtain⟨hx,hy,hz⟩:=hJ
   have hkc:2*(kids v).length*Er d<=78*Er d:=Nat.mul_le_mul_right _ (by omega)
   refine Ok.iF (by dsimp only;omega) (Ok.some ⟨⟨hx.1,by dsimp only;omega⟩,hy,fun h=>?_⟩)
   obtain⟨h1,h2⟩:=hz h
   rw[Au]at h2
   exact⟨h1,hgv.sc,hgv.rs,hgv.st,h2⟩
theorem G_{d fu:Nat}{v:Vl}(h:Bd d v)(hd:d<=3)(hF:1000000001000<fu):Ok (jG fu v) fun r=>r=true->P4 d v:=by
 have hd0:d≠0:=by rintro rfl;exact h.elim
 obtain⟨d,rfl⟩:∃e,d=e+1:=⟨d-1,by omega⟩
 have hc:Er d<=6163:=by
  rcases(by omega:d=0\/d=1\/d=2)with rfl|rfl|rfl<;>decide
 have key:Ok (pj fu (v,1,(0,0),false)) fun r=>r.2.2=false->P4 (d+1) v:=by
  rw[show pj fu (v,1,(0,0),false)=_ from d89 fu v 1 ((0,0),false)];unfold vP
  have e34:tv fu (1,((0,0),false))=some (1,1,false):=by
   refine(d34 fu 1 ((0,0),false)).trans (Ok.eq ?_);unfold wG
   exact Ok.fit (by decide) (Ok.fit (by decide) (Ok.some rf))
  refine Ok.Ag e34 ?_
  have bad:Ok (some ((1:Int),(1:Int),true)) fun r=>r.2.2=false->P4 (d+1) v:=Ok.some fun h=>by cases h
  refine Ok.ite (fun _=>bad) fun _=>Ok.Ac (Q' h (by omega)) fun g hg=>Ok.bif (fun _=>bad) fun hg'=>Ok.Ag (Q0 h (by omega)) ?_
  have hgv:=hg (by simpa using hg')
  have hk39:=h.kids
  have hkb:=h.2.2.2
  refine Ok.Ph (fun k (x:Int) (y:Int) (z:Bool)=>(0<=x/\x<=1+((2*k*Er d:Nat):Int))/\(0<=y/\y<=1000)/\(z=false->∀w∈(kids v).take k,P4 d w.1/\P4 d w.2)) (kids v).length ⟨⟨by decide,by simp⟩,⟨by decide,by decide⟩,fun h=>by simp⟩ (by omega) (fun k x y z nx hk hJ hnx=>?_) (fun x y z nx hJ=>?_)
  ·obtain⟨hx,hy,hz⟩:=hJ
   have hw:=hkb _ (List.getElem_mem hk)
   have hkc:2*k*Er d<=76*Er d:=Nat.mul_le_mul_right _ (by omega)
   have hkc':2*(k+1)*Er d=2*k*Er d+2*Er d:=by rw[Nat.mul_add,Nat.add_mul]
   refine Ok.iT (by dsimp only;omega) (Ok.Aw hk (Ok.fit (by omega) (Ok.Ac (G8 hw.1 (by omega) (by omega) (by dsimp only;omega) hy) fun r hr=>?_)))
   dsimp only at hr
   obtain⟨r1,r2,r3⟩:=hr
   refine Ok.fit (by omega) (Ok.Ac (G8 hw.2 (by omega) (by omega) (by omega) r2) fun s hs=>?_)
   obtain⟨s1,s2,s3⟩:=hs
   refine hnx _ _ _ ⟨⟨s1.1,by rw[hkc'];omega⟩,s2,fun hs=>?_⟩
   obtain⟨t1,t2⟩:=s3 hs
   obtain⟨u1,u2⟩:=r3 t1
   have v2:=hz u1
   intro w hw
   rcases(Av hk).1 hw with hw|rfl
   ·exact v2 w hw
   ·exact⟨u2,t2⟩
  ·obtain⟨hx,hy,hz⟩:=hJ
   refine Ok.iF (by dsimp only;omega) (Ok.some fun h=>?_)
   have h2:=hz h
   rw[Au]at h2
   exact⟨hgv.sc,hgv.rs,hgv.st,h2⟩
 rw[d91];unfold vN
 have e90:Ok (sZ fu v) fun r=>r.2.2=false->P4 (d+1) v:=by
  rw[d90];unfold vO
  exact Ok.Ac key fun r hr=>Ok.some hr
 exact Ok.Ac e90 fun r hr=>Ok.some fun h=>hr (by simpa using h)
theorem R3{d fu:Nat}{x:Ci}(h:Bd d x.1/\Bd d x.2)(hd:d<=3)(hF:1000000001000<fu):Ok (ph fu x) fun r=>r=true->P4 d x.1/\P4 d x.2:=by
 rw[d92];unfold vM
 refine Ok.Ac (G_ h.1 hd hF) fun a ha=>Ok.bif (fun h1=>Ok.Ac (G_ h.2 hd hF) fun b hb=>Ok.some fun h2=>⟨ha h1,hb h2⟩) fun _=>Ok.some fun h=>by cases h
end Go.GL
namespace Go.GL
open Go Go.GV Go.GK Go.Proofs
theorem Ih{α:Type}{a b:List α}{f:α->α->Option Bool}{fu:Nat}(hf:a.length<fu)(h:∀i (h1:i<a.length) (h2:i<b.length),Ok (f a[i] b[i]) fun r=>r=true↔a[i]=b[i]):
  Ok (bif decide ((a.length:Int)≠(b.length:Int))then some false else Ad fu (fun(z1:Nat) nx2=>bif decide ((z1:Int)<(a.length:Int))then Ac (idx a (z1:Int)) fun r3=>Ac (idx b (z1:Int)) fun r4=>Ac (f r3 r4) fun r5=>bif !r5 then some false else nx2 (z1+1)else some true) 0) fun r=>r=true↔a=b:=by
 have no:a≠b->Ok (some false) fun r=>r=true↔a=b:=fun h=>Ok.some ⟨fun k=>(by cases k),fun k=>absurd k h⟩
 refine Ok.ite (fun h=>no (by rintro rfl;exact h rfl)) fun hl=>?_
 have hl:a.length=b.length:=by omega
 refine Ok.count (fun k=> ∀i (h1:i<a.length),i<k->a[i]=b[i]'(by omega)) a.length (fun i _ h=>by omega) hf (fun k nx hk hJ hn=>?_) (fun nx hJ=>?_)
 ·refine Ok.iT (by omega) (Ok.Aw hk (Ok.Aw (by omega) (Ok.Ac (h k hk (by omega)) fun r hr=>Ok.bif (fun h2=>no ?_) fun h2=>hn fun i hi hik=>?_)))
  ·intro e
   have:r=true:=hr.2 (by simp only[e])
   subst this;cases h2
  ·rcases Nat.lt_or_ge i k with h3|h3
   ·exact hJ i hi h3
   ·obtain rfl:i=k:=by omega
    exact hr.1 (by simpa using h2)
 ·exact Ok.iF (by omega) (Ok.some ⟨fun _=>List.ext_getElem hl fun i h1 h2=>hJ i h1 h1,fun _=>rfl⟩)
theorem Vl.ext'{v w:Vl}(h1:v.any=w.any)(h2:v.sc=w.sc)(h3:v.lists=w.lists)(h4:v.structs=w.structs):v=w:=by
 cases v;cases w
 simp only[Vl.any,Vl.sc,Vl.lists,Vl.structs]at h1 h2 h3 h4
 subst h1 h2 h3 h4;rfl
theorem EN{a b:Bool} :(a==b)=true↔a=b:=by cases a<;>cases b<;>simp
theorem R8{x y:Sc}{k m k' m' fu:Nat}(hx:W5 k m x)(hy:W5 k' m' y)(hm:m<=100000000/\m'<=100000000)(hF:1000000000000<fu):Ok (WQ fu (x,y)) fun r=>r=true↔x=y:=by
 obtain⟨a,b,c,⟨n1,n2⟩,l⟩:=x
 obtain⟨a',b',c',⟨n1',n2'⟩,l'⟩:=y
 have no:∀ {P:Prop},¬P->Ok (some false) fun r=>r=true↔P:=fun h=>Ok.some ⟨fun k=>(by cases k),fun k=>absurd k h⟩
 have h1:=hx.sm.n1;have h2:=hx.sm.n2
 rw[show WQ fu _=_ from d128 fu _ _];unfold lJ
 simp only[Prod.mk.injEq]
 dsimp only at h1 h2⊢
 refine Ok.bif (fun ha=>Ok.bif (fun hb=>Ok.bif (fun hc=>Ok.Ag (sA (by omega)) (Ok.ite (fun hn=>Ok.Ag (sA (by omega)) (Ok.ite (fun hn2=>Ok.Ac (Q:=fun r=>r=true↔l=l') ?_ fun r hr=>Ok.some ?_) fun h=>no fun k=>h k.2.2.2.1.2)) fun h=>no fun k=>h k.2.2.2.1.1)) fun h=>no fun k=>?_) fun h=>no fun k=>?_) fun h=>no fun k=>?_
 ·have s1:=hx.sh;have s2:=hy.sh
  exact Iq (n:=max m m') ⟨Nat.le_trans s1.1 (by omega),fun s hs=>Nat.le_trans (s1.2 s hs) (by omega)⟩ (by omega)
 ·rw[hr]
  exact⟨fun h=>⟨EN.1 ha,EN.1 hb,EN.1 hc,⟨hn,hn2⟩,h⟩,fun h=>h.2.2.2.2⟩
 ·rw[EN.2 k.2.2.1]at h;cases h
 ·rw[EN.2 k.2.1]at h;cases h
 ·rw[EN.2 k.1]at h;cases h
end Go.GL
namespace Go.GL
open Go Go.GV Go.GK Go.Proofs
def Lh(d:Nat)(x:Ci):Prop:=Bd d x.1/\Bd d x.2
theorem Bd.lv{d:Nat}{v:Vl}(h:Bd (d+1) v){c:Ng}(hc:c∈v.lists):∀x∈Bf c,Lh d x:=fun x hx=>
 h.2.2.2 x (List.mem_append.2 (.inl (List.mem_flatMap.2 ⟨c,hc,hx⟩)))
theorem Bd.sv{d:Nat}{v:Vl}(h:Bd (d+1) v){c:DI}(hc:c∈v.structs):∀x∈BQ c,Lh d x:=fun x hx=>
 h.2.2.2 x (List.mem_append.2 (.inr (List.mem_flatMap.2 ⟨c,hc,hx⟩)))
theorem ED{P:Prop}(h:¬P):Ok (some false) fun r=>r=true↔P:=Ok.some ⟨fun k=>(by cases k),fun k=>absurd k h⟩
theorem Je:∀ {d fu:Nat} {v w:Vl},Bd d v->Bd d w->1000000000000+10*d<fu->Ok (WO fu (v,w)) fun r=>r=true↔v=w
 |0,_,_,_,h,_,_=>h.elim
 |d+1,fu,v,w,hv,hw,hF=>by
  obtain⟨f,rfl⟩:∃f,fu=f+5:=⟨fu-5,by omega⟩
  have sv:∀ {g:Nat} {x y:Ci},Lh d x->Lh d y->1000000000000+10*d+1<g->Ok (KW g (x,y)) fun r=>r=true↔x=y:=fun{g x y} hx hy hg=>by
   obtain⟨e,rfl⟩:∃e,g=e+1:=⟨g-1,by omega⟩
   rw[show KW (e+1) (x,y)=_ from d136 e x y];unfold lI
   refine Ok.Ac (Je hx.1 hy.1 (by omega)) fun r hr=>Ok.bif (fun h=>Ok.Ac (Je hx.2 hy.2 (by omega)) fun s hs=>Ok.some ?_) fun h=>ED fun e=>?_
   ·rw[hs,Prod.ext_iff];exact⟨fun k=>⟨hr.1 h,k⟩,And.right⟩
   ·rw[hr.2 (congrArg Prod.fst e)]at h;cases h
  obtain⟨a1,⟨a2,a3⟩,⟨a4,a5⟩,_⟩:=id hv
  obtain⟨b1,⟨b2,b3⟩,⟨b4,b5⟩,_⟩:=id hw
  rw[show WO (f+5) (v,w)=_ from d135 (f+4) v w];unfold qY
  refine Ok.bif (fun h=>ED fun e=>?_) fun hany=>Ok.Ac (R8 a1 b1 (by omega) (by omega)) fun r hr=>Ok.bif (fun h=>ED fun e=>?_) fun hsc=>Ok.ite (fun h=>ED fun e=>h (by rw[e])) fun hll=>Ok.ite (fun h=>ED fun e=>h (by rw[e])) fun hsl=>?_
  ·subst e;simp at h
  ·rw[hr.2 (by rw[e])]at h;cases h
  have hany:v.any=w.any:=by simpa using hany
  have hsc:v.sc=w.sc:=hr.1 (by simpa using hsc)
  have hll:v.lists.length=w.lists.length:=by omega
  have hsl:v.structs.length=w.structs.length:=by omega
  refine Ok.count (fun k=> ∀i (h:i<v.lists.length),i<k->v.lists[i]=w.lists[i]'(by omega)) v.lists.length (fun i _ h=>by omega) (by omega) (fun k nx hk hJ hn=>?_) (fun nx hJ=>?_)
  ·have m1:=List.getElem_mem hk
   have m2:=List.getElem_mem (show k<w.lists.length by omega)
   have q1:=a3 _ m1;have q2:=b3 _ m2
   have e1:Wr (f+4) v.lists[k]=some (Bf v.lists[k]):=Fz (by omega) (by omega)
   have e2:Wr (f+4) (w.lists[k]'(by omega))=some (Bf (w.lists[k]'(by omega))):=Fz (by omega) (by omega)
   have ne:v.lists[k]≠w.lists[k]'(by omega)->¬v=w:=fun h e=>h (by simp only[e])
   refine Ok.iT (by omega) (Ok.Aw hk (Ok.Aw (by omega) (Ok.ite (fun h=>ED (ne fun e=>h (by rw[e]))) fun hl1=>Ok.Ag e1 (Ok.Ag e2 (Ok.Ac (Q:=fun r=>r=true↔Bf v.lists[k]=Bf (w.lists[k]'(by omega))) ?_ fun r hr=>Ok.bif (fun h=>ED (ne fun e=>?_)) fun h=>hn fun i hi hik=>?_)))))
   ·rw[show j7 (f+4) (Bf v.lists[k],Bf (w.lists[k]'(by omega)))=_ from d129 (f+3) _ _];unfold rj
    refine Ih (f:=fun x y=>KW (f+3) (x,y)) (by unfold Bf;rw[List.length_append];omega) fun i h1 h2=>sv (hv.lv m1 _ (List.getElem_mem h1)) (hw.lv m2 _ (List.getElem_mem h2)) (by omega)
   ·rw[hr.2 (by rw[e])]at h;cases h
   ·rcases Nat.lt_or_ge i k with h3|h3
    ·exact hJ i hi h3
    ·obtain rfl:i=k:=by omega
     have hr:=hr.1 (by simpa using h)
     have hl1:(v.lists[i]).1.length=(w.lists[i]'(by omega)).1.length:=by omega
     exact Prod.ext (List.append_inj hr hl1).1 (List.append_inj hr hl1).2
  have hL:v.lists=w.lists:=List.ext_getElem hll fun i h1 h2=>hJ i h1 h1
  refine Ok.iF (by omega) ?_
  refine Ok.count (fun k=> ∀i (h:i<v.structs.length),i<k->v.structs[i]=w.structs[i]'(by omega)) v.structs.length (fun i _ h=>by omega) (by omega) (fun k nx hk hJ hn=>?_) (fun nx hJ=>?_)
  ·have m1:=List.getElem_mem hk
   have m2:=List.getElem_mem (show k<w.structs.length by omega)
   have q1:=a5 _ m1;have q2:=b5 _ m2
   have n1:=q1.nf;have n2:=q1.nc
   have ne:v.structs[k]≠w.structs[k]'(by omega)->¬v=w:=fun h e=>h (by simp only[e])
   refine Ok.iT (by omega) (Ok.Aw hk (Ok.Aw (by omega) (Ok.Ac (Q:=fun r=>r=true↔v.structs[k]=w.structs[k]'(by omega)) ?_ fun r hr=>Ok.bif (fun h=>ED (ne fun e=>?_)) fun h=>hn fun i hi hik=>?_)))
   ·rw[show jZ (f+4) (v.structs[k],w.structs[k]'(by omega))=_ from d134 (f+3) _ _];unfold qZ
    refine Ok.Ac (Q:=fun r=>r=true↔(v.structs[k]).1=(w.structs[k]'(by omega)).1) ?_ fun r hr=>Ok.bif (fun h=>Ok.Ac (Q:=fun r=>r=true↔(v.structs[k]).2=(w.structs[k]'(by omega)).2) ?_ fun s hs=>Ok.some ?_) fun h=>ED fun e=>?_
    ·rw[show j6 (f+3) ((v.structs[k]).1,(w.structs[k]'(by omega)).1)=_ from d131 (f+2) _ _];unfold rh
     refine Ih (f:=fun x y=>aq (f+2) (x,y)) (by omega) fun i h1 h2=>?_
     rw[show aq (f+2) ((v.structs[k]).1[i],(w.structs[k]'(by omega)).1[i])=_ from d130 (f+1) _ _];unfold ri
     have x1:=hv.sv m1 _ (List.mem_append.2 (.inl (List.mem_map.2 ⟨_,List.getElem_mem h1,rfl⟩)))
     have x2:=hw.sv m2 _ (List.mem_append.2 (.inl (List.mem_map.2 ⟨_,List.getElem_mem h2,rfl⟩)))
     refine Ok.ite (fun k1=>Ok.ite (fun k2=>Ok.Ac (sv x1 x2 (by omega)) fun r hr=>Ok.some ?_) fun h=>ED fun e=>h (by rw[e])) fun h=>ED fun e=>h (by rw[e])
     rw[hr];exact⟨fun k3=>Prod.ext k1 (Prod.ext k2 k3),fun e=>by rw[e]⟩
    ·rw[show j0 (f+3) ((v.structs[k]).2,(w.structs[k]'(by omega)).2)=_ from d133 (f+2) _ _];unfold q_
     refine Ih (f:=fun x y=>ao (f+2) (x,y)) (by omega) fun i h1 h2=>?_
     rw[show ao (f+2) ((v.structs[k]).2[i],(w.structs[k]'(by omega)).2[i])=_ from d132 (f+1) _ _];unfold ra
     have x1:=hv.sv m1 _ (List.mem_append.2 (.inr (List.mem_map.2 ⟨_,List.getElem_mem h1,rfl⟩)))
     have x2:=hw.sv m2 _ (List.mem_append.2 (.inr (List.mem_map.2 ⟨_,List.getElem_mem h2,rfl⟩)))
     have y1:=q1.each _ (List.getElem_mem h1)
     have y2:=q1.ed _ (List.getElem_mem h1)
     refine Ok.Ac (Iq (n:=14641) ⟨y1,fun s hs=>by have:=y2 s hs;omega⟩ (by omega)) fun r hr=>Ok.bif (fun h=>Ok.Ac (sv x1 x2 (by omega)) fun s hs=>Ok.some ?_) fun h=>ED fun e=>?_
     ·rw[hs];exact⟨fun k3=>Prod.ext (hr.1 h) k3,fun e=>by rw[e]⟩
     ·rw[hr.2 (by rw[e])]at h;cases h
    ·rw[hs];exact⟨fun k3=>Prod.ext (hr.1 h) k3,fun e=>by rw[e]⟩
    ·rw[hr.2 (by rw[e])]at h;cases h
   ·rw[hr.2 e]at h;cases h
   ·rcases Nat.lt_or_ge i k with h3|h3
    ·exact hJ i hi h3
    ·obtain rfl:i=k:=by omega
     exact hr.1 (by simpa using h)
  ·have hS:v.structs=w.structs:=List.ext_getElem hsl fun i h1 h2=>hJ i h1 h1
   exact Ok.iF (by omega) (Ok.some ⟨fun _=>Vl.ext' hany hsc hL hS,fun _=>rfl⟩)
theorem T6{d fu:Nat}{x y:Ci}(hx:Lh d x)(hy:Lh d y)(hF:1000000000000+10*d+1<fu):Ok (KW fu (x,y)) fun r=>r=true↔x=y:=by
 obtain⟨e,rfl⟩:∃e,fu=e+1:=⟨fu-1,by omega⟩
 rw[show KW (e+1) (x,y)=_ from d136 e x y];unfold lI
 refine Ok.Ac (Je hx.1 hy.1 (by omega)) fun r hr=>Ok.bif (fun h=>Ok.Ac (Je hx.2 hy.2 (by omega)) fun s hs=>Ok.some ?_) fun h=>ED fun e=>?_
 ·rw[hs,Prod.ext_iff];exact⟨fun k=>⟨hr.1 h,k⟩,And.right⟩
 ·rw[hr.2 (congrArg Prod.fst e)]at h;cases h
theorem JO{d fu:Nat}{x y:Ci}(hx:Lh d x)(hy:Lh d y)(hF:1000000000000+10*d+1<fu):Ok (Qd fu (x,y)) fun r=>r=true↔x=y:=by
 rw[show Qd fu (x,y)=_ from d137 fu x y];unfold lH
 exact Ok.Ac (T6 hx hy hF) fun r hr=>Ok.some hr
end Go.GL
namespace Go.GL
open Go Go.GV Go.GK Go.Proofs
def v0:Vl:= .mk false JB [] []
def NB(v:Vl):Prop:=v.any=true\/v.lists≠ []\/v.structs≠ []\/v.sc≠JB
def SB(d:Nat)(v:Vl):Prop:=Bd d v/\P4 d v
def SX(d:Nat)(x:Ci):Prop:=SB d x.1/\SB d x.2
theorem SX.bd{d:Nat}{x:Ci}(h:SX d x):Lh d x:=⟨h.1.1,h.2.1⟩
theorem G9(d:Nat):SB (d+1) v0:=by
 have z:=(GC (k:=5) (m:=0)).sc (by decide)
 refine⟨⟨⟨z.sm,z.n1,z.n2,z.bt,by simp[HF,v0,JB,Vl.sc]⟩,⟨Nat.zero_le _,?_⟩,⟨Nat.zero_le _,?_⟩,?_⟩,⟨GC,?_,?_,?_⟩⟩<;>intro c h<;>cases h
theorem SB.lv{d:Nat}{v:Vl}(h:SB (d+1) v){c:Ng}(hc:c∈v.lists):∀x∈Bf c,SX d x:=fun x hx=>by
 have hm:=List.mem_append.2 (.inl (List.mem_flatMap.2 ⟨c,hc,hx⟩):x∈v.lists.flatMap Bf\/x∈v.structs.flatMap BQ)
 have a:=h.1.2.2.2 x hm;have b:=h.2.2.2.2 x hm
 exact⟨⟨a.1,b.1⟩,a.2,b.2⟩
theorem SB.sv{d:Nat}{v:Vl}(h:SB (d+1) v){c:DI}(hc:c∈v.structs):∀x∈BQ c,SX d x:=fun x hx=>by
 have hm:=List.mem_append.2 (.inr (List.mem_flatMap.2 ⟨c,hc,hx⟩):x∈v.lists.flatMap Bf\/x∈v.structs.flatMap BQ)
 have a:=h.1.2.2.2 x hm;have b:=h.2.2.2.2 x hm
 exact⟨⟨a.1,b.1⟩,a.2,b.2⟩
theorem CL{d fu:Nat}{v:Vl}(h:SB d v)(hF:1000000000000<fu):Ok (M' fu v) fun r=>r=true↔¬NB v:=by
 cases d with
 |zero=>exact h.1.elim
 |succ d=>
  obtain⟨⟨hs,⟨l1,_⟩,⟨s1,_⟩,_⟩,hv,_⟩:=h
  have n1:=hs.n1;have n2:=hs.n2;have n3:=hs.sh.1
  have no:NB v->Ok (some false) fun r=>r=true↔¬NB v:=fun k=>Ok.some ⟨fun h=>(by cases h),fun h=>absurd k h⟩
  rw[d127];unfold lK
  refine Ok.bif (fun ha=>Ok.fit (by omega) (Ok.ite (fun hl=>Ok.Ac (QK (by omega) (by omega) (by omega)) fun r hr=>?_) fun hl=>no ?_)) fun ha=>no (.inl (by simpa using ha))
  ·have ha:v.any=false:=by simpa using ha
   have e1:v.lists=[]:=List.length_eq_zero_iff.1 (by omega)
   have e2:v.structs=[]:=List.length_eq_zero_iff.1 (by omega)
   have iff:v.sc=JB↔¬NB v:=by
    unfold NB;rw[ha,e1,e2];simp
   refine Ok.bif (fun h=>Ok.some ?_) fun _=>Ok.Ac (GR hv (by omega) (by omega) hF) fun s hs=>Ok.some (hs.trans iff)
   exact⟨fun _=>iff.1 (hr.1 h),fun _=>rfl⟩
  ·by_cases e1:v.lists=[]
   ·refine .inr (.inr (.inl fun e2=>hl ?_));rw[e1,e2];rfl
   ·exact .inr (.inl e1)
noncomputable def vw(c:DI)(s:Ax):Ci×Int:=match c.1.find? (fun f=>decide (f.1=s))with
 |some f=>(f.2.2,f.2.1)
 |none=>match c.2.find? (fun k=>Lc k.1 s)with
  |some k=>(k.2,3)
  |none=>((v0,v0),3)
theorem L8{c:DI}{s:Ax}{fu:Nat}(h:P5 c)(hs:s.length<=1000)(hF:1000000000000<fu):OR fu (c,s)=some (vw c s):=by
 have n1:=h.nf;have n2:=h.nc
 refine(d175 fu c s).trans (Ok.eq ?_);unfold kU
 refine Ok.count (fun k=> ∀i (hi:i<c.1.length),i<k->decide (c.1[i].1=s)=false) c.1.length (fun i _ h=>by omega) (by omega) (fun k nx hk hJ hn=>?_) (fun nx hJ=>?_)
 ·refine Ok.iT (by omega) (Ok.Aw hk (Ok.ite (fun he=>Ok.some ?_) fun he=>hn fun i hi hik=>?_))
  ·have e:c.1.find? (fun f=>decide (f.1=s))=some c.1[k]:=List.find?_eq_some_iff_getElem.2 ⟨decide_eq_true he,k,hk,rfl,fun j hj=>by simp only[hJ j (by omega) hj];rfl⟩
   unfold vw;rw[e]
  ·rcases Nat.lt_or_ge i k with h3|h3
   ·exact hJ i hi h3
   ·obtain rfl:i=k:=by omega
    exact decide_eq_false he
 ·have e:c.1.find? (fun f=>decide (f.1=s))=none:=List.find?_eq_none.2 fun f hf=>by
   obtain⟨i,hi,rfl⟩:=List.getElem_of_mem hf
   rw[hJ i hi hi];decide
  refine Ok.iF (by omega) ?_
  refine Ok.count (fun k=> ∀i (hi:i<c.2.length),i<k->Lc c.2[i].1 s=false) c.2.length (fun i _ h=>by omega) (by omega) (fun k nx hk hJ2 hn=>?_) (fun nx hJ2=>?_)
  ·have m:=List.getElem_mem hk
   have q1:=h.each _ m
   have ha:WE fu (c.2[k].1,s)=some (Lc c.2[k].1 s):=(P3 (n:=14641) (h.bt _ m) ⟨q1,fun t ht=>by have:=h.ed _ m t ht;omega⟩ (by omega) (by omega) (by omega) (by omega)).eq
   refine Ok.iT (by omega) (Ok.Aw hk (Ok.Ag ha (Ok.bif (fun he=>Ok.some ?_) fun he=>hn fun i hi hik=>?_)))
   ·have e2:c.2.find? (fun k=>Lc k.1 s)=some c.2[k]:=List.find?_eq_some_iff_getElem.2 ⟨he,k,hk,rfl,fun j hj=>by simp only[hJ2 j (by omega) hj];rfl⟩
    unfold vw;rw[e,e2]
   ·rcases Nat.lt_or_ge i k with h3|h3
    ·exact hJ2 i hi h3
    ·obtain rfl:i=k:=by omega
     exact he
  ·have e2:c.2.find? (fun k=>Lc k.1 s)=none:=List.find?_eq_none.2 fun f hf=>by
    obtain⟨i,hi,rfl⟩:=List.getElem_of_mem hf
    rw[hJ2 i hi hi];decide
   refine Ok.iF (by omega) (Ok.some ?_)
   unfold vw;rw[e,e2];rfl
theorem TN{c:DI}{s:Ax}{P:Ci->Prop}(h0:P (v0,v0))(h:∀x∈BQ c,P x):P (vw c s).1:=by
 unfold vw
 split
 ·rename_i f hf
  exact h _ (List.mem_append.2 (.inl (List.mem_map.2 ⟨f,List.mem_of_find?_eq_some hf,rf⟩)))
 ·split
  ·rename_i k hk
   exact h _ (List.mem_append.2 (.inr (List.mem_map.2 ⟨k,List.mem_of_find?_eq_some hk,rf⟩)))
  ·exact h0
theorem mZ{c:DI}{s:Ax}(h:∃f∈c.1,f.1=s):∃f∈c.1,f.1=s/\vw c s=(f.2.2,f.2.1):=by
 unfold vw
 cases hf:c.1.find? (fun f=>decide (f.1=s))with
 |some f=>exact⟨f,List.mem_of_find?_eq_some hf,by have:=List.find?_some (p:=fun f:Ax×Int×Ci=>decide (f.1=s)) hf;exact of_decide_eq_true this,rfl⟩
 |none=>
  obtain⟨f,h1,h2⟩:=h
  have:=List.find?_eq_none.1 hf f h1
  rw[decide_eq_true h2]at this;exact absurd rfl this
def sg(c:Ng)(i:Nat):Ci:=match c.1[i]? with
 |some x=>x
 |none=>match c.2 with
  |x::_=>x
  | []=>(v0,v0)
theorem Ye{c:Ng}{i fu:Nat} :Ok (Qb fu (c,(i:Int))) fun r=>r.1=sg c i:=by
 rw[show Qb fu (c,(i:Int))=_ from d153 fu c i];unfold lB sg
 refine Ok.iT (by omega) (Ok.ite (fun h=>Ok.Aw (by omega) (Ok.some ?_)) fun h=>Ok.iT (by omega) ?_)
 ·rw[List.getElem?_eq_getElem (by omega)]
 ·rw[List.getElem?_eq_none (by omega)]
  cases hc:c.2 with
  |nil=>exact Ok.iF (by simp) (Ok.some rfl)
  |cons x l=>exact Ok.iT (by simp) (Ok.Ag (a:=x) rfl (Ok.some rfl))
theorem gT{c:Ng}{i:Nat}{P:Ci->Prop}(h0:P (v0,v0))(h:∀x∈Bf c,P x):P (sg c i):=by
 unfold sg
 split
 ·rename_i x hx
  exact h _ (List.mem_append.2 (.inl (List.mem_of_getElem? hx)))
 ·split
  ·rename_i x l hx
   exact h _ (List.mem_append.2 (.inr (by rw[hx];exact List.mem_cons_self ..)))
  ·exact h0
end Go.GL
namespace Go.GL
open Go Go.GV Go.GK Go.Proofs
theorem IK{α:Type}{l:List α}{x:α}{g:α->α->Option (Bool×α)}{P:α->Prop}{fu:Nat}(hf:l.length<fu)(hg:∀y∈l,Ok (g y x) fun r=>r.2=x/\(r.1=true->P y)):
  Ok (Ad fu (fun(z1:α×Nat) nx2=>bif decide ((z1.2:Int)<(l.length:Int))then Ac (idx l (z1.2:Int)) fun r3=>Ac (g r3 z1.1) fun r4=>bif r4.1 then some ((z1.2:Int),r4.2)else nx2 (r4.2,z1.2+1)else some ((-1:Int),z1.1)) (x,0)) fun r=>r.2=x/\(0<=r.1->∃y∈l,P y):=by
 refine Ok.range (fun _ s=>s=x) l.length rf hf (fun k s nx hk hJ hn=>?_) (fun s nx hJ=>?_)
 ·subst hJ
  have m:=List.getElem_mem hk
  exact Ok.iT (by dsimp only;omega) (Ok.Aw hk (Ok.Ac (hg _ m) fun r hr=>Ok.bif (fun h=>Ok.some ⟨hr.1,fun _=>⟨_,m,hr.2 h⟩⟩) fun _=>hn _ hr.1))
 ·exact Ok.iF (by dsimp only;omega) (Ok.some ⟨hJ,fun h=>by have h:(0:Int)<= -1:=h;omega⟩)
theorem Kz{α:Type}{a:List α}{g:α->Option (Bool×α)}{P:α->Prop}{fu:Nat}(hf:a.length<fu)(hg:∀x∈a,Ok (g x) fun r=>r.1=true->P x):
  Ok (Ad fu (fun(z1:Nat) nx2=>bif decide ((z1:Int)<(a.length:Int))then Ac (idx a (z1:Int)) fun r3=>Ac (g r3) fun r4=>bif !r4.1 then some false else nx2 (z1+1)else some true) 0) fun r=>r=true->∀x∈a,P x:=by
 refine Ok.count (fun k=> ∀x∈a.take k,P x) a.length (by simp) hf (fun k nx hk hJ hn=>?_) (fun nx hJ=>?_)
 ·have m:=List.getElem_mem hk
  refine Ok.iT (by omega) (Ok.Aw hk (Ok.Ac (hg _ m) fun r hr=>Ok.bif (fun _=>Ok.some fun h=>by cases h) fun h=>hn fun x hx=>?_))
  rcases(Av hk).1 hx with hx|rfl
  ·exact hJ x hx
  ·exact hr (by simpa using h)
 ·exact Ok.iF (by omega) (Ok.some fun _ x hx=>hJ x (by rw[Au];exact hx))
def dG(c c':DI):Prop:= ∀f∈c.1,NB (vw c f.1).1.1->NB (vw c' f.1).1.1
def RO(a b:Vl):Prop:=(NB a->NB b)/\(b.any=true\/∀c∈a.structs,∃c'∈b.structs,c'=c\/dG c c')
theorem SX.pos{d:Nat}{x:Ci}(h:SX d x):∃e,d=e+1:=by
 cases d with
 |zero=>exact h.1.1.elim
 |succ e=>exact⟨e,rfl⟩
theorem SX.v0{d:Nat}{x:Ci}(h:SX d x):SX d (v0,v0):=by
 obtain⟨e,rfl⟩:=h.pos
 exact⟨G9 e,G9 e⟩
section
variable {d : Nat} (ih : ∀ {fu : Nat} {a b : Vl}, SB d a -> SB d b -> 1000000000000 + 20 * d < fu -> Ok (Le fu (a, b)) fun r => r = true -> RO a b)
include ih
theorem Mt{fu:Nat}{x y:Ci}(hx:SX d x)(hy:SX d y)(hF:1000000000000+20*d+1<fu):Ok (I9 fu (x,y)) fun r=>r=true->RO x.1 y.1/\RO x.2 y.2:=by
 obtain⟨f,rfl⟩:∃f,fu=f+1:=⟨fu-1,by omega⟩
 rw[show I9 (f+1) (x,y)=_ from d189 f x y];unfold qF
 exact Ok.Ac (ih hx.1 hy.1 (by omega)) fun r hr=>Ok.bif (fun h=>Ok.Ac (ih hx.2 hy.2 (by omega)) fun s hs=>Ok.some fun h2=>⟨hr h,hs h2⟩) fun _=>Ok.some fun h=>by cases h
theorem Hf{fu:Nat}{x y:Ng}(h1:x.1.length<=3)(hx:∀w∈Bf x,SX d w)(hy:∀w∈Bf y,SX d w)(hF:1000000000000+20*d+2<fu):Ok (P_ fu (x,y)) fun _=>True:=by
 obtain⟨f,rfl⟩:∃f,fu=f+1:=⟨fu-1,by omega⟩
 rw[show P_ (f+1) (x,y)=_ from d190 f x y];unfold qE
 have no:Ok (some false) fun _=>True:=Ok.some trivial
 have loop:(0<x.2.length->0<y.2.length)->Ok (Ad f (fun(z9:Nat) nx10=>
    bif decide ((z9:Int)<(x.1.length:Int))then
     Ac (idx x.1 (z9:Int)) fun r11=>
     Ac (Qb f (y,(z9:Int))) fun r12=>
     Ac (I9 f (r11,r12.1)) fun r13=>
     bif !r13 then
      some false
     else
      nx10 (z9+1)
    else
     bif decide ((x.2.length:Int)=0)then
      some true
     else
      Ac (idx x.2 0) fun r14=>
      Ac (idx y.2 0) fun r15=>
      Ac (I9 f (r14,r15)) fun r16=>
      some r16) 0) fun _=>True:=fun hr=>by
  refine Ok.count (fun _=>True) x.1.length trivial (by omega) (fun k nx hk _ hn=>?_) (fun nx _=>?_)
  ·have m:=hx _ (List.mem_append.2 (.inl (List.getElem_mem hk)))
   refine Ok.iT (by omega) (Ok.Aw hk (Ok.Ac Ye fun r hr=>Ok.Ac (Q:=fun _=>True) ?_ fun b _=>Ok.bif (fun _=>no) fun _=>hn trivial))
   rw[hr]
   exact(Mt ih m (gT m.v0 hy) (by omega)).mono fun _ _=>trivial
  ·refine Ok.iF (by omega) (Ok.ite (fun _=>Ok.some trivial) fun h=>?_)
   have p1:0<x.2.length:=by omega
   have p2:=hr p1
   refine Ok.Ff (by decide) (by omega) (Ok.Ff (by decide) (by omega) (Ok.Ac (Mt ih (hx _ (List.mem_append.2 (.inr (List.getElem_mem _)))) (hy _ (List.mem_append.2 (.inr (List.getElem_mem _)))) (by omega)) fun _ _=>Ok.some trivial))
 refine Ok.ite (fun _=>no) fun _=>Ok.bif (fun _=>Ok.ite (fun _=>no) fun _=>Ok.ite (fun _=>no) fun h=>loop fun h2=>absurd h2 (by omega)) fun h=>loop fun _=>?_
 have h:decide ((0:Int)<(y.2.length:Int))=true:=by simpa using h
 have:=of_decide_eq_true h;omega
theorem Fl{fu:Nat}{x y:DI}(bx:P5 x)(by_:P5 y)(wx:∀k∈x.2,Bz k.1/\Cl k.1=k.1)(wy:∀k∈y.2,Bz k.1/\Cl k.1=k.1)(hx:∀w∈BQ x,SX d w)(hy:∀w∈BQ y,SX d w)(hF:1000000000000+20*d+2<fu):Ok (Qa fu (x,y)) fun r=>r=true->dG x y:=by
 obtain⟨f,rfl⟩:∃f,fu=f+1:=⟨fu-1,by omega⟩
 rw[show Qa (f+1) (x,y)=_ from d183 f x y];unfold qL
 have no:Ok (some false) fun r=>r=true->dG x y:=Ok.some fun h=>by cases h
 have n1:=bx.nf;have n2:=bx.nc;have n3:=by_.nf;have n4:=by_.nc
 refine Ok.Ah ⟨rf,rf⟩ ?_
 refine Ok.count (fun k=>1<=k->dG x y) 2 (fun h=>by omega) (by omega) (fun k nx hk hJ hn=>?_) (fun nx hJ=>?_)
 ·have inner:∀(l:List (Ax×Int×Ci)),l.length<=4->(∀g∈l,g.1.length<=60/\SX d (v0,v0))->((∀g∈l,NB (vw x g.1).1.1->NB (vw y g.1).1.1)->Ok (nx (k+1)) fun r=>r=true->dG x y)->
    Ok (
      Ad f (fun(z4:Nat) nx5=>
     bif decide ((z4:Int)<(l.length:Int))then
      Ac (idx l (z4:Int)) fun r6=>
      Ac (OR f (x,r6.1)) fun r7=>
      Ac (OR f (y,r6.1)) fun r8=>
      bif decide (r8.2<r7.2)then
       some false
      else
       Ac (I9 f (r7.1,r8.1)) fun r9=>
       bif !r9 then
        some false
       else
        nx5 (z4+1)
     else
      nx (k+1)) 0) fun r=>r=true->dG x y:=fun l hl hg hnx=>by
   refine Ok.count (fun j=> ∀g∈l.take j,NB (vw x g.1).1.1->NB (vw y g.1).1.1) l.length (by simp) (by omega) (fun j nx5 hj hJ5 hn5=>?_) (fun nx5 hJ5=>?_)
   ·obtain⟨q1,q2⟩:=hg _ (List.getElem_mem hj)
    refine Ok.iT (by omega) (Ok.Aw hj (Ok.Ag (L8 bx (by omega) (by omega)) (Ok.Ag (L8 by_ (by omega) (by omega)) (Ok.ite (fun _=>no) fun _=>Ok.Ac (Mt ih (TN q2 hx) (TN q2 hy) (by omega)) fun r hr=>Ok.bif (fun _=>no) fun h=>hn5 fun g hg2=>?_))))
    rcases(Av hj).1 hg2 with h2|rfl
    ·exact hJ5 g h2
    ·exact(hr (by simpa using h)).1.1
   ·exact Ok.iF (by omega) (hnx fun g hg2=>hJ5 g (by rw[Au];exact hg2))
  have gx:∀g∈x.1,g.1.length<=60/\SX d (v0,v0):=fun g hg=>⟨bx.lb g hg,(hx _ (List.mem_append.2 (.inl (List.mem_map.2 ⟨g,hg,rfl⟩)))).v0⟩
  have gy:∀g∈y.1,g.1.length<=60/\SX d (v0,v0):=fun g hg=>⟨by_.lb g hg,(hy _ (List.mem_append.2 (.inl (List.mem_map.2 ⟨g,hg,rfl⟩)))).v0⟩
  refine Ok.iT (by omega) ?_
  rcases(by omega:k=0\/k=1)with rfl|rfl
  ·exact Ok.Ag (a:=x.1) rf (inner x.1 n1 gx fun h=>hn fun _=>h)
  ·exact Ok.Ag (a:=y.1) rf (inner y.1 n3 gy fun _=>hn fun _=>hJ (by omega))
 ·refine Ok.iF (by omega) ?_
  refine Ok.count (fun _=>True) x.2.length trivial (by omega) (fun k nx hk _ hn=>?_) (fun nx _=>Ok.iF (by omega) (Ok.some fun _=>hJ (by omega)))
  have m1:=List.getElem_mem hk
  refine Ok.iT (by omega) (Ok.Aw hk ?_)
  refine Ok.count (fun _=>True) y.2.length trivial (by omega) (fun j nx2 hj _ hn2=>?_) (fun nx2 _=>Ok.iF (by omega) (hn trivial))
  have m2:=List.getElem_mem hj
  have s1:=hx _ (List.mem_append.2 (.inr (List.mem_map.2 ⟨_,m1,rfl⟩)))
  have s2:=hy _ (List.mem_append.2 (.inr (List.mem_map.2 ⟨_,m2,rfl⟩)))
  have i1:Ds x.2[k].1 (AV x.2[k].1 0) 14641:=⟨(wx _ m1).1,(wx _ m1).2,rfl,bx.each _ m1⟩
  have i2:Ds y.2[j].1 (AV y.2[j].1 0) 14641:=⟨(wy _ m2).1,(wy _ m2).2,rfl,by_.each _ m2⟩
  refine Ok.iT (by omega) (Ok.Aw hj (Ok.Ac (Mt ih s1 s2 (by omega)) fun r _=>Ok.bif (fun _=>Ok.Ac (Ze (GP i1 i2 (by decide) (by omega))) fun t _=>Ok.ite (fun _=>no) fun _=>hn2 trivial) fun _=>hn2 trivial))
end
theorem EO:∀ {d fu:Nat} {a b:Vl},SB d a->SB d b->1000000000000+20*d<fu->Ok (Le fu (a,b)) fun r=>r=true->RO a b
 |0,_,_,_,h,_,_=>h.1.elim
 |d+1,fu,a,b,ha,hb,hF=>by
  obtain⟨f,rfl⟩:∃f,fu=f+7:=⟨fu-7,by omega⟩
  have ih:∀ {fu:Nat} {a b:Vl},SB d a->SB d b->1000000000000+20*d<fu->Ok (Le fu (a,b)) fun r=>r=true->RO a b:=EO
  rw[show Le (f+7) (a,b)=_ from d188 (f+6) a b];unfold qG
  have no:Ok (some false) fun r=>r=true->RO a b:=Ok.some fun h=>by cases h
  have any:b.any=true->RO a b:=fun h=>⟨fun _=> .inl h, .inl h⟩
  refine Ok.bif (fun _=>Ok.some any) fun hany=>Ok.bif (fun _=>Ok.some any) fun _=>?_
  refine Ok.Ac (JO (d:=d+1) (x:=(a,v0)) (y:=(b,v0)) ⟨ha.1,(G9 d).1⟩ ⟨hb.1,(G9 d).1⟩ (by omega)) fun r hr=>Ok.bif (fun h=>Ok.some fun _=>?_) fun _=>?_
  ·have e:a=b:=congrArg Prod.fst (hr.1 h)
   subst e
   exact⟨id, .inr fun c hc=>⟨c,hc, .inl rf⟩⟩
  obtain⟨a1,⟨a2,a3⟩,⟨a4,a5⟩,_⟩:=id ha.1
  obtain⟨b1,⟨b2,b3⟩,⟨b4,b5⟩,_⟩:=id hb.1
  obtain⟨a6,a7,a8,_⟩:=id ha.2
  obtain⟨b6,b7,b8,_⟩:=id hb.2
  refine Ok.Ac (Nt a6 b6 (by omega) (by decide) (by omega)) fun r2 hr2=>Ok.bif (fun _=>no) fun h2=>?_
  have L:Ok (ZU (f+6) (a.lists,b.lists)) fun r=>r=true->∀x∈a.lists,∃y∈b.lists,True:=by
   rw[show ZU (f+6) (a.lists,b.lists)=_ from d182 (f+5) _ _];unfold qM
   refine Kz (g:=fun x=>ZV (f+5) (b.lists,x)) (by omega) fun x hx=>?_
   rw[show ZV (f+5) (b.lists,x)=_ from d181 (f+4) _ _];unfold qN
   have:Ok (ZW (f+4) (b.lists,x)) fun r=>r.2=x/\(0<=r.1->∃y∈b.lists,True):=by
    rw[show ZW (f+4) (b.lists,x)=_ from d180 (f+3) _ _];unfold qO
    refine IK (g:=fun y x=>ZX (f+3) (y,x)) (by omega) fun y hy=>?_
    rw[show ZX (f+3) (y,x)=_ from d179 (f+2) _ _];unfold qP
    exact Ok.Ac (Hf ih (a3 x hx).1 (ha.lv hx) (hb.lv hy) (by omega)) fun r _=>Ok.some ⟨rf,fun _=>trivial⟩
   exact Ok.Ac this fun r hr=>Ok.some fun h=>hr.2 (of_decide_eq_true h)
  have S:Ok (ZQ (f+6) (a.structs,b.structs)) fun r=>r=true->∀x∈a.structs,∃y∈b.structs,dG x y:=by
   rw[show ZQ (f+6) (a.structs,b.structs)=_ from d187 (f+5) _ _];unfold qH
   refine Kz (g:=fun x=>ZR (f+5) (b.structs,x)) (by omega) fun x hx=>?_
   rw[show ZR (f+5) (b.structs,x)=_ from d186 (f+4) _ _];unfold qI
   have:Ok (ZS (f+4) (b.structs,x)) fun r=>r.2=x/\(0<=r.1->∃y∈b.structs,dG x y):=by
    rw[show ZS (f+4) (b.structs,x)=_ from d185 (f+3) _ _];unfold qJ
    refine IK (g:=fun y x=>ZT (f+3) (y,x)) (by omega) fun y hy=>?_
    rw[show ZT (f+3) (y,x)=_ from d184 (f+2) _ _];unfold qK
    exact Ok.Ac (Fl ih (a5 x hx) (b5 y hy) (a8 x hx).2 (b8 y hy).2 (ha.sv hx) (hb.sv hy) (by omega)) fun r hr=>Ok.some ⟨rf,hr⟩
   exact Ok.Ac this fun r hr=>Ok.some fun h=>hr.2 (of_decide_eq_true h)
  refine Ok.Ac L fun r3 hr3=>Ok.bif (fun h3=>Ok.Ac S fun r4 hr4=>Ok.some fun h4=>⟨fun hn=>?_, .inr fun c hc=>?_⟩) fun _=>no
  ·rcases hn with h|h|h|h
   ·rw[h]at hany;cases hany
   ·obtain⟨x,l,e⟩:=List.exists_cons_of_ne_nil h
    obtain⟨y,hy,_⟩:=hr3 h3 x (by rw[e];exact List.mem_cons_self ..)
    exact .inr (.inl (List.ne_nil_of_mem hy))
   ·obtain⟨x,l,e⟩:=List.exists_cons_of_ne_nil h
    obtain⟨y,hy,_⟩:=hr4 h4 x (by rw[e];exact List.mem_cons_self ..)
    exact .inr (.inr (.inl (List.ne_nil_of_mem hy)))
   ·exact .inr (.inr (.inr fun e=>h (hr2 e (by simpa using h2))))
  ·obtain⟨c',h1,h2⟩:=hr4 h4 c hc
   exact⟨c',h1, .inr h2⟩
end Go.GL
namespace Go.GL
open Go Go.GV Go.GK Go.Proofs
theorem Rp{fu:Nat}{x y:Int} :Ok (KV fu (x,y)) fun _=>True:=by
 rw[show KV fu (x,y)=_ from d144 fu x y];unfold aQ
 have e:∀z,Tz fu z=some false:=fun z=>(d143 fu z).trans (by unfold aR;simp)
 refine Ok.Ag (e x) (Ok.Ag (e y) (Ok.F rf (Ok.F rf ?_)))
 exact Ok.bif (fun _=>Ok.some trivial) fun _=>Ok.bif (fun _=>Ok.some trivial) fun _=>Ok.some trivial
theorem MU{fu:Nat}{x y:Ax} :Ok (Lf fu (x,y)) fun _=>True:=by
 rw[show Lf fu (x,y)=_ from d146 fu x y];unfold aP
 refine Ok.Ag (d145 fu x) (Ok.Ag (d145 fu y) ?_)
 exact Ok.bif (fun _=>Ok.bif (fun _=>Ok.some trivial) fun _=>Ok.some trivial) fun _=>Ok.bif (fun _=>Ok.some trivial) fun _=>Ok.bif (fun _=>Ok.some trivial) fun _=>Ok.bif (fun _=>Ok.some trivial) fun _=>Ok.some trivial
theorem DZ{α:Type}{a b:List α}{f:α->α->Option Int}{fu:Nat}(hf:a.length<fu)(h:∀i (h1:i<a.length) (h2:i<b.length),Ok (f a[i] b[i]) fun _=>True):
  Ok (Ad fu (fun(z1:Nat) nx2=>bif decide ((z1:Int)<(a.length:Int))then Ac (idx a (z1:Int)) fun r3=>bif decide ((b.length:Int)<=(z1:Int))then some (1:Int)else Ac (idx b (z1:Int)) fun r4=>Ac (f r3 r4) fun r5=>bif decide (r5≠(0:Int))then some r5 else nx2 (z1+1)else bif decide ((a.length:Int)<(b.length:Int))then some (-1:Int)else some (0:Int)) 0) fun _=>True:=by
 refine Ok.count (fun _=>True) a.length trivial hf (fun k nx hk _ hn=>?_) (fun nx _=>Ok.iF (by omega) (Ok.ite (fun _=>Ok.some trivial) fun _=>Ok.some trivial))
 exact Ok.iT (by omega) (Ok.Aw hk (Ok.ite (fun _=>Ok.some trivial) fun h2=>Ok.Aw (by omega) (Ok.Ac (h k hk (by omega)) fun _ _=>Ok.ite (fun _=>Ok.some trivial) fun _=>hn trivial)))
theorem Ic{α:Type}{g1 g2:α×α->Option (Int×α×α)}{x y:α}(h1:Ok (g1 (x,y)) fun r=>r.2=(x,y))(h2:Ok (g2 (x,y)) fun r=>r.2=(x,y)):
  Ok (bif decide ((0:Int)<(↑2:Int))then Ah ((0:Int)<=(0:Int)/\(0:Int)<(↑2:Int))<|Ac (g1 (x,y)) fun r1=>bif decide (r1.1≠(0:Int))then some (r1.1,r1.2.1,r1.2.2)else Ab (IntKind.i64) ((0:Int)+(1:Int))<|bif decide ((0:Int)+(1:Int)<(↑2:Int))then Ah ((0:Int)<=(0:Int)+(1:Int)/\(0:Int)+(1:Int)<(↑2:Int))<|Ac (g2 (r1.2.1,r1.2.2)) fun r2=>bif decide (r2.1≠(0:Int))then some (r2.1,r2.2.1,r2.2.2)else Ab (IntKind.i64) ((0:Int)+(1:Int)+(1:Int))<|bif decide ((0:Int)+(1:Int)+(1:Int)<(↑2:Int))then Ah ((0:Int)<=(0:Int)+(1:Int)+(1:Int)/\(0:Int)+(1:Int)+(1:Int)<(↑2:Int))<|none else some ((0:Int),r2.2.1,r2.2.2)else some ((0:Int),r1.2.1,r1.2.2)else some ((0:Int),x,y)) fun _=>True:=by
 refine Ok.iT (by decide) (Ok.Ah (by decide) (Ok.Ac h1 fun r hr=>?_))
 obtain⟨n1,x1,y1⟩:=r;cases hr
 refine Ok.ite (fun _=>Ok.some trivial) fun _=>Ok.fit (by decide) (Ok.iT (by decide) (Ok.Ah (by decide) (Ok.Ac h2 fun r hr=>?_)))
 obtain⟨n2,x2,y2⟩:=r;cases hr
 exact Ok.ite (fun _=>Ok.some trivial) fun _=>Ok.fit (by decide) (Ok.iF (by decide) (Ok.some trivial))
theorem LN{α:Type}{g1 g2 g3:α×α->Option (Int×α×α)}{x y:α}(h1:Ok (g1 (x,y)) fun r=>r.2=(x,y))(h2:Ok (g2 (x,y)) fun r=>r.2=(x,y))(h3:Ok (g3 (x,y)) fun r=>r.2=(x,y)):
  Ok (bif decide ((0:Int)<(↑3:Int))then Ah ((0:Int)<=(0:Int)/\(0:Int)<(↑3:Int))<|Ac (g1 (x,y)) fun r1=>bif decide (r1.1≠(0:Int))then some (r1.1,r1.2.1,r1.2.2)else Ab (IntKind.i64) ((0:Int)+(1:Int))<|bif decide ((0:Int)+(1:Int)<(↑3:Int))then Ah ((0:Int)<=(0:Int)+(1:Int)/\(0:Int)+(1:Int)<(↑3:Int))<|Ac (g2 (r1.2.1,r1.2.2)) fun r2=>bif decide (r2.1≠(0:Int))then some (r2.1,r2.2.1,r2.2.2)else Ab (IntKind.i64) ((0:Int)+(1:Int)+(1:Int))<|bif decide ((0:Int)+(1:Int)+(1:Int)<(↑3:Int))then Ah ((0:Int)<=(0:Int)+(1:Int)+(1:Int)/\(0:Int)+(1:Int)+(1:Int)<(↑3:Int))<|Ac (g3 (r2.2.1,r2.2.2)) fun r3=>bif decide (r3.1≠(0:Int))then some (r3.1,r3.2.1,r3.2.2)else Ab (IntKind.i64) ((0:Int)+(1:Int)+(1:Int)+(1:Int))<|bif decide ((0:Int)+(1:Int)+(1:Int)+(1:Int)<(↑3:Int))then Ah ((0:Int)<=(0:Int)+(1:Int)+(1:Int)+(1:Int)/\(0:Int)+(1:Int)+(1:Int)+(1:Int)<(↑3:Int))<|none else some ((0:Int),r3.2.1,r3.2.2)else some ((0:Int),r2.2.1,r2.2.2)else some ((0:Int),r1.2.1,r1.2.2)else some ((0:Int),x,y)) fun _=>True:=by
 refine Ok.iT (by decide) (Ok.Ah (by decide) (Ok.Ac h1 fun r hr=>?_))
 obtain⟨n1,x1,y1⟩:=r;cases hr
 refine Ok.ite (fun _=>Ok.some trivial) fun _=>Ok.fit (by decide) (Ok.iT (by decide) (Ok.Ah (by decide) (Ok.Ac h2 fun r hr=>?_)))
 obtain⟨n2,x2,y2⟩:=r;cases hr
 refine Ok.ite (fun _=>Ok.some trivial) fun _=>Ok.fit (by decide) (Ok.iT (by decide) (Ok.Ah (by decide) (Ok.Ac h3 fun r hr=>?_)))
 obtain⟨n3,x3,y3⟩:=r;cases hr
 exact Ok.ite (fun _=>Ok.some trivial) fun _=>Ok.fit (by decide) (Ok.iF (by decide) (Ok.some trivial))
theorem SK{α:Type}{g1 g2 g3 g4:α×α->Option (Int×α×α)}{x y:α}(h1:Ok (g1 (x,y)) fun r=>r.2=(x,y))(h2:Ok (g2 (x,y)) fun r=>r.2=(x,y))(h3:Ok (g3 (x,y)) fun r=>r.2=(x,y))(h4:Ok (g4 (x,y)) fun r=>r.2=(x,y)):
  Ok (bif decide ((0:Int)<(↑4:Int))then Ah ((0:Int)<=(0:Int)/\(0:Int)<(↑4:Int))<|Ac (g1 (x,y)) fun r1=>bif decide (r1.1≠(0:Int))then some (r1.1,r1.2.1,r1.2.2)else Ab (IntKind.i64) ((0:Int)+(1:Int))<|bif decide ((0:Int)+(1:Int)<(↑4:Int))then Ah ((0:Int)<=(0:Int)+(1:Int)/\(0:Int)+(1:Int)<(↑4:Int))<|Ac (g2 (r1.2.1,r1.2.2)) fun r2=>bif decide (r2.1≠(0:Int))then some (r2.1,r2.2.1,r2.2.2)else Ab (IntKind.i64) ((0:Int)+(1:Int)+(1:Int))<|bif decide ((0:Int)+(1:Int)+(1:Int)<(↑4:Int))then Ah ((0:Int)<=(0:Int)+(1:Int)+(1:Int)/\(0:Int)+(1:Int)+(1:Int)<(↑4:Int))<|Ac (g3 (r2.2.1,r2.2.2)) fun r3=>bif decide (r3.1≠(0:Int))then some (r3.1,r3.2.1,r3.2.2)else Ab (IntKind.i64) ((0:Int)+(1:Int)+(1:Int)+(1:Int))<|bif decide ((0:Int)+(1:Int)+(1:Int)+(1:Int)<(↑4:Int))then Ah ((0:Int)<=(0:Int)+(1:Int)+(1:Int)+(1:Int)/\(0:Int)+(1:Int)+(1:Int)+(1:Int)<(↑4:Int))<|Ac (g4 (r3.2.1,r3.2.2)) fun r4=>bif decide (r4.1≠(0:Int))then some (r4.1,r4.2.1,r4.2.2)else Ab (IntKind.i64) ((0:Int)+(1:Int)+(1:Int)+(1:Int)+(1:Int))<|bif decide ((0:Int)+(1:Int)+(1:Int)+(1:Int)+(1:Int)<(↑4:Int))then Ah ((0:Int)<=(0:Int)+(1:Int)+(1:Int)+(1:Int)+(1:Int)/\(0:Int)+(1:Int)+(1:Int)+(1:Int)+(1:Int)<(↑4:Int))<|none else some ((0:Int),r4.2.1,r4.2.2)else some ((0:Int),r3.2.1,r3.2.2)else some ((0:Int),r2.2.1,r2.2.2)else some ((0:Int),r1.2.1,r1.2.2)else some ((0:Int),x,y)) fun _=>True:=by
 refine Ok.iT (by decide) (Ok.Ah (by decide) (Ok.Ac h1 fun r hr=>?_))
 obtain⟨n1,x1,y1⟩:=r;cases hr
 refine Ok.ite (fun _=>Ok.some trivial) fun _=>Ok.fit (by decide) (Ok.iT (by decide) (Ok.Ah (by decide) (Ok.Ac h2 fun r hr=>?_)))
 obtain⟨n2,x2,y2⟩:=r;cases hr
 refine Ok.ite (fun _=>Ok.some trivial) fun _=>Ok.fit (by decide) (Ok.iT (by decide) (Ok.Ah (by decide) (Ok.Ac h3 fun r hr=>?_)))
 obtain⟨n3,x3,y3⟩:=r;cases hr
 refine Ok.ite (fun _=>Ok.some trivial) fun _=>Ok.fit (by decide) (Ok.iT (by decide) (Ok.Ah (by decide) (Ok.Ac h4 fun r hr=>?_)))
 obtain⟨n4,x4,y4⟩:=r;cases hr
 exact Ok.ite (fun _=>Ok.some trivial) fun _=>Ok.fit (by decide) (Ok.iF (by decide) (Ok.some trivial))
theorem Rd{fu:Nat}{a b:Bool} :Ok (Ts fu (a,b)) fun _=>True:=by
 rw[show Ts fu (a,b)=_ from d192 fu a b];unfold kR
 exact Ok.bif (fun _=>Ok.some trivial) fun _=>Ok.bif (fun _=>Ok.some trivial) fun _=>Ok.some trivial
theorem GU:∀ {d fu:Nat} {a b:Vl},SB d a->SB d b->1000000000000+20*d<fu->Ok (Tp fu (a,b)) fun _=>True
 |0,_,_,_,h,_,_=>h.1.elim
 |d+1,fu,a,b,ha,hb,hF=>by
  obtain⟨f,rfl⟩:∃f,fu=f+15:=⟨fu-15,by omega⟩
  have vals:∀ {g:Nat} {x y:Ci},SX d x->SX d y->1000000000000+20*d+3<g->Ok (P9 g (x,y)) fun _=>True:=fun{g x y} hx hy hg=>by
   obtain⟨e,rfl⟩:∃e,g=e+3:=⟨g-3,by omega⟩
   rw[show P9 (e+3) (x,y)=_ from d205 (e+2) x y];unfold qz
   refine Ok.Ac (Q:=fun _=>True) ?_ fun _ _=>Ok.some trivial
   rw[show jX (e+2) (x,y)=_ from d204 (e+1) x y];unfold qA
   refine Ic (g1:=ZO (e+1)) (g2:=ZN (e+1)) ?_ ?_
   ·rw[show ZO (e+1) (x,y)=_ from d202 e x y];unfold qC
    exact Ok.Ac (GU hx.1 hy.1 (by omega)) fun _ _=>Ok.some rf
   ·rw[show ZN (e+1) (x,y)=_ from d203 e x y];unfold qB
    exact Ok.Ac (GU hx.2 hy.2 (by omega)) fun _ _=>Ok.some rf
  obtain⟨a1,⟨a2,a3⟩,⟨a4,a5⟩,_⟩:=id ha.1
  obtain⟨b1,⟨b2,b3⟩,⟨b4,b5⟩,_⟩:=id hb.1
  obtain⟨a6,a7,a8,_⟩:=id ha.2
  obtain⟨b6,b7,b8,_⟩:=id hb.2
  rw[show Tp (f+15) (a,b)=_ from d227 (f+14) a b];unfold pZ
  refine Ok.Ac (Q:=fun _=>True) ?_ fun _ _=>Ok.some trivial
  rw[show jN (f+14) (a,b)=_ from d226 (f+13) a b];unfold p9
  refine SK (g1:=WC (f+13)) (g2:=WB (f+13)) (g3:=ZK (f+13)) (g4:=ZC (f+13)) ?_ ?_ ?_ ?_
  ·rw[show WC (f+13) (a,b)=_ from d193 _ a b];unfold kQ
   exact Ok.Ac Rd fun _ _=>Ok.some rf
  ·rw[show WB (f+13) (a,b)=_ from d196 _ a b];unfold kN
   exact Ok.Ac (HB a1 b1 (by omega) (by decide) (by omega)) fun _ _=>Ok.some rf
  ·rw[show ZK (f+13) (a,b)=_ from d211 (f+12) a b];unfold qt
   refine Ok.Ac (Q:=fun _=>True) ?_ fun _ _=>Ok.some rf
   rw[show jU (f+12) (a.lists,b.lists)=_ from d210 (f+11) _ _];unfold qu
   refine DZ (f:=fun x y=>ZL (f+11) (x,y)) (by omega) fun i h1 h2=>?_
   have m1:=List.getElem_mem h1;have m2:=List.getElem_mem h2
   have q1:=a3 _ m1;have q2:=b3 _ m2
   have s1:=ha.lv m1;have s2:=hb.lv m2
   generalize a.lists[i]=x at q1 s1
   generalize b.lists[i]=y at q2 s2
   rw[show ZL (f+11) (x,y)=_ from d209 (f+10) x y];unfold qv
   refine Ok.Ac (Q:=fun _=>True) ?_ fun _ _=>Ok.some trivial
   rw[show jV (f+10) (x,y)=_ from d208 (f+9) x y];unfold qw
   refine LN (g1:=WA (f+9)) (g2:=Wz (f+9)) (g3:=ZM (f+9)) ?_ ?_ ?_
   ·rw[show WA (f+9) (x,y)=_ from d197 _ x y];unfold kM
    exact Ok.Ac Rp fun _ _=>Ok.some rf
   ·rw[show Wz (f+9) (x,y)=_ from d198 _ x y];unfold kL
    exact Ok.Ac Rd fun _ _=>Ok.some rf
   ·rw[show ZM (f+9) (x,y)=_ from d207 (f+8) x y];unfold qx
    refine Ok.Ag (Fz (by omega) (by omega)) (Ok.Ag (Fz (by omega) (by omega)) (Ok.Ac (Q:=fun _=>True) ?_ fun _ _=>Ok.some rf))
    rw[show jW (f+8) (Bf x,Bf y)=_ from d206 (f+7) _ _];unfold qy
    refine DZ (f:=fun x y=>P9 (f+7) (x,y)) (by unfold Bf;rw[List.length_append];omega) fun i h1 h2=>vals (s1 _ (List.getElem_mem h1)) (s2 _ (List.getElem_mem h2)) (by omega)
  ·rw[show ZC (f+13) (a,b)=_ from d225 (f+12) a b];unfold p_
   refine Ok.Ac (Q:=fun _=>True) ?_ fun _ _=>Ok.some rf
   rw[show jO (f+12) (a.structs,b.structs)=_ from d224 (f+11) _ _];unfold qc
   refine DZ (f:=fun x y=>ZD (f+11) (x,y)) (by omega) fun i h1 h2=>?_
   have m1:=List.getElem_mem h1;have m2:=List.getElem_mem h2
   have q1:=a5 _ m1;have q2:=b5 _ m2
   have w1:=(a8 _ m1).2;have w2:=(b8 _ m2).2
   have s1:=ha.sv m1;have s2:=hb.sv m2
   generalize a.structs[i]=x at q1 s1 w1
   generalize b.structs[i]=y at q2 s2 w2
   have l1:=q1.nf;have l2:=q1.nc
   rw[show ZD (f+11) (x,y)=_ from d223 (f+10) x y];unfold qd
   refine Ok.Ac (Q:=fun _=>True) ?_ fun _ _=>Ok.some trivial
   rw[show jP (f+10) (x,y)=_ from d222 (f+9) x y];unfold qe
   refine Ic (g1:=ZH (f+9)) (g2:=ZE (f+9)) ?_ ?_
   ·rw[show ZH (f+9) (x,y)=_ from d216 (f+8) x y];unfold qk
    refine Ok.Ac (Q:=fun _=>True) ?_ fun _ _=>Ok.some rf
    rw[show jS (f+8) (x.1,y.1)=_ from d215 (f+7) _ _];unfold ql
    refine DZ (f:=fun x y=>ZI (f+7) (x,y)) (by omega) fun j k1 k2=>?_
    have t1:=s1 _ (List.mem_append.2 (.inl (List.mem_map.2 ⟨_,List.getElem_mem k1,rfl⟩)))
    have t2:=s2 _ (List.mem_append.2 (.inl (List.mem_map.2 ⟨_,List.getElem_mem k2,rfl⟩)))
    generalize x.1[j]=u at t1
    generalize y.1[j]=v at t2
    rw[show ZI (f+7) (u,v)=_ from d214 (f+6) u v];unfold qm
    refine Ok.Ac (Q:=fun _=>True) ?_ fun _ _=>Ok.some trivial
    rw[show jT (f+6) (u,v)=_ from d213 (f+5) u v];unfold qo
    refine LN (g1:=Wy (f+5)) (g2:=Wx (f+5)) (g3:=ZJ (f+5)) ?_ ?_ ?_
    ·rw[show Wy (f+5) (u,v)=_ from d199 _ u v];unfold kK
     exact Ok.Ac MU fun _ _=>Ok.some rf
    ·rw[show Wx (f+5) (u,v)=_ from d200 _ u v];unfold kJ
     exact Ok.Ac Rp fun _ _=>Ok.some rf
    ·rw[show ZJ (f+5) (u,v)=_ from d212 (f+4) u v];unfold qp
     exact Ok.Ac (vals t1 t2 (by omega)) fun _ _=>Ok.some rf
   ·rw[show ZE (f+9) (x,y)=_ from d221 (f+8) x y];unfold qf
    refine Ok.Ac (Q:=fun _=>True) ?_ fun _ _=>Ok.some rf
    rw[show jQ (f+8) (x.2,y.2)=_ from d220 (f+7) _ _];unfold qg
    refine DZ (f:=fun x y=>ZF (f+7) (x,y)) (by omega) fun j k1 k2=>?_
    have p1:=List.getElem_mem k1;have p2:=List.getElem_mem k2
    have t1:=s1 _ (List.mem_append.2 (.inr (List.mem_map.2 ⟨_,p1,rfl⟩)))
    have t2:=s2 _ (List.mem_append.2 (.inr (List.mem_map.2 ⟨_,p2,rfl⟩)))
    have i1:Ds x.2[j].1 (AV x.2[j].1 0) 14641:=⟨(w1 _ p1).1,(w1 _ p1).2,rfl,q1.each _ p1⟩
    have i2:Ds y.2[j].1 (AV y.2[j].1 0) 14641:=⟨(w2 _ p2).1,(w2 _ p2).2,rfl,q2.each _ p2⟩
    generalize x.2[j]=u at t1 i1
    generalize y.2[j]=v at t2 i2
    rw[show ZF (f+7) (u,v)=_ from d219 (f+6) u v];unfold qh
    refine Ok.Ac (Q:=fun _=>True) ?_ fun _ _=>Ok.some trivial
    rw[show jR (f+6) (u,v)=_ from d218 (f+5) u v];unfold qi
    refine Ic (g1:=Ww (f+5)) (g2:=ZG (f+5)) ?_ ?_
    ·rw[show Ww (f+5) (u,v)=_ from d201 _ u v];unfold kI
     exact Ok.Ac (FL i1 i2 (by decide) (by omega)) fun _ _=>Ok.some rf
    ·rw[show ZG (f+5) (u,v)=_ from d217 (f+4) u v];unfold qj
     exact Ok.Ac (vals t1 t2 (by omega)) fun _ _=>Ok.some rf
theorem IL{d fu:Nat}{a b:Vl}(ha:SB d a)(hb:SB d b)(hd:d<=3)(hF:1000000002000<fu):Ok (To fu (a,b)) fun _=>True:=by
 rw[show To fu (a,b)=_ from d228 fu a b];unfold kH
 exact Ok.Ac (G_ ha.1 hd (by omega)) fun _ _=>Ok.bif (fun _=>Ok.some trivial) fun _=>Ok.Ac (G_ hb.1 hd (by omega)) fun _ _=>Ok.bif (fun _=>Ok.some trivial) fun _=>Ok.Ac (GU ha hb (by omega)) fun _ _=>Ok.some trivial
end Go.GL
namespace Go.GL
open Go Go.GV Go.GK Go.Proofs
theorem MA{α:Type}{cmp:α->α->Option Int}{l:List α}(hc:∀x∈l,∀y∈l,Ok (cmp x y) fun _=>True){fu:Nat}(hn:l.length<1099511627776)(hf:l.length+1<fu):
  Ok (N_ cmp fu 0 l.length l) fun r=>r.Perm l:=by
 unfold N_
 refine Ok.fit (by omega) ?_
 refine Ok.loop (fun z:List α×Int=>z.1.Perm l/\1<=z.2) (fun z=>l.length+1-z.2.toNat) ⟨.refl _,by omega⟩ (by simp;omega) ?_
 rintro⟨m,i⟩ nx ⟨hp,hi⟩ hfu hnx
 dsimp only at hp hi
 refine Ok.ite (fun c=>?_) (fun c=>Ok.some hp)
 have hc1:i<l.length:=c
 refine Ok.loop (fun z:List α×Int=>z.1.Perm l/\0<=z.2/\z.2<=i) (fun z=>z.2.toNat) ⟨hp,by dsimp only;omega,Int.le_refl _⟩ (by show i.toNat<fu;omega) ?_
 rintro⟨m,j⟩ nx' ⟨hp,hj0,hj⟩ _ hnx'
 dsimp only at hp hj0 hj
 have hlen:m.length=l.length:=hp.length_eq
 have out:Ok (nx (m,i+1)) (fun r=>r.Perm l):=hnx (m,i+1) ⟨hp,by show 1<=i+1;omega⟩ (by show l.length+1-(i+1).toNat<l.length+1-i.toNat;omega)
 refine Ok.ite (fun c=>?_) (fun c=>Ok.fit (by omega) out)
 have c:0<j:=c
 obtain⟨A,q,C,hm',hA⟩:∃A q C,m=A++q::C/\A.length=j.toNat:=⟨m.take j.toNat,m[j.toNat]'(by omega),m.drop (j.toNat+1),by rw[<-List.drop_eq_getElem_cons (by omega),List.take_append_drop],by rw[List.length_take];omega⟩
 obtain⟨A,p,rfl⟩:∃A' p,A=A'++[p]:=by
  rcases List.eq_nil_or_concat A with h|⟨A',p,h⟩
  ·subst h;simp at hA;omega
  ·exact⟨A',p,by simpa using h⟩
 have hm':m=A++p::q::C:=by simp[hm']
 simp only[List.length_append,List.length_cons,List.length_nil]at hA
 have e1:idx m j=some q:=by
  unfold idx;rw[if_pos (by omega),hm',List.getElem?_append_right (by omega)]
  rw[show j.toNat-A.length=1 by omega];rfl
 have e2:idx m (j-1)=some p:=by
  unfold idx;rw[if_pos (by omega),hm',List.getElem?_append_right (by omega)]
  rw[show(j-1).toNat-A.length=0 by omega];rfl
 refine Ok.Ag e1 (Ok.fit (by omega) (Ok.Ag e2 (Ok.Ac (hc q (hp.mem_iff.1 (by simp[hm'])) p (hp.mem_iff.1 (by simp[hm']))) fun r hr=>?_)))
 refine Ok.ite (fun d=>?_) (fun d=>Ok.fit (by omega) out)
 refine Ok.fit (by omega) (Ok.fit (by omega) (Ok.Ag e2 (Ok.Ag e1 (Ok.Ag e1 ?_))))
 have s1:m.set j.toNat p=A++p::p::C:=by
  rw[hm',List.set_append_right _ _ (by omega),show j.toNat-A.length=1 by omega];rfl
 have s2:(m.set j.toNat p).set (j-1).toNat q=A++q::p::C:=by
  rw[s1,List.set_append_right _ _ (by omega),show(j-1).toNat-A.length=0 by omega];rfl
 have e3:idx (m.set j.toNat p) (j-1)=some p:=by
  unfold idx;rw[if_pos (by omega),s1,List.getElem?_append_right (by omega)]
  rw[show(j-1).toNat-A.length=0 by omega];rfl
 refine Ok.Ag e3 (Ok.fit (by omega) ?_)
 refine hnx' _ ⟨?_,by dsimp only;omega,by dsimp only;omega⟩ (by show(j-1).toNat<j.toNat;omega)
 show((m.set j.toNat p).set (j-1).toNat q).Perm l
 rw[s2];refine List.Perm.trans ?_ hp
 rw[hm'];exact List.Perm.append_left _ (List.Perm.swap ..)
theorem T2{fu:Nat}{l:List (Tb×Ci)}(h:l.length<=12)(hf:20<fu)(hc:∀x∈l,∀y∈l,Ok (Tw fu (x,y)) fun _=>True):Ok (WK fu l) fun r=>r.Perm l:=by
 rw[show WK fu l=aM fu l from d152 fu l];unfold aM
 have e:(Int.ofNat (l.length %Int.natAbs (18446744073709551616:Int)))=(l.length:Nat):=by
  show((l.length %18446744073709551616:Nat):Int)=_
  rw[Nat.mod_eq_of_lt (by omega)]
 rw[e]
 refine Ok.Ac (E6 h) fun r _=>?_
 rw[show ae fu (0,(l.length:Int),r,l)=aN fu 0 l.length r l from d151 fu 0 l.length r l];unfold aN
 obtain⟨f,rfl⟩:∃f,fu=f+1:=⟨fu-1,by omega⟩
 refine Ok.Ac (Q:=fun r:List (Tb×Ci)=>r.Perm l) ?_ fun r h=>Ok.some h
 rw[Ad]
 refine Ok.fit (by omega) (Ok.iT (by omega) ?_)
 refine Ok.Ac (Q:=fun r:List (Tb×Ci)=>r.Perm l) ?_ fun r h=>Ok.some h
 rw[show ah (f+1) (0,(l.length:Int),l)=lC (f+1) 0 l.length l from d150 (f+1) 0 l.length l]
 show Ok (N_ (fun x y=>Tw (f+1) (x,y)) (f+1) 0 l.length l) _
 exact MA hc (by omega) (by omega)
theorem T1{fu:Nat}{l:List (Ng)}(h:l.length<=12)(hf:20<fu)(hc:∀x∈l,∀y∈l,Ok (Tn fu (x,y)) fun _=>True):Ok (Tm fu l) fun r=>r.Perm l:=by
 rw[show Tm fu l=aH fu l from d232 fu l];unfold aH
 have e:(Int.ofNat (l.length %Int.natAbs (18446744073709551616:Int)))=(l.length:Nat):=by
  show((l.length %18446744073709551616:Nat):Int)=_
  rw[Nat.mod_eq_of_lt (by omega)]
 rw[e]
 refine Ok.Ac (E6 h) fun r _=>?_
 rw[show ZA fu (0,(l.length:Int),r,l)=aI fu 0 l.length r l from d231 fu 0 l.length r l];unfold aI
 obtain⟨f,rfl⟩:∃f,fu=f+1:=⟨fu-1,by omega⟩
 refine Ok.Ac (Q:=fun r:List (Ng)=>r.Perm l) ?_ fun r h=>Ok.some h
 rw[Ad]
 refine Ok.fit (by omega) (Ok.iT (by omega) ?_)
 refine Ok.Ac (Q:=fun r:List (Ng)=>r.Perm l) ?_ fun r h=>Ok.some h
 rw[show ZB (f+1) (0,(l.length:Int),l)=kG (f+1) 0 l.length l from d230 (f+1) 0 l.length l]
 show Ok (N_ (fun x y=>Tn (f+1) (x,y)) (f+1) 0 l.length l) _
 exact MA hc (by omega) (by omega)
theorem T0{fu:Nat}{l:List (DI)}(h:l.length<=12)(hf:20<fu)(hc:∀x∈l,∀y∈l,Ok (Tl fu (x,y)) fun _=>True):Ok (Tk fu l) fun r=>r.Perm l:=by
 rw[show Tk fu l=aE fu l from d238 fu l];unfold aE
 have e:(Int.ofNat (l.length %Int.natAbs (18446744073709551616:Int)))=(l.length:Nat):=by
  show((l.length %18446744073709551616:Nat):Int)=_
  rw[Nat.mod_eq_of_lt (by omega)]
 rw[e]
 refine Ok.Ac (E6 h) fun r _=>?_
 rw[show Zw fu (0,(l.length:Int),r,l)=aF fu 0 l.length r l from d237 fu 0 l.length r l];unfold aF
 obtain⟨f,rfl⟩:∃f,fu=f+1:=⟨fu-1,by omega⟩
 refine Ok.Ac (Q:=fun r:List (DI)=>r.Perm l) ?_ fun r h=>Ok.some h
 rw[Ad]
 refine Ok.fit (by omega) (Ok.iT (by omega) ?_)
 refine Ok.Ac (Q:=fun r:List (DI)=>r.Perm l) ?_ fun r h=>Ok.some h
 rw[show Zx (f+1) (0,(l.length:Int),l)=kE (f+1) 0 l.length l from d236 (f+1) 0 l.length l]
 show Ok (N_ (fun x y=>Tl (f+1) (x,y)) (f+1) 0 l.length l) _
 exact MA hc (by omega) (by omega)
end Go.GL
namespace Go.GL
open Go Go.GV Go.GK Go.Proofs
theorem dB:4294967296<=Ak:=by decide
theorem dD:4294967296<=Ak:=by decide
theorem oP:4294967296<=4294967296:=by decide
theorem oO:4294967296<=4294967296:=by decide
structure dH(d:Nat)(c:Ng):Prop where
 n1:c.1.length<=3
 n2:c.2.length<=1
 vs:∀w∈Bf c,SX d w
structure W6(d:Nat)(c:DI):Prop where
 bd:P5 c
 az:Li c.1
 cl:∀k∈c.2,Bz k.1/\Cl k.1=k.1
 vs:∀w∈BQ c,SX d w
theorem SB.mk{d:Nat}{a:Bool}{s:Sc}{ls:List Ng}{ss:List DI}(h1:OQ 5 12 s)(h1':∀t∈s.2.2.2.2,t.2.length<=12)(h2:ls.length<=3)(h3:ss.length<=3)(h4:∀c∈ls,dH d c)(h5:∀c∈ss,W6 d c):SB (d+1) (.mk a s ls ss):=by
 have hk:∀x∈kids (.mk a s ls ss),SX d x:=fun x hx=>by
  rcases List.mem_append.1 hx with h|h
  ·obtain⟨c,hc,h⟩:=List.mem_flatMap.1 h
   exact(h4 c hc).vs x h
  ·obtain⟨c,hc,h⟩:=List.mem_flatMap.1 h
   exact(h5 c hc).vs x h
 have sc:=h1.sc (by decide)
 refine⟨⟨⟨sc.sm,sc.n1,sc.n2,sc.bt,h1.ln.len,h1'⟩,⟨h2,fun c hc=>⟨(h4 c hc).n1,Nat.le_trans (h4 c hc).n2 (by decide)⟩⟩,⟨h3,fun c hc=>(h5 c hc).bd⟩,fun x hx=>⟨(hk x hx).1.1,(hk x hx).2.1⟩⟩,h1,fun c hc=>(h4 c hc).n2,fun c hc=>⟨(h5 c hc).az,(h5 c hc).cl⟩,fun x hx=>⟨(hk x hx).1.2,(hk x hx).2.2⟩⟩
theorem UK{α:Type}{l:List α}{g:α->α->Option Bool}{srt:List α->Option (List α)}{cap fu:Nat}(hcap:4294967296<=cap)(hl:l.length<=12)(hf:20<fu)(hg:∀x∈l,∀y∈l,Ok (g x y) fun _=>True)(hs:∀m:List α,m.length<=12->(∀x∈m,x∈l)->Ok (srt m) fun r=>r.Perm m):
  Ok (Ad fu (fun(z1:List α×Nat) nx2=>
  bif decide (
        (z1.2:Int)<(l.length:Int))then
   Ac (idx l (z1.2:Int)) fun r3=>
   Ad fu (
        fun(z4:Nat) nx5=>
    bif decide ((z4:Int)<(l.length:Int))then
     Ac (idx l (z4:Int)) fun r6=>
     bif decide ((z1.2:Int)≠(z4:Int))then
      Ac (g r3 r6) fun r7=>
      bif r7 then
       bif decide ((z4:Int)<(z1.2:Int))then
        nx2 ((z1.1,z1.2+1))
       else
        Ac (g r6 r3) fun r8=>
        bif !r8 then
         nx2 ((z1.1,z1.2+1))
        else
         nx5 (z4+1)
      else
       nx5 (z4+1)
     else
      nx5 (z4+1)
    else
     Ah (List.length z1.1+1<=cap)<|
     nx2 (((z1.1++[r3]),z1.2+1))) (0)
  else
   Ac (srt z1.1) fun r9=>
   some (r9)) (([],0))) fun r=>r.length<=l.length/\∀x∈r,x∈l:=by
 refine Ok.range (fun k (s:List α)=>s.length<=k/\∀x∈s,x∈l) l.length ⟨by simp,by simp⟩ (by omega) (fun k s nx hk hJ hn=>?_) (fun s nx hJ=>?_)
 ·have m:=List.getElem_mem hk
  have skip:Ok (nx (s,k+1)) fun r=>r.length<=l.length/\∀x∈r,x∈l:=hn _ ⟨by omega,hJ.2⟩
  refine Ok.iT (by dsimp only;omega) (Ok.Aw hk ?_)
  refine Ok.count (fun _=>True) l.length trivial (by omega) (fun j nx5 hj _ hn5=>?_) (fun nx5 _=>?_)
  ·have m2:=List.getElem_mem hj
   exact Ok.iT (by omega) (Ok.Aw hj (Ok.ite (fun _=>Ok.Ac (hg _ m _ m2) fun r _=>Ok.bif (fun _=>Ok.ite (fun _=>skip) fun _=>Ok.Ac (hg _ m2 _ m) fun r _=>Ok.bif (fun _=>skip) fun _=>hn5 trivial) fun _=>hn5 trivial) fun _=>hn5 trivial))
  ·refine Ok.iF (by omega) (Ok.Ah (by dsimp only;omega) (hn _ ⟨by dsimp only;rw[List.length_append,List.length_singleton];omega,fun x hx=>?_⟩))
   rcases List.mem_append.1 hx with hx|hx
   ·exact hJ.2 x hx
   ·rw[List.mem_singleton.1 hx];exact m
 ·refine Ok.iF (by dsimp only;omega) (Ok.Ac (hs s (by omega) hJ.2) fun r hr=>Ok.some ⟨by rw[hr.length_eq];exact hJ.1,fun x hx=>hJ.2 x (hr.mem_iff.1 hx)⟩)
theorem XX{d fu:Nat}{l:List Ng}(hl:l.length<=3)(h:∀x∈l,dH d x)(hd:d<=2)(hF:1000000002000<fu):Ok (Zz fu l) fun r=>r.length<=l.length/\∀x∈r,x∈l:=by
 rw[d233];unfold kF
 have ih:∀ {fu:Nat} {a b:Vl},SB d a->SB d b->1000000000000+20*d<fu->Ok (Le fu (a,b)) fun r=>r=true->RO a b:=EO
 refine UK (g:=fun x y=>P_ fu (x,y)) (srt:=Tm fu) dB (by omega) (by omega) (fun x hx y hy=>Hf ih (h x hx).n1 (h x hx).vs (h y hy).vs (by omega)) fun m hm hml=>T1 hm (by omega) fun x hx y hy=>?_
 rw[show Tn fu (x,y)=aJ fu x y from d229 fu x y];unfold aJ
 have sb:∀z∈l,SB (d+1) (.mk false (false,false,false,([],[]),[]) [z] []):=fun z hz=>SB.mk (d:=d) GC (by simp) (by simp) (by simp) (fun c hc=>by rw[List.mem_singleton.1 hc];exact h z hz) (by simp)
 refine Ok.Ag (d191 fu x) (Ok.Ag (d191 fu y) (Ok.Ac (Q:=fun _=>True) ?_ fun _ _=>Ok.some trivial))
 exact IL (sb x (hml x hx)) (sb y (hml y hy)) (by omega) hF
theorem XW{d fu:Nat}{l:List DI}(hl:l.length<=3)(h:∀x∈l,W6 d x)(hd:d<=2)(hF:1000000002000<fu):Ok (Zv fu l) fun r=>r.length<=l.length/\∀x∈r,x∈l:=by
 rw[d239];unfold kD
 have ih:∀ {fu:Nat} {a b:Vl},SB d a->SB d b->1000000000000+20*d<fu->Ok (Le fu (a,b)) fun r=>r=true->RO a b:=EO
 refine UK (g:=fun x y=>Qa fu (x,y)) (srt:=Tk fu) dD (by omega) (by omega) (fun x hx y hy=>(Fl ih (h x hx).bd (h y hy).bd (h x hx).cl (h y hy).cl (h x hx).vs (h y hy).vs (by omega)).mono fun _ _=>trivial) fun m hm hml=>T0 hm (by omega) fun x hx y hy=>?_
 rw[show Tl fu (x,y)=aG fu x y from d235 fu x y];unfold aG
 have sb:∀z∈l,SB (d+1) (.mk false (false,false,false,([],[]),[]) [] [z]):=fun z hz=>SB.mk (d:=d) GC (by simp) (by simp) (by simp) (by simp) (fun c hc=>by rw[List.mem_singleton.1 hc];exact h z hz)
 refine Ok.Ag (d234 fu x) (Ok.Ag (d234 fu y) (Ok.Ac (Q:=fun _=>True) ?_ fun _ _=>Ok.some trivial))
 exact IL (sb x (hml x hx)) (sb y (hml y hy)) (by omega) hF
theorem K_{d fu:Nat}{v:Vl}(h:SB (d+1) v)(hF:1000000002000<fu):Ok (Zt fu v) fun _=>True:=by
 have no:Ok (some false) fun _=>True:=Ok.some trivial
 have top:∀x:Ci,Ok (Wv fu x) fun _=>True:=fun x=>by
  rw[d242];unfold kB
  exact Ok.bif (fun _=>Ok.some trivial) fun _=>no
 rw[d245];unfold kx
 refine Ok.ite (fun h1=>Ok.ite (fun h2=>?_) fun _=>no) fun _=>no
 have e1:Zu fu () =some (true,true,true,([(-100000000000,100000000000)],[(-999999999999999,999999999999999)]),Tc):=by
  refine(d241 fu).trans (Ok.eq ?_);unfold kC
  have e2:Tu fu () =some ([((-100000000000:Int),(100000000000:Int))],[((-999999999999999:Int),(999999999999999:Int))]):=by
   refine(d156 fu).trans (Ok.eq ?_)
   unfold aL
   exact Ok.Ag (d155 fu) (Ok.some rf)
  exact Ok.Ag e2 (Ok.Ag (d240 fu) (Ok.some rf))
 have hall:W5 1 12 (true,true,true,([((-100000000000:Int),(100000000000:Int))],[((-999999999999999:Int),(999999999999999:Int))]),Tc):=by
  refine⟨⟨fun s hs=>?_,fun s hs=>?_,by decide,by decide⟩,by decide,by decide,jw.by,by simp[HF,Tc]⟩
  ·rw[List.mem_singleton.1 hs];unfold EI GK.C6;decide
  ·rw[List.mem_singleton.1 hs];unfold EI GK.C6;decide
 refine Ok.Ag e1 (Ok.Ac (HB h.1.1 hall (by decide) (by decide) (by omega)) fun r _=>Ok.ite (fun _=>?_) fun _=>no)
 refine Ok.Ff (by decide) (by omega) (Ok.Ac (Q:=fun _=>True) ?_ fun b _=>Ok.bif (fun _=>Ok.Ff (by decide) (by omega) (Ok.Ac (Q:=fun _=>True) ?_ fun _ _=>Ok.some trivial)) fun _=>no)
 ·rw[d243];unfold kA
  exact Ok.ite (fun _=>Ok.ite (fun h3=>Ok.Ff (by decide) (by omega) (Ok.Ac (top _) fun _ _=>Ok.some trivial)) fun _=>no) fun _=>no
 ·rw[d244];unfold kz
  exact Ok.ite (fun _=>Ok.ite (fun h3=>Ok.Ff (by decide) (by omega) (Ok.Ac (top _) fun _ _=>Ok.some trivial)) fun _=>no) fun _=>no
end Go.GL
namespace Go.GL
open Go Go.GV Go.GK Go.Proofs
def G5(v:Vl):Prop:=v.any=false->∀c∈v.structs,∀f∈c.1,NB f.2.2.1
theorem Um{a b:List Nat}(h:a.Perm b):FZ a=FZ b:=by
 induction h with
 |nil=>rfl
 |cons x _ ih=>rw[FZ,FZ,ih]
 |swap x y l=>simp only[FZ];rw[<-Nat.mul_assoc,<-Nat.mul_assoc,Nat.mul_comm y x]
 |trans _ _ h1 h2=>exact h1.trans h2
theorem Li.of{l m:List (Ax×Int×Ci)}(h:Li l)(e:m.map (·.1)=l.map (·.1)):Li m:=by
 have hl:m.length=l.length:=by simpa using congrArg List.length e
 have hg:∀i (h1:i<m.length),m[i].1=(l[i]'(by omega)).1:=fun i h1=>by
  have:=List.getElem_of_eq e (by simpa using h1:i<(m.map (·.1)).length)
  simpa using this
 intro i hi
 rw[hg i (by omega),hg (i+1) hi]
 exact h i (by omega)
section
variable {d : Nat} (hd : d <= 2) (ih : ∀ {fu : Nat} {x : Ci}, SX d x -> 1000000003000 + 10 * d + 1 < fu -> Ok (KU fu x) fun r => r.2 = true -> SX d r.1)
include hd ih
theorem Im{fu:Nat}{c:Ng}(h:dH d c)(hF:1000000003000+10*d+2<fu):Ok (Zs fu c) fun r=>r.2.2=true->dH d r.1:=by
 have c35:=LW
 obtain⟨f,rfl⟩:∃f,fu=f+1:=⟨fu-1,by omega⟩
 rw[show Zs (f+1) c=_ from d246 f c];unfold pW
 have bad:Ok (some ((([],[]):Ng),false,false)) fun r=>r.2.2=true->dH d r.1:=Ok.some fun h=>by cases h
 have n1:=h.n1;have n2:=h.n2
 refine Ok.HS (fun k (s:List Ci) (_:Bool)=>s.length=k/\∀w∈s,SX d w) c.1.length ⟨rf,by simp⟩ (by omega) (fun k s t nx hk hJ hn=>?_) (fun s t nx hJ=>?_)
 ·have m:=h.vs _ (List.mem_append.2 (.inl (List.getElem_mem hk)))
  refine Ok.iT (by dsimp only;omega) (Ok.Aw hk (Ok.Ac (ih m (by omega)) fun r hr=>Ok.bif (fun _=>bad) fun h2=>?_))
  have hr:=hr (by simpa using h2)
  have add:∀b,Ok (nx (s++[r.1],b,k+1)) fun r=>r.2.2=true->dH d r.1:=fun b=>hn _ _ ⟨by rw[List.length_append,List.length_singleton,hJ.1],fun w hw=>by
   rcases List.mem_append.1 hw with hw|hw
   ·exact hJ.2 w hw
   ·rw[List.mem_singleton.1 hw];exact hr⟩
  have hs:=hJ.1
  exact Ok.bif (fun _=>Ok.Ac (CL hr.1 (by omega)) fun b _=>Ok.Ah (by dsimp only;omega) (add _)) fun _=>Ok.Ah (by dsimp only;omega) (add _)
 ·refine Ok.iF (by dsimp only;omega) ?_
  refine Ok.range (fun k (s2:List Ci)=>s2.length<=k/\∀w∈s2,SX d w) c.2.length ⟨by simp,by simp⟩ (by omega) (fun k s2 nx hk hJ2 hn=>?_) (fun s2 nx hJ2=>?_)
  ·have m:=h.vs _ (List.mem_append.2 (.inr (List.getElem_mem hk)))
   refine Ok.iT (by dsimp only;omega) (Ok.Aw hk (Ok.Ac (ih m (by omega)) fun r hr=>Ok.bif (fun _=>bad) fun h2=>?_))
   have hr:=hr (by simpa using h2)
   have hs:=hJ2.1
   refine Ok.Ac (CL hr.1 (by omega)) fun b _=>Ok.bif (fun _=>Ok.Ah (by dsimp only;omega) (hn _ ⟨by dsimp only;rw[List.length_append,List.length_singleton];omega,fun w hw=>?_⟩)) fun _=>hn _ ⟨by dsimp only;omega,hJ2.2⟩
   rcases List.mem_append.1 hw with hw|hw
   ·exact hJ2.2 w hw
   ·rw[List.mem_singleton.1 hw];exact hr
  ·refine Ok.iF (by dsimp only;omega) (Ok.some fun _=>⟨by dsimp only;omega,by have:=hJ2.1;dsimp only;omega,fun w hw=>?_⟩)
   rcases List.mem_append.1 hw with hw|hw
   ·exact hJ.2 w hw
   ·exact hJ2.2 w hw
omit ih in
theorem Vd{fu:Nat}{l:List (Tb×Ci)}{v:Ci}(h:∀k∈l,SX d k.2)(hv:SX d v)(hl:l.length<=12)(hF:1000000003000+10*d<fu):Ok (WM fu (l,v)) fun r=>r.2=(l,v)/\(0<=r.1->r.1<l.length):=by
 rw[show WM fu (l,v)=aT fu l v from d139 fu l v];unfold aT
 refine Ok.range (fun _ s=>s=v) l.length rf (by omega) (fun k s nx hk hJ hn=>?_) (fun s nx hJ=>?_)
 ·subst hJ
  have m:=h _ (List.getElem_mem hk)
  have e:Ok (WN fu (l[k],s)) fun r=>r.2=s:=by
   rw[show WN fu (l[k],s)=aU fu l[k] s from d138 fu _ _];unfold aU
   exact Ok.Ac (JO m.bd hv.bd (by omega)) fun r _=>Ok.some rf
  exact Ok.iT (by dsimp only;omega) (Ok.Aw hk (Ok.Ac e fun r hr=>Ok.bif (fun _=>Ok.some ⟨by rw[hr],fun _=>by dsimp only;omega⟩) fun _=>hn _ hr))
 ·exact Ok.iF (by dsimp only;omega) (Ok.some ⟨by rw[hJ],fun h=>by have h:(0:Int)<= -1:=h;omega⟩)
structure tH(d:Nat)(k:Tb×Ci):Prop where
 wf:Bz k.1
 cn:Cl k.1=k.1
 vs:SX d k.2
def HL(l:List (Tb×Ci)):Nat:=FZ (l.map fun k=>k.1.length+3)
omit hd ih in
theorem FV(a b:List (Tb×Ci)):HL (a++b)=HL a*HL b:=by unfold HL;rw[List.map_append,QD]
omit hd ih in
theorem L7(a:List (Tb×Ci)):0<HL a:=QB fun n hn=>by obtain⟨k,_,rfl⟩:=List.mem_map.1 hn;omega
omit hd ih in
theorem Jb(k:Tb×Ci):HL [k]=k.1.length+3:=by simp[HL,FZ]
omit hd ih in
theorem Qi{l:List (Tb×Ci)}{k:Tb×Ci}(h:k∈l):k.1.length+3<=HL l:=
 QC (fun n hn=>by obtain⟨k,_,rfl⟩:=List.mem_map.1 hn;omega) (List.mem_map.2 ⟨k,h,rfl⟩)
omit hd ih in
theorem OO{fu j:Nat}{c z:List (Tb×Ci)}(hj:j<c.length)(hw:HL z*HL (c.drop j)<=14641)(hz:∀k∈z,tH d k)(hc:tH d c[j])(hF:1000000003000<fu):
  Na fu (c[j].1,[])=some c[j].1/\(∀v,HL (z++[(c[j].1,v)])*HL (c.drop (j+1))<=14641)/\∀i (hi:i<z.length),Ok (Na fu (z[i].1,c[j].1)) fun t=>(Bz t/\Cl t=t)/\∀v,HL (z.set i (t,v))*HL (c.drop (j+1))<=14641:=by
 have e1:HL (c.drop j)=(c[j].1.length+3)*HL (c.drop (j+1)):=by
  rw[List.drop_eq_getElem_cons hj,show c[j]::c.drop (j+1)=[c[j]]++c.drop (j+1)from rfl,FV,Jb]
 have p1:=L7 (c.drop (j+1));have p2:=L7 z
 have b1:c[j].1.length+3<=14641:=Nat.le_trans (by rw[e1];exact Nat.le_mul_of_pos_right _ p1) (Nat.le_trans (Nat.le_mul_of_pos_left _ p2) hw)
 have ij:Ds c[j].1 (AV c[j].1 0) 14641:=⟨hc.wf,hc.cn,rfl,by omega⟩
 refine⟨?_,fun v=>?_,fun i hi=>?_⟩
 ·obtain⟨t,et,ht⟩:=Pm (GP (fu:=fu) ij (Ds.nil (m:=0)) (by decide) (by omega))
  have:c[j].1=t:=ij.unique (ht.congr (funext fun w=>by rw[ij.gL,FE,Bool.or_false]))
  rw[et,<-this]
 ·rw[FV,Jb,Nat.mul_assoc]
  rw[e1]at hw;exact hw
 ·have hz':=hz _ (List.getElem_mem hi)
  have b2:z[i].1.length+3<=14641:=Nat.le_trans (Qi (List.getElem_mem hi)) (Nat.le_trans (Nat.le_mul_of_pos_right _ (L7 _)) hw)
  have ii:Ds z[i].1 (AV z[i].1 0) 14641:=⟨hz'.wf,hz'.cn,rfl,by omega⟩
  refine(Pm (GP (fu:=fu) ii ij (by decide) (by omega))).mono fun t ht=>⟨⟨ht.wf,ht.can⟩,fun v=>?_⟩
  have hl:t.length+3<=(z[i].1.length+3)*(c[j].1.length+3):=by
   have:=ht.len;unfold IC at this
   have e:(z[i].1.length+3)*(c[j].1.length+3)=(z[i].1.length+2)*(c[j].1.length+2)+(z[i].1.length+2)+(c[j].1.length+2)+1:=by
    show((z[i].1.length+2)+1)*((c[j].1.length+2)+1)=_
    generalize z[i].1.length+2=x,c[j].1.length+2=y
    rw[Nat.add_mul,Nat.mul_add];omega
   omega
  have ez:z=z.take i++([z[i]]++z.drop (i+1)):=by rw[List.singleton_append,<-List.drop_eq_getElem_cons hi,List.take_append_drop]
  have es:z.set i (t,v)=z.take i++([(t,v)]++z.drop (i+1)):=by rw[List.set_eq_take_append_cons_drop,if_pos hi];rfl
  rw[es,FV,FV,Jb]
  have hw':HL (z.take i)*((z[i].1.length+3)*HL (z.drop (i+1)))*((c[j].1.length+3)*HL (c.drop (j+1)))<=14641:=by
   rw[ez,FV,FV,Jb,e1]at hw
   exact hw
  refine Nat.le_trans ?_ hw'
  generalize HL (z.take i)=A,HL (z.drop (i+1))=B,HL (c.drop (j+1))=C at*
  calc A*((t.length+3)*B)*C<=A*(((z[i].1.length+3)*(c[j].1.length+3))*B)*C:=Nat.mul_le_mul_right _ (Nat.mul_le_mul_left _ (Nat.mul_le_mul_right _ hl))
   _=A*((z[i].1.length+3)*B)*((c[j].1.length+3)*C):=by
    generalize z[i].1.length+3=x,c[j].1.length+3=y
    rw[Nat.mul_assoc,Nat.mul_assoc,Nat.mul_assoc A]
    congr 1
    rw[Nat.mul_assoc,Nat.mul_assoc,Nat.mul_left_comm y]
end
end Go.GL
namespace Go.GL
open Go Go.GV Go.GK Go.Proofs
theorem W6.zj{d:Nat}{c:DI}(h:W6 d c):∀k∈c.2,tH d k:=fun k hk=>⟨(h.cl k hk).1,(h.cl k hk).2,h.vs _ (List.mem_append.2 (.inr (List.mem_map.2 ⟨k,hk,rfl⟩)))⟩
theorem GW{d:Nat}(hd:d<=2)(ih:∀ {fu:Nat} {x:Ci},SX d x->1000000003000+10*d+1<fu->Ok (KU fu x) fun r=>r.2=true->SX d r.1){fu:Nat}{c:DI}(h:W6 d c)(hF:1000000003000+10*d+2<fu):
  Ok (Zr fu c) fun r=>r.2.2=true->W6 d r.1/\(r.2.1=true->∀f∈r.1.1,NB f.2.2.1):=by
 have c71:=oP;have c94:=oO
 obtain⟨f,rfl⟩:∃f,fu=f+1:=⟨fu-1,by omega⟩
 rw[show Zr (f+1) c=_ from d247 f c];unfold pV
 have bad:Ok (some ((([],[]):DI),false,false)) fun r=>r.2.2=true->W6 d r.1/\(r.2.1=true->∀f∈r.1.1,NB f.2.2.1):=Ok.some fun h=>by cases h
 have n1:=h.bd.nf;have n2:=h.bd.nc
 refine Ok.HS (fun k (s:List (Ax×Int×Ci)) (t:Bool)=>s.map (·.1)=(c.1.take k).map (·.1)/\(∀f∈s,SX d f.2.2)/\(t=true->∀f∈s,NB f.2.2.1)) c.1.length ⟨rf,by simp,by simp⟩ (by omega) (fun k s t nx hk hJ hn=>?_) (fun s t nx hJ=>?_)
 ·have m:=h.vs _ (List.mem_append.2 (.inl (List.mem_map.2 ⟨_,List.getElem_mem hk,rfl⟩)))
  have hsl:s.length<=4:=by have:=congrArg List.length hJ.1;simp only[List.length_map,List.length_take]at this;omega
  refine Ok.iT (by dsimp only;omega) (Ok.Aw hk (Ok.Ac (ih m (by omega)) fun r hr=>Ok.bif (fun _=>bad) fun h2=>?_))
  have hr:=hr (by simpa using h2)
  have add:∀b:Bool,(b=true->t=true/\NB r.1.1)->Ok (nx (s++[(c.1[k].1,c.1[k].2.1,r.1)],b,k+1)) fun r=>r.2.2=true->W6 d r.1/\(r.2.1=true->∀f∈r.1.1,NB f.2.2.1):=fun b hb=>by
   refine hn _ _ ⟨by rw[List.map_append,hJ.1,List.take_succ_eq_append_getElem hk,List.map_append];rfl,fun w hw=>?_,fun hbt w hw=>?_⟩
   ·rcases List.mem_append.1 hw with hw|hw
    ·exact hJ.2.1 w hw
    ·rw[List.mem_singleton.1 hw];exact hr
   ·obtain⟨h3,h4⟩:=hb hbt
    rcases List.mem_append.1 hw with hw|hw
    ·exact hJ.2.2 h3 w hw
    ·rw[List.mem_singleton.1 hw];exact h4
  refine Ok.bif (fun ht=>Ok.Ac (CL hr.1 (by omega)) fun b hb=>Ok.Ah (by dsimp only;omega) (add _ fun hb2=>⟨ht,?_⟩)) fun _=>Ok.Ah (by dsimp only;omega) (add false fun h=>by cases h)
  refine Classical.byContradiction fun hnb=>?_
  rw[hb.2 hnb]at hb2;cases hb2
 ·refine Ok.iF (by dsimp only;omega) ?_
  rw[Au]at hJ
  refine Ok.range (fun j (z:List (Tb×Ci))=>z.length<=j/\(∀k∈z,tH d k)/\HL z*HL (c.2.drop j)<=14641) c.2.length ⟨by simp,by simp,by simpa [HL,FZ]using h.bd.st⟩ (by omega) (fun j z nx hj hJ2 hn=>?_) (fun z nx hJ2=>?_)
  ·have m:=h.vs _ (List.mem_append.2 (.inr (List.mem_map.2 ⟨_,List.getElem_mem hj,rfl⟩)))
   obtain⟨z1,z2,z3⟩:=hJ2
   obtain⟨a1,a2,a3⟩:=OO (fu:=f) (d:=d) hj z3 z2 (h.zj _ (List.getElem_mem hj)) (by omega)
   refine Ok.iT (by dsimp only;omega) (Ok.Aw hj (Ok.Ac (ih m (by omega)) fun r hr=>Ok.bif (fun _=>bad) fun h2=>?_))
   have hr:=hr (by simpa using h2)
   refine Ok.Ac (Vd (l:=z) hd (fun k hk=>(z2 k hk).vs) hr (by omega) (by omega)) fun r10 h10=>?_
   obtain⟨i,q1,q2⟩:=r10
   obtain⟨h10,h11⟩:=h10
   cases h10
   dsimp only at h11⊢
   have cj:=h.zj _ (List.getElem_mem hj)
   refine Ok.ite (fun hi=>Ok.Ag a1 (Ok.Ah (by omega) (hn _ ⟨by rw[List.length_append,List.length_singleton];omega,fun k hk=>?_,a2 _⟩))) fun hi=>?_
   ·rcases List.mem_append.1 hk with hk|hk
    ·exact z2 k hk
    ·rw[List.mem_singleton.1 hk];exact⟨cj.wf,cj.cn,hr⟩
   ·have ME:=h11 (by omega)
    obtain⟨n,rfl⟩:∃n:Nat,i=n:=⟨i.toNat,by omega⟩
    have hn':n<z.length:=by omega
    refine Ok.Aw hn' (Ok.Ac (a3 n hn') fun t ht=>Ok.Aw hn' (hn _ ⟨by rw[List.length_set];omega,fun k hk=>?_,by rw[Int.toNat_natCast];exact ht.2 _⟩))
    rcases List.mem_or_eq_of_mem_set hk with hk|hk
    ·exact z2 k hk
    ·rw[hk];exact⟨ht.1.1,ht.1.2,(z2 _ (List.getElem_mem hn')).vs⟩
  ·refine Ok.iF (by dsimp only;omega) ?_
   obtain⟨z1,z2,z3⟩:=hJ2
   have z3:HL z<=14641:=by simpa [HL,FZ]using z3
   have il:∀k∈z,Ds k.1 (AV k.1 0) 14641:=fun k hk=>⟨(z2 k hk).wf,(z2 k hk).cn,rfl,by have:=Qi hk;omega⟩
   refine Ok.Ac (T2 (fu:=f) (l:=z) (by omega) (by omega) fun x hx y hy=>?_) fun r15 h15=>Ok.some fun _=>⟨⟨⟨?_,?_,fun g hg=>?_,?_,fun k hk=>?_,fun k hk s hs=>?_⟩,h.az.of hJ.1,fun k hk=>?_,fun w hw=>?_⟩,hJ.2.2⟩
   ·rw[show Tw f (x,y)=aO f x y from d149 f x y];unfold aO
    exact Ok.Ac (FL (il x hx) (il y hy) (by decide) (by omega)) fun _ _=>Ok.some trivial
   ·have:=congrArg List.length hJ.1;simp only[List.length_map]at this;dsimp only;omega
   ·dsimp only;rw[h15.length_eq];omega
   ·have:g.1∈s.map (·.1):=List.mem_map.2 ⟨g,hg,rfl⟩
    rw[hJ.1]at this
    obtain⟨g',hg',e⟩:=List.mem_map.1 this
    rw[<-e];exact h.bd.lb g' hg'
   ·dsimp only;rw[Um (h15.map _)];exact z3
   ·exact(z2 k (h15.mem_iff.1 hk)).wf.by
   ·exact((z2 k (h15.mem_iff.1 hk)).wf s hs).len
   ·exact⟨(z2 k (h15.mem_iff.1 hk)).wf,(z2 k (h15.mem_iff.1 hk)).cn⟩
   ·rcases List.mem_append.1 hw with hw|hw
    ·obtain⟨g,hg,rfl⟩:=List.mem_map.1 hw;exact hJ.2.1 g hg
    ·obtain⟨k,hk,rfl⟩:=List.mem_map.1 hw;exact(z2 k (h15.mem_iff.1 hk)).vs
theorem SB.lok{d:Nat}{v:Vl}(h:SB (d+1) v):∀c∈v.lists,dH d c:=fun c hc=>⟨(h.1.2.1.2 c hc).1,h.2.2.1 c hc,h.lv hc⟩
theorem SB.tX{d:Nat}{v:Vl}(h:SB (d+1) v):∀c∈v.structs,W6 d c:=fun c hc=>⟨h.1.2.2.1.2 c hc,(h.2.2.2.1 c hc).1,(h.2.2.2.1 c hc).2,h.sv hc⟩
theorem Ru{d:Nat}(hd:d<=3)(ih:∀ {fu:Nat} {v:Vl},SB d v->1000000003000+10*d<fu->Ok (Tj fu v) fun r=>SB d r.1/\G5 r.1){fu:Nat}{x:Ci}(hx:SX d x)(hF:1000000003000+10*d+1<fu):
  Ok (KU fu x) fun r=>SX d r.1/\(G5 r.1.1/\G5 r.1.2)/\(r.2=true->RO r.1.2 r.1.1):=by
 obtain⟨e,rfl⟩:∃e,fu=e+1:=⟨fu-1,by omega⟩
 rw[show KU (e+1) x=_ from d249 e x];unfold pT
 refine Ok.Ac (ih hx.1 (by omega)) fun r hr=>Ok.Ac (ih hx.2 (by omega)) fun s hs=>?_
 have no:Ok (some ((r.1,s.1),false)) fun r=>SX d r.1/\(G5 r.1.1/\G5 r.1.2)/\(r.2=true->RO r.1.2 r.1.1):=Ok.some ⟨⟨hr.1,hs.1⟩,⟨hr.2,hs.2⟩,fun h=>by cases h⟩
 exact Ok.bif (fun _=>Ok.bif (fun _=>Ok.Ac (EO hs.1 hr.1 (by omega)) fun b hb=>Ok.some ⟨⟨hr.1,hs.1⟩,⟨hr.2,hs.2⟩,hb⟩) fun _=>no) fun _=>no
theorem OB:∀ {d fu:Nat} {v:Vl},d<=3->SB d v->1000000003000+10*d<fu->Ok (Tj fu v) fun r=>SB d r.1/\G5 r.1
 |0,_,_,_,h,_=>h.1.elim
 |d+1,fu,v,hd,hv,hF=>by
  have c79:=dB;have c67:=dD
  obtain⟨f,rfl⟩:∃f,fu=f+3:=⟨fu-3,by omega⟩
  have ih:∀ {fu:Nat} {x:Ci},SX d x->1000000003000+10*d+1<fu->Ok (KU fu x) fun r=>r.2=true->SX d r.1:=fun{fu x} hx hF=>
   (Ru (by omega) (fun h hF=>OB (by omega) h hF) hx hF).mono fun r hr _=>hr.1
  have hv0:SB (d+1) v0/\G5 v0:=⟨G9 d,fun _ c hc=>by cases hc⟩
  obtain⟨a1,⟨a2,_⟩,⟨a4,_⟩,_⟩:=id hv.1
  have a6:=hv.2.1
  rw[show Tj (f+3) v=_ from d248 (f+2) v];unfold pU
  refine Ok.bif (fun ha=>Ok.some ⟨hv,fun h=>by rw[ha]at h;cases h⟩) fun ha=>Ok.Ag (Ot a6 (by omega) (by decide) (by omega)) ?_
  refine Ok.range (fun k (s:List Ng)=>s.length<=k/\∀c∈s,dH d c) v.lists.length ⟨by simp,by simp⟩ (by omega) (fun k s nx hk hJ hn=>?_) (fun s nx hJ=>?_)
  ·have m:=hv.lok _ (List.getElem_mem hk)
   have hs:=hJ.1
   refine Ok.iT (by dsimp only;omega) (Ok.Aw hk (Ok.Ac (Im (by omega) ih m (by omega)) fun r hr=>Ok.bif (fun _=>Ok.some hv0) fun h2=>Ok.bif (fun _=>Ok.Ah (by dsimp only;omega) (hn _ ⟨by dsimp only;rw[List.length_append,List.length_singleton];omega,fun c hc=>?_⟩)) fun _=>hn _ ⟨by dsimp only;omega,hJ.2⟩))
   rcases List.mem_append.1 hc with hc|hc
   ·exact hJ.2 c hc
   ·rw[List.mem_singleton.1 hc];exact hr (by simpa using h2)
  refine Ok.iF (by dsimp only;omega) ?_
  refine Ok.range (fun k (z:List DI)=>z.length<=k/\∀c∈z,W6 d c/\∀f∈c.1,NB f.2.2.1) v.structs.length ⟨by simp,by simp⟩ (by omega) (fun k z nx hk hJ2 hn=>?_) (fun z nx hJ2=>?_)
  ·have m:=hv.tX _ (List.getElem_mem hk)
   have hs:=hJ2.1
   refine Ok.iT (by dsimp only;omega) (Ok.Aw hk (Ok.Ac (GW (by omega) ih m (by omega)) fun r hr=>Ok.bif (fun _=>Ok.some hv0) fun h2=>Ok.bif (fun h3=>Ok.Ah (by dsimp only;omega) (hn _ ⟨by dsimp only;rw[List.length_append,List.length_singleton];omega,fun c hc=>?_⟩)) fun _=>hn _ ⟨by dsimp only;omega,hJ2.2⟩))
   rcases List.mem_append.1 hc with hc|hc
   ·exact hJ2.2 c hc
   ·have hr:=hr (by simpa using h2)
    rw[List.mem_singleton.1 hc];exact⟨hr.1,hr.2 h3⟩
  have s1:=hJ.1;have s2:=hJ2.1
  refine Ok.iF (by dsimp only;omega) (Ok.Ac (XX (l:=s) (by omega) hJ.2 (by omega) (by omega)) fun r10 h10=>Ok.Ac (XW (l:=z) (by omega) (fun c hc=>(hJ2.2 c hc).1) (by omega) (by omega)) fun r11 h11=>?_)
  have sb:SB (d+1) (Vl.mk false v.sc r10 r11):=SB.mk a6 a1.sh.2 (by omega) (by omega) (fun c hc=>hJ.2 c (h10.2 c hc)) fun c hc=>(hJ2.2 c (h11.2 c hc)).1
  have cf:G5 (Vl.mk false v.sc r10 r11):=fun _ c hc f hf=>(hJ2.2 c (h11.2 c hc)).2 f hf
  refine Ok.Ac (K_ sb (by omega)) fun b _=>Ok.bif (fun _=>Ok.some ⟨SB.mk GC (by simp) (by simp) (by simp) (by simp) (by simp),fun h=>by cases h⟩) fun _=>Ok.some ⟨sb,cf⟩
theorem UM{d fu:Nat}{x:Ci}(hx:Lh d x)(hd:d<=3)(hF:1000000005000<fu):Ok (Ti fu x) fun r=>Lh d r.1/\(r.2=0->SX d r.1/\(G5 r.1.1/\G5 r.1.2)/\RO r.1.2 r.1.1/\SX d x):=by
 have hd0:d≠0:=by rintro rfl;exact hx.1.elim
 obtain⟨d,rfl⟩:∃e,d=e+1:=⟨d-1,by omega⟩
 have no:Ok (some ((v0,v0),(11:Int))) fun r=>Lh (d+1) r.1/\(r.2=0->SX (d+1) r.1/\(G5 r.1.1/\G5 r.1.2)/\RO r.1.2 r.1.1/\SX (d+1) x):=Ok.some ⟨⟨(G9 d).1,(G9 d).1⟩,fun h=>by cases h⟩
 rw[d251];unfold kv
 refine Ok.Ac (R3 hx hd (by omega)) fun b hb=>Ok.bif (fun _=>no) fun h=>?_
 have hs:=hb (by simpa using h)
 have sx:SX (d+1) x:=⟨⟨hx.1,hs.1⟩,hx.2,hs.2⟩
 refine Ok.Ac (Ru hd (fun h hF=>OB hd h hF) sx (by omega)) fun r hr=>Ok.bif (fun _=>no) fun h2=>Ok.some ⟨hr.1.bd,fun _=>⟨hr.1,hr.2.1,hr.2.2 (by simpa using h2),sx⟩⟩
def Wg(d:Nat)(x:Ci):Prop:=SX d x/\(G5 x.1/\G5 x.2)/\RO x.2 x.1
theorem RU{d fu:Nat}{x:Ci}(hx:Lh d x)(hd:d<=3)(hF:1000000005000<fu):Ok (KT fu x) fun r=>r=true->Wg d x/\Ti fu x=some (x,0):=by
 rw[d252];unfold ku
 obtain⟨⟨y,e⟩,he,hb,hy⟩:=UM (fu:=fu) hx hd hF
 refine Ok.Ag he (Ok.ite (fun h=>Ok.Ac (JO hb hx (by omega)) fun r hr=>Ok.some fun h2=>?_) fun _=>Ok.some fun h=>by cases h)
 have h:e=0:=h
 subst h
 obtain rfl:y=x:=hr.1 h2
 have:=hy rfl
 exact⟨⟨this.1,this.2.1,this.2.2.1⟩,he⟩
end Go.GL
namespace Go.GL
open Go Go.GV Go.GK Go.Proofs
def I7(fu:Nat):Nat->Vl->Prop
 |0,_=>True
 |d+1,v=>((∀s∈v.sc.2.2.2.1.1,EI s)/\∀s∈v.sc.2.2.2.1.2,EI s)/\(OT v.sc.2.2.2.2/\v.sc.2.2.2.2.length<fu)/\(∀c∈v.structs,∀k∈c.2,OT k.1/\k.1.length<fu)/\∀x∈kids v,I7 fu d x.1/\I7 fu d x.2
theorem QZ{l:Tb}{fu:Nat}(h:l.length<fu):Ok (F0 fu l) fun r=>r=true->l.length<=8/\∀s∈l,s.2.length<=12:=by
 rw[d0];unfold D0
 refine Ok.count (fun k=> ∀s∈l.take k,s.2.length<=12) l.length (by simp) h (fun k nx hk hJ hn=>?_) (fun nx hJ=>?_)
 ·refine Ok.iT (by omega) (Ok.Aw hk (Ok.ite (fun _=>Ok.some fun h=>by cases h) fun h=>hn fun s hs=>?_))
  rcases(Av hk).1 hs with hs|rfl
  ·exact hJ s hs
  ·omega
 ·rw[Au]at hJ
  exact Ok.iF (by omega) (Ok.some fun h=>⟨by have:=of_decide_eq_true h;omega,hJ⟩)
theorem Pa{s:Sc}{fu:Nat}(h1:(∀t∈s.2.2.2.1.1,EI t)/\∀t∈s.2.2.2.1.2,EI t)(h2:OT s.2.2.2.2/\s.2.2.2.2.length<fu):Ok (F1 fu s) fun r=>r=true->W5 5 12 s:=by
 have no:Ok (some false) fun r=>r=true->W5 5 12 s:=Ok.some fun h=>by cases h
 rw[d1];unfold D1
 refine Ok.ite (fun a=>Ok.ite (fun b=>Ok.Ac (QZ h2.2) fun r hr=>Ok.some fun h=>?_) fun _=>no) fun _=>no
 have:=hr h
 exact⟨⟨h1.1,h1.2,by omega,by omega⟩,by omega,by omega,h2.1,by omega,this.2⟩
def mB:Nat->Nat
 |0=>61
 |d+1=>1+6*(60+2*mB d)
theorem dq:∀ {d:Nat},d<=3->61<=mB d/\mB d<=1000000
 |0,_=>by decide
 |1,_=>by decide
 |2,_=>by decide
 |3,_=>by decide
 |n+4,h=>by omega
section
variable {d : Nat} (hd : d <= 3) (ih : ∀ {fu gu : Nat} {v : Vl} {m : Int}, I7 gu d v -> gu + 10 * d <= fu -> 1000000000000 + 10 * d < fu -> (0 <= m /\ m <= 60) -> Ok (F3 fu (v, (d : Int), m)) fun r => (1 <= r /\ r <= mB d) /\ (r <= m -> Bd d v))
include hd ih
theorem Gs{fu gu:Nat}{l:List Ci}{m:Int}(h:∀x∈l,I7 gu d x.1/\I7 gu d x.2)(hg:gu+10*d+1<=fu)(hF:1000000000000+10*d+1<fu)(hl:l.length<=1000)(hm: -100000000<=m/\m<=60):
  Ok (F2 fu (l,(d:Int),m)) fun r=>(0<=r/\r<=60+2*mB d)/\(r<=m->∀x∈l,Lh d x):=by
 have hB:=dq (d:=d) (by omega)
 obtain⟨f,rfl⟩:∃f,fu=f+1:=⟨fu-1,by omega⟩
 rw[show F2 (f+1) (l,(d:Int),m)=_ from d2 f l d m];unfold D2
 refine Ok.range (fun k (n:Int)=>(0<=n/\n<=60+2*mB d)/\(n<=m->∀x∈l.take k,Lh d x)) l.length ⟨⟨by decide,by omega⟩,fun _=>by simp⟩ (by omega) (fun k n nx hk hJ hn=>?_) (fun n nx hJ=>?_)
 ·obtain⟨⟨j1,j2⟩,j3⟩:=hJ
  have hx:=h _ (List.getElem_mem hk)
  refine Ok.iT (by dsimp only;omega) (Ok.ite (fun h1=>?_) fun h1=>Ok.some ⟨⟨j1,j2⟩,fun h2=>absurd h2 h1⟩)
  have h1:n<=m:=h1
  refine Ok.Aw hk (Ok.fit (by dsimp only;omega) (Ok.Ac (ih (m:=m-n) hx.1 (by omega) (by omega) (by omega)) fun r4 h4=>?_))
  obtain⟨⟨a1,a2⟩,a3⟩:=h4
  refine Ok.fit (by dsimp only;omega) (Ok.ite (fun h2=>?_) fun h2=>hn _ ⟨⟨by dsimp only;omega,by dsimp only;omega⟩,fun h3=>absurd h3 h2⟩)
  have h2:n+r4<=m:=h2
  refine Ok.Aw hk (Ok.fit (by dsimp only;omega) (Ok.Ac (ih (m:=m-(n+r4)) hx.2 (by omega) (by omega) (by omega)) fun r6 h6=>?_))
  obtain⟨⟨b1,b2⟩,b3⟩:=h6
  refine Ok.fit (by dsimp only;omega) (hn _ ⟨⟨by dsimp only;omega,by dsimp only;omega⟩,fun h3 x hx2=>?_⟩)
  have h3:n+r4+r6<=m:=h3
  rcases(Av hk).1 hx2 with hx2|rfl
  ·exact j3 h1 x hx2
  ·exact⟨a3 (by omega),b3 (by omega)⟩
 ·obtain⟨j1,j3⟩:=hJ
  rw[Au]at j3
  exact Ok.iF (by dsimp only;omega) (Ok.some ⟨j1,j3⟩)
end
theorem I7.lv{gu d:Nat}{v:Vl}(h:I7 gu (d+1) v){c:Ng}(hc:c∈v.lists):∀x∈Bf c,I7 gu d x.1/\I7 gu d x.2:=fun x hx=>
 h.2.2.2 x (List.mem_append.2 (.inl (List.mem_flatMap.2 ⟨c,hc,hx⟩)))
theorem I7.sv{gu d:Nat}{v:Vl}(h:I7 gu (d+1) v){c:DI}(hc:c∈v.structs):∀x∈BQ c,I7 gu d x.1/\I7 gu d x.2:=fun x hx=>
 h.2.2.2 x (List.mem_append.2 (.inr (List.mem_flatMap.2 ⟨c,hc,hx⟩)))
theorem Kb:∀ {d fu gu:Nat} {v:Vl} {m:Int},d<=3->I7 gu d v->gu+10*d<=fu->1000000000000+10*d<fu->(0<=m/\m<=60)->Ok (F3 fu (v,(d:Int),m)) fun r=>(1<=r/\r<=mB d)/\(r<=m->Bd d v)
 |0,fu,gu,v,m,_,_,_,hF,hm=>by
  obtain⟨f,rfl⟩:∃f,fu=f+1:=⟨fu-1,by omega⟩
  rw[show F3 (f+1) (v,((0:Nat):Int),m)=_ from d3 f v _ m];unfold D3
  exact Ok.iT (by decide) (Ok.fit (by omega) (Ok.some ⟨⟨by omega,by have:mB 0=61:=rfl;omega⟩,fun h=>by omega⟩))
 |d+1,fu,gu,v,m,hd,h,hg,hF,hm=>by
  have c35:=LW
  obtain⟨f,rfl⟩:∃f,fu=f+1:=⟨fu-1,by omega⟩
  have ih:∀ {fu gu:Nat} {v:Vl} {m:Int},I7 gu d v->gu+10*d<=fu->1000000000000+10*d<fu->(0<=m/\m<=60)->Ok (F3 fu (v,(d:Int),m)) fun r=>(1<=r/\r<=mB d)/\(r<=m->Bd d v):=fun h hg hF hm=>Kb (by omega) h hg hF hm
  have all:∀ {l:List Ci} {q:Int},(∀x∈l,I7 gu d x.1/\I7 gu d x.2)->l.length<=1000-> -100000000<=q/\q<=60->Ok (F2 f (l,((d+1:Nat):Int)-1,q)) fun r=>(0<=r/\r<=60+2*mB d)/\(r<=q->∀x∈l,Lh d x):=fun hx hl hq=>by
   rw[show((d+1:Nat):Int)-1=(d:Int) by omega]
   exact Gs (by omega) ih hx (by omega) (by omega) hl hq
  have hB:=dq (d:=d) (by omega)
  have hB1:mB (d+1)=1+6*(60+2*mB d):=rfl
  rw[show F3 (f+1) (v,((d+1:Nat):Int),m)=_ from d3 f v _ m];unfold D3
  have bad:Ok (Ab IntKind.i64 (m+1) (some (m+1))) fun r=>(1<=r/\r<=mB (d+1))/\(r<=m->Bd (d+1) v):=Ok.fit (by omega) (Ok.some ⟨⟨by omega,by omega⟩,fun h=>by omega⟩)
  refine Ok.iF (by omega) (Ok.ite (fun _=>bad) fun hm1=>Ok.Ac (Pa h.1 ⟨h.2.1.1,by have:=h.2.1.2;omega⟩) fun r1 hr1=>Ok.bif (fun _=>bad) fun h1=>Ok.ite (fun _=>bad) fun h2=>Ok.ite (fun _=>bad) fun h3=>?_)
  have sc:=hr1 (by simpa using h1)
  refine Ok.range (fun k (n:Int)=>(1<=n/\n<=1+k*(60+2*mB d))/\(n<=m->∀c∈v.lists.take k,(c.1.length<=3/\c.2.length<=2)/\∀x∈Bf c,Lh d x)) v.lists.length ⟨⟨by decide,by omega⟩,fun _=>by simp⟩ (by omega) (fun k n nx hk hJ hn=>?_) (fun n nx hJ=>?_)
  ·obtain⟨⟨j1,j2⟩,j3⟩:=hJ
   have hc:=h.lv (List.getElem_mem hk)
   have hk3:(k:Int)*(60+2*mB d)<=3*(60+2*mB d):=Int.mul_le_mul_of_nonneg_right (by omega) (by omega)
   refine Ok.iT (by dsimp only;omega) (Ok.Aw hk (Ok.ite (fun _=>bad) fun k1=>Ok.Aw hk (Ok.ite (fun _=>bad) fun k2=>Ok.Aw hk ?_)))
   dsimp only at k1 k2⊢
   refine Ok.Ah (by omega) (Ok.Aw hk (Ok.Ah (by rw[List.nil_append];omega) (Ok.fit (by omega) (Ok.fit (by(try dsimp only);omega) ?_))))
   rw[List.nil_append]
   refine Ok.Ac (all (l:=v.lists[k].1++v.lists[k].2) (q:=m-n) hc (by rw[List.length_append];omega) (by omega)) fun r8 h8=>Ok.fit (by(try dsimp only);omega) (hn _ ⟨⟨by(try dsimp only);omega,?_⟩,fun h3 c hc2=>?_⟩)
   ·have:((k+1:Nat):Int)*(60+2*mB d)=k*(60+2*mB d)+(60+2*mB d):=by rw[Int.natCast_add,Int.add_mul];omega
    (try dsimp only);omega
   ·have h3:n+r8<=m:=h3
    rcases(Av hk).1 hc2 with hc2|rfl
    ·exact j3 (by omega) c hc2
    ·exact⟨⟨by omega,by omega⟩,h8.2 (by omega)⟩
  obtain⟨⟨j1,j2⟩,j3⟩:=hJ
  rw[Au]at j3
  have hk3:(v.lists.length:Int)*(60+2*mB d)<=3*(60+2*mB d):=Int.mul_le_mul_of_nonneg_right (by omega) (by omega)
  refine Ok.iF (by dsimp only;omega) ?_
  refine Ok.range (fun k (q:Int)=>(1<=q/\q<=1+3*(60+2*mB d)+k*(60+2*mB d))/\(q<=m->n<=m/\∀c∈v.structs.take k,P5 c/\∀x∈BQ c,Lh d x)) v.structs.length ⟨⟨j1,by omega⟩,fun h=>⟨h,by simp⟩⟩ (by omega) (fun k q nx hk hJ hn=>?_) (fun q nx hJ=>?_)
  ·obtain⟨⟨i1,i2⟩,i3⟩:=hJ
   have hm2:=List.getElem_mem hk
   have hc:=h.sv hm2
   have hcl:=h.2.2.1 _ hm2
   have hks:(k:Int)*(60+2*mB d)<=3*(60+2*mB d):=Int.mul_le_mul_of_nonneg_right (by omega) (by omega)
   refine Ok.iT (by dsimp only;omega) (Ok.ite (fun hq=>?_) fun hq=>Ok.some ⟨⟨by dsimp only;omega,by dsimp only;omega⟩,fun h=>absurd h hq⟩)
   refine Ok.Aw hk ?_
   dsimp only at hq⊢
   have go:(P5 v.structs[k])->(∀w:Int,(0<=w/\w<=60+2*mB d)/\(w<=m-q->∀x∈BQ v.structs[k],Lh d x)->Ok (nx (q+w,k+1)) fun r=>(1<=r/\r<=mB (d+1))/\(r<=m->Bd (d+1) v)):=fun hb w hw=>by
    refine hn _ ⟨⟨by(try dsimp only);omega,?_⟩,fun h3=>?_⟩
    ·have:((k+1:Nat):Int)*(60+2*mB d)=k*(60+2*mB d)+(60+2*mB d):=by rw[Int.natCast_add,Int.add_mul];omega
     (try dsimp only);omega
    ·have h3:q+w<=m:=h3
     obtain⟨a1,a2⟩:=i3 (by omega)
     refine⟨a1,fun c hc2=>?_⟩
     rcases(Av hk).1 hc2 with hc2|rfl
     ·exact a2 c hc2
     ·exact⟨hb,hw.2 (by omega)⟩
   generalize v.structs[k]=c at hm2 hc hcl go
   refine Ok.ite (fun _=>bad) fun k1=>Ok.ite (fun _=>bad) fun k2=>?_
   have k1:¬(4:Int)<c.1.length:=k1
   have k2:¬(4:Int)<c.2.length:=k2
   refine Ok.range (fun i (s:List Ci)=>s=(c.1.take i).map (·.2.2)/\∀g∈c.1.take i,g.1.length<=60) c.1.length ⟨rf,by simp⟩ (by omega) (fun i s nx2 hi hS hn2=>?_) (fun s nx2 hS=>?_)
   ·refine Ok.iT (by dsimp only;omega) (Ok.Aw hi (Ok.ite (fun _=>bad) fun k3=>Ok.Aw hi (Ok.Ah (by dsimp only;rw[hS.1,List.length_map,List.length_take];omega) (hn2 _ ⟨by dsimp only;rw[hS.1,List.take_succ_eq_append_getElem hi,List.map_append];rfl,fun g hg2=>?_⟩))))
    rcases(Av hi).1 hg2 with hg2|rfl
    ·exact hS.2 g hg2
    ·have k3:¬(60:Int)<(c.1[i]).1.length:=k3
     omega
   rw[Au]at hS
   refine Ok.iF (by dsimp only;omega) ?_
   refine Ok.range (fun i (s:List Ci)=>s=c.1.map (·.2.2)++(c.2.take i).map (·.2)/\∀g∈c.2.take i,g.1.length<=8/\∀t∈g.1,t.2.length<=12) c.2.length ⟨by rw[hS.1];simp,by simp⟩ (by omega) (fun i s nx3 hi hS2 hn3=>?_) (fun s nx3 hS2=>?_)
   ·have hcl':=hcl _ (List.getElem_mem hi)
    refine Ok.iT (by dsimp only;omega) (Ok.Aw hi (Ok.Ac (QZ (Nat.lt_of_lt_of_le hcl'.2 (by omega))) fun r19 h19=>Ok.bif (fun _=>bad) fun k4=>Ok.Aw hi (Ok.Ah (by dsimp only;rw[hS2.1,List.length_append,List.length_map,List.length_map,List.length_take];omega) (hn3 _ ⟨by dsimp only;rw[hS2.1,List.take_succ_eq_append_getElem hi,List.map_append,<-List.append_assoc];rfl,fun g hg2=>?_⟩))))
    rcases(Av hi).1 hg2 with hg2|rfl
    ·exact hS2.2 g hg2
    ·exact h19 (by simpa using k4)
   rw[Au]at hS2
   have e:s=BQ c:=hS2.1
   have hb:P5 c:=⟨by omega,by omega,hS.2,?_,fun g hg2=>(hcl g hg2).1,fun g hg2 t ht=>Nat.le_trans ((hS2.2 g hg2).2 t ht) (by decide)⟩
   ·refine Ok.iF (by dsimp only;omega) (Ok.fit (by omega) (Ok.fit (by omega) ?_))
    dsimp only
    rw[e]
    refine Ok.Ac (all (l:=BQ c) (q:=m-q) hc (by unfold BQ;rw[List.length_append,List.length_map,List.length_map];omega) (by omega)) fun r21 h21=>Ok.fit (by omega) (go hb r21 h21)
   ·refine Nat.le_trans (Pk (g:=fun _=>11) fun g hg2=>by have:=(hS2.2 g hg2).1;omega) ?_
    rw[Lo]
    exact Nat.le_trans (Nat.pow_le_pow_right (by decide) (by omega:c.2.length<=4)) (by decide)
  ·obtain⟨⟨i1,i2⟩,i3⟩:=hJ
   rw[Au]at i3
   refine Ok.iF (by dsimp only;omega) (Ok.some ⟨⟨i1,?_⟩,fun hq=>?_⟩)
   ·have hks:(v.structs.length:Int)*(60+2*mB d)<=3*(60+2*mB d):=Int.mul_le_mul_of_nonneg_right (by omega) (by omega)
    dsimp only;omega
   ·obtain⟨h4,h5⟩:=i3 hq
    have h6:=j3 h4
    refine⟨sc,⟨by omega,fun c hc=>(h6 c hc).1⟩,⟨by omega,fun c hc=>(h5 c hc).1⟩,fun x hx=>?_⟩
    rcases List.mem_append.1 hx with hx|hx
    ·obtain⟨c,hc,hx⟩:=List.mem_flatMap.1 hx
     exact(h6 c hc).2 x hx
    ·obtain⟨c,hc,hx⟩:=List.mem_flatMap.1 hx
     exact(h5 c hc).2 x hx
end Go.GL
namespace Go.GL
open Go Go.GV Go.GK Go.Proofs
theorem R4{x:Ci}{fu gu:Nat}(h:I7 gu 3 x.1/\I7 gu 3 x.2)(hg:gu+100<=fu)(hF:1000000010000<fu):Ok (sS fu x) fun r=>r=true->Lh 3 x:=by
 rw[dSm];unfold vB
 have ih:∀ {fu gu:Nat} {v:Vl} {m:Int},I7 gu 3 v->gu+10*3<=fu->1000000000000+10*3<fu->(0<=m/\m<=60)->Ok (F3 fu (v,((3:Nat):Int),m)) fun r=>(1<=r/\r<=mB 3)/\(r<=m->Bd 3 v):=fun h hg hF hm=>Kb (by omega) h hg hF hm
 exact Ok.Ac (Gs (d:=3) (l:=[x]) (by decide) ih (fun y hy=>by rw[List.mem_singleton.1 hy];exact h) (by omega) (by omega) (by simp) (by decide)) fun r hr=>Ok.some fun h2=>hr.2 (of_decide_eq_true h2) x (List.mem_singleton.2 rf)
def Te(v:Ci)(c:DI):Prop:= ∃D:Vl,(D=v.1\/D=v.2)/\D.any=false/\c∈D.structs
theorem Mb{v:Ci}{fu:Nat}(hv:Lh 3 v)(hF:1000000005000<fu):Ok (P8 fu v) fun r=>(r.2≠0->r.1=([],[]))/\(r.2=0->Wg 3 v/\KT fu v=some true/\Te v r.1):=by
 obtain⟨b,eb,hb⟩:=RU hv (by decide) hF
 have err:∀e:Int,e≠0->Ok (some ((([],[]):DI),e)) fun r=>(r.2≠0->r.1=([],[]))/\(r.2=0->Wg 3 v/\KT fu v=some true/\Te v r.1):=fun e he=>Ok.some ⟨fun _=>rfl,fun h=>absurd h he⟩
 have of:Ok (Wu fu v) fun r=>r.2=0->Wg 3 v/\KT fu v=some true/\SB 3 r.1.1/\(r.1.1=v.1\/r.1.1=v.2):=by
  rw[d254];unfold kj
  refine Ok.Ag eb (Ok.bif (fun _=>Ok.some fun h=>by cases h) fun h=>?_)
  have hbt:b=true:=by simpa using h
  subst hbt
  obtain⟨hva,hmk⟩:=hb rfl
  refine Ok.Ac (CL hva.1.1 (by omega)) fun r2 _=>Ok.bif (fun _=>Ok.some fun h=>by cases h) fun _=>?_
  have res:Ok (Zq fu v) fun r=>r=v.1\/r=v.2:=by
   rw[d253];unfold ko
   exact Ok.Ag hmk (Ok.iF (by simp) (Ok.Ag eb (Ok.F rf (Ok.Ac (CL hva.1.2 (by omega)) fun r3 _=>Ok.bif (fun _=>Ok.some (.inl rf)) fun _=>Ok.some (.inr rf)))))
  refine Ok.Ac res fun D hD=>?_
  have sD:SB 3 D:=by rcases hD with rfl|rfl;exact hva.1.1;exact hva.1.2
  exact Ok.Ac (GR sD.2.1 (by omega) (by decide) (by omega)) fun r4 _=>Ok.some fun _=>⟨hva,eb,sD,hD⟩
 rw[d257];unfold j_
 refine Ok.Ac of fun r1 hr1=>Ok.ite (fun h0=>?_) fun h0=>Ok.iT h0 (err _ h0)
 obtain⟨hva,e252,sD,hD⟩:=hr1 h0
 obtain⟨⟨D,s⟩,z⟩:=r1
 dsimp only at sD hD⊢
 have l1:=sD.1.2.1.1;have l2:=sD.1.2.2.1.1
 have st:Ok (Th fu ((D,s),(D.structs.length:Int))) fun r=>r=0->D.any=false/\0<D.structs.length:=by
  rw[show Th fu ((D,s),(D.structs.length:Int))=_ from d256 fu _ _];unfold kd
  refine Ok.bif (fun _=>Ok.some fun h=>by cases h) fun ha=>Ok.ite (fun hp=>?_) fun hp=>Ok.ite (fun _=>Ok.some fun h=>by cases h) fun hp2=>Ok.some fun _=>⟨ha,by omega⟩
  have alt:Ok (Zp fu (D,s)) fun _=>True:=by
   rw[d255];unfold kg
   exact Ok.fit (by dsimp only;omega) (Ok.bif (fun _=>Ok.fit (by dsimp only;omega) (Ok.some trivial)) fun _=>Ok.some trivial)
  exact Ok.Ac alt fun r _=>Ok.ite (fun _=>Ok.some fun h=>by cases h) fun _=>Ok.ite (fun _=>Ok.some fun h=>by cases h) fun _=>Ok.some fun _=>⟨ha,by omega⟩
 refine Ok.Ac st fun r2 hr2=>Ok.ite (fun h=>err _ h) fun h=>?_
 obtain⟨ha,hp⟩:=hr2 (Classical.byContradiction h)
 exact Ok.Ff (by decide) (by omega) (Ok.some ⟨fun h=>absurd rf h,fun _=>⟨hva,e252,D,hD,ha,List.getElem_mem _⟩⟩)
theorem Wg.uZ{v:Ci}{D:Vl}(h:Wg 3 v)(hD:D=v.1\/D=v.2):G5 D:=by rcases hD with rfl|rfl;exact h.2.1.1;exact h.2.1.2
theorem Wg.sb{v:Ci}{D:Vl}(h:Wg 3 v)(hD:D=v.1\/D=v.2):SB 3 D:=by rcases hD with rfl|rfl;exact h.1.1;exact h.1.2
theorem Te.allow{v:Ci}{c:DI}(h:Te v c)(hv:Wg 3 v){f:Ax×Int×Ci}(hf:f∈c.1):v.1.any=true\/∃c'∈v.1.structs,NB (vw c' f.1).1.1:=by
 obtain⟨D,hD,ha,hc⟩:=h
 have nb:NB (vw c f.1).1.1:=by
  obtain⟨g,hg,_,e⟩:=mZ (c:=c) (s:=f.1) ⟨f,hf,rfl⟩
  rw[e];exact hv.uZ hD ha c hc g hg
 rcases hD with rfl|rfl
 ·exact .inr ⟨c,hc,nb⟩
 ·rcases hv.2.2.2 with h|h
  ·exact .inl h
  ·obtain⟨c',h1,h2⟩:=h c hc
   refine .inr ⟨c',h1,?_⟩
   rcases h2 with rfl|h2
   ·exact nb
   ·exact h2 f hf nb
theorem Te.oY{v:Ci}{c:DI}(h:Te v c)(hv:Wg 3 v):Li c.1/\P5 c:=by
 obtain⟨D,hD,ha,hc⟩:=h
 exact⟨((hv.sb hD).tX c hc).az,((hv.sb hD).tX c hc).bd⟩
theorem Ta{v:Ci}{s:Ax}{fu:Nat}(hv:Wg 3 v)(e252:KT fu v=some true)(hs:s.length<=1000)(hF:1000000005000<fu):Ok (sU fu (v,s)) fun r=>(v.1.any=true\/∃c'∈v.1.structs,NB (vw c' s).1.1)->r=true:=by
 rw[dAl];unfold vE
 have hb:=hv.1.1.1.2.2.1
 have hsb:=hv.1.1
 refine Ok.Ag e252 (Ok.F rf ?_)
 refine Ok.count (fun k=> ∀c∈v.1.structs.take k,¬NB (vw c s).1.1) v.1.structs.length (by simp) (by omega) (fun k nx hk hJ hn=>?_) (fun nx hJ=>?_)
 ·have m:=List.getElem_mem hk
  have hsv:=hsb.sv m
  refine Ok.iT (by omega) (Ok.Aw hk (Ok.Ag (L8 (hb.2 _ m) hs (by omega)) (Ok.Ac (CL (TN (P:=fun x=>SX 2 x) ⟨G9 1,G9 1⟩ hsv).1 (by omega)) fun r hr=>Ok.bif (fun _=>Ok.some fun _=>rfl) fun h=>hn fun c hc=>?_)))
  rcases(Av hk).1 hc with hc|rfl
  ·exact hJ c hc
  ·exact hr.1 (by simpa using h)
 ·rw[Au]at hJ
  refine Ok.iF (by omega) (Ok.some fun h=>?_)
  rcases h with h|⟨c,h1,h2⟩
  ·exact h
  ·exact absurd h2 (hJ c h1)
theorem R6{v:Ci}{s:Ax}{fu:Nat}{c:DI}{e:Int}(h:P8 fu v=some (c,e))(h0:e≠0->c=([],[]))(hl:c.1.length<=100)(hF:1000000005000<fu):Ok (KS fu (v,s)) fun r=>r.2=0↔∃f∈c.1,f.1=s:=by
 rw[show KS fu (v,s)=_ from d258 fu v s];unfold j9
 refine Ok.Ag h (Ok.ite (fun he=>Ok.some ⟨fun k=>absurd k he,fun k=>?_⟩) fun he=>?_)
 ·rw[h0 he]at k;obtain⟨f,hf,_⟩:=k;cases hf
 refine Ok.count (fun k=> ∀f∈c.1.take k,f.1≠s) c.1.length (by simp) (by omega) (fun k nx hk hJ hn=>?_) (fun nx hJ=>?_)
 ·refine Ok.iT (by dsimp only;omega) (Ok.Aw hk (Ok.ite (fun h=>Ok.some ⟨fun _=>⟨_,List.getElem_mem hk,h⟩,fun _=>rfl⟩) fun h=>hn fun f hf=>?_))
  rcases(Av hk).1 hf with hf|rfl
  ·exact hJ f hf
  ·exact h
 ·rw[Au]at hJ
  exact Ok.iF (by dsimp only;omega) (Ok.some ⟨fun k=>(by cases k),fun⟨f,hf,k⟩=>absurd k (hJ f hf)⟩)
theorem Sw{v:Ci}{fu:Nat}{c:DI}{e:Int}(h:P8 fu v=some (c,e))(hl:c.1.length<=100)(hF:1000000005000<fu):sT fu v=some (c.1.map (·.1)):=by
 refine(dLb fu v).trans (Ok.eq ?_);unfold vC
 refine Ok.Ag h ?_
 refine Ok.range (fun k (s:List Ax)=>s=(c.1.take k).map (·.1)) c.1.length rf (by omega) (fun k s nx hk hJ hn=>?_) (fun s nx hJ=>?_)
 ·refine Ok.iT (by dsimp only;omega) (Ok.Aw hk (Ok.Ah (by dsimp only;rw[hJ,List.length_map,List.length_take];unfold Ak;omega) (hn _ ?_)))
  rw[hJ,List.take_succ_eq_append_getElem hk,List.map_append];rfl
 ·refine Ok.iF (by dsimp only;omega) (Ok.some ?_)
  rw[hJ,Au]
theorem Yp{l:List Ax}{s:Ax}{fu:Nat}(hl:l.length<=100)(hF:1000000005000<fu):Ok (pg fu (l,s)) fun r=>r=true↔s∈l:=by
 rw[show pg fu (l,s)=_ from dHs fu l s];unfold vD
 refine Ok.count (fun k=> ∀x∈l.take k,x≠s) l.length (by simp) (by omega) (fun k nx hk hJ hn=>?_) (fun nx hJ=>?_)
 ·refine Ok.iT (by omega) (Ok.Aw hk (Ok.ite (fun e=>Ok.some ⟨fun _=>e▸List.getElem_mem hk,fun _=>rfl⟩) fun e=>hn fun x hx=>?_))
  rcases(Av hk).1 hx with hx|rfl
  ·exact hJ x hx
  ·exact e
 ·rw[Au]at hJ
  exact Ok.iF (by omega) (Ok.some ⟨fun k=>(by cases k),fun h2=>absurd rfl (hJ s h2)⟩)
theorem Td{v:Ci}{s:Ax}{fu gu:Nat}(hx:Wt fu () =some true)(h:I7 gu 3 v.1/\I7 gu 3 v.2)(hg:gu+100<=fu)(hF:1000000010000<fu):sV fu (v,s)=some true:=by
 refine(dAg fu v s).trans (Ok.eq ?_);unfold vF
 have ex:Ok (Ac (Wt fu ()) fun r2=>some r2) fun r=>r=true:=Ok.Ag hx (Ok.some rfl)
 refine Ok.Ac (R4 h hg hF) fun r1 hr1=>Ok.bif (fun _=>ex) fun h1=>Ok.ite (fun _=>ex) fun h60=>?_
 have hv:=hr1 (by simpa using h1)
 obtain⟨⟨c,e⟩,e257,hc1,hc2⟩:=Mb (fu:=fu) hv (by omega)
 dsimp only at hc1 hc2
 have hcl:c.1.length<=4:=by
  by_cases he:e=0
  ·obtain⟨a,_,b⟩:=hc2 he
   exact(b.oY a).2.nf
  ·rw[hc1 he];exact Nat.zero_le _
 have t_:∀t,Ok (KS fu (v,t)) fun r=>r.2=0↔∃f∈c.1,f.1=t:=fun t=>R6 e257 hc1 (by omega) (by omega)
 refine Ok.Ag (Sw e257 (by omega) (by omega)) ?_
 have hml:(c.1.map (·.1)).length=c.1.length:=List.length_map ..
 refine Ok.count (fun _=>True) (c.1.map (·.1)).length trivial (by omega) (fun k nx hk0 _ hn=>Ok.iT (Int.ofNat_lt.2 hk0) ?_) (fun nx _=>Ok.iF (fun h=>Nat.lt_irrefl _ (Int.ofNat_lt.1 h)) (Ok.Ac (t_ s) fun r13 h13=>Ok.Ac (Yp (by rw[hml];omega) (by omega)) fun r14 h14=>Ok.bif (fun _=>ex) fun hne=>?_))
 ·have hk:k<c.1.length:=by omega
  have hm:=List.getElem_mem hk
  have he:e=0:=Classical.byContradiction fun he=>by rw[hc1 he]at hk;exact Nat.not_lt_zero _ hk
  obtain⟨hva,e252,hts⟩:=hc2 he
  obtain⟨az,bd⟩:=hts.oY hva
  have ix:idx (c.1.map (·.1)) (k:Int)=some (c.1[k]).1:=by rw[BN (by omega),List.getElem_map]
  have next:Ok (nx (k+1)) fun r=>r=true:=hn trivial
  refine Ok.Ag ix (Ok.Ac (t_ _) fun r8 h8=>Ok.iF (fun h=>h (h8.2 ⟨_,hm,rf⟩)) (Ok.Ag ix (Ok.Ac (Ta hva e252 (by have:=bd.lb _ hm;omega) (by omega)) fun r10 h10=>?_)))
  rw[h10 (hts.allow hva hm)]
  refine Ok.F rf (Ok.ite (fun hp=>?_) fun _=>next)
  obtain⟨j,rfl⟩:∃j,k=j+1:=⟨k-1,by omega⟩
  have ix2:idx (c.1.map (·.1)) (((j+1:Nat):Int)-1)=some (c.1[j]'(by omega)).1:=by rw[show((j+1:Nat):Int)-1=(j:Int) by omega,BN (by omega),List.getElem_map]
  refine Ok.fit (by omega) (Ok.Ag ix2 (Ok.Ag ix (Ok.F ?_ next)))
  rw[az j hk];rfl
 ·exfalso
  have:(∃f∈c.1,f.1=s)↔s∈c.1.map (·.1):=List.mem_map.symm
  rw[this,<-h14]at h13
  rcases Bool.eq_false_or_eq_true r14 with h|h
  ·rw[h,decide_eq_true (h13.2 h)]at hne;cases hne
  ·rw[h]at h13 hne
   rw[decide_eq_false fun k=>by have:=h13.1 k;cases this]at hne;cases hne
end Go.GL
namespace Go.GV
open Go Go.GK Go.RowKit Go.Deep
section
variable {H : Type} {enc : TypeId × Value -> H} {P : Program} {w : World} {base : Nat} {spare : Nat -> Bool} {held : Bool} {α β : Type}
def Fi(enc:TypeId×Value->H)(P:Program)(w:World)(base:Nat)(spare:Nat->Bool)(held:Bool)(N:Nat)(c:Cd α)(q:α->Prop)(t:TypeId):Prop:= ∀n,n<N->∀cs y,cs.length=c.sz->DataW.trod enc P w base spare held n t cs=some y->∃a,c.Bm (Hp.of w) a cs/\q a
theorem Fi.le{N M:Nat}{c:Cd α}{q:α->Prop}{t:TypeId}(h:Fi enc P w base spare held N c q t)(hm:M<=N):Fi enc P w base spare held M c q t:=
 fun n hn cs y hl hy=>h n (by omega) cs y hl hy
theorem Fi.imp{N:Nat}{c:Cd α}{q q':α->Prop}{t:TypeId}(h:Fi enc P w base spare held N c q t)(k:∀a,q a->q' a):Fi enc P w base spare held N c q' t:=
 fun n hn cs y hl hy=>by obtain⟨a,h1,h2⟩:=h n hn cs y hl hy;exact⟨a,h1,k a h2⟩
theorem Fi.i64{N:Nat}{t:TypeId}(ht:P.underlying t=some (.int .i64)):Fi enc P w base spare held N iU GK.C6 t:=fun n _ cs y _ hy=>by
 obtain⟨m,h1,_,h2⟩:=DataW.trod_int ht hy
 have hb: -9223372036854775808<=m/\m<=9223372036854775807:=by simpa [Lit.wf,IntKind.min,IntKind.max,IntKind.signed,IntKind.bits]using h2
 exact⟨m,h1,by unfold GK.C6;omega⟩
theorem Fi.u8{N:Nat}{t:TypeId}(ht:P.underlying t=some (.int .u8)):Fi enc P w base spare held N u4 (fun m=>0<=m/\m<=255) t:=fun n _ cs y _ hy=>by
 obtain⟨m,h1,_,h2⟩:=DataW.trod_int ht hy
 have hb:0<=m/\m<=255:=by simpa [Lit.wf,IntKind.min,IntKind.max,IntKind.signed,IntKind.bits]using h2
 exact⟨m,⟨h1,hb⟩,hb⟩
theorem Fi.b{N:Nat}{t:TypeId}(ht:P.underlying t=some .bool):Fi enc P w base spare held N cB (fun _=>True) t:=fun n _ cs y _ hy=>by
 obtain⟨b,h1,_⟩:=DataW.trod_bool ht hy
 exact⟨b,h1,trivial⟩
theorem Fi.s{N:Nat}{t:TypeId}(ht:P.underlying t=some .string):Fi enc P w base spare held N cS (fun _=>True) t:=fun n _ cs y _ hy=>by
 obtain⟨s,h1,_⟩:=DataW.trod_string ht hy
 exact⟨s.data.toList,h1,trivial⟩
theorem Fi.sl{N:Nat}{c:Cd α}{q:α->Prop}{t e:TypeId}(ht:P.underlying t=some (.slice e))(hc:P.cellsOf e=c.sz)(h:Fi enc P w base spare held N c q e):Fi enc P w base spare held (N+1) (cL c) (fun l=> ∀x∈l,q x) t:=fun n hn cs y _ hy=>by
 have hfin:∃v,cs=[v]/\∃l:List α,Fa c (Hp.of w) l v/\∀x∈l,q x:=by
  rcases DataW.trod_slice ht hy with⟨h0,_⟩|⟨a,len,cap,elems,rest,n',hfu,h0,_,hb,hl,hm,hlen,hel,_,_⟩
  ·exact⟨_,h0,[],Fa.nil,by simp⟩
  ·obtain⟨l,h1,h2⟩:=IW (Q:=fun i (b:α×List Value)=>(c.Bm (Hp.of w) b.1 b.2/\q b.1)/\∀j u,b.2[j]?=some u->w.cell? (a.add (i*c.sz+j))=some u) len fun i hi=>by
    have he:=hel i hi
    rw[show elems[i]?=some elems[i] by simp]at he
    simp only[Option.bind_eq_some_iff]at he
    obtain⟨cs',hcs,htr⟩:=he
    obtain⟨hbl,hlen',hcell⟩:=World.cells?_some hcs
    rw[hc]at hlen'
    obtain⟨b,hR⟩:=h n' (by omega) cs' _ hlen' htr
    refine⟨(b,cs'),hR,fun j u hj=>?_⟩
    have hj':j<c.sz:=by rw[<-hlen'];exact(List.getElem?_eq_some_iff.1 hj).1
    have:=hcell j (by rw[hc];exact hj')
    rw[Cv,hc,hj]at this
    exact this
   have hQ:∀x∈l,c.Bm (Hp.of w) x.1 x.2/\q x.1:=fun x hx=>by
    obtain⟨i,hi,rfl⟩:=List.getElem_of_mem hx
    exact(h2 i _ (List.getElem?_eq_getElem hi)).1
   have hsz:∀x∈l,x.2.length=c.sz:=fun x hx=>c.len (hQ x hx).1
   refine⟨_,h0,l.map (·.1),⟨⟨l.flatMap (·.2),⟨by rw[Ia hsz];simp, .inr ⟨a,cap,by rw[List.length_map,h1],by rw[List.length_map,h1];exact hl⟩,fun k u hk=>?_⟩,RK fun x hx=>(hQ x hx).1⟩,by rw[List.length_map,h1];unfold maxLen at hm;omega⟩,fun x hx=>?_⟩
   ·have hlt:k<l.length*c.sz:=by rw[<-Ia hsz];exact(List.getElem?_eq_some_iff.1 hk).1
    have hs0:0<c.sz:=Nat.pos_of_ne_zero fun h=>by rw[h]at hlt;simp at hlt
    have hi:k/c.sz<l.length:=Nat.div_lt_of_lt_mul (by rw[Nat.mul_comm];exact hlt)
    have hk2:k=k/c.sz*c.sz+k %c.sz:=by rw[Nat.mul_comm];exact(Nat.div_add_mod k c.sz).symm
    have hg:=LM hsz (k/c.sz) (k %c.sz) l[k/c.sz] (List.getElem?_eq_getElem hi) (Nat.mod_lt _ hs0)
    rw[<-hk2,hk]at hg
    have:=(h2 (k/c.sz) l[k/c.sz] (List.getElem?_eq_getElem hi)).2 (k %c.sz) u hg.symm
    rw[<-hk2]at this
    exact C8.XM this
   ·obtain⟨y,hy,rfl⟩:=List.mem_map.1 hx
    exact(hQ y hy).2
 obtain⟨v,h1,l,h2,h3⟩:=hfin
 exact⟨l,⟨v,h1,h2⟩,h3⟩
def W7(enc:TypeId×Value->H)(P:Program)(w:World)(base:Nat)(spare:Nat->Bool)(held:Bool)(N:Nat)(c:Cd α)(q:α->Prop)(off:Nat)(fs:List Field):Prop:= ∀n,n<N->∀cs:List Value,(∀f∈fs,∃y,DataW.trod enc P w base spare held n f.type ((cs.drop f.offset).take (P.cellsOf f.type))=some y)->off+c.sz<=cs.length->∃a,c.Bm (Hp.of w) a ((cs.drop off).take c.sz)/\q a
theorem W7.one{N:Nat}{c:Cd α}{q:α->Prop}{off:Nat}{f:Field}(h:Fi enc P w base spare held N c q f.type)(hc:P.cellsOf f.type=c.sz)(ho:f.offset=off):W7 enc P w base spare held N c q off [f]:=fun n hn cs hf hl=>by
 obtain⟨y,hy⟩:=hf f (by simp)
 rw[hc,ho]at hy
 exact h n hn _ y (by simp;omega) hy
theorem W7.cons{N:Nat}{c:Cd α}{d:Cd β}{q:α->Prop}{q':β->Prop}{off:Nat}{f:Field}{fs:List Field}(h:Fi enc P w base spare held N c q f.type)(hc:P.cellsOf f.type=c.sz)(ho:f.offset=off)(hr:W7 enc P w base spare held N d q' (off+c.sz) fs):
  W7 enc P w base spare held N (cP c d) (fun x=>q x.1/\q' x.2) off (f::fs):=fun n hn cs hf hl=>by
 have hl:off+(c.sz+d.sz)<=cs.length:=hl
 obtain⟨a,ha,qa⟩:=W7.one h hc ho n hn cs (fun g hg=>hf g (by simp at hg;simp[hg])) (by omega)
 obtain⟨b,hb,qb⟩:=hr n hn cs (fun g hg=>hf g (by simp[hg])) (by omega)
 refine⟨(a,b),⟨_,_,?_,ha,hb⟩,qa,qb⟩
 show(cs.drop off).take (c.sz+d.sz)=_
 rw[List.take_add,List.drop_drop]
theorem Fi.st{N:Nat}{c:Cd α}{q:α->Prop}{t:TypeId}{fs:Array Field}(ht:P.underlying t=some (.struct fs))(h:W7 enc P w base spare held N c q 0 fs.toList):Fi enc P w base spare held (N+1) c q t:=fun n hn cs y hl hy=>by
 obtain⟨xs,n',hfu,_,hlen,hxs,hx⟩:=DataW.trod_struct ht hy
 obtain⟨a,ha,qa⟩:=h n' (by omega) cs (fun f hf=>by
  obtain⟨i,hi,rfl⟩:=List.getElem_of_mem hf
  have:=hx i fs.toList[i] (by simp at hi⊢)
  rw[this]
  have hi':i<xs.length:=by rw[hxs];simpa using hi
  exact⟨xs[i],List.getElem?_eq_getElem hi'⟩) (by omega)
 refine⟨a,?_,qa⟩
 rw[List.drop_zero,List.take_of_length_le (by omega)]at ha
 exact ha
theorem Fi.o6{r:Reach}{b0:Nat}{c:Cd α}{q:α->Prop}{t:TypeId}{fs:Array Field}{v:Value}{d:DataW H}{p:List MemPlace}(ht:P.underlying t=some (.struct fs))(hc:P.cellsOf t=c.sz)(h:∀N,Fi enc P w base spare held N c q t)
  (hv:Value.okWide P w r b0 t v) (hd:DataW.Trod enc P w base spare held t v d p):∃cs:Array Value,∃l,v= .agg cs/\c.Bm (Hp.of w) l cs.toList/\q l:=by
 obtain⟨cs,rfl,hs⟩:=Go.WideShapes.okWide_struct ht hv
 obtain⟨fuel,hf⟩:=hd
 obtain⟨l,hl⟩:=h (fuel+1) fuel (by omega) cs.toList _ (by simp[hs,hc]) hf
 exact⟨cs,l,rf,hl⟩
end
def Wl(q:Vl->Prop):(t:Ty)->(t.den fun _=>Vl)->Prop
 | .int .i64,n=>GK.C6 n
 | .int .u8,n=>(0:Int)<=(show Int from n)/\(show Int from n)<=255
 | .sl t,l=> ∀x∈(show List (t.den fun _=>Vl)from l),Wl q t x
 | .st t,x=>Wl q t x
 | .pr a b,x=>Wl q a x.1/\Wl q b x.2
 | .nm 0,x=>q x
 |_,_=>True
def QV:Nat->Vl->Prop
 |0,_=>True
 |d+1,v=>Wl (QV d) mD (m_ v)
mutual
def DE(P:Program)(tn:TypeId):Nat->Ty->TypeId->Bool
 |0,_,_=>false
 |k+1, .int .i64,u=>match P.underlying u with|some (.int .i64)=>true|_=>false
 |k+1, .int .u8,u=>match P.underlying u with|some (.int .u8)=>true|_=>false
 |k+1, .bool,u=>match P.underlying u with|some .bool=>true|_=>false
 |k+1, .str,u=>match P.underlying u with|some .string=>true|_=>false
 |k+1, .sl t,u=>match P.underlying u with|some (.slice e)=>Nat.beq (P.cellsOf e) (TF 9 t)&&DE P tn k t e|_=>false
 |k+1, .st t,u=>match P.underlying u with|some (.struct fs)=>Pq P tn k t 0 fs.toList|_=>false
 |k+1, .nm 0,u=>Nat.beq u tn
 |_,_,_=>false
def Pq(P:Program)(tn:TypeId):Nat->Ty->Nat->List Field->Bool
 |0,_,_,_=>false
 |k+1,t,off,[f]=>DE P tn k t f.type&&(Nat.beq (P.cellsOf f.type) (TF 9 t)&&Nat.beq f.offset off)
 |k+1, .pr a b,off,f::fs=>DE P tn k a f.type&&(Nat.beq (P.cellsOf f.type) (TF 9 a)&&(Nat.beq f.offset off&&Pq P tn k b (off+TF 9 a) fs))
 |_,_,_,_=>false
end
section
variable {H : Type} {enc : TypeId × Value -> H} {P : Program} {w : World} {base : Nat} {spare : Nat -> Bool} {held : Bool}
theorem PS(t:Ty):(I5 Rz t).sz=TF 9 t:=Es (s:=9) rfl t
mutual
theorem Ji{tn:TypeId}{q:Vl->Prop}{N:Nat}(h:Fi enc P w base spare held N Rz q tn):∀ {k:Nat} {t:Ty} {u:TypeId},DE P tn k t u=true->Fi enc P w base spare held N (I5 Rz t) (Wl q t) u
 |0,_,_,e=>by cases e
 |k+1, .int .i64,u,e=>by
  unfold DE at e;split at e
  ·rename_i hu;exact Fi.i64 hu
  ·cases e
 |k+1, .int .u8,u,e=>by
  unfold DE at e;split at e
  ·rename_i hu;exact Fi.u8 hu
  ·cases e
 |k+1, .bool,u,e=>by
  unfold DE at e;split at e
  ·rename_i hu;exact Fi.b hu
  ·cases e
 |k+1, .str,u,e=>by
  unfold DE at e;split at e
  ·rename_i hu;exact Fi.s hu
  ·cases e
 |k+1, .sl t,u,e=>by
  unfold DE at e;split at e
  ·rename_i x hu
   rw[Bool.and_eq_true]at e
   exact(Fi.sl hu (by rw[PS];exact Nat.eq_of_beq_eq_true e.1) (Ji h e.2)).le (Nat.le_succ _)
  ·cases e
 |k+1, .st t,u,e=>by
  unfold DE at e;split at e
  ·rename_i fs hu
   exact(Fi.st (c:=I5 Rz t) (q:=Wl q t) hu (Pp h e)).le (Nat.le_succ _)
  ·cases e
 |k+1, .nm 0,u,e=>by
  unfold DE at e
  have:=Nat.eq_of_beq_eq_true e
  subst this;exact h
 |k+1, .nm (n+1),u,e=>by unfold DE at e;cases e
 |k+1, .pr _ _,u,e=>by unfold DE at e;cases e
 |k+1, .un,u,e=>by unfold DE at e;cases e
 |k+1, .bs,u,e=>by unfold DE at e;cases e
 |k+1, .ar _ _,u,e=>by unfold DE at e;cases e
 |k+1, .int .i8,u,e=>by unfold DE at e;cases e
 |k+1, .int .i16,u,e=>by unfold DE at e;cases e
 |k+1, .int .i32,u,e=>by unfold DE at e;cases e
 |k+1, .int .u16,u,e=>by unfold DE at e;cases e
 |k+1, .int .u32,u,e=>by unfold DE at e;cases e
 |k+1, .int .u64,u,e=>by unfold DE at e;cases e
theorem Pp{tn:TypeId}{q:Vl->Prop}{N:Nat}(h:Fi enc P w base spare held N Rz q tn):∀ {k:Nat} {t:Ty} {off:Nat} {fs:List Field},Pq P tn k t off fs=true->W7 enc P w base spare held N (I5 Rz t) (Wl q t) off fs
 |0,_,_,_,e=>by cases e
 |k+1,t,off,[],e=>by cases t<;>(unfold Pq at e;cases e)
 |k+1,t,off,[f],e=>by
  unfold Pq at e
  simp only[Bool.and_eq_true]at e
  exact W7.one (Ji h e.1) (by rw[PS];exact Nat.eq_of_beq_eq_true e.2.1) (Nat.eq_of_beq_eq_true e.2.2)
 |k+1, .pr a b,off,f::g::fs,e=>by
  unfold Pq at e
  simp only[Bool.and_eq_true]at e
  have hs:TF 9 a=(I5 Rz a).sz:=(PS a).symm
  exact W7.cons (Ji h e.1) (by rw[<-hs];exact Nat.eq_of_beq_eq_true e.2.1) (Nat.eq_of_beq_eq_true e.2.2.1) (hs▸Pp h e.2.2.2)
 |k+1, .int _,off,f::g::fs,e=>by unfold Pq at e;cases e
 |k+1, .bool,off,f::g::fs,e=>by unfold Pq at e;cases e
 |k+1, .str,off,f::g::fs,e=>by unfold Pq at e;cases e
 |k+1, .sl _,off,f::g::fs,e=>by unfold Pq at e;cases e
 |k+1, .st _,off,f::g::fs,e=>by unfold Pq at e;cases e
 |k+1, .nm _,off,f::g::fs,e=>by unfold Pq at e;cases e
 |k+1, .un,off,f::g::fs,e=>by unfold Pq at e;cases e
 |k+1, .bs,off,f::g::fs,e=>by unfold Pq at e;cases e
 |k+1, .ar _ _,off,f::g::fs,e=>by unfold Pq at e;cases e
end
theorem bj{tn:TypeId}{k:Nat}(hk:DE P tn (k+1) mD tn=true):∀(N d:Nat),Fi enc P w base spare held N Rz (QV d) tn
 |0,_=>fun n hn=>by omega
 |N+1,d=>by
  have step:∀d,Fi enc P w base spare held (N+1) Rz (QV (d+1)) tn:=fun d=>by
   have hk':=hk
   unfold DE at hk'
   split at hk'
   ·rename_i fs hu
    have:=Fi.st (c:=I5 Rz (.pr .bool (.pr ua (.pr (.sl uE) (.sl dZ))))) (q:=Wl (QV d) (.pr .bool (.pr ua (.pr (.sl uE) (.sl dZ))))) hu (Pp (bj hk N d) hk')
    intro n hn cs y hl hy
    obtain⟨a,h1,h2⟩:=this n hn cs y hl hy
    exact⟨yO a,TO.2 h1,h2⟩
   ·cases hk'
  cases d with
  |zero=>exact(step 0).imp fun _ _=>trivial
  |succ d=>exact step d
end
end Go.GV
namespace Go.GL
open Go Go.GV Go.GK Go.Proofs
theorem MO{α:Type}{P:Nat->α->Prop} :∀ {l:List α},(∀x∈l,∃n,∀g,n<=g->P g x)->∃n,∀g,n<=g->∀x∈l,P g x
 | [],_=>⟨0,fun _ _ x hx=>by cases hx⟩
 |x::l,h=>by
  obtain⟨n,hn⟩:=h x (List.mem_cons_self ..)
  obtain⟨m,hm⟩:=MO fun y hy=>h y (List.mem_cons_of_mem _ hy)
  refine⟨max n m,fun g hg y hy=>?_⟩
  rcases List.mem_cons.1 hy with rfl|hy
  ·exact hn g (by omega)
  ·exact hm g (by omega) y hy
theorem Mg:∀ {d:Nat} {v:Vl},QV d v->∃n,∀g,n<=g->I7 g d v
 |0,_,_=>⟨0,fun _ _=>trivial⟩
 |d+1,v,h=>by
  obtain⟨_,⟨_,_,_,⟨hi,hf⟩,hs⟩,hl,ht⟩:=h
  have kid:∀x∈kids v,QV d x.1/\QV d x.2:=fun x hx=>by
   rcases List.mem_append.1 hx with hx|hx
   ·obtain⟨c,hc,hx⟩:=List.mem_flatMap.1 hx
    rcases List.mem_append.1 hx with hx|hx
    ·exact(hl c hc).1 x hx
    ·exact(hl c hc).2 x hx
   ·obtain⟨c,hc,hx⟩:=List.mem_flatMap.1 hx
    rcases List.mem_append.1 hx with hx|hx
    ·obtain⟨f,hf,rfl⟩:=List.mem_map.1 hx
     exact((ht c hc).1 f hf).2.2
    ·obtain⟨f,hf,rfl⟩:=List.mem_map.1 hx
     exact((ht c hc).2 f hf).2
  obtain⟨n1,k1⟩:=MO (P:=fun g x=>I7 g d x.1/\I7 g d x.2) (l:=kids v) fun x hx=>by
   obtain⟨n,hn⟩:=Mg (kid x hx).1
   obtain⟨m,hm⟩:=Mg (kid x hx).2
   exact⟨max n m,fun g hg=>⟨hn g (by omega),hm g (by omega)⟩⟩
  obtain⟨n2,k2⟩:=MO (P:=fun g (c:DI)=> ∀k∈c.2,k.1.length<g) (l:=v.structs) fun c _=>by
   obtain⟨n,hn⟩:=MO (P:=fun g (k:Tb×Ci)=>k.1.length<g) (l:=c.2) fun k _=>⟨k.1.length+1,fun g hg=>by omega⟩
   exact⟨n,hn⟩
  have bt:∀(l:Tb),Wl (QV d) U7 l->OT l:=fun l h s hs e he=>by
   have:=(h s hs).2 e he
   exact⟨this.1,this.2.1⟩
  refine⟨max (max n1 n2) (v.sc.2.2.2.2.length+1),fun g hg=>⟨⟨fun s hs=>hi s hs,fun s hs=>hf s hs⟩,⟨bt _ hs,by omega⟩,fun c hc k hk=>⟨bt _ ((ht c hc).2 k hk).1,k2 g (by omega) c hc k hk⟩,k1 g (by omega)⟩⟩
end Go.GL
namespace Go.GL
open Go Go.GV Go.GK Go.Proofs
theorem walk(W:World)(hG:FO Tryz.prog (Hp.of W)){c:Array Value}{x:Vl×Vl}(hl:(I5 Rz RV).Bm (Hp.of W) x c.toList)(hq:Wl (QV 3) RV x)(s:Ax):
  L4 Tryz.prog 3 [.agg c,sv s] (Hp.of W) [] (fun v H' O'=>O'=[]/\v= .bool true):=by
 have hq:QV 3 x.1/\QV 3 x.2:=hq
 obtain⟨n,hn⟩:=Mg hq.1
 obtain⟨m,hm⟩:=Mg hq.2
 obtain⟨fu,h⟩:∃fu,sV fu (x,s)=some true:=⟨max n m+1000000010100,Td (gu:=max n m) rfl ⟨hn _ (by omega),hm _ (by omega)⟩ (by omega) (by omega)⟩
 refine((uu fu).ok (x,s) true h (Hp.of W) [] [.agg c,sv s] hG ⟨_,_,rf,⟨c.toList,hl,by simp[BS,Ty.agg]⟩,_,rf,⟨[sv s],rf,rf⟩⟩).mono fun v H' O' _ h=>?_
 obtain⟨h1,cs,h2,h3⟩:=h
 have h4:cs=[.bool true]:=h2
 have h5:cs=[v]:=h3
 rw[h4]at h5
 cases h5
 exact⟨h1,rf⟩
end Go.GL
