/- Part 17 of the texts of this claim: what its theorem leans on. -/
import Derived.Test.YtejdlmphkeeekaaGreatDoorZClosingClosed16
import Derived.KernelRfl
import Derived.Test.YtejdlmphkeeekaaGreatDoorZClosingClosed4
import Derived.Test.YtejdlmphkeeekaaGreatDoorZClosingClosed7
import Derived.LaidMore
import Derived.Test.YtejdlmphkeeekaaGreatDoorRows
import GoSem.ClaimGoes
set_option linter.all false
open Option renaming some→Ac,none→Dc
open Bool renaming false→Ak,true→Br
open Go renaming Value→Ce,Operand→Er,TypeId→Gn,Program→GO,World→IK,execOp→Kr,Oper→K5,IntKind→Lm
open Decidable renaming decide→Ds
open Nat renaming beq→Hg
namespace Go.GV
open Go Go.GK Go.Proofs
noncomputable section
def B900(_:Nat):=df (exQ (f:=5) (F:=(sX 2000).1) (rs:=[.bool]) (B309 2000).ok xr)
theorem okAg(fu:Nat):Ch TP 3 (qQ [Ba] [.bool] (FCl fu)):=o5 (sQ (bs [B4,B900,B308,B373] fu) fu Tryz.func3 [Ba] [.bool]).2 λx=>by kernel_rfl
end
end Go.GV
namespace Go.GV
open Go Go.GK Go.RowKit Go.Deep
section
variable {H : Type} {enc : Gn × Ce -> H} {P : GO} {w : IK} {base : Nat} {spare : Nat -> Bool} {held : Bool} {α β : Type}
section
variable{N:Nat}{t:Gn}{c:Cd α}{q:α->Prop}{off:Nat}{f:Field}{fs:Array Field}
def G6(enc:Gn×Ce->H)(P:GO)(w:IK)(base:Nat)(spare:Nat->Bool)(held:Bool)(N:Nat)(c:Cd α)(q:α->Prop)(t:Gn):Prop:= ∀n,n<N->∀cs y,cs.length=c.sz->DataW.trod enc P w base spare held n t cs=Ac y->∃a,c.BS (Hp.of w) a cs/\q a
theorem G6.le{M:Nat}(h:G6 enc P w base spare held N c q t)(e:M<=N):G6 enc P w base spare held M c q t:=
 λn f a y b d=>h n (by omega) a y b d
theorem G6.imp{b:α->Prop}(h:G6 enc P w base spare held N c q t)(k:∀a,q a->b a):G6 enc P w base spare held N c b t:=
 λn i d y g j=>by obtain⟨a,e,f⟩:=h n i d y g j;grind
theorem G6.i64(ht:P.underlying t=Ac (.int .i64)):G6 enc P w base spare held N rW GK.DY t:=λn _ d y _ c=>by
 obtain⟨m,a,_,b⟩:=DataW.trod_int ht c;have e: -9223372036854775808<=m/\m<=9223372036854775807:=by grind[Lit.wf,Lm.min,Lm.max,Lm.signed,Lm.bits]
 exact⟨m,a,by omega⟩
theorem G6.u8(ht:P.underlying t=Ac (.int .u8)):G6 enc P w base spare held N cU8 (λm=>0<=m/\m<=255) t:=λn _ e y _ d=>by
 obtain⟨m,b,_,c⟩:=DataW.trod_int ht d;have a:0<=m/\m<=255:=by grind[Lit.wf,Lm.min,Lm.max,Lm.signed,Lm.bits]
 exact⟨m,⟨b,a⟩,a⟩
theorem G6.b(ht:P.underlying t=Ac .bool):G6 enc P w base spare held N cB (λ_=>True) t:=λn _ d y _ c=>by obtain⟨b,a,_⟩:=DataW.trod_bool ht c;exact⟨b,a,trivial⟩
theorem G6.s(ht:P.underlying t=Ac .string):G6 enc P w base spare held N cS (λ_=>True) t:=λn _ c y _ b=>by obtain⟨s,a,_⟩:=DataW.trod_string ht b;exact⟨s.data.toList,a,trivial⟩
theorem G6.sl{e:Gn}(ht:P.underlying t=Ac (.slice e))(G:P.cellsOf e=c.sz)(h:G6 enc P w base spare held N c q e):G6 enc P w base spare held (N+1) (cL c) (λl=> ∀x∈l,q x) t:=λn hn X y _ R=>by
 have A:∃v,X=[v]/\∃l:List α,G5 c (Hp.of w) l v/\∀x∈l,q x:=by
  rcases DataW.trod_slice ht R with⟨E,_⟩|⟨a,len,cap,f,W,n',hfu,E,_,hb,hl,hm,V,K,_,_⟩;· exact⟨_,E,[],G5.nil,by simp⟩
  ·obtain⟨l,z,C⟩:=Lf (Q:=λi (b:α×List Ce)=>(c.BS (Hp.of w) b.1 b.2/\q b.1)/\∀j u,b.2[j]?=Ac u->w.cell? (a.add (i*c.sz+j))=Ac u) len λi r=>by
    have J:=K i r;rw[show f[i]?=Ac f[i] by simp]at J;simp only[Agc]at J;obtain⟨s,I,O⟩:=J;obtain⟨hbl,d,g⟩:=IK.cells?_some I;rw[G]at d;obtain⟨b,Z⟩:=h n' (by omega) s _ d O;refine⟨(b,s),Z,λj u T=>?_⟩;grind[List.getElem?_eq_some_iff,De]
   have F:∀x∈l,c.BS (Hp.of w) x.1 x.2/\q x.1:=λx p=>by obtain⟨i,r,rfl⟩:=Aau p;exact(C i _ (IN r)).1
   have o:∀x∈l,x.2.length=c.sz:=λx p=>c.len (F x p).1;refine⟨_,E,l.map (·.1),⟨⟨l.flatMap (·.2),⟨by grind[Ky], .inr ⟨a,cap,by rw[Aap,z],by rw[Aap,z];exact hl⟩,λk u U=>?_⟩,WX λx p=>(F x p).1⟩,by rw[Aap,z];unfold maxLen at hm;omega⟩,λx p=>?_⟩
   ·have m:k<l.length*c.sz:=by rw[<-Ky o];exact(No.1 U).1
    have M:0<c.sz:=Nat.pos_of_ne_zero λh=>by rw[h]at m;simp at m
    have r:k/c.sz<l.length:=Nat.div_lt_of_lt_mul (by rw[Ada];exact m);have B:k=k/c.sz*c.sz+k %c.sz:=by rw[Ada];exact(Ago k c.sz).symm
    have S:=OR o (k/c.sz) (k %c.sz) l[k/c.sz] (IN r) (Nat.mod_lt _ M);rw[<-B,U]at S;have:=(C (k/c.sz) l[k/c.sz] (IN r)).2 (k %c.sz) u S.symm;rw[<-B]at this;exact Ajo this
   grind
 obtain⟨v,z,l,C,Y⟩:=A;exact⟨l,⟨v,z,C⟩,Y⟩
def eR(enc:Gn×Ce->H)(P:GO)(w:IK)(base:Nat)(spare:Nat->Bool)(held:Bool)(N:Nat)(c:Cd α)(q:α->Prop)(off:Nat)(fs:List Field):Prop:= ∀n,n<N->∀cs:List Ce,(∀f∈fs,∃y,DataW.trod enc P w base spare held n f.type ((cs.drop f.offset).take (P.cellsOf f.type))=Ac y)->off+c.sz<=cs.length->∃a,c.BS (Hp.of w) a ((cs.drop off).take c.sz)/\q a
theorem eR.one(h:G6 enc P w base spare held N c q f.type)(b:P.cellsOf f.type=c.sz)(g:f.offset=off):eR enc P w base spare held N c q off [f]:=λn e i d j=>by obtain⟨y,a⟩:=d f (by simp);rw[b,g]at a;exact h n e _ y (by grind) a
theorem eR.cons{d:Cd β}{m:β->Prop}{fs:List Field}(h:G6 enc P w base spare held N c q f.type)(s:P.cellsOf f.type=c.sz)(t:f.offset=off)(u:eR enc P w base spare held N d m (off+c.sz) fs):
  eR enc P w base spare held N (cP c d) (λx=>q x.1/\m x.2) off (f::fs):=λn l e j k=>by
 have k:off+(c.sz+d.sz)<=e.length:=k;obtain⟨a,p,v⟩:=eR.one h s t n l e (λg i=>j g (by grind)) (by omega);obtain⟨b,r,y⟩:=u n l e (λg i=>j g (by grind)) (by omega);refine⟨(a,b),⟨_,_,?_,p,r⟩,v,y⟩;show(e.drop off).take (c.sz+d.sz)=_;rw[List.take_add,Ade]
theorem G6.st(ht:P.underlying t=Ac (.struct fs))(h:eR enc P w base spare held N c q 0 fs.toList):G6 enc P w base spare held (N+1) c q t:=λn x l y v r=>by
 obtain⟨k,s,o,_,j,d,p⟩:=DataW.trod_struct ht r;obtain⟨a,e,u⟩:=h s (by omega) l (λf m=>by obtain⟨i,g,rfl⟩:=Aau m;have:=p i fs.toList[i] (by simp);grind) (by omega);grind
theorem G6.xV{r:Reach}{b:Nat}{v:Ce}{d:DataW H}{p:List MemPlace}(ht:P.underlying t=Ac (.struct fs))(e:P.cellsOf t=c.sz)(h:∀N,G6 enc P w base spare held N c q t)
  (k:Ce.okWide P w r b t v) (f:DataW.Trod enc P w base spare held t v d p):∃cs:Array Ce,∃l,v= .agg cs/\c.BS (Hp.of w) l cs.toList/\q l:=by
 obtain⟨cs,rfl,j⟩:=Go.WideShapes.okWide_struct ht k;obtain⟨a,g⟩:=f;obtain⟨l,i⟩:=h (a+1) a (by omega) cs.toList _ (by grind) g;grind
end
end
def eT(q:Vl->Prop):(t:Ty)->(t.den λ_=>Vl)->Prop
 | .int .i64,n=>GK.DY n
 | .int .u8,n=>(0:Int)<=(show Int from n)/\(show Int from n)<=255
 | .sl t,l=> ∀x∈(show List (t.den λ_=>Vl)from l),eT q t x
 | .st t,x=>eT q t x
 | .pr a b,x=>eT q a x.1/\eT q b x.2
 | .nm 0,x=>q x
 |_,_=>True
def QV:Nat->Vl->Prop
 |0,_=>True
 |d+1,v=>eT (QV d) vk (vP v)
mutual
def Ln(P:GO)(tn:Gn):Nat->Ty->Gn->Bool
 |0,_,_=>Ak
 |k+1, .int .i64,u=>match P.underlying u with|some (.int .i64)=>Br|_=>Ak
 |k+1, .int .u8,u=>match P.underlying u with|some (.int .u8)=>Br|_=>Ak
 |k+1, .bool,u=>match P.underlying u with|some .bool=>Br|_=>Ak
 |k+1, .str,u=>match P.underlying u with|some .string=>Br|_=>Ak
 |k+1, .sl t,u=>match P.underlying u with|some (.slice e)=>Hg (P.cellsOf e) (YV 9 t)&&Ln P tn k t e|_=>Ak
 |k+1, .st t,u=>match P.underlying u with|some (.struct fs)=>wA P tn k t 0 fs.toList|_=>Ak
 |k+1, .nm 0,u=>Hg u tn
 |_,_,_=>Ak
def wA(P:GO)(tn:Gn):Nat->Ty->Nat->List Field->Bool
 |0,_,_,_=>Ak
 |k+1,t,off,[f]=>Ln P tn k t f.type&&(Hg (P.cellsOf f.type) (YV 9 t)&&Hg f.offset off)
 |k+1, .pr a b,off,f::fs=>Ln P tn k a f.type&&(Hg (P.cellsOf f.type) (YV 9 a)&&(Hg f.offset off&&wA P tn k b (off+YV 9 a) fs))
 |_,_,_,_=>Ak
end
section
variable {H : Type} {enc : Gn × Ce -> H} {P : GO} {w : IK} {base : Nat} {spare : Nat -> Bool} {held : Bool}
theorem UK(t:Ty):(LS WJ t).sz=YV 9 t:=FJ (s:=9) rfl t
mutual
theorem PN{tn:Gn}{q:Vl->Prop}{N:Nat}(h:G6 enc P w base spare held N WJ q tn):∀ {k:Nat} {t:Ty} {u:Gn},Ln P tn k t u=Br->G6 enc P w base spare held N (LS WJ t) (eT q t) u
 |0,_,_,e=>by cases e
 |k+1, .int .i64,u,e=>by
  unfold Ln at e;split at e
  ·rename_i hu;exact G6.i64 hu
  grind
 |k+1, .int .u8,u,e=>by
  unfold Ln at e;split at e
  ·rename_i hu;exact G6.u8 hu
  grind
 |k+1, .bool,u,e=>by
  unfold Ln at e;split at e
  ·rename_i hu;exact G6.b hu
  grind
 |k+1, .str,u,e=>by
  unfold Ln at e;split at e
  ·rename_i hu;exact G6.s hu
  grind
 |k+1, .sl t,u,e=>by
  unfold Ln at e;split at e
  ·rename_i x hu
   rw[AS]at e
   exact(G6.sl hu (by grind[UK,Nat.eq_of_beq_eq_true]) (PN h e.2)).le (Agu _)
  grind
 |k+1, .st t,u,e=>by
  unfold Ln at e;split at e
  ·rename_i fs hu
   exact(G6.st (c:=LS WJ t) (q:=eT q t) hu (Uf h e)).le (Agu _)
  trivial
 |k+1, .nm 0,u,e=>by
  have:=AI e
  subst this;exact h
 |k+1, .nm (n+1),u,e=>by cases e
 |k+1, .pr _ _,u,e=>by cases e
 |k+1, .un,u,e=>by cases e
 |k+1, .bs,u,e=>by cases e
 |k+1, .ar _ _,u,e=>by cases e
 |k+1, .int .i8,u,e=>by cases e
 |k+1, .int .i16,u,e=>by cases e
 |k+1, .int .i32,u,e=>by cases e
 |k+1, .int .u16,u,e=>by cases e
 |k+1, .int .u32,u,e=>by cases e
 |k+1, .int .u64,u,e=>by cases e
theorem Uf{tn:Gn}{q:Vl->Prop}{N:Nat}(h:G6 enc P w base spare held N WJ q tn):∀ {k:Nat} {t:Ty} {off:Nat} {fs:List Field},wA P tn k t off fs=Br->eR enc P w base spare held N (LS WJ t) (eT q t) off fs
 |0,_,_,_,e=>by cases e
 |k+1,t,off,[],e=>by cases t<;>(cases e)
 |k+1,t,off,[f],e=>by
  unfold wA at e
  simp only[AS]at e
  exact eR.one (PN h e.1) (by rw[UK];exact AI e.2.1) (AI e.2.2)
 |k+1, .pr a b,off,f::g::fs,e=>by
  unfold wA at e
  simp only[AS]at e
  have hs:YV 9 a=(LS WJ a).sz:=(UK a).symm
  exact eR.cons (PN h e.1) (by rw[<-hs];exact AI e.2.1) (AI e.2.2.1) (hs▸Uf h e.2.2.2)
 |k+1, .int _,off,f::g::fs,e=>by cases e
 |k+1, .bool,off,f::g::fs,e=>by cases e
 |k+1, .str,off,f::g::fs,e=>by cases e
 |k+1, .sl _,off,f::g::fs,e=>by cases e
 |k+1, .st _,off,f::g::fs,e=>by cases e
 |k+1, .nm _,off,f::g::fs,e=>by cases e
 |k+1, .un,off,f::g::fs,e=>by cases e
 |k+1, .bs,off,f::g::fs,e=>by cases e
 |k+1, .ar _ _,off,f::g::fs,e=>by cases e
end
theorem lp{tn:Gn}{k:Nat}(e:Ln P tn (k+1) vk tn=Br):∀(N d:Nat),G6 enc P w base spare held N WJ (QV d) tn
 |0,_=>λn f=>by omega
 |N+1,d=>by
  have step:∀d,G6 enc P w base spare held (N+1) WJ (QV (d+1)) tn:=λd=>by
   have b:=e;unfold Ln at b;split at b;· rename_i o l;have:=G6.st (c:=LS WJ (.pr .bool (.pr scB (.pr (.sl lcB) (.sl oG))))) (q:=eT (QV d) (.pr .bool (.pr scB (.pr (.sl lcB) (.sl oG))))) l (Uf (lp e N d) b);intro n f g y j m;obtain⟨a,h,i⟩:=this n f g y j m;exact⟨vlI a,Zi.2 h,i⟩
   grind
  cases d with
  |zero=>exact(step 0).imp λ_ _=>trivial
  |succ d=>grind
end
end Go.GV
namespace Go.GL
open Go Go.GV Go.GK Go.Proofs
theorem Qm{α:Type}{P:Nat->α->Prop} :∀ {l:List α},(∀x∈l,∃n,∀g,n<=g->P g x)->∃n,∀g,n<=g->∀x∈l,P g x
 | [],_=>⟨0,λ_ _ x hx=>by grind⟩
 |x::l,h=>by
  obtain⟨n,hn⟩:=h x (Aas ..)
  obtain⟨m,hm⟩:=Qm λy hy=>h y (Aag _ hy)
  refine⟨max n m,λg hg y hy=>?_⟩
  grind
theorem T_:∀ {d:Nat} {v:Vl},QV d v->∃n,∀g,n<=g->ND g d v
 |0,_,_=>⟨0,λ_ _=>trivial⟩
 |d+1,v,h=>by
  obtain⟨_,⟨_,_,_,⟨hi,hf⟩,hs⟩,hl,ht⟩:=h
  have qK:∀x∈kids v,QV d x.1/\QV d x.2:=λx hx=>by
   rcases AT.1 hx with hx|hx
   ·obtain⟨c,hc,hx⟩:=Pe.1 hx
    rcases AT.1 hx with hx|hx
    ·exact(hl c hc).1 x hx
    ·exact(hl c hc).2 x hx
   ·obtain⟨c,hc,hx⟩:=Pe.1 hx
    rcases AT.1 hx with hx|hx
    ·obtain⟨f,hf,rfl⟩:=By.1 hx
     exact((ht c hc).1 f hf).2.2
    ·obtain⟨f,hf,rfl⟩:=By.1 hx
     exact((ht c hc).2 f hf).2
  obtain⟨n1,k1⟩:=Qm (P:=λg x=>ND g d x.1/\ND g d x.2) (l:=kids v) λx hx=>by
   obtain⟨n,hn⟩:=T_ (qK x hx).1
   obtain⟨m,hm⟩:=T_ (qK x hx).2
   exact⟨max n m,λg hg=>⟨hn g (by omega),hm g (by omega)⟩⟩
  obtain⟨n2,k2⟩:=Qm (P:=λg (c:BC)=> ∀k∈c.2,k.1.length<g) (l:=v.structs) λc _=>by
   obtain⟨n,hn⟩:=Qm (P:=λg (k:Tb×Bs)=>k.1.length<g) (l:=c.2) λk _=>⟨k.1.length+1,λg hg=>by omega⟩
   exact⟨n,hn⟩
  have bt:∀(l:Tb),eT (QV d) aW l->N0 l:=λl h s hs e he=>by
   have:=(h s hs).2 e he
   exact⟨this.1,this.2.1⟩
  refine⟨max (max n1 n2) (v.sc.2.2.2.2.length+1),λg hg=>⟨⟨λs hs=>hi s hs,λs hs=>hf s hs⟩,⟨bt _ hs,by omega⟩,λc hc k hk=>⟨bt _ ((ht c hc).2 k hk).1,k2 g (by omega) c hc k hk⟩,k1 g (by omega)⟩⟩
end Go.GL
namespace Go.GV
open Go Go.GK Go.RowKit Go.Deep
theorem vV{f:Nat}{ps:List Ty}{F:BK NL (My ps).hs->Option (BK NL (My [.bool]).hs)}{x:BK NL (My ps).hs}{H:Hp}{vs:List Ce}(h:Ch TP f (qQ ps [.bool] F))(e:F x=Ac (show Bool from Br))(hG:NL.inv H)(hl:vs.length=(pdL ps 0).length)(hv:∀p∈pdL ps 0,∃v,vs[p.1]?=Ac v/\(inst NL (My ps).hs x p.2).is [] η0 H v):
  Tw TP f vs H [] (λv _ O'=>O'=[]/\v= .bool Br):=by
 refine(h.ok x _ e η0 H [] [] vs Aex ⟨hl,hv,rfl,λp hp=>(by cases hp),hG⟩).mono λv H' O' _ ⟨η,Y,h1,h2⟩=>?_
 have hY:Y=[]:=by
  cases Y with
  |nil=>rfl
  |cons p l=>rcases h2.ks p.1 (Aas ..)with k|k<;>cases k
 subst hY
 obtain⟨cs,h3,h4⟩:=h2.res
 have h3:cs=[.bool Br]:=h3
 have h4:cs=[v]:=h4
 rw[h3]at h4
 cases h4
 exact⟨h1,rf⟩
end Go.GV
namespace Go.GL
open Go Go.GV Go.GK Go.Proofs
theorem walk(W:IK)(hG:HP Tryz.prog (Hp.of W)){c0:Array Ce}{x0:Vl}(hl0:WJ.BS (Hp.of W) x0 c0.toList)(hq0:QV 3 x0):
  Tw Tryz.prog 3 [.agg c0] (Hp.of W) [] (λv H' O'=>O'=[]/\v= .bool Br):=by
 obtain⟨n0,hn0⟩:=T_ hq0
 obtain⟨fu,h⟩:∃fu,FCl fu x0=Ac Br:=⟨n0+1000000010100,Ye (gu:=n0) rfl (hn0 _ (by omega)) (by omega) (by omega)⟩
 refine vV (okAg fu) h hG rf λp hp=>?_
 rcases Aao.1 hp with rfl|hp
 ·exact⟨_,rf,c0.toList,hl0,by simp[CU,Ty.agg]⟩
 cases hp
end Go.GL
namespace Go.Proofs.YtejdlmphkeeekaaGreatDoor
open Go
theorem wD:(Tryz.prog.funcs.toList.all λf=> !f.goes)=Br:=by kernel_rfl
theorem gq(g:Nat):(Tryz.prog.funcs[g]?).any Func.goes=Ak:=by
 cases h:Tryz.prog.funcs[g]? with
 |none=>rfl
 |some fn=>
  have:=IT.1 wD fn (Array.mem_toList_iff.2 (Array.mem_of_getElem? h))
  simpa using this
theorem aa:Tryz.prog.funcs.any Func.goes=Ak:=by
 rw[<-Array.any_toList]
 cases h:Tryz.prog.funcs.toList.any Func.goes with
 |false=>rfl
 |true=>
  obtain⟨fn,h1,h2⟩:=Acj.1 h
  have:=IT.1 wD fn h1
  rw[h2]at this
  cases this
theorem p9(f:FuncId):Tryz.prog.goes f=Ak:=by
 unfold GO.goes
 rw[aa,Bool.and_false,Alj]
 cases h:((Tryz.prog.closure f).any λg=>(Tryz.prog.funcs[g]?).any Func.goes)with
 |false=>rfl
 |true=>
  simp only[gq]at h
  simp at h
theorem p_:Ak=Rows.closingClosedRow.goesBy Tryz.pinned.checked.prog:=by
 have e:Rows.closingClosedRow.goesBy Tryz.prog=((Tryz.prog.funcNamed Rows.closingClosedRow.func).any Tryz.prog.goes||false):=rfl
 refine Eq.trans ?_ e.symm
 generalize Tryz.prog.funcNamed Rows.closingClosedRow.func=o
 cases o with
 |none=>rfl
 |some f=>rw[Option.any_some,p9];rfl
end Go.Proofs.YtejdlmphkeeekaaGreatDoor
