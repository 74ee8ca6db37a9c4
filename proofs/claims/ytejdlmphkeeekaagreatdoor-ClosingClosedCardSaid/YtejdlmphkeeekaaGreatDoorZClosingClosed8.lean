/- Part 8 of the texts of this claim: what its theorem leans on. -/
import Derived.Test.YtejdlmphkeeekaaGreatDoorZClosingClosed5
import Derived.KernelRfl
set_option linter.all false
open Option renaming some→Ac,none→Dc
open Bool renaming false→Ak,true→Br
open Go renaming Value→Ce,Operand→Er,TypeId→Gn,Program→GO,World→IK,execOp→Kr,Oper→K5,IntKind→Lm
open Decidable renaming decide→Ds
namespace Go.GV
open Go Go.GK Go.Proofs
noncomputable section
theorem Ahv{a b:Vl}(h1:a.any=b.any)(h2:a.sc=b.sc)(h3:a.lists=b.lists)(c:a.structs=b.structs):a=b:=by cases a;cases b;grind[Vl.any,Vl.sc,Vl.lists,Vl.structs]
def Qq{α:Type}(f:α->α->Bool):List α->List α->Bool
 | [],[]=>Br
 |x::l,y::m=>f x y&&Qq f l m
 |_,_=>Ak
theorem GF{α:Type}{f:α->α->Bool}(h:∀x y,f x y=Br->x=y):∀ {l m:List α},Qq f l m=Br->l=m
 | [],[],_=>rfl
 |x::l,y::m,e=>by
  simp only[Qq,AS]at e
  rw[h x y e.1,GF h e.2]
 | [],_::_,e=>by cases e
 |_::_,[],e=>by cases e
def rp(s t:Bool×Bool×Bool×(List (Int×Int)×List (Int×Int))×List (Bool×List (Int×Int×Int))):Bool:=Ds (s.1=t.1)&&(Ds (s.2.1=t.2.1)&&(Ds (s.2.2.1=t.2.2.1)&&(Ds (s.2.2.2.1=t.2.2.2.1)&&Ds (s.2.2.2.2=t.2.2.2.2))))
theorem iv{s t}(e:rp s t=Br):s=t:=by
 simp only[rp,AS,decide_eq_true_iff]at e
 exact Aby e.1 (Aby e.2.1 (Aby e.2.2.1 (Aby e.2.2.2.1 e.2.2.2.2)))
def eqLg(s t:List (Bool×List (Int×Int×Int))):Bool:=Ds (s=t)
def Qn(f:Vl->Vl->Bool)(x y:Vl×Vl):Bool:=f x.1 y.1&&f x.2 y.2
theorem Wi{f:Vl->Vl->Bool}(h:∀x y,f x y=Br->x=y){x y:Vl×Vl}(e:Qn f x y=Br):x=y:=by
 simp only[Qn,AS]at e
 exact Aby (h _ _ e.1) (h _ _ e.2)
def Lq:Nat->Vl->Vl->Bool
 |0,_,_=>Ak
 |n+1,a,b=>a.any==b.any&&(rp a.sc b.sc&&(Qq (λx y=>Qq (Qn (Lq n)) x.1 y.1&&Qq (Qn (Lq n)) x.2 y.2) a.lists b.lists&&Qq (λx y=>Qq (λp q=>Ds (p.1=q.1)&&(Ds (p.2.1=q.2.1)&&Qn (Lq n) p.2.2 q.2.2)) x.1 y.1&&Qq (λp q=>eqLg p.1 q.1&&Qn (Lq n) p.2 q.2) x.2 y.2) a.structs b.structs))
theorem Qo:∀ {n:Nat} {a b:Vl},Lq n a b=Br->a=b
 |0,_,_,h=>by cases h
 |n+1,a,b,h=>by
  have I:∀x y,Lq n x y=Br->x=y:=λx y e=>Qo e
  have J:∀ {x y},Qn (Lq n) x y=Br->x=y:=λe=>Wi I e
  simp only[Lq,AS,beq_iff_eq]at h
  refine Ahv h.1 (iv h.2.1) (GF (λx y e=>?_) h.2.2.1) (GF (λx y e=>?_) h.2.2.2)
  ·simp only[AS]at e
   exact Aby (GF (λ_ _=>J) e.1) (GF (λ_ _=>J) e.2)
  ·simp only[AS]at e
   refine Aby (GF (λp q e=>?_) e.1) (GF (λp q e=>?_) e.2)
   ·simp only[AS,decide_eq_true_iff]at e
    exact Aby e.1 (Aby e.2.1 (J e.2.2))
   ·simp only[AS]at e
    exact Aby (of_decide_eq_true e.1) (J e.2)
abbrev xz:Ff:=(Ak,Ak,Ak,([],[]),[])
abbrev xo:Vl:= .mk Ak xz [] []
abbrev xt:Vl:= .mk Br xz [] []
abbrev xi:Vl:= .mk Ak (Ak,Ak,Ak,([(0,9)],[]),[]) [] []
abbrev xn:Vl:= .mk Ak (Br,Ak,Ak,([],[]),[]) [] []
abbrev xa:A4:=[(Br,[(0,96,1),(97,97,2),(98,255,1)]),(Br,[(0,255,1)]),(Ak,[(0,255,1)])]
abbrev xw:A4:=[(Ak,[(97,97,1)]),(Br,[])]
abbrev xs(x:Vl):Vl:= .mk Ak xz [] [([([97],1,xi,xi)],[(xa,x,x)])]
abbrev xh(l:List (A4×Vl×Vl)):Vl:= .mk Ak (Br,Br,Br,([(-100000000000,100000000000)],[(-999999999999999,999999999999999)]),[(Br,[(0,255,0)])]) [([],[(xt,xt)])] [([],l)]
abbrev xb:Vl:=xh [(xa,xo,xo),(xw,xt,xt)]
theorem x1:I8 2000 (xs xt,xs xt)=Ac ((xs xt,xs xt),0):=by kernel_rfl
theorem x2:I8 2000 (xs xo,xs xo)=Ac ((xs xo,xs xo),0):=by kernel_rfl
theorem x3:I8 2000 (xi,xo)=Ac ((xi,xo),0):=by kernel_rfl
theorem x4:I8 2000 (xt,xo)=Ac ((xt,xo),0):=by kernel_rfl
theorem x5:I8 2000 (xo,xo)=Ac ((xo,xo),0):=by kernel_rfl
end
end Go.GV
