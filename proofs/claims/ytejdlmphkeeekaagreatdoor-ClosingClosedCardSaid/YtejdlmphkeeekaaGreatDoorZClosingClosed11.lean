/- Part 11 of the texts of this claim: what its theorem leans on. -/
import Derived.Test.YtejdlmphkeeekaaGreatDoorZClosingClosed10
import Derived.KernelRfl
set_option linter.all false
open Option renaming some→Ac,none→Dc
open Bool renaming false→Ak,true→Br
open Go renaming Value→Ce,Operand→Er,TypeId→Gn,Program→GO,World→IK,execOp→Kr,Oper→K5,IntKind→Lm
open Decidable renaming decide→Ds
namespace Go.GV
open Go Go.GK Go.Proofs
noncomputable section
theorem x9:I8 2000 (xb,xo)=Ac ((xb,xo),0):=by kernel_rfl
def vq:List (AH×AH)->AH->Option (AH×Int)
 | [],_=>Dc
 |p::l,x=>cond (Qn (Lq 4) x p.1) (Ac (p.2,0)) (vq l x)
theorem PT{F:AH->Option (AH×Int)} :∀ {l:List (AH×AH)},(∀p∈l,F p.1=Ac (p.2,0))->∀x y,vq l x=Ac y->F x=Ac y
 | [],_,_,_,h=>by cases h
 |p::l,k,x,y,h=>by
  unfold vq at h
  cases e:Qn (Lq 4) x p.1 with
  |true=>rw[e]at h;cases h;rw[Wi (λ_ _=>Qo) e];exact k p (Aas ..)
  |false=>rw[e]at h;exact PT (λq a=>k q (Aag _ a)) x y h
abbrev xL:List (AH×AH):=[((xi,xo),(xi,xo)),((xt,xo),(xt,xo)),((xo,xo),(xo,xo)),((xs xo,xo),(xs xo,xo)),((xs xt,xo),(xs xt,xo)),((xs xt,xs xt),(xs xt,xs xt)),((xs xo,xs xo),(xs xo,xs xo)),((xh [(xw,xt,xt),(xa,xo,xo)],xo),(xb,xo)),((xb,xo),(xb,xo)),((xn,xo),(xn,xo))]
theorem vM:∀p∈xL,I8 2000 p.1=Ac (p.2,0):=λp h=>by
 rcases Aao.1 h with rfl|h
 ·exact x3
 rcases Aao.1 h with rfl|h
 ·exact x4
 rcases Aao.1 h with rfl|h
 ·exact x5
 rcases Aao.1 h with rfl|h
 ·exact x6
 rcases Aao.1 h with rfl|h
 ·exact x7
 rcases Aao.1 h with rfl|h
 ·exact x1
 rcases Aao.1 h with rfl|h
 ·exact x2
 rcases Aao.1 h with rfl|h
 ·exact x8
 rcases Aao.1 h with rfl|h
 ·exact x9
 rw[Aae.1 h];exact x10
theorem fq{f:Nat}{ps rs:List Ty}{F G:BK NL (My ps).hs->Option (BK NL (My rs).hs)}(h:∀q∈[qQ ps rs F],Ch TP f q)(e:∀x y,G x=Ac y->F x=Ac y):Ch TP f (qQ ps rs G):=⟨(h _ (Aae.2 rfl)).YZ,λx y hy η H O Y vs nd i=>((h _ (Aae.2 rfl)).ok x y (e x y hy) η H O Y vs nd ⟨i.len,i.sl,i.ks,i.ro,i.inv⟩).mono λv H' O' _ ⟨a,b,c,o⟩=>⟨a,b,c,o.env,o.nd,o.ks,o.ro,o.st,o.res⟩⟩
def BTm(_:Nat):Bd:=df (f:=57) (fq (ps:=[A_]) (rs:=[A_,Am]) (F:=I8 2000) (G:=vq xL) (zU 2000).ok (PT vM))
def BTv(fu:Nat):Bd:=BI (sQ (bs [BTm,eJ] fu) fu Tryz.func41 [A_] [.bool])
def BTg(fu:Nat):Bd:=BI (sQ (bs [BTv] fu) fu Tryz.func19 [Ba] [.bool])
end
end Go.GV
