/- Part 15 of the texts of this claim: what its theorem leans on. -/
import Derived.Test.YtejdlmphkeeekaaGreatDoorZClosingClosed14
import Derived.KernelRfl
set_option linter.all false
open Option renaming some→Ac,none→Dc
open Bool renaming false→Ak,true→Br
open Go renaming Value→Ce,Operand→Er,TypeId→Gn,Program→GO,World→IK,execOp→Kr,Oper→K5,IntKind→Lm
open Decidable renaming decide→Ds
namespace Go.GV
open Go Go.GK Go.Proofs
noncomputable section
theorem xv3:(ju 2000).1 (xs xo)=(Ac ((xb,xb),(0:Int)):Option (AH×Int)):=by kernel_rfl
theorem xv4:(ju 2000).1 xn=(Ac ((xt,xt),(0:Int)):Option (AH×Int)):=by kernel_rfl
def qk:List (Vl×AH)->Vl->Option (AH×Int)
 | [],_=>Dc
 |p::l,x=>cond (Lq 4 x p.1) (Ac (p.2,0)) (qk l x)
theorem aq{F:Vl->Option (AH×Int)} :∀ {l:List (Vl×AH)},(∀p∈l,F p.1=Ac (p.2,0))->∀x y,qk l x=Ac y->F x=Ac y
 | [],_,_,_,h=>by cases h
 |p::l,k,x,y,h=>by
  unfold qk at h
  cases e:Lq 4 x p.1 with
  |true=>rw[e]at h;cases h;rw[Qo e];exact k p (Aas ..)
  |false=>rw[e]at h;exact aq (λq a=>k q (Aag _ a)) x y h
def BTo(_:Nat):Bd:=df (f:=11) (fq (ps:=[A_]) (rs:=[A_,Am]) (F:=(sZ 2000).1) (G:=vq [((xs xt,xs xt),(xs xo,xs xo))]) (B265 2000).ok (PT λp h=>by rw[Aae.1 h];exact xv1))
def BTp(_:Nat):Bd:=df (f:=13) (fq (ps:=[A_]) (rs:=[A_,Am]) (F:=(sY 2000).1) (G:=vq [((xs xo,xs xo),(xs xt,xs xt))]) (B273 2000).ok (PT λp h=>by rw[Aae.1 h];exact xv2))
def BTs(_:Nat):Bd:=df (f:=14) (fq (ps:=[Ba]) (rs:=[A_,Am]) (F:=(ju 2000).1) (G:=qk [(xs xo,(xb,xb)),(xn,(xt,xt))]) (B279 2000).ok (aq λp h=>by
 rcases Aao.1 h with rfl|h
 ·exact xv3
 rw[Aae.1 h];exact xv4))
def BTc(fu:Nat):Bd:=BI (sQ (bs [BTg,zH] fu) fu Tryz.func6 [Ba] [.bool])
def sX(fu:Nat):=sQ (bs [BTc,B6,B7,BTo,B33,BTp,BTs,B285,u_,zQ,zI] fu) fu Tryz.func5 [] [.bool]
def B309(fu:Nat):=BI (sX fu)
end
end Go.GV
