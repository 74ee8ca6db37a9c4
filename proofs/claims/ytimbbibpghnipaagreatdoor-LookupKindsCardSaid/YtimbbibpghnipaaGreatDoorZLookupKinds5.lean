/- Part 5 of the texts of this claim: what its theorem leans on. -/
import Derived.Test.YtimbbibpghnipaaGreatDoorZLookupKinds4
import Derived.KernelRfl
set_option linter.all false
open Option renaming some→Ac,none→C5
open Bool renaming false→Aj,true→Bp
open Go renaming Value→BZ,Operand→El,TypeId→Gj,Program→GG,World→IG,execOp→Ki,Oper→KV,IntKind→Lc
open Decidable renaming decide→Di
open List renaming length→Fw
open Int renaming natAbs→wk
namespace Go.GV
open Go Go.GK Go.Proofs
noncomputable section
def D183(a:Nat)(b:BC)(c:BC):Option Bool:=Af ((b.1.length:Int)=b.1.length/\(b.1.length:Int)=b.1.length)<|Ad a (λ(e:Nat) o=>iF ((e:Int)< ↑(2)) (Ab (idx [b.1,c.1] (e:Int)) λh=>Ad a (λ(f:Nat) p=>iF ((f:Int)<h.length) (Ab (idx h f) λi=>Ab (Yl a (b,i.1)) λj=>Ab (Yl a (c,i.1)) λk=>iF (k.2<j.2) (Ac Aj)<|Ab (Lq a (j.1,k.1)) λq=>iB (!q) (Ac Aj)<|p (f+1))<|o (e+1)) (0))<|Ad a (λ(g:Nat) r=>iF ((g:Int)<b.2.length) (Ab (idx b.2 g) λl=>Ad a (λ(d:Nat) m=>iF ((d:Int)<c.2.length) (Ab (idx c.2 d) λn=>Ab (Lq a (l.2,n.2)) λs=>iB (!s) (Ab (tz a (l.1,n.1)) λt=>iF ((0:Int)<t.length) (Ac Aj)<|m (d+1))<|m (d+1))<|r (g+1)) (0))<|some Bp) (0)) (0)
theorem d183(fu x0 x1):UT (fu+1) (x0,x1)=D183 fu x0 x1:=by kernel_rfl
def D184(b:Nat)(c:BC)(a:BC):Option (Bool×BC):=Ab (UT b (a,c)) λd=>Ac (d,a)
theorem d184(fu x0 x1):j7 (fu+1) (x0,x1)=D184 fu x0 x1:=by kernel_rfl
def D185(c:Nat)(d:List BC)(e:BC):Option (Int×BC):=Ad c (λ(a:BC×Nat) f=>iF ((a.2:Int)<d.length) (Ab (idx d a.2) λg=>Ab (j7 c (g,a.1)) λb=>iB b.1 (Ac (((a.2:Int),b.2)))<|f (b.2,a.2+1))<|some (((-1:Int),a.1))) ((e,0))
theorem d185(fu x0 x1):j6 (fu+1) (x0,x1)=D185 fu x0 x1:=by kernel_rfl
def D186(b:Nat)(c:List BC)(d:BC):Option (Bool×BC):=Ab (j6 b (c,d)) λa=>Ac (Di ((0:Int)<=a.1),a.2)
theorem d186(fu x0 x1):j0 (fu+1) (x0,x1)=D186 fu x0 x1:=by kernel_rfl
def D187(b:Nat)(c:List BC)(d:List BC):Option Bool:=Ad b (λ(a:Nat) e=>iF ((a:Int)<c.length) (Ab (idx c a) λf=>Ab (j0 b (d,f)) λg=>iB (!g.1) (Ac Aj)<|e (a+1))<|some Bp) (0)
theorem d187(fu x0 x1):jZ (fu+1) (x0,x1)=D187 fu x0 x1:=by kernel_rfl
def D188(c:Nat)(b:Vl)(a:Vl):Option Bool:=iB (Vl.any b) (Ac (Vl.any a))<|iB (Vl.any a) (Ac (Vl.any a))<|Ab (dZ c ((b,Vl.mk Aj (Aj,Aj,Aj,([],[]),[]) [] []),a,Vl.mk Aj (Aj,Aj,Aj,([],[]),[]) [] [])) λd=>iB d (Ac Bp)<|Ab (kf c (Vl.sc b,Vl.sc a)) λe=>iB (!e) (Ac Aj)<|Ab (j8 c (Vl.lists b,Vl.lists a)) λf=>iB f (Ab (jZ c (Vl.structs b,Vl.structs a)) Ac)<|some Aj
theorem d188(fu x0 x1):To (fu+1) (x0,x1)=D188 fu x0 x1:=by kernel_rfl
def D189(a:Nat)(b:AH)(c:AH):Option Bool:=Ab (To a (b.1,c.1)) λd=>iB d (Ab (To a (b.2,c.2)) Ac)<|some Aj
theorem d189(fu x0 x1):Lq (fu+1) (x0,x1)=D189 fu x0 x1:=by kernel_rfl
def D190(b:Nat)(a:BO)(c:BO):Option Bool:=iF ((a.1.length:Int)<c.1.length) (Ac Aj)<|iB (!decide ((0:Int)<c.2.length)) (iF ((c.1.length:Int)<a.1.length) (Ac Aj)<|iF ((0:Int)<a.2.length) (Ac Aj)<|Ad b (λ(d:Nat) f=>iF ((d:Int)<a.1.length) (Ab (idx a.1 d) λg=>Ab (Yp b (c,(d:Int))) λh=>Ab (Lq b (g,h.1)) λi=>iB (!i) (Ac Aj)<|f (d+1))<|iF ((a.2.length:Int)=0) (Ac Bp)<|Ab (idx a.2 0) λj=>Ab (idx c.2 0) λk=>Ab (Lq b (j,k)) Ac) (0))<|Ad b (λ(e:Nat) m=>iF ((e:Int)<a.1.length) (Ab (idx a.1 e) λn=>Ab (Yp b (c,(e:Int))) λo=>Ab (Lq b (n,o.1)) λp=>iB (!p) (Ac Aj)<|m (e+1))<|iF ((a.2.length:Int)=0) (Ac Bp)<|Ab (idx a.2 0) λq=>Ab (idx c.2 0) λr=>Ab (Lq b (q,r)) Ac) (0)
theorem d190(fu x0 x1):US (fu+1) (x0,x1)=D190 fu x0 x1:=by kernel_rfl
def tx(b:Nat)(a:BO):Option Vl:=Ac (Vl.mk Aj (Aj,Aj,Aj,([],[]),[]) [a] [])
def B188:=bQ [] Tryz.func152 [B_] [Bz] tx (pt:=lg [(1,[.MQ 2 7])])
def jY(c:Nat):Bool×Bool->Option Int|(a,b)=>iB (a==b) (Ac 0)<|iB a (Ac ((-1:Int)))<|some 1
def yS:=bQ [] Tryz.func324 [.bool, .bool] [Ak] jY
def tv(c:Nat):Vl×Vl->Option (Int×AH)|(a,b)=>Ab (jY c (Vl.any a,Vl.any b)) λd=>Ac (d,a,b)
def B190:=bP [yS] Tryz.func323 ⟨[.Ae Bz, .Ae Bz],[(0, .loc 0 0),(1, .loc 1 0)],[(0, .Ai 33 [(9, .v 0 Bz)]),(1, .Ai 33 [(9, .v 1 Bz)])],2⟩ ⟨[.Ae Ak, .Ae Bz, .Ae Bz],[(0, .v 0 Ak)],[(0, .Ai 33 [(9, .v 1 Bz)]),(1, .Ai 33 [(9, .v 2 Bz)])],2⟩ 1 [] tv
def Lp(a:Nat):Bb×Bb->Option Int|(d,e)=>Ab (Ym a (d,e)) λf=>Ab (UZ a f) λb=>Ab (Ym a (e,d)) λg=>Ab (UZ a g) λc=>iB (!b.2) (iB (!c.2) (Ac 0)<|iB (!c.2) (Ac ((-1:Int)))<|iB b.2 (Ab (U0 a (b.1,c.1)) λh=>iB h (Ac ((-1:Int)))<|some 1)<|some 1)<|iB (!c.2) (Ac ((-1:Int)))<|iB b.2 (Ab (U0 a (b.1,c.1)) λi=>iB i (Ac ((-1:Int)))<|some 1)<|some 1
def B191:=bQ [yZ,y_,yT] Tryz.func270 [E5,E5] [Ak] Lp
def Tn(d:Nat):Fq×Fq->Option Int|(a,b)=>Ab (dm d a) λg=>iB (!g) (Ac 0)<|Ab (dm d b) λh=>iB (!h) (Ac 0)<|Ad d (λ(c:Int) i=>iF (c<3) (Af ((0:Int)<=c/\c<(↑3:Int))<|Ab (idx [(a.1,b.1),(a.2.1,b.2.1),(a.2.2.1,b.2.2.1)] c) λe=>iF ((e.1::[e.2])=(Bp::[Aj])) (Ac ((-1:Int)))<|iF ((e.1::[e.2])=(Aj::[Bp])) (Ac 1)<|Aa .i64 (c+1)<|i (c+1))<|Ab (Lp d (a.2.2.2.1,b.2.2.2.1)) λf=>iF (f≠0) (Ac f)<|Ab (Yq d (a.2.2.2.2,b.2.2.2.2)) Ac) ((0:Int))
def yR:=bQ [B77,uv,B191] Tryz.func218 [y8,y8] [Ak] Tn (la:=lk [(4,⟨[.Ae Ak],(kp [2,3,32] [(33, .v 0 Ak)]),[(1, .c 0),(0, .c 0)],2⟩)])
def tu(c:Nat):Vl×Vl->Option (Int×AH)|(a,b)=>Ab (Tn c (Vl.sc a,Vl.sc b)) λd=>Ac (d,a,b)
def B193:=bP [yR] Tryz.func325 ⟨[.Ae Bz, .Ae Bz],[(0, .loc 0 0),(1, .loc 1 0)],[(0, .Ai 33 [(9, .v 0 Bz)]),(1, .Ai 33 [(9, .v 1 Bz)])],2⟩ ⟨[.Ae Ak, .Ae Bz, .Ae Bz],[(0, .v 0 Ak)],[(0, .Ai 33 [(9, .v 1 Bz)]),(1, .Ai 33 [(9, .v 2 Bz)])],2⟩ 1 [] tu
def tt(c:Nat):BO×BO->Option (Int×BO×BO)|(a,b)=>Ab (UW c ((a.1.length:Int),(b.1.length:Int))) λd=>Ac (d,a,b)
def B194:=bP [uw] Tryz.func368 ⟨[.Ae B_, .Ae B_],[(0, .loc 0 0),(1, .loc 1 0)],[(0, .Ai 77 [(2, .v 0 B_)]),(1, .Ai 77 [(2, .v 1 B_)])],2⟩ ⟨[.Ae Ak, .Ae B_, .Ae B_],[(0, .v 0 Ak)],[(0, .Ai 77 [(2, .v 1 B_)]),(1, .Ai 77 [(2, .v 2 B_)])],2⟩ 1 [] tt
def tq(c:Nat):BO×BO->Option (Int×BO×BO)|(a,b)=>Ab (jY c (Di ((0:Int)<a.2.length),Di ((0:Int)<b.2.length))) λd=>Ac (d,a,b)
def B195:=bP [yS] Tryz.func369 ⟨[.Ae B_, .Ae B_],[(0, .loc 0 0),(1, .loc 1 0)],[(0, .Ai 77 [(2, .v 0 B_)]),(1, .Ai 77 [(2, .v 1 B_)])],2⟩ ⟨[.Ae Ak, .Ae B_, .Ae B_],[(0, .v 0 Ak)],[(0, .Ai 77 [(2, .v 1 B_)]),(1, .Ai 77 [(2, .v 2 B_)])],2⟩ 1 [] tq
def jX(c:Nat):(Aq×Int×AH)×Aq×Int×AH->Option (Int×(Aq×Int×AH)×Aq×Int×AH)|(a,b)=>Ab (Ys c (a.1,b.1)) λd=>Ac (d,a,b)
def B196:=bP [yV] Tryz.func376 ⟨[.Ae EM, .Ae EM],[(0, .loc 0 0),(1, .loc 1 0)],[(0, .Ai 69 [(20, .v 0 EM)]),(1, .Ai 69 [(20, .v 1 EM)])],2⟩ ⟨[.Ae Ak, .Ae EM, .Ae EM],[(0, .v 0 Ak)],[(0, .Ai 69 [(20, .v 1 EM)]),(1, .Ai 69 [(20, .v 2 EM)])],2⟩ 1 [] jX
def jW(c:Nat):(Aq×Int×AH)×Aq×Int×AH->Option (Int×(Aq×Int×AH)×Aq×Int×AH)|(a,b)=>Ab (UW c (a.2.1,b.2.1)) λd=>Ac (d,a,b)
def B197:=bP [uw] Tryz.func377 ⟨[.Ae EM, .Ae EM],[(0, .loc 0 0),(1, .loc 1 0)],[(0, .Ai 69 [(20, .v 0 EM)]),(1, .Ai 69 [(20, .v 1 EM)])],2⟩ ⟨[.Ae Ak, .Ae EM, .Ae EM],[(0, .v 0 Ak)],[(0, .Ai 69 [(20, .v 1 EM)]),(1, .Ai 69 [(20, .v 2 EM)])],2⟩ 1 [] jW
def jV(c:Nat):(A5×AH)×A5×AH->Option (Int×(A5×AH)×A5×AH)|(a,b)=>Ab (Yq c (a.1,b.1)) λd=>Ac (d,a,b)
def B198:=bP [uv] Tryz.func382 ⟨[.Ae FK, .Ae FK],[(0, .loc 0 0),(1, .loc 1 0)],[(0, .Ai 92 [(19, .v 0 FK)]),(1, .Ai 92 [(19, .v 1 FK)])],2⟩ ⟨[.Ae Ak, .Ae FK, .Ae FK],[(0, .v 0 Ak)],[(0, .Ai 92 [(19, .v 1 FK)]),(1, .Ai 92 [(19, .v 2 FK)])],2⟩ 1 [] jV
def me:A_:=⟨[.Ae BJ, .Ae BJ],[(0, .loc 0 0),(1, .loc 1 0)],[(0, .Ai 35 [(18, .v 0 BJ)]),(1, .Ai 35 [(18, .v 1 BJ)])],2⟩
def lu:A_:=⟨[.Ae Ak, .Ae BJ, .Ae BJ],[(0, .v 0 Ak)],[(0, .Ai 35 [(18, .v 1 BJ)]),(1, .Ai 35 [(18, .v 2 BJ)])],2⟩
def mc:A_:=⟨[.Ae BJ, .Ae BJ],[(0, .loc 0 0),(1, .loc 1 0)],[(0, .Ai 35 [(18, .v 0 BJ)]),(1, .Ai 35 [(18, .v 1 BJ)])],2⟩
def lr:A_:=⟨[.Ae Ak, .Ae BJ, .Ae BJ],[(0, .v 0 Ak)],[(0, .Ai 35 [(18, .v 1 BJ)]),(1, .Ai 35 [(18, .v 2 BJ)])],2⟩
def mb:A_:=⟨[.Ae BJ, .Ae BJ],[(0, .px [0] (.hc 2))],[(0, .Ai 121 [(1, .AK 401 [] [1,2]),(1, .AK 402 [] [1,2])]),(1, .Ai 35 [(18, .v 0 BJ)]),(2, .Ai 35 [(18, .v 1 BJ)])],3⟩
def lq:A_:=⟨[.Ae Ak, .Ae BJ, .Ae BJ],[(0, .v 0 Ak)],[(0, .Ai 121 [(1, .AK 401 [] [1,2]),(1, .AK 402 [] [1,2])]),(1, .Ai 35 [(18, .v 1 BJ)]),(2, .Ai 35 [(18, .v 2 BJ)])],3⟩
def ma:A_:=⟨[.Ae Dk, .Ae Dk],[(0, .v 0 Dk),(1, .v 1 Dk),(2, .AK 372 [] [])],[],0⟩
def lp:A_:=⟨[.Ae Ak],[(0, .v 0 Ak)],[],0⟩
def l_:A_:=⟨[.Ae B_, .Ae B_],[(0, .loc 0 0),(1, .loc 1 0)],[(0, .Ai 77 [(2, .v 0 B_)]),(1, .Ai 77 [(2, .v 1 B_)])],2⟩
def ll:A_:=⟨[.Ae Ak, .Ae B_, .Ae B_],[(0, .v 0 Ak)],[(0, .Ai 77 [(2, .v 1 B_)]),(1, .Ai 77 [(2, .v 2 B_)])],2⟩
def l9:A_:=⟨[.Ae B_, .Ae B_],[(0, .px [0] (.hc 3))],[(0, .Ai 121 [(1, .AK 368 [] [1,2]),(1, .AK 369 [] [1,2]),(1, .AK 370 [] [1,2])]),(1, .Ai 77 [(2, .v 0 B_)]),(2, .Ai 77 [(2, .v 1 B_)])],3⟩
def lj:A_:=⟨[.Ae Ak, .Ae B_, .Ae B_],[(0, .v 0 Ak)],[(0, .Ai 121 [(1, .AK 368 [] [1,2]),(1, .AK 369 [] [1,2]),(1, .AK 370 [] [1,2])]),(1, .Ai 77 [(2, .v 1 B_)]),(2, .Ai 77 [(2, .v 2 B_)])],3⟩
def lZ:A_:=⟨[.Ae Ef, .Ae Ef],[(0, .v 0 Ef),(1, .v 1 Ef),(2, .AK 328 [] [])],[],0⟩
def lh:A_:=⟨[.Ae Ak],[(0, .v 0 Ak)],[],0⟩
def lY:A_:=⟨[.Ae Bz, .Ae Bz],[(0, .loc 0 0),(1, .loc 1 0)],[(0, .Ai 33 [(9, .v 0 Bz)]),(1, .Ai 33 [(9, .v 1 Bz)])],2⟩
def ld:A_:=⟨[.Ae Ak, .Ae Bz, .Ae Bz],[(0, .v 0 Ak)],[(0, .Ai 33 [(9, .v 1 Bz)]),(1, .Ai 33 [(9, .v 2 Bz)])],2⟩
def lX:A_:=⟨[.Ae EM, .Ae EM],[(0, .loc 0 0),(1, .loc 1 0)],[(0, .Ai 69 [(20, .v 0 EM)]),(1, .Ai 69 [(20, .v 1 EM)])],2⟩
def k_:A_:=⟨[.Ae Ak, .Ae EM, .Ae EM],[(0, .v 0 Ak)],[(0, .Ai 69 [(20, .v 1 EM)]),(1, .Ai 69 [(20, .v 2 EM)])],2⟩
def lW:A_:=⟨[.Ae EM, .Ae EM],[(0, .px [0] (.hc 3))],[(0, .Ai 121 [(1, .AK 376 [] [1,2]),(1, .AK 377 [] [1,2]),(1, .AK 378 [] [1,2])]),(1, .Ai 69 [(20, .v 0 EM)]),(2, .Ai 69 [(20, .v 1 EM)])],3⟩
def kZ:A_:=⟨[.Ae Ak, .Ae EM, .Ae EM],[(0, .v 0 Ak)],[(0, .Ai 121 [(1, .AK 376 [] [1,2]),(1, .AK 377 [] [1,2]),(1, .AK 378 [] [1,2])]),(1, .Ai 69 [(20, .v 1 EM)]),(2, .Ai 69 [(20, .v 2 EM)])],3⟩
def lV:A_:=⟨[.Ae LZ, .Ae LZ],[(0, .v 0 LZ),(1, .v 1 LZ),(2, .AK 375 [] [])],[],0⟩
def kY:A_:=⟨[.Ae Ak],[(0, .v 0 Ak)],[],0⟩
def lU:A_:=⟨[.Ae BR, .Ae BR],[(0, .loc 0 0),(1, .loc 1 0)],[(0, .Ai 65 [(2, .v 0 BR)]),(1, .Ai 65 [(2, .v 1 BR)])],2⟩
def kX:A_:=⟨[.Ae Ak, .Ae BR, .Ae BR],[(0, .v 0 Ak)],[(0, .Ai 65 [(2, .v 1 BR)]),(1, .Ai 65 [(2, .v 2 BR)])],2⟩
def lT:A_:=⟨[.Ae FK, .Ae FK],[(0, .loc 0 0),(1, .loc 1 0)],[(0, .Ai 92 [(19, .v 0 FK)]),(1, .Ai 92 [(19, .v 1 FK)])],2⟩
def kW:A_:=⟨[.Ae Ak, .Ae FK, .Ae FK],[(0, .v 0 Ak)],[(0, .Ai 92 [(19, .v 1 FK)]),(1, .Ai 92 [(19, .v 2 FK)])],2⟩
def lS:A_:=⟨[.Ae FK, .Ae FK],[(0, .px [0] (.hc 2))],[(0, .Ai 121 [(1, .AK 382 [] [1,2]),(1, .AK 383 [] [1,2])]),(1, .Ai 92 [(19, .v 0 FK)]),(2, .Ai 92 [(19, .v 1 FK)])],3⟩
def kV:A_:=⟨[.Ae Ak, .Ae FK, .Ae FK],[(0, .v 0 Ak)],[(0, .Ai 121 [(1, .AK 382 [] [1,2]),(1, .AK 383 [] [1,2])]),(1, .Ai 92 [(19, .v 1 FK)]),(2, .Ai 92 [(19, .v 2 FK)])],3⟩
def lR:A_:=⟨[.Ae Gk, .Ae Gk],[(0, .v 0 Gk),(1, .v 1 Gk),(2, .AK 381 [] [])],[],0⟩
def kU:A_:=⟨[.Ae Ak],[(0, .v 0 Ak)],[],0⟩
def lQ:A_:=⟨[.Ae BR, .Ae BR],[(0, .loc 0 0),(1, .loc 1 0)],[(0, .Ai 65 [(2, .v 0 BR)]),(1, .Ai 65 [(2, .v 1 BR)])],2⟩
def kT:A_:=⟨[.Ae Ak, .Ae BR, .Ae BR],[(0, .v 0 Ak)],[(0, .Ai 65 [(2, .v 1 BR)]),(1, .Ai 65 [(2, .v 2 BR)])],2⟩
def lP:A_:=⟨[.Ae BR, .Ae BR],[(0, .px [0] (.hc 2))],[(0, .Ai 121 [(1, .AK 373 [] [1,2]),(1, .AK 379 [] [1,2])]),(1, .Ai 65 [(2, .v 0 BR)]),(2, .Ai 65 [(2, .v 1 BR)])],3⟩
def kS:A_:=⟨[.Ae Ak, .Ae BR, .Ae BR],[(0, .v 0 Ak)],[(0, .Ai 121 [(1, .AK 373 [] [1,2]),(1, .AK 379 [] [1,2])]),(1, .Ai 65 [(2, .v 1 BR)]),(2, .Ai 65 [(2, .v 2 BR)])],3⟩
def lO:A_:=⟨[.Ae Ee, .Ae Ee],[(0, .v 0 Ee),(1, .v 1 Ee),(2, .AK 331 [] [])],[],0⟩
def kR:A_:=⟨[.Ae Ak],[(0, .v 0 Ak)],[],0⟩
def lN:A_:=⟨[.Ae Bz, .Ae Bz],[(0, .loc 0 0),(1, .loc 1 0)],[(0, .Ai 33 [(9, .v 0 Bz)]),(1, .Ai 33 [(9, .v 1 Bz)])],2⟩
def kQ:A_:=⟨[.Ae Ak, .Ae Bz, .Ae Bz],[(0, .v 0 Ak)],[(0, .Ai 33 [(9, .v 1 Bz)]),(1, .Ai 33 [(9, .v 2 Bz)])],2⟩
def lM:A_:=⟨[.Ae Bz, .Ae Bz],[(0, .px [0] (.hc 4))],[(0, .Ai 121 [(1, .AK 323 [] [1,2]),(1, .AK 325 [] [1,2]),(1, .AK 326 [] [1,2]),(1, .AK 329 [] [1,2])]),(1, .Ai 33 [(9, .v 0 Bz)]),(2, .Ai 33 [(9, .v 1 Bz)])],3⟩
def kP:A_:=⟨[.Ae Ak, .Ae Bz, .Ae Bz],[(0, .v 0 Ak)],[(0, .Ai 121 [(1, .AK 323 [] [1,2]),(1, .AK 325 [] [1,2]),(1, .AK 326 [] [1,2]),(1, .AK 329 [] [1,2])]),(1, .Ai 33 [(9, .v 1 Bz)]),(2, .Ai 33 [(9, .v 2 Bz)])],3⟩
abbrev nA:Type:=G0 401 me lu 1 []×G0 402 mc lr 1 []×G0 322 mb lq 1 []×Gg 372 [BJ,BJ] [Ak]×G0 371 ma lp 1 []×G0 370 l_ ll 1 []×G0 322 l9 lj 1 []×Gg 328 [B_,B_] [Ak]×G0 327 lZ lh 1 []×G0 326 lY ld 1 []×G0 378 lX k_ 1 []×G0 322 lW kZ 1 []×Gg 375 [EM,EM] [Ak]×G0 374 lV kY 1 []×G0 373 lU kX 1 []×G0 383 lT kW 1 []×G0 322 lS kV 1 []×Gg 381 [FK,FK] [Ak]×G0 380 lR kU 1 []×G0 379 lQ kT 1 []×G0 322 lP kS 1 []×Gg 331 [BR,BR] [Ak]×G0 330 lO kR 1 []×G0 329 lN kQ 1 []×G0 322 lM kP 1 []×Gg 267 [Bz,Bz] [Ak]
def D7(n:Nat):nA:=Nat.rec (motive:=λ_=>nA) (tP Tryz.func401,tP Tryz.func402,tP Tryz.func322,tQ Tryz.func372,tP Tryz.func371,tP Tryz.func370,tP Tryz.func322,tQ Tryz.func328,tP Tryz.func327,tP Tryz.func326,tP Tryz.func378,tP Tryz.func322,tQ Tryz.func375,tP Tryz.func374,tP Tryz.func373,tP Tryz.func383,tP Tryz.func322,tQ Tryz.func381,tP Tryz.func380,tP Tryz.func379,tP Tryz.func322,tQ Tryz.func331,tP Tryz.func330,tP Tryz.func329,tP Tryz.func322,tQ Tryz.func267) (λfu ⟨g0,g1,g2,g3,g4,g5,g6,g7,g8,g9,g10,g11,g12,g13,g14,g15,g16,g17,g18,g19,g20,g21,g22,g23,g24,g25⟩=>(sP [Dc g25] fu Tryz.func401 me lu 1 [],sP [Dc g25] fu Tryz.func402 mc lr 1 [],sP [C1 g0,C1 g1] fu Tryz.func322 mb lq 1 [],sQ [C1 g2] fu Tryz.func372 [BJ,BJ] [Ak],sP [Dc g3] fu Tryz.func371 ma lp 1 [] (la:=lk [(2,⟨[.nat],(kp [0,1,2,11,12] [(13, .AD 0 200)]),[],0⟩)]),sP (C1 g4::bs [B81] fu) fu Tryz.func370 l_ ll 1 [],sP (C1 g5::bs [B194,B195] fu) fu Tryz.func322 l9 lj 1 [],sQ [C1 g6] fu Tryz.func328 [B_,B_] [Ak],sP [Dc g7] fu Tryz.func327 lZ lh 1 [] (la:=lk [(2,⟨[.nat],(kp [0,1,2,11,12] [(13, .AD 0 200)]),[],0⟩)]),sP [C1 g8] fu Tryz.func326 lY ld 1 [],sP [Dc g3] fu Tryz.func378 lX k_ 1 [],sP (C1 g10::bs [B196,B197] fu) fu Tryz.func322 lW kZ 1 [],sQ [C1 g11] fu Tryz.func375 [EM,EM] [Ak],sP [Dc g12] fu Tryz.func374 lV kY 1 [] (la:=lk [(2,⟨[.nat],(kp [0,1,2,11,12] [(13, .AD 0 200)]),[],0⟩)]),sP [C1 g13] fu Tryz.func373 lU kX 1 [],sP [Dc g3] fu Tryz.func383 lT kW 1 [],sP (C1 g15::bs [B198] fu) fu Tryz.func322 lS kV 1 [],sQ [C1 g16] fu Tryz.func381 [FK,FK] [Ak],sP [Dc g17] fu Tryz.func380 lR kU 1 [] (la:=lk [(2,⟨[.nat],(kp [0,1,2,11,12] [(13, .AD 0 200)]),[],0⟩)]),sP [C1 g18] fu Tryz.func379 lQ kT 1 [],sP [C1 g14,C1 g19] fu Tryz.func322 lP kS 1 [],sQ [C1 g20] fu Tryz.func331 [BR,BR] [Ak],sP [Dc g21] fu Tryz.func330 lO kR 1 [] (la:=lk [(2,⟨[.nat],(kp [0,1,2,11,12] [(13, .AD 0 200)]),[],0⟩)]),sP [C1 g22] fu Tryz.func329 lN kQ 1 [],sP (C1 g9::C1 g23::bs [B190,B193] fu) fu Tryz.func322 lM kP 1 [],sQ [C1 g24] fu Tryz.func267 [Bz,Bz] [Ak])) n
abbrev tj(fu:Nat)(x:AH×AH):Option (Int×AH×AH):=(D7 fu).1.1 x
abbrev ti(fu:Nat)(x:AH×AH):Option (Int×AH×AH):=(D7 fu).2.1.1 x
abbrev tg(fu:Nat)(x:AH×AH):Option (Int×AH×AH):=(D7 fu).2.2.1.1 x
abbrev Yk(fu:Nat)(x:AH×AH):Option Int:=(D7 fu).2.2.2.1.1 x
abbrev tf(fu:Nat)(x:(List AH)×(List AH)):Option Int:=(D7 fu).2.2.2.2.1.1 x
abbrev td(fu:Nat)(x:BO×BO):Option (Int×BO×BO):=(D7 fu).2.2.2.2.2.1.1 x
abbrev tc(fu:Nat)(x:BO×BO):Option (Int×BO×BO):=(D7 fu).2.2.2.2.2.2.1.1 x
abbrev ta(fu:Nat)(x:BO×BO):Option Int:=(D7 fu).2.2.2.2.2.2.2.1.1 x
abbrev s_(fu:Nat)(x:(List BO)×(List BO)):Option Int:=(D7 fu).2.2.2.2.2.2.2.2.1.1 x
abbrev s9(fu:Nat)(x:(Vl)×(Vl)):Option (Int×AH):=(D7 fu).2.2.2.2.2.2.2.2.2.1.1 x
abbrev s7(fu:Nat)(x:(Aq×Int×AH)×(Aq×Int×AH)):Option (Int×(Aq×Int×AH)×Aq×Int×AH):=(D7 fu).2.2.2.2.2.2.2.2.2.2.1.1 x
abbrev s6(fu:Nat)(x:(Aq×Int×AH)×(Aq×Int×AH)):Option (Int×(Aq×Int×AH)×Aq×Int×AH):=(D7 fu).2.2.2.2.2.2.2.2.2.2.2.1.1 x
abbrev s5(fu:Nat)(x:(Aq×Int×AH)×(Aq×Int×AH)):Option Int:=(D7 fu).2.2.2.2.2.2.2.2.2.2.2.2.1.1 x
abbrev s4(fu:Nat)(x:(List (Aq×Int×AH))×(List (Aq×Int×AH))):Option Int:=(D7 fu).2.2.2.2.2.2.2.2.2.2.2.2.2.1.1 x
abbrev sZ(fu:Nat)(x:BC×BC):Option (Int×BC×BC):=(D7 fu).2.2.2.2.2.2.2.2.2.2.2.2.2.2.1.1 x
abbrev sY(fu:Nat)(x:(A5×AH)×(A5×AH)):Option (Int×(A5×AH)×A5×AH):=(D7 fu).2.2.2.2.2.2.2.2.2.2.2.2.2.2.2.1.1 x
abbrev sX(fu:Nat)(x:(A5×AH)×(A5×AH)):Option (Int×(A5×AH)×A5×AH):=(D7 fu).2.2.2.2.2.2.2.2.2.2.2.2.2.2.2.2.1.1 x
abbrev sW(fu:Nat)(x:(A5×AH)×(A5×AH)):Option Int:=(D7 fu).2.2.2.2.2.2.2.2.2.2.2.2.2.2.2.2.2.1.1 x
abbrev sV(fu:Nat)(x:(List (A5×AH))×(List (A5×AH))):Option Int:=(D7 fu).2.2.2.2.2.2.2.2.2.2.2.2.2.2.2.2.2.2.1.1 x
abbrev sU(fu:Nat)(x:BC×BC):Option (Int×BC×BC):=(D7 fu).2.2.2.2.2.2.2.2.2.2.2.2.2.2.2.2.2.2.2.1.1 x
abbrev sT(fu:Nat)(x:BC×BC):Option (Int×BC×BC):=(D7 fu).2.2.2.2.2.2.2.2.2.2.2.2.2.2.2.2.2.2.2.2.1.1 x
abbrev sS(fu:Nat)(x:BC×BC):Option Int:=(D7 fu).2.2.2.2.2.2.2.2.2.2.2.2.2.2.2.2.2.2.2.2.2.1.1 x
abbrev sR(fu:Nat)(x:(List BC)×(List BC)):Option Int:=(D7 fu).2.2.2.2.2.2.2.2.2.2.2.2.2.2.2.2.2.2.2.2.2.2.1.1 x
abbrev sO(fu:Nat)(x:(Vl)×(Vl)):Option (Int×AH):=(D7 fu).2.2.2.2.2.2.2.2.2.2.2.2.2.2.2.2.2.2.2.2.2.2.2.1.1 x
abbrev sN(fu:Nat)(x:(Vl)×(Vl)):Option (Int×AH):=(D7 fu).2.2.2.2.2.2.2.2.2.2.2.2.2.2.2.2.2.2.2.2.2.2.2.2.1.1 x
def B224(fu:Nat):=Dc (D7 fu).2.2.2.2.2.2.2.2.2.2.2.2.2.2.2.2.2.2.2.2.2.2.2.2.2
abbrev dW(fu:Nat)(x:(Vl)×(Vl)):Option Int:=(D7 fu).2.2.2.2.2.2.2.2.2.2.2.2.2.2.2.2.2.2.2.2.2.2.2.2.2.1 x
def D202(c:Nat)(a:AH)(b:AH):Option (Int×AH×AH):=Ab (dW c (a.1,b.1)) λd=>Ac (d,a,b)
theorem d202(fu x0 x1):tj (fu+1) (x0,x1)=D202 fu x0 x1:=by kernel_rfl
def D203(c:Nat)(a:AH)(b:AH):Option (Int×AH×AH):=Ab (dW c (a.2,b.2)) λd=>Ac (d,a,b)
theorem d203(fu x0 x1):ti (fu+1) (x0,x1)=D203 fu x0 x1:=by kernel_rfl
def D204(c:Nat)(d:AH)(e:AH):Option (Int×AH×AH):=iF ((0:Int)< ↑2) (Af ((0:Int)<=0/\(0:Int)< ↑2)<|Ab (tj c (d,e)) λa=>iF (a.1≠0) (Ac ((a.1,a.2.1,a.2.2)))<|Aa .i64 ((0:Int)+1)<|iF ((0:Int)+1< ↑2) (Af ((0:Int)<=0+1/\(0:Int)+1< ↑2)<|Ab (ti c (a.2.1,a.2.2)) λb=>iF (b.1≠0) (Ac ((b.1,b.2.1,b.2.2)))<|Aa .i64 ((0:Int)+1+1)<|iF ((0:Int)+1+1< ↑2) (Af ((0:Int)<=0+1+1/\(0:Int)+1+1< ↑2)<|none)<|some ((0,b.2.1,b.2.2)))<|some ((0,a.2.1,a.2.2)))<|some (0,d,e)
theorem d204(fu x0 x1):tg (fu+1) (x0,x1)=D204 fu x0 x1:=by kernel_rfl
def D205(a:Nat)(b:AH)(c:AH):Option Int:=Ab (tg a (b,c)) λd=>Ac d.1
theorem d205(fu x0 x1):Yk (fu+1) (x0,x1)=D205 fu x0 x1:=by kernel_rfl
def D206(d:Nat)(b:List AH)(c:List AH):Option Int:=Ad d (λ(a:Nat) f=>iF ((a:Int)<b.length) (Ab (idx b a) λg=>iF ((c.length:Int)<=a) (Ac 1)<|Ab (idx c a) λh=>Ab (Yk d (g,h)) λe=>iF (e≠0) (Ac e)<|f (a+1))<|iF ((b.length:Int)<c.length) (Ac ((-1:Int)))<|some 0) (0)
theorem d206(fu x0 x1):tf (fu+1) (x0,x1)=D206 fu x0 x1:=by kernel_rfl
def D207(a:Nat)(b:BO)(c:BO):Option (Int×BO×BO):=Ab (eH a b) λd=>Ab (eH a c) λe=>Ab (tf a (d,e)) λf=>Ac (f,b,c)
theorem d207(fu x0 x1):td (fu+1) (x0,x1)=D207 fu x0 x1:=by kernel_rfl
def D208(d:Nat)(e:BO)(f:BO):Option (Int×BO×BO):=iF ((0:Int)< ↑3) (Af ((0:Int)<=0/\(0:Int)< ↑3)<|Ab (tt d (e,f)) λa=>iF (a.1≠0) (Ac ((a.1,a.2.1,a.2.2)))<|Aa .i64 ((0:Int)+1)<|iF ((0:Int)+1< ↑3) (Af ((0:Int)<=0+1/\(0:Int)+1< ↑3)<|Ab (tq d (a.2.1,a.2.2)) λb=>iF (b.1≠0) (Ac ((b.1,b.2.1,b.2.2)))<|Aa .i64 ((0:Int)+1+1)<|iF ((0:Int)+1+1< ↑3) (Af ((0:Int)<=0+1+1/\(0:Int)+1+1< ↑3)<|Ab (td d (b.2.1,b.2.2)) λc=>iF (c.1≠0) (Ac ((c.1,c.2.1,c.2.2)))<|Aa .i64 ((0:Int)+1+1+1)<|iF ((0:Int)+1+1+1< ↑3) (Af ((0:Int)<=0+1+1+1/\(0:Int)+1+1+1< ↑3)<|none)<|some ((0,c.2.1,c.2.2)))<|some ((0,b.2.1,b.2.2)))<|some ((0,a.2.1,a.2.2)))<|some (0,e,f)
theorem d208(fu x0 x1):tc (fu+1) (x0,x1)=D208 fu x0 x1:=by kernel_rfl
def D209(a:Nat)(b:BO)(c:BO):Option Int:=Ab (tc a (b,c)) λd=>Ac d.1
theorem d209(fu x0 x1):ta (fu+1) (x0,x1)=D209 fu x0 x1:=by kernel_rfl
def D210(d:Nat)(b:List BO)(c:List BO):Option Int:=Ad d (λ(a:Nat) f=>iF ((a:Int)<b.length) (Ab (idx b a) λg=>iF ((c.length:Int)<=a) (Ac 1)<|Ab (idx c a) λh=>Ab (ta d (g,h)) λe=>iF (e≠0) (Ac e)<|f (a+1))<|iF ((b.length:Int)<c.length) (Ac ((-1:Int)))<|some 0) (0)
theorem d210(fu x0 x1):s_ (fu+1) (x0,x1)=D210 fu x0 x1:=by kernel_rfl
def D211(c:Nat)(a:Vl)(b:Vl):Option (Int×AH):=Ab (s_ c (Vl.lists a,Vl.lists b)) λd=>Ac (d,a,b)
theorem d211(fu x0 x1):s9 (fu+1) (x0,x1)=D211 fu x0 x1:=by kernel_rfl
def yk(c:Nat)(a:Aq×Int×AH)(b:Aq×Int×AH):Option (Int×(Aq×Int×AH)×Aq×Int×AH):=Ab (Yk c (a.2.2,b.2.2)) λd=>Ac (d,a,b)
theorem d212(fu x0 x1):s7 (fu+1) (x0,x1)=yk fu x0 x1:=by kernel_rfl
def yj(d:Nat)(e:Aq×Int×AH)(f:Aq×Int×AH):Option (Int×(Aq×Int×AH)×Aq×Int×AH):=iF ((0:Int)< ↑3) (Af ((0:Int)<=0/\(0:Int)< ↑3)<|Ab (jX d (e,f)) λa=>iF (a.1≠0) (Ac ((a.1,a.2.1,a.2.2)))<|Aa .i64 ((0:Int)+1)<|iF ((0:Int)+1< ↑3) (Af ((0:Int)<=0+1/\(0:Int)+1< ↑3)<|Ab (jW d (a.2.1,a.2.2)) λb=>iF (b.1≠0) (Ac ((b.1,b.2.1,b.2.2)))<|Aa .i64 ((0:Int)+1+1)<|iF ((0:Int)+1+1< ↑3) (Af ((0:Int)<=0+1+1/\(0:Int)+1+1< ↑3)<|Ab (s7 d (b.2.1,b.2.2)) λc=>iF (c.1≠0) (Ac ((c.1,c.2.1,c.2.2)))<|Aa .i64 ((0:Int)+1+1+1)<|iF ((0:Int)+1+1+1< ↑3) (Af ((0:Int)<=0+1+1+1/\(0:Int)+1+1+1< ↑3)<|none)<|some ((0,c.2.1,c.2.2)))<|some ((0,b.2.1,b.2.2)))<|some ((0,a.2.1,a.2.2)))<|some (0,e,f)
theorem d213(fu x0 x1):s6 (fu+1) (x0,x1)=yj fu x0 x1:=by kernel_rfl
def D214(a:Nat)(b:Aq×Int×AH)(c:Aq×Int×AH):Option Int:=Ab (s6 a (b,c)) λd=>Ac d.1
theorem d214(fu x0 x1):s5 (fu+1) (x0,x1)=D214 fu x0 x1:=by kernel_rfl
def yh(d:Nat)(b:List (Aq×Int×AH))(c:List (Aq×Int×AH)):Option Int:=Ad d (λ(a:Nat) f=>iF ((a:Int)<b.length) (Ab (idx b a) λg=>iF ((c.length:Int)<=a) (Ac 1)<|Ab (idx c a) λh=>Ab (s5 d (g,h)) λe=>iF (e≠0) (Ac e)<|f (a+1))<|iF ((b.length:Int)<c.length) (Ac ((-1:Int)))<|some 0) (0)
theorem d215(fu x0 x1):s4 (fu+1) (x0,x1)=yh fu x0 x1:=by kernel_rfl
def yg(c:Nat)(a:BC)(b:BC):Option (Int×BC×BC):=Ab (s4 c (a.1,b.1)) λd=>Ac (d,a,b)
theorem d216(fu x0 x1):sZ (fu+1) (x0,x1)=yg fu x0 x1:=by kernel_rfl
def yf(c:Nat)(a:A5×AH)(b:A5×AH):Option (Int×(A5×AH)×A5×AH):=Ab (Yk c (a.2,b.2)) λd=>Ac (d,a,b)
theorem d217(fu x0 x1):sY (fu+1) (x0,x1)=yf fu x0 x1:=by kernel_rfl
def ye(c:Nat)(d:A5×AH)(e:A5×AH):Option (Int×(A5×AH)×A5×AH):=iF ((0:Int)< ↑2) (Af ((0:Int)<=0/\(0:Int)< ↑2)<|Ab (jV c (d,e)) λa=>iF (a.1≠0) (Ac ((a.1,a.2.1,a.2.2)))<|Aa .i64 ((0:Int)+1)<|iF ((0:Int)+1< ↑2) (Af ((0:Int)<=0+1/\(0:Int)+1< ↑2)<|Ab (sY c (a.2.1,a.2.2)) λb=>iF (b.1≠0) (Ac ((b.1,b.2.1,b.2.2)))<|Aa .i64 ((0:Int)+1+1)<|iF ((0:Int)+1+1< ↑2) (Af ((0:Int)<=0+1+1/\(0:Int)+1+1< ↑2)<|none)<|some ((0,b.2.1,b.2.2)))<|some ((0,a.2.1,a.2.2)))<|some (0,d,e)
theorem d218(fu x0 x1):sX (fu+1) (x0,x1)=ye fu x0 x1:=by kernel_rfl
def D219(a:Nat)(b:A5×AH)(c:A5×AH):Option Int:=Ab (sX a (b,c)) λd=>Ac d.1
theorem d219(fu x0 x1):sW (fu+1) (x0,x1)=D219 fu x0 x1:=by kernel_rfl
def yd(d:Nat)(b:List (A5×AH))(c:List (A5×AH)):Option Int:=Ad d (λ(a:Nat) f=>iF ((a:Int)<b.length) (Ab (idx b a) λg=>iF ((c.length:Int)<=a) (Ac 1)<|Ab (idx c a) λh=>Ab (sW d (g,h)) λe=>iF (e≠0) (Ac e)<|f (a+1))<|iF ((b.length:Int)<c.length) (Ac ((-1:Int)))<|some 0) (0)
theorem d220(fu x0 x1):sV (fu+1) (x0,x1)=yd fu x0 x1:=by kernel_rfl
def yc(c:Nat)(a:BC)(b:BC):Option (Int×BC×BC):=Ab (sV c (a.2,b.2)) λd=>Ac (d,a,b)
theorem d221(fu x0 x1):sU (fu+1) (x0,x1)=yc fu x0 x1:=by kernel_rfl
def yb(c:Nat)(d:BC)(e:BC):Option (Int×BC×BC):=iF ((0:Int)< ↑2) (Af ((0:Int)<=0/\(0:Int)< ↑2)<|Ab (sZ c (d,e)) λa=>iF (a.1≠0) (Ac ((a.1,a.2.1,a.2.2)))<|Aa .i64 ((0:Int)+1)<|iF ((0:Int)+1< ↑2) (Af ((0:Int)<=0+1/\(0:Int)+1< ↑2)<|Ab (sU c (a.2.1,a.2.2)) λb=>iF (b.1≠0) (Ac ((b.1,b.2.1,b.2.2)))<|Aa .i64 ((0:Int)+1+1)<|iF ((0:Int)+1+1< ↑2) (Af ((0:Int)<=0+1+1/\(0:Int)+1+1< ↑2)<|none)<|some ((0,b.2.1,b.2.2)))<|some ((0,a.2.1,a.2.2)))<|some (0,d,e)
theorem d222(fu x0 x1):sT (fu+1) (x0,x1)=yb fu x0 x1:=by kernel_rfl
def D223(a:Nat)(b:BC)(c:BC):Option Int:=Ab (sT a (b,c)) λd=>Ac d.1
theorem d223(fu x0 x1):sS (fu+1) (x0,x1)=D223 fu x0 x1:=by kernel_rfl
def ya(d:Nat)(b:List BC)(c:List BC):Option Int:=Ad d (λ(a:Nat) f=>iF ((a:Int)<b.length) (Ab (idx b a) λg=>iF ((c.length:Int)<=a) (Ac 1)<|Ab (idx c a) λh=>Ab (sS d (g,h)) λe=>iF (e≠0) (Ac e)<|f (a+1))<|iF ((b.length:Int)<c.length) (Ac ((-1:Int)))<|some 0) (0)
theorem d224(fu x0 x1):sR (fu+1) (x0,x1)=ya fu x0 x1:=by kernel_rfl
def x_(c:Nat)(a:Vl)(b:Vl):Option (Int×AH):=Ab (sR c (Vl.structs a,Vl.structs b)) λd=>Ac (d,a,b)
theorem d225(fu x0 x1):sO (fu+1) (x0,x1)=x_ fu x0 x1:=by kernel_rfl
def D226(e:Nat)(f:Vl)(g:Vl):Option (Int×AH):=iF ((0:Int)< ↑4) (Af ((0:Int)<=0/\(0:Int)< ↑4)<|Ab (tv e (f,g)) λa=>iF (a.1≠0) (Ac ((a.1,a.2.1,a.2.2)))<|Aa .i64 ((0:Int)+1)<|iF ((0:Int)+1< ↑4) (Af ((0:Int)<=0+1/\(0:Int)+1< ↑4)<|Ab (tu e (a.2.1,a.2.2)) λb=>iF (b.1≠0) (Ac ((b.1,b.2.1,b.2.2)))<|Aa .i64 ((0:Int)+1+1)<|iF ((0:Int)+1+1< ↑4) (Af ((0:Int)<=0+1+1/\(0:Int)+1+1< ↑4)<|Ab (s9 e (b.2.1,b.2.2)) λc=>iF (c.1≠0) (Ac ((c.1,c.2.1,c.2.2)))<|Aa .i64 ((0:Int)+1+1+1)<|iF ((0:Int)+1+1+1< ↑4) (Af ((0:Int)<=0+1+1+1/\(0:Int)+1+1+1< ↑4)<|Ab (sO e (c.2.1,c.2.2)) λd=>iF (d.1≠0) (Ac ((d.1,d.2.1,d.2.2)))<|Aa .i64 ((0:Int)+1+1+1+1)<|iF ((0:Int)+1+1+1+1< ↑4) (Af ((0:Int)<=0+1+1+1+1/\(0:Int)+1+1+1+1< ↑4)<|none)<|some ((0,d.2.1,d.2.2)))<|some ((0,c.2.1,c.2.2)))<|some ((0,b.2.1,b.2.2)))<|some ((0,a.2.1,a.2.2)))<|some (0,f,g)
theorem d226(fu x0 x1):sN (fu+1) (x0,x1)=D226 fu x0 x1:=by kernel_rfl
def D227(a:Nat)(b:Vl)(c:Vl):Option Int:=Ab (sN a (b,c)) λd=>Ac d.1
theorem d227(fu x0 x1):dW (fu+1) (x0,x1)=D227 fu x0 x1:=by kernel_rfl
def jU(a:Nat):Vl×Vl->Option Int|(b,c)=>Ab (rX a b) λd=>iB (!d) (Ac 0)<|Ab (rX a c) λe=>iB (!e) (Ac 0)<|Ab (dW a (b,c)) Ac
def yQ:=bQ [B88,B224] Tryz.func212 [Bz,Bz] [Ak] jU
def dV(a:Nat):BO×BO->Option Int|(b,c)=>Ab (tx a b) λd=>Ab (tx a c) λe=>Ab (jU a (d,e)) Ac
def B226:=bP [B188,yQ] Tryz.func211 ⟨[.Ae B_, .Ae B_],[(0, .v 0 B_),(1, .v 1 B_),(2, .loc 0 0)],[(0, .Ai 128 [(1, .AK 152 [] [])])],1⟩ ⟨[.Ae Ak],[(0, .v 0 Ak)],[(0, .Ai 128 [(1, .AK 152 [] [])])],1⟩ 1 [] dV
def D230(fu:Nat)(x0 x1:Int)(x2:List BO):=R2 (λx y=>dV fu (x,y)) fu x0 x1 x2
abbrev xB fu:=u3 (D230 fu)
def B227:=bP [B226] Tryz.func314 ⟨[.Ae Ak, .Ae Ak, .Ae Ef],[(0, .AG 0),(1, .v 0 Ak),(2, .v 1 Ak),(3, .AK 211 [] [1])],[(0, .row 77 2),(1, .Ai 128 [(1, .AK 152 [] [])])],2⟩ ⟨[.Ae Ef],[],[(0, .row 77 0),(1, .Ai 128 [(1, .AK 152 [] [])])],2⟩ 0 [] xB (la:=lk [(1,⟨[.Ae Ef, .Ae Ak],(kp [0,1,2,3] [(8, .v 1 Ak)]),[(1, .Ai 128 [(1, .AK 152 [] [])]),(0, .row 77 0)],2⟩),(4,⟨[.Ae Ef, .Ae Ak],(kp [0,1,2,3,8] [(9, .v 1 Ak)]),[(1, .Ai 128 [(1, .AK 152 [] [])]),(0, .row 77 0)],2⟩)])
def sM(c:Nat):Int×Int×Int×List BO->Option (List BO)|(a,b,d,e)=>Ad c (λ(g:PUnit) h=>Aa .i64 (b-a)<|iF (b-a<=12) (Ab (xB c (a,b,e)) Ac)<|iF (d=0) C5<|none) (())
def B228:=bP [B227] Tryz.func266 ⟨[.Ae Ak, .Ae Ak, .Ae Ak, .Ae Ef],[(0, .AG 0),(1, .v 0 Ak),(2, .v 1 Ak),(3, .v 2 Ak),(4, .AK 211 [] [1])],[(0, .row 77 3),(1, .Ai 128 [(1, .AK 152 [] [])])],2⟩ ⟨[.Ae Ef],[],[(0, .row 77 0),(1, .Ai 128 [(1, .AK 152 [] [])])],2⟩ 0 [] sM (la:=lk [(2,⟨[],(kp [0,1,2,3,4,10,11] []),[(1, .c 0),(0, .c 0)],2⟩)])
def dU(b:Nat)(a:List BO):Option (List BO):=Ab (r_ b (Int.ofNat (Fw a %wk (18446744073709551616:Int)))) λc=>Ab (sM b (0,(a.length:Int),c,a)) Ac
def B229:=bP [B62,B228] Tryz.func210 ⟨[.Ae Ef],[(0, .AG 0),(1, .AK 211 [] [1])],[(0, .row 77 0),(1, .Ai 128 [(1, .AK 152 [] [])])],2⟩ ⟨[.Ae Ef],[],[(0, .row 77 0),(1, .Ai 128 [(1, .AK 152 [] [])])],2⟩ 0 [] dU
def sL(c:Nat)(d:List BO):Option (List BO):=Ad c (λ(a:List BO×Nat) e=>iF ((a.2:Int)<d.length) (Ab (idx d a.2) λf=>Ad c (λ(b:Nat) g=>iF ((b:Int)<d.length) (Ab (idx d b) λh=>iF ((a.2:Int)≠b) (Ab (US c (f,h)) λi=>iB i (iF ((b:Int)<a.2) (e (a.1,a.2+1))<|Ab (US c (h,f)) λj=>iB (!j) (e (a.1,a.2+1))<|g (b+1))<|g (b+1))<|g (b+1))<|Af (Fw a.1+1<=Ah)<|e (((a.1++[f]),a.2+1))) (0))<|Ab (dU c a.1) Ac) (([],0))
def B230:=bP [B187,B229] Tryz.func150 ⟨[.Ae Ef],[(0, .v 0 Ef),(1, .AK 151 [] []),(2, .AK 152 [] [])],[],0⟩ ⟨[.Ae Ef],[(0, .v 0 Ef)],[],0⟩ 1 [] sL (la:=lk [(3,⟨[.Ae Ef, .nat],(kp [0,1,5] [(7, .AG 1),(12, .Am),(13, .Am),(14, .AD 1 301)]),[(0, .c 0),(1, .row 77 0)],2⟩),(6,⟨[.nat],(kp [0,1,5,7,8,9,12,13,14,19,20] [(21, .AD 0 600)]),[(2, .c 0),(1, .c 0),(0, .c 0)],3⟩)]) (pt:=lg [(2,[.own 7 77 B_]),(13,[.fz 6])])
def sK(b:Nat)(a:BC):Option Vl:=Ac (Vl.mk Aj (Aj,Aj,Aj,([],[]),[]) [] [a])
def B231:=bQ [] Tryz.func155 [BR] [Bz] sK (pt:=lg [(1,[.MQ 2 8])])
def dT(a:Nat):BC×BC->Option Int|(b,c)=>Ab (sK a b) λd=>Ab (sK a c) λe=>Ab (jU a (d,e)) Ac
def B232:=bP [B231,yQ] Tryz.func216 ⟨[.Ae BR, .Ae BR],[(0, .v 0 BR),(1, .v 1 BR),(2, .loc 0 0)],[(0, .Ai 131 [(1, .AK 155 [] [])])],1⟩ ⟨[.Ae Ak],[(0, .v 0 Ak)],[(0, .Ai 131 [(1, .AK 155 [] [])])],1⟩ 1 [] dT
def D236(fu:Nat)(x0 x1:Int)(x2:List BC):=R2 (λx y=>dT fu (x,y)) fu x0 x1 x2
abbrev xA fu:=u3 (D236 fu)
def B233:=bP [B232] Tryz.func332 ⟨[.Ae Ak, .Ae Ak, .Ae Ee],[(0, .AG 0),(1, .v 0 Ak),(2, .v 1 Ak),(3, .AK 216 [] [1])],[(0, .row 65 2),(1, .Ai 131 [(1, .AK 155 [] [])])],2⟩ ⟨[.Ae Ee],[],[(0, .row 65 0),(1, .Ai 131 [(1, .AK 155 [] [])])],2⟩ 0 [] xA (la:=lk [(1,⟨[.Ae Ee, .Ae Ak],(kp [0,1,2,3] [(8, .v 1 Ak)]),[(1, .Ai 131 [(1, .AK 155 [] [])]),(0, .row 65 0)],2⟩),(4,⟨[.Ae Ee, .Ae Ak],(kp [0,1,2,3,8] [(9, .v 1 Ak)]),[(1, .Ai 131 [(1, .AK 155 [] [])]),(0, .row 65 0)],2⟩)])
def sH(c:Nat):Int×Int×Int×List BC->Option (List BC)|(a,b,d,e)=>Ad c (λ(g:PUnit) h=>Aa .i64 (b-a)<|iF (b-a<=12) (Ab (xA c (a,b,e)) Ac)<|iF (d=0) C5<|none) (())
def B234:=bP [B233] Tryz.func268 ⟨[.Ae Ak, .Ae Ak, .Ae Ak, .Ae Ee],[(0, .AG 0),(1, .v 0 Ak),(2, .v 1 Ak),(3, .v 2 Ak),(4, .AK 216 [] [1])],[(0, .row 65 3),(1, .Ai 131 [(1, .AK 155 [] [])])],2⟩ ⟨[.Ae Ee],[],[(0, .row 65 0),(1, .Ai 131 [(1, .AK 155 [] [])])],2⟩ 0 [] sH (la:=lk [(2,⟨[],(kp [0,1,2,3,4,10,11] []),[(1, .c 0),(0, .c 0)],2⟩)])
def dS(b:Nat)(a:List BC):Option (List BC):=Ab (r_ b (Int.ofNat (Fw a %wk (18446744073709551616:Int)))) λc=>Ab (sH b (0,(a.length:Int),c,a)) Ac
def B235:=bP [B62,B234] Tryz.func215 ⟨[.Ae Ee],[(0, .AG 0),(1, .AK 216 [] [1])],[(0, .row 65 0),(1, .Ai 131 [(1, .AK 155 [] [])])],2⟩ ⟨[.Ae Ee],[],[(0, .row 65 0),(1, .Ai 131 [(1, .AK 155 [] [])])],2⟩ 0 [] dS
def sG(c:Nat)(d:List BC):Option (List BC):=Ad c (λ(a:List BC×Nat) e=>iF ((a.2:Int)<d.length) (Ab (idx d a.2) λf=>Ad c (λ(b:Nat) g=>iF ((b:Int)<d.length) (Ab (idx d b) λh=>iF ((a.2:Int)≠b) (Ab (UT c (f,h)) λi=>iB i (iF ((b:Int)<a.2) (e (a.1,a.2+1))<|Ab (UT c (h,f)) λj=>iB (!j) (e (a.1,a.2+1))<|g (b+1))<|g (b+1))<|g (b+1))<|Af (Fw a.1+1<=Ah)<|e (((a.1++[f]),a.2+1))) (0))<|Ab (dS c a.1) Ac) (([],0))
def B236:=bP [B180,B235] Tryz.func153 ⟨[.Ae Ee],[(0, .v 0 Ee),(1, .AK 154 [] []),(2, .AK 155 [] [])],[],0⟩ ⟨[.Ae Ee],[(0, .v 0 Ee)],[],0⟩ 1 [] sG (la:=lk [(3,⟨[.Ae Ee, .nat],(kp [0,1,5] [(7, .AG 1),(12, .Am),(13, .Am),(14, .AD 1 301)]),[(0, .c 0),(1, .row 65 0)],2⟩),(6,⟨[.nat],(kp [0,1,5,7,8,9,12,13,14,19,20] [(21, .AD 0 600)]),[(2, .c 0),(1, .c 0),(0, .c 0)],3⟩)]) (pt:=lg [(2,[.own 7 65 BR]),(13,[.fz 6])])
def xz(a:Nat)(_:Unit):Option A5:=Ac ([(Bp,[(0,255,0)])])
def B237:=bQ [] Tryz.func272 [] [y3] xz (pt:=lg [(1,[.MQ 0 0])])
def jT(a:Nat)(_:Unit):Option Fq:=Ab (UU a ()) λb=>Ab (xz a ()) λc=>Ac (Bp,Bp,Bp,b,c)
def B238:=bQ [yU,B237] Tryz.func219 [] [y8] jT
def dR(b:Nat)(a:AH):Option Bool:=iB (Vl.any a.1) (Ac (Vl.any a.2))<|some Aj
def yP:=bQ [] Tryz.func273 [BJ] [.bool] dR
def sF(b:Nat)(a:BO):Option Bool:=iF ((a.1.length:Int)=0) (iF ((a.2.length:Int)=1) (Ab (idx a.2 0) λc=>Ab (dR b c) Ac)<|some Aj)<|some Aj
def B240:=bQ [yP] Tryz.func220 [B_] [.bool] sF
def sE(b:Nat)(a:BC):Option Bool:=iF ((a.1.length:Int)=0) (iF ((a.2.length:Int)=1) (Ab (idx a.2 0) λc=>Ab (dR b c.2) Ac)<|some Aj)<|some Aj
def B241:=bQ [yP] Tryz.func221 [BR] [.bool] sE
def jS(b:Nat)(a:Vl):Option Bool:=iF (((Vl.lists a).length:Int)=1) (iF (((Vl.structs a).length:Int)=1) (Ab (jT b ()) λc=>Ab (Tn b (Vl.sc a,c)) λd=>iF (d=0) (Ab (idx (Vl.lists a) (0:Int)) λe=>Ab (sF b e) λf=>iB f (Ab (idx (Vl.structs a) (0:Int)) λg=>Ab (sE b g) Ac)<|some Aj)<|some Aj)<|some Aj)<|some Aj
def B242:=bQ [yR,B238,B240,B241] Tryz.func156 [Bz] [.bool] jS
abbrev nz:Type:=Gg 148 [B_] [B_, .bool, .bool]×Gg 149 [BR] [BR, .bool, .bool]×Gg 109 [Bz] [Bz, .bool]×Gg 77 [BJ] [BJ, .bool]
def dh(n:Nat):nz:=Nat.rec (motive:=λ_=>nz) (tQ Tryz.func148,tQ Tryz.func149,tQ Tryz.func109,tQ Tryz.func77) (λfu ⟨g0,g1,g2,g3⟩=>(sQ (Dc g3::bs [kD] fu) fu Tryz.func148 [B_] [B_, .bool, .bool] (la:=lk [(4,⟨[.Ae Dk, .Ae .bool, .nat],(kp [1,2,5] [(6, .v 1 .bool),(16, .Am),(17, .Am),(18, .AD 2 402)]),[(2, .Ai 77 [(1, .AG 3),(1, .Am)]),(1, .c 0),(0, .c 0),(3, .row 35 0)],4⟩),(13,⟨[.Ae Dk, .nat],(kp [2,5,6,45,46] [(47, .AD 1 1301)]),[(2, .Ai 77 [(1, .Am),(1, .AG 4)]),(3, .c 0),(1, .c 0),(4, .row 35 0)],5⟩)]) (pt:=lg [(3,[.Et 5 0 35 BJ]),(12,[.Et 5 1 35 BJ]),(21,[.MQ 2 0, .MQ 2 1])]),sQ (Dc g3::bs [kD,B136,za,B149] fu) fu Tryz.func149 [BR] [BR, .bool, .bool] (la:=lk [(4,⟨[.Ae LZ, .Ae .bool, .nat],(kp [1,2,5] [(6, .v 1 .bool),(17, .Am),(18, .Am),(19, .AD 2 402)]),[(2, .Ai 65 [(1, .AG 3),(1, .Am)]),(1, .c 0),(0, .c 0),(3, .row 69 0)],4⟩),(14,⟨[.Ae Gk, .nat],(kp [2,5,6,49,50] [(51, .AD 1 1401)]),[(2, .Ai 65 [(1, .Am),(1, .AG 4)]),(3, .c 0),(1, .c 0),(4, .row 92 0)],5⟩)]) (pt:=lg [(3,[.Et 5 0 69 EM]),(13,[.Et 5 1 92 FK]),(25,[.MQ 2 0, .MQ 2 1])]),sQ (Dc g0::Dc g1::bs [B108,B230,B236,B242] fu) fu Tryz.func109 [Bz] [Bz, .bool] (la:=lk [(6,⟨[.Ae Ef, .nat],(kp [1,2,4] [(5, .AG 3),(25, .Am),(26, .Am),(27, .AD 1 601)]),[(2, .c 0),(1, .c 0),(0, .c 0),(3, .row 77 0)],4⟩),(16,⟨[.Ae Ee, .nat],(kp [2,4,5] [(11, .AG 4),(47, .Am),(48, .Am),(49, .AD 1 1601)]),[(3, .c 0),(2, .c 0),(1, .c 0),(4, .row 65 0)],5⟩)]) (pr:=lg [(24,[.fz 5, .fz 11])]) (pt:=lg [(5,[.own 5 77 B_]),(15,[.own 11 65 BR])]),sQ (Dc g2::bs [B185] fu) fu Tryz.func77 [BJ] [BJ, .bool])) n
abbrev jR(fu:Nat)(x:BO):Option (BO×Bool×Bool):=(dh fu).1.1 x
abbrev jQ(fu:Nat)(x:BC):Option (BC×Bool×Bool):=(dh fu).2.1.1 x
abbrev Yj(fu:Nat)(x:(Vl)):Option (Vl×Bool):=(dh fu).2.2.1.1 x
def B246(fu:Nat):=Dc (dh fu).2.2.2
abbrev Lo(fu:Nat)(x:AH):Option (AH×Bool):=(dh fu).2.2.2.1 x
def D246(c:Nat)(d:BO):Option (BO×Bool×Bool):=Ad c (λ(a:List AH×Bool×Nat) g=>iF ((a.2.2:Int)<d.1.length) (Ab (idx d.1 a.2.2) λi=>Ab (Lo c i) λe=>iB (!e.2) (Ac ((([],[]),Aj,Aj)))<|iB a.2.1 (Ab (UX c e.1.1) λj=>Af (Fw a.1+1<=4294967296)<|g ((a.1++[e.1]),(!j),a.2.2+1))<|Af (Fw a.1+1<=4294967296)<|g ((a.1++[e.1]),Aj,a.2.2+1))<|Ad c (λ(b:List AH×Nat) h=>iF ((b.2:Int)<d.2.length) (Ab (idx d.2 b.2) λk=>Ab (Lo c k) λf=>iB (!f.2) (Ac ((([],[]),Aj,Aj)))<|Ab (UX c f.1.1) λl=>iB (!l) (Af (Fw b.1+1<=4294967296)<|h ((b.1++[f.1]),b.2+1))<|h (b.1,b.2+1))<|some (((a.1,b.1),a.2.1,Bp))) (([],0))) (([],Bp,0))
theorem d246(fu x0):jR (fu+1) x0=D246 fu x0:=by kernel_rfl
def D247(c:Nat)(f:BC):Option (BC×Bool×Bool):=Ad c (λ(a:List (Aq×Int×AH)×Bool×Nat) i=>iF ((a.2.2:Int)<f.1.length) (Ab (idx f.1 a.2.2) λe=>Ab (Lo c e.2.2) λg=>iB (!g.2) (Ac ((([],[]),Aj,Aj)))<|iB a.2.1 (Ab (UX c g.1.1) λl=>Af (Fw a.1+1<=4294967296)<|i ((a.1++[(e.1,e.2.1,g.1)]),(!l),a.2.2+1))<|Af (Fw a.1+1<=4294967296)<|i ((a.1++[(e.1,e.2.1,g.1)]),Aj,a.2.2+1))<|Ad c (λ(d:List (A5×AH)×Nat) j=>iF ((d.2:Int)<f.2.length) (Ab (idx f.2 d.2) λh=>Ab (Lo c h.2) λk=>iB (!k.2) (Ac ((([],[]),Aj,Aj)))<|Ab (tU c (d.1,k.1)) λb=>iF (b.1<0) (Ab (U1 c (h.1,[])) λm=>Af (Fw b.2.1+1<=4294967296)<|j ((b.2.1++[(m,b.2.2)]),d.2+1))<|Ab (idx b.2.1 b.1) λn=>Ab (U1 c (n.1,h.1)) λo=>Ab (idx b.2.1 b.1) λp=>j ((b.2.1.set (Int.toNat b.1) (o,p.2)),d.2+1))<|Ab (ko c d.1) λq=>Ac (((a.1,q),a.2.1,Bp))) (([],0))) (([],Bp,0))
theorem d247(fu x0):jQ (fu+1) x0=D247 fu x0:=by kernel_rfl
def D248(a:Nat)(d:Vl):Option (Vl×Bool):=iB (Vl.any d) (Ac ((d,Bp)))<|Ab (uf a (Vl.sc d)) λg=>Ad a (λ(b:List BO×Nat) h=>iF ((b.2:Int)<(Vl.lists d).length) (Ab (idx (Vl.lists d) (b.2:Int)) λl=>Ab (jR a l) λe=>iB (!e.2.2) (Ac ((Vl.mk Aj (Aj,Aj,Aj,([],[]),[]) [] [],Aj)))<|iB e.2.1 (Af (Fw b.1+1<=Ah)<|h ((b.1++[e.1]),b.2+1))<|h (b.1,b.2+1))<|Ad a (λ(c:List BC×Nat) i=>iF ((c.2:Int)<(Vl.structs d).length) (Ab (idx (Vl.structs d) (c.2:Int)) λm=>Ab (jQ a m) λf=>iB (!f.2.2) (Ac ((Vl.mk Aj (Aj,Aj,Aj,([],[]),[]) [] [],Aj)))<|iB f.2.1 (Af (Fw c.1+1<=Ah)<|i ((c.1++[f.1]),c.2+1))<|i (c.1,c.2+1))<|Ab (sL a b.1) λj=>Ab (sG a c.1) λk=>Ab (jS a (Vl.mk Aj g j k)) λn=>iB n (Ac ((Vl.mk Bp (Aj,Aj,Aj,([],[]),[]) [] [],Bp)))<|some ((Vl.mk Aj g j k,Bp))) (([],0))) (([],0))
theorem d248(fu x0):Yj (fu+1) x0=D248 fu x0:=by kernel_rfl
def D249(c:Nat)(d:AH):Option (AH×Bool):=Ab (Yj c d.1) λa=>Ab (Yj c d.2) λb=>iB a.2 (iB b.2 (Ab (To c (b.1,a.1)) λe=>Ac (((a.1,b.1),e)))<|some (((a.1,b.1),Aj)))<|some ((a.1,b.1),Aj)
theorem d249(fu x0):Lo (fu+1) x0=D249 fu x0:=by kernel_rfl
def jP(a:Nat)(b:AH):Option (AH×Int):=Ab (zQ a b) λd=>iB (!d) (Ac (((Vl.mk Aj (Aj,Aj,Aj,([],[]),[]) [] [],Vl.mk Aj (Aj,Aj,Aj,([],[]),[]) [] []),11)))<|Ab (Lo a b) λc=>iB (!c.2) (Ac (((Vl.mk Aj (Aj,Aj,Aj,([],[]),[]) [] [],Vl.mk Aj (Aj,Aj,Aj,([],[]),[]) [] []),11)))<|some (c.1,0)
def yO:=bQ [B89,B246] Tryz.func55 [BJ] [BJ,Ak] jP
def dQ(a:Nat)(b:AH):Option Bool:=Ab (jP a b) λc=>iF (c.2=0) (Ab (dZ a (c.1,b)) Ac)<|some Aj
def uu:=bQ [yO,ux] Tryz.func50 [BJ] [.bool] dQ
def xy(b:Nat)(c:AH):Option Vl:=Ab (jP b c) λa=>iF (a.2≠0) (Ac (Vl.mk Aj (Aj,Aj,Aj,([],[]),[]) [] []))<|Ab (dQ b c) λd=>iB (!d) (Ac (Vl.mk Aj (Aj,Aj,Aj,([],[]),[]) [] []))<|Ab (UX b a.1.2) λe=>iB e (Ac a.1.1)<|some a.1.2
def B249:=bQ [kD,uu,yO] Tryz.func82 [BJ] [Bz] xy
def sD(a:Nat)(b:AH):Option ((Vl×Bool)×Int):=Ab (dQ a b) λd=>iB (!d) (Ac (((Vl.mk Aj (Aj,Aj,Aj,([],[]),[]) [] [],Aj),11)))<|Ab (UX a b.1) λe=>iB e (Ac (((Vl.mk Aj (Aj,Aj,Aj,([],[]),[]) [] [],Aj),12)))<|Ab (xy a b) λc=>Ab (Yu a (Vl.sc c)) λf=>Ac ((c,(!f)),0)
def yN:=bQ [kD,uy,uu,B249] Tryz.func61 [BJ] [(.st y26),Ak] sD
def xx(b:Nat)(a:Vl×Bool):Option Int:=Aa .i64 (((Vl.lists a.1).length:Int)+((Vl.structs a.1).length:Int))<|iB a.2 (Aa .i64 (((Vl.lists a.1).length:Int)+((Vl.structs a.1).length:Int)+1)<|some (((((Vl.lists a.1).length:Int)+((Vl.structs a.1).length:Int))+1)))<|some (((Vl.lists a.1).length:Int)+((Vl.structs a.1).length:Int))
def B251:=bQ [] Tryz.func83 [(.st y26)] [Ak] xx
def sC(c:Nat):(Vl×Bool)×Int->Option Int|(b,a)=>iB (Vl.any b.1) (Ac 14)<|iF ((0:Int)<a) (Ab (xx c b) λd=>iF ((1:Int)<d) (Ac 14)<|iF (a=0) (Ac 11)<|some 0)<|iF (a=0) (Ac 11)<|some 0
def yM:=bQ [B251] Tryz.func62 [(.st y26),Ak] [Ak] sC
def xw(b:Nat)(d:AH):Option (BC×Int):=Ab (sD b d) λa=>iF (a.2=0) (Ab (sC b (a.1,((Vl.structs a.1.1).length:Int))) λc=>iF (c≠0) (Ac ((([],[]),c)))<|Ab (idx (Vl.structs a.1.1) (0:Int)) λe=>Ac ((e,0)))<|iF (a.2≠0) (Ac ((([],[]),a.2)))<|Ab (idx (Vl.structs a.1.1) (0:Int)) λf=>Ac (f,0)
def B253:=bQ [yN,yM] Tryz.func37 [BJ] [BR,Ak] xw
def dP(c:Nat):AH×Aq->Option (AH×Int)|(e,f)=>Ab (xw c e) λa=>iF (a.2≠0) (Ac (((Vl.mk Aj (Aj,Aj,Aj,([],[]),[]) [] [],Vl.mk Aj (Aj,Aj,Aj,([],[]),[]) [] []),a.2)))<|Ad c (λ(b:Nat) g=>iF ((b:Int)<a.1.1.length) (Ab (idx a.1.1 b) λd=>iF (d.1=f) (Ac ((d.2.2,0)))<|g (b+1))<|some (((Vl.mk Aj (Aj,Aj,Aj,([],[]),[]) [] [],Vl.mk Aj (Aj,Aj,Aj,([],[]),[]) [] []),13))) (0)
def B254:=bQ [B253] Tryz.func11 [BJ, .str] [BJ,Ak] dP (la:=lk [(5,⟨[.nat],(kp [1,4,20,21] [(22, .AD 0 500)]),[(1, .c 0)],3⟩)])
def xv(b:Nat)(d:AH):Option (BO×Int):=Ab (sD b d) λa=>iF (a.2=0) (Ab (sC b (a.1,((Vl.lists a.1.1).length:Int))) λc=>iF (c≠0) (Ac ((([],[]),c)))<|Ab (idx (Vl.lists a.1.1) (0:Int)) λe=>Ac ((e,0)))<|iF (a.2≠0) (Ac ((([],[]),a.2)))<|Ab (idx (Vl.lists a.1.1) (0:Int)) λf=>Ac (f,0)
def B255:=bQ [yN,yM] Tryz.func45 [BJ] [B_,Ak] xv
def xu(c:Nat):AH×Int->Option (AH×Int)|(d,b)=>Ab (xv c d) λa=>iF (a.2≠0) (Ac (((Vl.mk Aj (Aj,Aj,Aj,([],[]),[]) [] [],Vl.mk Aj (Aj,Aj,Aj,([],[]),[]) [] []),a.2)))<|iF (b<0) (Ac (((Vl.mk Aj (Aj,Aj,Aj,([],[]),[]) [] [],Vl.mk Aj (Aj,Aj,Aj,([],[]),[]) [] []),1)))<|iF (b<(a.1.1.length:Int)) (Ab (idx a.1.1 b) λe=>Ac ((e,0)))<|iF ((0:Int)<a.1.2.length) (Ac (((Vl.mk Aj (Aj,Aj,Aj,([],[]),[]) [] [],Vl.mk Aj (Aj,Aj,Aj,([],[]),[]) [] []),14)))<|some ((Vl.mk Aj (Aj,Aj,Aj,([],[]),[]) [] [],Vl.mk Aj (Aj,Aj,Aj,([],[]),[]) [] []),13)
def B256:=bQ [B255] Tryz.func18 [BJ,Ak] [BJ,Ak] xu
def xt(a:Nat):AH×AH->Option Bool|(b,c)=>Ab (Nq a (b,c)) λd=>iB d (Ab (zQ a b) Ac)<|some Aj
def B257:=bQ [yX,B89] Tryz.func35 [BJ,BJ] [.bool] xt
def jO(a:Nat)(b:Vl):Option Bool:=Ab (dQ a (b,Vl.mk Aj (Aj,Aj,Aj,([],[]),[]) [] [])) Ac
def B258:=bQ [uu] Tryz.func42 [Bz] [.bool] jO
def dO(c:Nat):Vl×Aq->Option Bool|(a,b)=>iF (b=([110,117,108,108]:Aq)) (Ac ((Vl.sc a).1))<|iF (b=([98,111,111,108]:Aq)) (iB ((Vl.sc a).2.1) (Ac Bp)<|some ((Vl.sc a).2.2.1))<|iF (b=([105,110,116]:Aq)) (Ac (Di ((0:Int)<(((Vl.sc a).2.2.2.1.1).length:Int))))<|iF (b=([110,117,109,98,101,114]:Aq)) (Ac (Di ((0:Int)<(((Vl.sc a).2.2.2.1.2).length:Int))))<|iF (b=([115,116,114,105,110,103]:Aq)) (Ac (Di ((0:Int)<(((Vl.sc a).2.2.2.2).length:Int))))<|iF (b=([108,105,115,116]:Aq)) (Ac (Di ((0:Int)<(Vl.lists a).length)))<|some (Di ((0:Int)<(Vl.structs a).length))
def B259:=bQ [] Tryz.func43 [(.st Bz), .str] [.bool] dO
def UR(b:Nat)(c:Vl):Option (List Aq):=Ab (jO b c) λf=>iB (!f) (Ac [])<|Ad b (λ(a:List Aq×Nat) d=>iF ((a.2:Int)< ↑(7)) (Ab (idx [([110,117,108,108]:Aq),([98,111,111,108]:Aq),([105,110,116]:Aq),([110,117,109,98,101,114]:Aq),([115,116,114,105,110,103]:Aq),([108,105,115,116]:Aq),([115,116,114,117,99,116]:Aq)] (a.2:Int)) λe=>iB (Vl.any c) (Af (Fw a.1+1<=Ah)<|d ((a.1++[e]),a.2+1))<|Ab (dO b (c,e)) λg=>iB g (Af (Fw a.1+1<=Ah)<|d ((a.1++[e]),a.2+1))<|d (a.1,a.2+1))<|some a.1) (([],0))
def yL:=bQ [B258,B259] Tryz.func16 [Bz] [I6] UR (la:=lk [(6,⟨[.Ae I6, .nat],(kp [1,3] [(4, .AG 2),(13, .Am),(14, .Am),(15, .AD 1 601)]),[(1, .c 0),(0, .c 0),(2, .row 9 0)],3⟩)]) (pt:=lg [(5,[.own 4 9 .str]),(11,[.fz 2])])
def dN(d:Nat):List Aq×List Aq->Option Bool|(b,c)=>iF ((b.length:Int)≠c.length) (Ac Aj)<|Ad d (λ(a:Nat) e=>iF ((a:Int)<b.length) (Ab (idx b a) λf=>Ab (idx c a) λg=>iB (!decide (f=g)) (Ac Aj)<|e (a+1))<|some Bp) (0)
def yK:=bQ [] Tryz.func15 [I6,I6] [.bool] dN (la:=lk [(4,⟨[.nat],(kp [0,1] [(5, .AD 0 400)]),[],0⟩)])
def D266(fu:Nat):Option Bool:=Ab (F5 fu (1,1)) λr1=>Ab (F6 fu r1) λr2=>Ab (F33 fu (([97]:Aq),r2)) λr3=>Ab (F6 fu r3) λr4=>Ab (dP fu (r4,([97]:Aq))) λr5=>Ab (dP fu (r4,([98]:Aq))) λr6=>Ab (xu fu (r4,0)) λr7=>Ab (F33 fu (([97]:Aq),r2)) λr8=>Ab (F5 fu (1,1)) λr9=>Ab (F6 fu (Vl.mk (Vl.any r8) (Vl.sc r9) (Vl.lists r8) (Vl.structs r8))) λr10=>Ab (dP fu (r10,([97]:Aq))) λr11=>Ab (F5 fu (1,2)) λr12=>Ab (F6 fu r12) λr13=>Ab (dP fu (r13,([97]:Aq))) λr14=>bif Di (r5.2=0)then bif Di (r6.2=13)then bif Di (r7.2=11)then bif Di (r11.2=14)then bif Di (r14.2=11)then Ab (xt fu (r5.1,r2)) λr15=>bif r15 then Ab (F32 fu ()) λr16=>Ab (UR fu r16.1) λr17=>bif Di ((r17.length:Int)=7)then Ab (F5 fu ((-3:Int),3)) λr18=>Ab (UR fu r18) λr19=>Ab (dN fu (r19,[([105,110,116]:Aq)])) λr20=>Ac r20 else Ac Aj else Ac Aj else Ac Aj else Ac Aj else Ac Aj else Ac Aj else Ac Aj
abbrev dM(fu:Nat)(_:Unit):=D266 fu
def B262:=bQ [B254,yK,yL,B256,B6,B5,B33,B257,B32] Tryz.func10 [] [.bool] dM
end
end Go.GV
