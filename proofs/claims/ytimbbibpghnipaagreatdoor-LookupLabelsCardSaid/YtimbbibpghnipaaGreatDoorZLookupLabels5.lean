/- Part 5 of the texts of this claim: what its theorem leans on. -/
import Derived.Test.YtimbbibpghnipaaGreatDoorZLookupLabels4
import Derived.KernelRfl
set_option linter.all false
open Option renaming some→Ac,none→C7
open Bool renaming false→Aj,true→Bp
open Go renaming Value→BZ,Operand→DQ,TypeId→Gq,Program→GN,World→IU,execOp→Kt,Oper→K7,IntKind→Lo
open Decidable renaming decide→Dl
open List renaming length→FD
open Int renaming natAbs→wL
namespace Go.GV
open Go Go.GK Go.Proofs
noncomputable section
def D183(a:Nat)(b:BC)(c:BC):Option Bool:=Ag ((b.1.length:Int)=b.1.length/\(b.1.length:Int)=b.1.length)<|Ad a (λ(e:Nat) o=>iF ((e:Int)< ↑(2)) (Ab (idx [b.1,c.1] (e:Int)) λh=>Ad a (λ(f:Nat) p=>iF ((f:Int)<h.length) (Ab (idx h f) λi=>Ab (Ve a (b,i.1)) λj=>Ab (Ve a (c,i.1)) λk=>iF (k.2<j.2) (Ac Aj)<|Ab (LC a (j.1,k.1)) λq=>iB (!q) (Ac Aj)<|p (f+1))<|o (e+1)) (0))<|Ad a (λ(g:Nat) r=>iF ((g:Int)<b.2.length) (Ab (idx b.2 g) λl=>Ad a (λ(d:Nat) m=>iF ((d:Int)<c.2.length) (Ab (idx c.2 d) λn=>Ab (LC a (l.2,n.2)) λs=>iB (!s) (Ab (tX a (l.1,n.1)) λt=>iF ((0:Int)<t.length) (Ac Aj)<|m (d+1))<|m (d+1))<|r (g+1)) (0))<|some Bp) (0)) (0)
theorem d183(fu x0 x1):Vd (fu+1) (x0,x1)=D183 fu x0 x1:=by kernel_rfl
def D184(b:Nat)(c:BC)(a:BC):Option (Bool×BC):=Ab (Vd b (a,c)) λd=>Ac (d,a)
theorem d184(fu x0 x1):kC (fu+1) (x0,x1)=D184 fu x0 x1:=by kernel_rfl
def D185(c:Nat)(d:List BC)(e:BC):Option (Int×BC):=Ad c (λ(a:BC×Nat) f=>iF ((a.2:Int)<d.length) (Ab (idx d a.2) λg=>Ab (kC c (g,a.1)) λb=>iB b.1 (Ac (((a.2:Int),b.2)))<|f (b.2,a.2+1))<|some (((-1:Int),a.1))) ((e,0))
theorem d185(fu x0 x1):kB (fu+1) (x0,x1)=D185 fu x0 x1:=by kernel_rfl
def D186(b:Nat)(c:List BC)(d:BC):Option (Bool×BC):=Ab (kB b (c,d)) λa=>Ac (Dl ((0:Int)<=a.1),a.2)
theorem d186(fu x0 x1):kA (fu+1) (x0,x1)=D186 fu x0 x1:=by kernel_rfl
def D187(b:Nat)(c:List BC)(d:List BC):Option Bool:=Ad b (λ(a:Nat) e=>iF ((a:Int)<c.length) (Ab (idx c a) λf=>Ab (kA b (d,f)) λg=>iB (!g.1) (Ac Aj)<|e (a+1))<|some Bp) (0)
theorem d187(fu x0 x1):kx (fu+1) (x0,x1)=D187 fu x0 x1:=by kernel_rfl
def D188(c:Nat)(b:Vl)(a:Vl):Option Bool:=iB (Vl.any b) (Ac (Vl.any a))<|iB (Vl.any a) (Ac (Vl.any a))<|Ab (eL c ((b,Vl.mk Aj (Aj,Aj,Aj,([],[]),[]) [] []),a,Vl.mk Aj (Aj,Aj,Aj,([],[]),[]) [] [])) λd=>iB d (Ac Bp)<|Ab (kI c (Vl.sc b,Vl.sc a)) λe=>iB (!e) (Ac Aj)<|Ab (kD c (Vl.lists b,Vl.lists a)) λf=>iB f (Ab (kx c (Vl.structs b,Vl.structs a)) Ac)<|some Aj
theorem d188(fu x0 x1):TG (fu+1) (x0,x1)=D188 fu x0 x1:=by kernel_rfl
def D189(a:Nat)(b:AF)(c:AF):Option Bool:=Ab (TG a (b.1,c.1)) λd=>iB d (Ab (TG a (b.2,c.2)) Ac)<|some Aj
theorem d189(fu x0 x1):LC (fu+1) (x0,x1)=D189 fu x0 x1:=by kernel_rfl
def D190(b:Nat)(a:BO)(c:BO):Option Bool:=iF ((a.1.length:Int)<c.1.length) (Ac Aj)<|iB (!decide ((0:Int)<c.2.length)) (iF ((c.1.length:Int)<a.1.length) (Ac Aj)<|iF ((0:Int)<a.2.length) (Ac Aj)<|Ad b (λ(d:Nat) f=>iF ((d:Int)<a.1.length) (Ab (idx a.1 d) λg=>Ab (YK b (c,(d:Int))) λh=>Ab (LC b (g,h.1)) λi=>iB (!i) (Ac Aj)<|f (d+1))<|iF ((a.2.length:Int)=0) (Ac Bp)<|Ab (idx a.2 0) λj=>Ab (idx c.2 0) λk=>Ab (LC b (j,k)) Ac) (0))<|Ad b (λ(e:Nat) m=>iF ((e:Int)<a.1.length) (Ab (idx a.1 e) λn=>Ab (YK b (c,(e:Int))) λo=>Ab (LC b (n,o.1)) λp=>iB (!p) (Ac Aj)<|m (e+1))<|iF ((a.2.length:Int)=0) (Ac Bp)<|Ab (idx a.2 0) λq=>Ab (idx c.2 0) λr=>Ab (LC b (q,r)) Ac) (0)
theorem d190(fu x0 x1):Vc (fu+1) (x0,x1)=D190 fu x0 x1:=by kernel_rfl
def tW(b:Nat)(a:BO):Option Vl:=Ac (Vl.mk Aj (Aj,Aj,Aj,([],[]),[]) [a] [])
def B188:=bQ [] Tryz.func152 [Cc] [BD] tW (pt:=lg [(1,[.M3 2 7])])
def kv(c:Nat):Bool×Bool->Option Int|(a,b)=>iB (a==b) (Ac 0)<|iB a (Ac ((-1:Int)))<|some 1
def zm:=bQ [] Tryz.func324 [.bool, .bool] [Ak] kv
def tU(c:Nat):Vl×Vl->Option (Int×AF)|(a,b)=>Ab (kv c (Vl.any a,Vl.any b)) λd=>Ac (d,a,b)
def B190:=bP [zm] Tryz.func323 ⟨[.Ae BD, .Ae BD],[(0, .loc 0 0),(1, .loc 1 0)],[(0, .Ai 33 [(9, .v 0 BD)]),(1, .Ai 33 [(9, .v 1 BD)])],2⟩ ⟨[.Ae Ak, .Ae BD, .Ae BD],[(0, .v 0 Ak)],[(0, .Ai 33 [(9, .v 1 BD)]),(1, .Ai 33 [(9, .v 2 BD)])],2⟩ 1 [] tU
def LB(a:Nat):Bc×Bc->Option Int|(d,e)=>Ab (YH a (d,e)) λf=>Ab (Vi a f) λb=>Ab (YH a (e,d)) λg=>Ab (Vi a g) λc=>iB (!b.2) (iB (!c.2) (Ac 0)<|iB (!c.2) (Ac ((-1:Int)))<|iB b.2 (Ab (Vj a (b.1,c.1)) λh=>iB h (Ac ((-1:Int)))<|some 1)<|some 1)<|iB (!c.2) (Ac ((-1:Int)))<|iB b.2 (Ab (Vj a (b.1,c.1)) λi=>iB i (Ac ((-1:Int)))<|some 1)<|some 1
def B191:=bQ [zy,zA,zq] Tryz.func270 [E',E'] [Ak] LB
def TF(d:Nat):Fz×Fz->Option Int|(a,b)=>Ab (dQ d a) λg=>iB (!g) (Ac 0)<|Ab (dQ d b) λh=>iB (!h) (Ac 0)<|Ad d (λ(c:Int) i=>iF (c<3) (Ag ((0:Int)<=c/\c<(↑3:Int))<|Ab (idx [(a.1,b.1),(a.2.1,b.2.1),(a.2.2.1,b.2.2.1)] c) λe=>iF ((e.1::[e.2])=(Bp::[Aj])) (Ac ((-1:Int)))<|iF ((e.1::[e.2])=(Aj::[Bp])) (Ac 1)<|Aa .i64 (c+1)<|i (c+1))<|Ab (LB d (a.2.2.2.1,b.2.2.2.1)) λf=>iF (f≠0) (Ac f)<|Ab (YM d (a.2.2.2.2,b.2.2.2.2)) Ac) ((0:Int))
def zl:=bQ [B77,uQ,B191] Tryz.func218 [y8,y8] [Ak] TF (la:=lk [(4,⟨[.Ae Ak],(kp [2,3,32] [(33, .v 0 Ak)]),[(1, .c 0),(0, .c 0)],2⟩)])
def tT(c:Nat):Vl×Vl->Option (Int×AF)|(a,b)=>Ab (TF c (Vl.sc a,Vl.sc b)) λd=>Ac (d,a,b)
def B193:=bP [zl] Tryz.func325 ⟨[.Ae BD, .Ae BD],[(0, .loc 0 0),(1, .loc 1 0)],[(0, .Ai 33 [(9, .v 0 BD)]),(1, .Ai 33 [(9, .v 1 BD)])],2⟩ ⟨[.Ae Ak, .Ae BD, .Ae BD],[(0, .v 0 Ak)],[(0, .Ai 33 [(9, .v 1 BD)]),(1, .Ai 33 [(9, .v 2 BD)])],2⟩ 1 [] tT
def tS(c:Nat):BO×BO->Option (Int×BO×BO)|(a,b)=>Ab (Vg c ((a.1.length:Int),(b.1.length:Int))) λd=>Ac (d,a,b)
def B194:=bP [uR] Tryz.func368 ⟨[.Ae Cc, .Ae Cc],[(0, .loc 0 0),(1, .loc 1 0)],[(0, .Ai 77 [(2, .v 0 Cc)]),(1, .Ai 77 [(2, .v 1 Cc)])],2⟩ ⟨[.Ae Ak, .Ae Cc, .Ae Cc],[(0, .v 0 Ak)],[(0, .Ai 77 [(2, .v 1 Cc)]),(1, .Ai 77 [(2, .v 2 Cc)])],2⟩ 1 [] tS
def tR(c:Nat):BO×BO->Option (Int×BO×BO)|(a,b)=>Ab (kv c (Dl ((0:Int)<a.2.length),Dl ((0:Int)<b.2.length))) λd=>Ac (d,a,b)
def B195:=bP [zm] Tryz.func369 ⟨[.Ae Cc, .Ae Cc],[(0, .loc 0 0),(1, .loc 1 0)],[(0, .Ai 77 [(2, .v 0 Cc)]),(1, .Ai 77 [(2, .v 1 Cc)])],2⟩ ⟨[.Ae Ak, .Ae Cc, .Ae Cc],[(0, .v 0 Ak)],[(0, .Ai 77 [(2, .v 1 Cc)]),(1, .Ai 77 [(2, .v 2 Cc)])],2⟩ 1 [] tR
def ku(c:Nat):(Aq×Int×AF)×Aq×Int×AF->Option (Int×(Aq×Int×AF)×Aq×Int×AF)|(a,b)=>Ab (YN c (a.1,b.1)) λd=>Ac (d,a,b)
def B196:=bP [zt] Tryz.func376 ⟨[.Ae ER, .Ae ER],[(0, .loc 0 0),(1, .loc 1 0)],[(0, .Ai 69 [(20, .v 0 ER)]),(1, .Ai 69 [(20, .v 1 ER)])],2⟩ ⟨[.Ae Ak, .Ae ER, .Ae ER],[(0, .v 0 Ak)],[(0, .Ai 69 [(20, .v 1 ER)]),(1, .Ai 69 [(20, .v 2 ER)])],2⟩ 1 [] ku
def kq(c:Nat):(Aq×Int×AF)×Aq×Int×AF->Option (Int×(Aq×Int×AF)×Aq×Int×AF)|(a,b)=>Ab (Vg c (a.2.1,b.2.1)) λd=>Ac (d,a,b)
def B197:=bP [uR] Tryz.func377 ⟨[.Ae ER, .Ae ER],[(0, .loc 0 0),(1, .loc 1 0)],[(0, .Ai 69 [(20, .v 0 ER)]),(1, .Ai 69 [(20, .v 1 ER)])],2⟩ ⟨[.Ae Ak, .Ae ER, .Ae ER],[(0, .v 0 Ak)],[(0, .Ai 69 [(20, .v 1 ER)]),(1, .Ai 69 [(20, .v 2 ER)])],2⟩ 1 [] kq
def ko(c:Nat):(A5×AF)×A5×AF->Option (Int×(A5×AF)×A5×AF)|(a,b)=>Ab (YM c (a.1,b.1)) λd=>Ac (d,a,b)
def B198:=bP [uQ] Tryz.func382 ⟨[.Ae FT, .Ae FT],[(0, .loc 0 0),(1, .loc 1 0)],[(0, .Ai 92 [(19, .v 0 FT)]),(1, .Ai 92 [(19, .v 1 FT)])],2⟩ ⟨[.Ae Ak, .Ae FT, .Ae FT],[(0, .v 0 Ak)],[(0, .Ai 92 [(19, .v 1 FT)]),(1, .Ai 92 [(19, .v 2 FT)])],2⟩ 1 [] ko
def mz:A_:=⟨[.Ae BA, .Ae BA],[(0, .loc 0 0),(1, .loc 1 0)],[(0, .Ai 35 [(18, .v 0 BA)]),(1, .Ai 35 [(18, .v 1 BA)])],2⟩
def lO:A_:=⟨[.Ae Ak, .Ae BA, .Ae BA],[(0, .v 0 Ak)],[(0, .Ai 35 [(18, .v 1 BA)]),(1, .Ai 35 [(18, .v 2 BA)])],2⟩
def my:A_:=⟨[.Ae BA, .Ae BA],[(0, .loc 0 0),(1, .loc 1 0)],[(0, .Ai 35 [(18, .v 0 BA)]),(1, .Ai 35 [(18, .v 1 BA)])],2⟩
def lN:A_:=⟨[.Ae Ak, .Ae BA, .Ae BA],[(0, .v 0 Ak)],[(0, .Ai 35 [(18, .v 1 BA)]),(1, .Ai 35 [(18, .v 2 BA)])],2⟩
def mx:A_:=⟨[.Ae BA, .Ae BA],[(0, .px [0] (.hc 2))],[(0, .Ai 121 [(1, .AK 401 [] [1,2]),(1, .AK 402 [] [1,2])]),(1, .Ai 35 [(18, .v 0 BA)]),(2, .Ai 35 [(18, .v 1 BA)])],3⟩
def lM:A_:=⟨[.Ae Ak, .Ae BA, .Ae BA],[(0, .v 0 Ak)],[(0, .Ai 121 [(1, .AK 401 [] [1,2]),(1, .AK 402 [] [1,2])]),(1, .Ai 35 [(18, .v 1 BA)]),(2, .Ai 35 [(18, .v 2 BA)])],3⟩
def mw:A_:=⟨[.Ae Dn, .Ae Dn],[(0, .v 0 Dn),(1, .v 1 Dn),(2, .AK 372 [] [])],[],0⟩
def lL:A_:=⟨[.Ae Ak],[(0, .v 0 Ak)],[],0⟩
def mv:A_:=⟨[.Ae Cc, .Ae Cc],[(0, .loc 0 0),(1, .loc 1 0)],[(0, .Ai 77 [(2, .v 0 Cc)]),(1, .Ai 77 [(2, .v 1 Cc)])],2⟩
def lK:A_:=⟨[.Ae Ak, .Ae Cc, .Ae Cc],[(0, .v 0 Ak)],[(0, .Ai 77 [(2, .v 1 Cc)]),(1, .Ai 77 [(2, .v 2 Cc)])],2⟩
def mu:A_:=⟨[.Ae Cc, .Ae Cc],[(0, .px [0] (.hc 3))],[(0, .Ai 121 [(1, .AK 368 [] [1,2]),(1, .AK 369 [] [1,2]),(1, .AK 370 [] [1,2])]),(1, .Ai 77 [(2, .v 0 Cc)]),(2, .Ai 77 [(2, .v 1 Cc)])],3⟩
def lJ:A_:=⟨[.Ae Ak, .Ae Cc, .Ae Cc],[(0, .v 0 Ak)],[(0, .Ai 121 [(1, .AK 368 [] [1,2]),(1, .AK 369 [] [1,2]),(1, .AK 370 [] [1,2])]),(1, .Ai 77 [(2, .v 1 Cc)]),(2, .Ai 77 [(2, .v 2 Cc)])],3⟩
def mr:A_:=⟨[.Ae Ek, .Ae Ek],[(0, .v 0 Ek),(1, .v 1 Ek),(2, .AK 328 [] [])],[],0⟩
def lI:A_:=⟨[.Ae Ak],[(0, .v 0 Ak)],[],0⟩
def mq:A_:=⟨[.Ae BD, .Ae BD],[(0, .loc 0 0),(1, .loc 1 0)],[(0, .Ai 33 [(9, .v 0 BD)]),(1, .Ai 33 [(9, .v 1 BD)])],2⟩
def lH:A_:=⟨[.Ae Ak, .Ae BD, .Ae BD],[(0, .v 0 Ak)],[(0, .Ai 33 [(9, .v 1 BD)]),(1, .Ai 33 [(9, .v 2 BD)])],2⟩
def mo:A_:=⟨[.Ae ER, .Ae ER],[(0, .loc 0 0),(1, .loc 1 0)],[(0, .Ai 69 [(20, .v 0 ER)]),(1, .Ai 69 [(20, .v 1 ER)])],2⟩
def lG:A_:=⟨[.Ae Ak, .Ae ER, .Ae ER],[(0, .v 0 Ak)],[(0, .Ai 69 [(20, .v 1 ER)]),(1, .Ai 69 [(20, .v 2 ER)])],2⟩
def mn:A_:=⟨[.Ae ER, .Ae ER],[(0, .px [0] (.hc 3))],[(0, .Ai 121 [(1, .AK 376 [] [1,2]),(1, .AK 377 [] [1,2]),(1, .AK 378 [] [1,2])]),(1, .Ai 69 [(20, .v 0 ER)]),(2, .Ai 69 [(20, .v 1 ER)])],3⟩
def lF:A_:=⟨[.Ae Ak, .Ae ER, .Ae ER],[(0, .v 0 Ak)],[(0, .Ai 121 [(1, .AK 376 [] [1,2]),(1, .AK 377 [] [1,2]),(1, .AK 378 [] [1,2])]),(1, .Ai 69 [(20, .v 1 ER)]),(2, .Ai 69 [(20, .v 2 ER)])],3⟩
def ml:A_:=⟨[.Ae Mb, .Ae Mb],[(0, .v 0 Mb),(1, .v 1 Mb),(2, .AK 375 [] [])],[],0⟩
def lE:A_:=⟨[.Ae Ak],[(0, .v 0 Ak)],[],0⟩
def mj:A_:=⟨[.Ae BQ, .Ae BQ],[(0, .loc 0 0),(1, .loc 1 0)],[(0, .Ai 65 [(2, .v 0 BQ)]),(1, .Ai 65 [(2, .v 1 BQ)])],2⟩
def lD:A_:=⟨[.Ae Ak, .Ae BQ, .Ae BQ],[(0, .v 0 Ak)],[(0, .Ai 65 [(2, .v 1 BQ)]),(1, .Ai 65 [(2, .v 2 BQ)])],2⟩
def mi:A_:=⟨[.Ae FT, .Ae FT],[(0, .loc 0 0),(1, .loc 1 0)],[(0, .Ai 92 [(19, .v 0 FT)]),(1, .Ai 92 [(19, .v 1 FT)])],2⟩
def lC:A_:=⟨[.Ae Ak, .Ae FT, .Ae FT],[(0, .v 0 Ak)],[(0, .Ai 92 [(19, .v 1 FT)]),(1, .Ai 92 [(19, .v 2 FT)])],2⟩
def mh:A_:=⟨[.Ae FT, .Ae FT],[(0, .px [0] (.hc 2))],[(0, .Ai 121 [(1, .AK 382 [] [1,2]),(1, .AK 383 [] [1,2])]),(1, .Ai 92 [(19, .v 0 FT)]),(2, .Ai 92 [(19, .v 1 FT)])],3⟩
def lB:A_:=⟨[.Ae Ak, .Ae FT, .Ae FT],[(0, .v 0 Ak)],[(0, .Ai 121 [(1, .AK 382 [] [1,2]),(1, .AK 383 [] [1,2])]),(1, .Ai 92 [(19, .v 1 FT)]),(2, .Ai 92 [(19, .v 2 FT)])],3⟩
def mg:A_:=⟨[.Ae Gr, .Ae Gr],[(0, .v 0 Gr),(1, .v 1 Gr),(2, .AK 381 [] [])],[],0⟩
def lA:A_:=⟨[.Ae Ak],[(0, .v 0 Ak)],[],0⟩
def mf:A_:=⟨[.Ae BQ, .Ae BQ],[(0, .loc 0 0),(1, .loc 1 0)],[(0, .Ai 65 [(2, .v 0 BQ)]),(1, .Ai 65 [(2, .v 1 BQ)])],2⟩
def ly:A_:=⟨[.Ae Ak, .Ae BQ, .Ae BQ],[(0, .v 0 Ak)],[(0, .Ai 65 [(2, .v 1 BQ)]),(1, .Ai 65 [(2, .v 2 BQ)])],2⟩
def me:A_:=⟨[.Ae BQ, .Ae BQ],[(0, .px [0] (.hc 2))],[(0, .Ai 121 [(1, .AK 373 [] [1,2]),(1, .AK 379 [] [1,2])]),(1, .Ai 65 [(2, .v 0 BQ)]),(2, .Ai 65 [(2, .v 1 BQ)])],3⟩
def lu:A_:=⟨[.Ae Ak, .Ae BQ, .Ae BQ],[(0, .v 0 Ak)],[(0, .Ai 121 [(1, .AK 373 [] [1,2]),(1, .AK 379 [] [1,2])]),(1, .Ai 65 [(2, .v 1 BQ)]),(2, .Ai 65 [(2, .v 2 BQ)])],3⟩
def mc:A_:=⟨[.Ae Ej, .Ae Ej],[(0, .v 0 Ej),(1, .v 1 Ej),(2, .AK 331 [] [])],[],0⟩
def lr:A_:=⟨[.Ae Ak],[(0, .v 0 Ak)],[],0⟩
def mb:A_:=⟨[.Ae BD, .Ae BD],[(0, .loc 0 0),(1, .loc 1 0)],[(0, .Ai 33 [(9, .v 0 BD)]),(1, .Ai 33 [(9, .v 1 BD)])],2⟩
def lq:A_:=⟨[.Ae Ak, .Ae BD, .Ae BD],[(0, .v 0 Ak)],[(0, .Ai 33 [(9, .v 1 BD)]),(1, .Ai 33 [(9, .v 2 BD)])],2⟩
def ma:A_:=⟨[.Ae BD, .Ae BD],[(0, .px [0] (.hc 4))],[(0, .Ai 121 [(1, .AK 323 [] [1,2]),(1, .AK 325 [] [1,2]),(1, .AK 326 [] [1,2]),(1, .AK 329 [] [1,2])]),(1, .Ai 33 [(9, .v 0 BD)]),(2, .Ai 33 [(9, .v 1 BD)])],3⟩
def lp:A_:=⟨[.Ae Ak, .Ae BD, .Ae BD],[(0, .v 0 Ak)],[(0, .Ai 121 [(1, .AK 323 [] [1,2]),(1, .AK 325 [] [1,2]),(1, .AK 326 [] [1,2]),(1, .AK 329 [] [1,2])]),(1, .Ai 33 [(9, .v 1 BD)]),(2, .Ai 33 [(9, .v 2 BD)])],3⟩
abbrev nR:Type:=G6 401 mz lO 1 []×G6 402 my lN 1 []×G6 322 mx lM 1 []×Gn 372 [BA,BA] [Ak]×G6 371 mw lL 1 []×G6 370 mv lK 1 []×G6 322 mu lJ 1 []×Gn 328 [Cc,Cc] [Ak]×G6 327 mr lI 1 []×G6 326 mq lH 1 []×G6 378 mo lG 1 []×G6 322 mn lF 1 []×Gn 375 [ER,ER] [Ak]×G6 374 ml lE 1 []×G6 373 mj lD 1 []×G6 383 mi lC 1 []×G6 322 mh lB 1 []×Gn 381 [FT,FT] [Ak]×G6 380 mg lA 1 []×G6 379 mf ly 1 []×G6 322 me lu 1 []×Gn 331 [BQ,BQ] [Ak]×G6 330 mc lr 1 []×G6 329 mb lq 1 []×G6 322 ma lp 1 []×Gn 267 [BD,BD] [Ak]
def D'(n:Nat):nR:=Nat.rec (motive:=λ_=>nR) (tP Tryz.func401,tP Tryz.func402,tP Tryz.func322,tQ Tryz.func372,tP Tryz.func371,tP Tryz.func370,tP Tryz.func322,tQ Tryz.func328,tP Tryz.func327,tP Tryz.func326,tP Tryz.func378,tP Tryz.func322,tQ Tryz.func375,tP Tryz.func374,tP Tryz.func373,tP Tryz.func383,tP Tryz.func322,tQ Tryz.func381,tP Tryz.func380,tP Tryz.func379,tP Tryz.func322,tQ Tryz.func331,tP Tryz.func330,tP Tryz.func329,tP Tryz.func322,tQ Tryz.func267) (λfu ⟨g0,g1,g2,g3,g4,g5,g6,g7,g8,g9,g10,g11,g12,g13,g14,g15,g16,g17,g18,g19,g20,g21,g22,g23,g24,g25⟩=>(sP [Dd g25] fu Tryz.func401 mz lO 1 [],sP [Dd g25] fu Tryz.func402 my lN 1 [],sP [C3 g0,C3 g1] fu Tryz.func322 mx lM 1 [],sQ [C3 g2] fu Tryz.func372 [BA,BA] [Ak],sP [Dd g3] fu Tryz.func371 mw lL 1 [] (la:=lk [(2,⟨[.nat],(kp [0,1,2,11,12] [(13, .AD 0 200)]),[],0⟩)]),sP (C3 g4::bs [B81] fu) fu Tryz.func370 mv lK 1 [],sP (C3 g5::bs [B194,B195] fu) fu Tryz.func322 mu lJ 1 [],sQ [C3 g6] fu Tryz.func328 [Cc,Cc] [Ak],sP [Dd g7] fu Tryz.func327 mr lI 1 [] (la:=lk [(2,⟨[.nat],(kp [0,1,2,11,12] [(13, .AD 0 200)]),[],0⟩)]),sP [C3 g8] fu Tryz.func326 mq lH 1 [],sP [Dd g3] fu Tryz.func378 mo lG 1 [],sP (C3 g10::bs [B196,B197] fu) fu Tryz.func322 mn lF 1 [],sQ [C3 g11] fu Tryz.func375 [ER,ER] [Ak],sP [Dd g12] fu Tryz.func374 ml lE 1 [] (la:=lk [(2,⟨[.nat],(kp [0,1,2,11,12] [(13, .AD 0 200)]),[],0⟩)]),sP [C3 g13] fu Tryz.func373 mj lD 1 [],sP [Dd g3] fu Tryz.func383 mi lC 1 [],sP (C3 g15::bs [B198] fu) fu Tryz.func322 mh lB 1 [],sQ [C3 g16] fu Tryz.func381 [FT,FT] [Ak],sP [Dd g17] fu Tryz.func380 mg lA 1 [] (la:=lk [(2,⟨[.nat],(kp [0,1,2,11,12] [(13, .AD 0 200)]),[],0⟩)]),sP [C3 g18] fu Tryz.func379 mf ly 1 [],sP [C3 g14,C3 g19] fu Tryz.func322 me lu 1 [],sQ [C3 g20] fu Tryz.func331 [BQ,BQ] [Ak],sP [Dd g21] fu Tryz.func330 mc lr 1 [] (la:=lk [(2,⟨[.nat],(kp [0,1,2,11,12] [(13, .AD 0 200)]),[],0⟩)]),sP [C3 g22] fu Tryz.func329 mb lq 1 [],sP (C3 g9::C3 g23::bs [B190,B193] fu) fu Tryz.func322 ma lp 1 [],sQ [C3 g24] fu Tryz.func267 [BD,BD] [Ak])) n
abbrev tO(fu:Nat)(x:AF×AF):Option (Int×AF×AF):=(D' fu).1.1 x
abbrev tN(fu:Nat)(x:AF×AF):Option (Int×AF×AF):=(D' fu).2.1.1 x
abbrev tM(fu:Nat)(x:AF×AF):Option (Int×AF×AF):=(D' fu).2.2.1.1 x
abbrev YG(fu:Nat)(x:AF×AF):Option Int:=(D' fu).2.2.2.1.1 x
abbrev tL(fu:Nat)(x:(List AF)×(List AF)):Option Int:=(D' fu).2.2.2.2.1.1 x
abbrev tK(fu:Nat)(x:BO×BO):Option (Int×BO×BO):=(D' fu).2.2.2.2.2.1.1 x
abbrev tI(fu:Nat)(x:BO×BO):Option (Int×BO×BO):=(D' fu).2.2.2.2.2.2.1.1 x
abbrev tH(fu:Nat)(x:BO×BO):Option Int:=(D' fu).2.2.2.2.2.2.2.1.1 x
abbrev tG(fu:Nat)(x:(List BO)×(List BO)):Option Int:=(D' fu).2.2.2.2.2.2.2.2.1.1 x
abbrev tF(fu:Nat)(x:(Vl)×(Vl)):Option (Int×AF):=(D' fu).2.2.2.2.2.2.2.2.2.1.1 x
abbrev tE(fu:Nat)(x:(Aq×Int×AF)×(Aq×Int×AF)):Option (Int×(Aq×Int×AF)×Aq×Int×AF):=(D' fu).2.2.2.2.2.2.2.2.2.2.1.1 x
abbrev tD(fu:Nat)(x:(Aq×Int×AF)×(Aq×Int×AF)):Option (Int×(Aq×Int×AF)×Aq×Int×AF):=(D' fu).2.2.2.2.2.2.2.2.2.2.2.1.1 x
abbrev tC(fu:Nat)(x:(Aq×Int×AF)×(Aq×Int×AF)):Option Int:=(D' fu).2.2.2.2.2.2.2.2.2.2.2.2.1.1 x
abbrev tB(fu:Nat)(x:(List (Aq×Int×AF))×(List (Aq×Int×AF))):Option Int:=(D' fu).2.2.2.2.2.2.2.2.2.2.2.2.2.1.1 x
abbrev tA(fu:Nat)(x:BC×BC):Option (Int×BC×BC):=(D' fu).2.2.2.2.2.2.2.2.2.2.2.2.2.2.1.1 x
abbrev tz(fu:Nat)(x:(A5×AF)×(A5×AF)):Option (Int×(A5×AF)×A5×AF):=(D' fu).2.2.2.2.2.2.2.2.2.2.2.2.2.2.2.1.1 x
abbrev tx(fu:Nat)(x:(A5×AF)×(A5×AF)):Option (Int×(A5×AF)×A5×AF):=(D' fu).2.2.2.2.2.2.2.2.2.2.2.2.2.2.2.2.1.1 x
abbrev tv(fu:Nat)(x:(A5×AF)×(A5×AF)):Option Int:=(D' fu).2.2.2.2.2.2.2.2.2.2.2.2.2.2.2.2.2.1.1 x
abbrev tu(fu:Nat)(x:(List (A5×AF))×(List (A5×AF))):Option Int:=(D' fu).2.2.2.2.2.2.2.2.2.2.2.2.2.2.2.2.2.2.1.1 x
abbrev tt(fu:Nat)(x:BC×BC):Option (Int×BC×BC):=(D' fu).2.2.2.2.2.2.2.2.2.2.2.2.2.2.2.2.2.2.2.1.1 x
abbrev tq(fu:Nat)(x:BC×BC):Option (Int×BC×BC):=(D' fu).2.2.2.2.2.2.2.2.2.2.2.2.2.2.2.2.2.2.2.2.1.1 x
abbrev tj(fu:Nat)(x:BC×BC):Option Int:=(D' fu).2.2.2.2.2.2.2.2.2.2.2.2.2.2.2.2.2.2.2.2.2.1.1 x
abbrev ti(fu:Nat)(x:(List BC)×(List BC)):Option Int:=(D' fu).2.2.2.2.2.2.2.2.2.2.2.2.2.2.2.2.2.2.2.2.2.2.1.1 x
abbrev tg(fu:Nat)(x:(Vl)×(Vl)):Option (Int×AF):=(D' fu).2.2.2.2.2.2.2.2.2.2.2.2.2.2.2.2.2.2.2.2.2.2.2.1.1 x
abbrev tf(fu:Nat)(x:(Vl)×(Vl)):Option (Int×AF):=(D' fu).2.2.2.2.2.2.2.2.2.2.2.2.2.2.2.2.2.2.2.2.2.2.2.2.1.1 x
def B224(fu:Nat):=Dd (D' fu).2.2.2.2.2.2.2.2.2.2.2.2.2.2.2.2.2.2.2.2.2.2.2.2.2
abbrev eI(fu:Nat)(x:(Vl)×(Vl)):Option Int:=(D' fu).2.2.2.2.2.2.2.2.2.2.2.2.2.2.2.2.2.2.2.2.2.2.2.2.2.1 x
def D202(c:Nat)(a:AF)(b:AF):Option (Int×AF×AF):=Ab (eI c (a.1,b.1)) λd=>Ac (d,a,b)
theorem d202(fu x0 x1):tO (fu+1) (x0,x1)=D202 fu x0 x1:=by kernel_rfl
def D203(c:Nat)(a:AF)(b:AF):Option (Int×AF×AF):=Ab (eI c (a.2,b.2)) λd=>Ac (d,a,b)
theorem d203(fu x0 x1):tN (fu+1) (x0,x1)=D203 fu x0 x1:=by kernel_rfl
def D204(c:Nat)(d:AF)(e:AF):Option (Int×AF×AF):=iF ((0:Int)< ↑2) (Ag ((0:Int)<=0/\(0:Int)< ↑2)<|Ab (tO c (d,e)) λa=>iF (a.1≠0) (Ac ((a.1,a.2.1,a.2.2)))<|Aa .i64 ((0:Int)+1)<|iF ((0:Int)+1< ↑2) (Ag ((0:Int)<=0+1/\(0:Int)+1< ↑2)<|Ab (tN c (a.2.1,a.2.2)) λb=>iF (b.1≠0) (Ac ((b.1,b.2.1,b.2.2)))<|Aa .i64 ((0:Int)+1+1)<|iF ((0:Int)+1+1< ↑2) (Ag ((0:Int)<=0+1+1/\(0:Int)+1+1< ↑2)<|none)<|some ((0,b.2.1,b.2.2)))<|some ((0,a.2.1,a.2.2)))<|some (0,d,e)
theorem d204(fu x0 x1):tM (fu+1) (x0,x1)=D204 fu x0 x1:=by kernel_rfl
def D205(a:Nat)(b:AF)(c:AF):Option Int:=Ab (tM a (b,c)) λd=>Ac d.1
theorem d205(fu x0 x1):YG (fu+1) (x0,x1)=D205 fu x0 x1:=by kernel_rfl
def D206(d:Nat)(b:List AF)(c:List AF):Option Int:=Ad d (λ(a:Nat) f=>iF ((a:Int)<b.length) (Ab (idx b a) λg=>iF ((c.length:Int)<=a) (Ac 1)<|Ab (idx c a) λh=>Ab (YG d (g,h)) λe=>iF (e≠0) (Ac e)<|f (a+1))<|iF ((b.length:Int)<c.length) (Ac ((-1:Int)))<|some 0) (0)
theorem d206(fu x0 x1):tL (fu+1) (x0,x1)=D206 fu x0 x1:=by kernel_rfl
def D207(a:Nat)(b:BO)(c:BO):Option (Int×BO×BO):=Ab (ff a b) λd=>Ab (ff a c) λe=>Ab (tL a (d,e)) λf=>Ac (f,b,c)
theorem d207(fu x0 x1):tK (fu+1) (x0,x1)=D207 fu x0 x1:=by kernel_rfl
def D208(d:Nat)(e:BO)(f:BO):Option (Int×BO×BO):=iF ((0:Int)< ↑3) (Ag ((0:Int)<=0/\(0:Int)< ↑3)<|Ab (tS d (e,f)) λa=>iF (a.1≠0) (Ac ((a.1,a.2.1,a.2.2)))<|Aa .i64 ((0:Int)+1)<|iF ((0:Int)+1< ↑3) (Ag ((0:Int)<=0+1/\(0:Int)+1< ↑3)<|Ab (tR d (a.2.1,a.2.2)) λb=>iF (b.1≠0) (Ac ((b.1,b.2.1,b.2.2)))<|Aa .i64 ((0:Int)+1+1)<|iF ((0:Int)+1+1< ↑3) (Ag ((0:Int)<=0+1+1/\(0:Int)+1+1< ↑3)<|Ab (tK d (b.2.1,b.2.2)) λc=>iF (c.1≠0) (Ac ((c.1,c.2.1,c.2.2)))<|Aa .i64 ((0:Int)+1+1+1)<|iF ((0:Int)+1+1+1< ↑3) (Ag ((0:Int)<=0+1+1+1/\(0:Int)+1+1+1< ↑3)<|none)<|some ((0,c.2.1,c.2.2)))<|some ((0,b.2.1,b.2.2)))<|some ((0,a.2.1,a.2.2)))<|some (0,e,f)
theorem d208(fu x0 x1):tI (fu+1) (x0,x1)=D208 fu x0 x1:=by kernel_rfl
def D209(a:Nat)(b:BO)(c:BO):Option Int:=Ab (tI a (b,c)) λd=>Ac d.1
theorem d209(fu x0 x1):tH (fu+1) (x0,x1)=D209 fu x0 x1:=by kernel_rfl
def D210(d:Nat)(b:List BO)(c:List BO):Option Int:=Ad d (λ(a:Nat) f=>iF ((a:Int)<b.length) (Ab (idx b a) λg=>iF ((c.length:Int)<=a) (Ac 1)<|Ab (idx c a) λh=>Ab (tH d (g,h)) λe=>iF (e≠0) (Ac e)<|f (a+1))<|iF ((b.length:Int)<c.length) (Ac ((-1:Int)))<|some 0) (0)
theorem d210(fu x0 x1):tG (fu+1) (x0,x1)=D210 fu x0 x1:=by kernel_rfl
def D211(c:Nat)(a:Vl)(b:Vl):Option (Int×AF):=Ab (tG c (Vl.lists a,Vl.lists b)) λd=>Ac (d,a,b)
theorem d211(fu x0 x1):tF (fu+1) (x0,x1)=D211 fu x0 x1:=by kernel_rfl
def yH(c:Nat)(a:Aq×Int×AF)(b:Aq×Int×AF):Option (Int×(Aq×Int×AF)×Aq×Int×AF):=Ab (YG c (a.2.2,b.2.2)) λd=>Ac (d,a,b)
theorem d212(fu x0 x1):tE (fu+1) (x0,x1)=yH fu x0 x1:=by kernel_rfl
def yG(d:Nat)(e:Aq×Int×AF)(f:Aq×Int×AF):Option (Int×(Aq×Int×AF)×Aq×Int×AF):=iF ((0:Int)< ↑3) (Ag ((0:Int)<=0/\(0:Int)< ↑3)<|Ab (ku d (e,f)) λa=>iF (a.1≠0) (Ac ((a.1,a.2.1,a.2.2)))<|Aa .i64 ((0:Int)+1)<|iF ((0:Int)+1< ↑3) (Ag ((0:Int)<=0+1/\(0:Int)+1< ↑3)<|Ab (kq d (a.2.1,a.2.2)) λb=>iF (b.1≠0) (Ac ((b.1,b.2.1,b.2.2)))<|Aa .i64 ((0:Int)+1+1)<|iF ((0:Int)+1+1< ↑3) (Ag ((0:Int)<=0+1+1/\(0:Int)+1+1< ↑3)<|Ab (tE d (b.2.1,b.2.2)) λc=>iF (c.1≠0) (Ac ((c.1,c.2.1,c.2.2)))<|Aa .i64 ((0:Int)+1+1+1)<|iF ((0:Int)+1+1+1< ↑3) (Ag ((0:Int)<=0+1+1+1/\(0:Int)+1+1+1< ↑3)<|none)<|some ((0,c.2.1,c.2.2)))<|some ((0,b.2.1,b.2.2)))<|some ((0,a.2.1,a.2.2)))<|some (0,e,f)
theorem d213(fu x0 x1):tD (fu+1) (x0,x1)=yG fu x0 x1:=by kernel_rfl
def D214(a:Nat)(b:Aq×Int×AF)(c:Aq×Int×AF):Option Int:=Ab (tD a (b,c)) λd=>Ac d.1
theorem d214(fu x0 x1):tC (fu+1) (x0,x1)=D214 fu x0 x1:=by kernel_rfl
def yF(d:Nat)(b:List (Aq×Int×AF))(c:List (Aq×Int×AF)):Option Int:=Ad d (λ(a:Nat) f=>iF ((a:Int)<b.length) (Ab (idx b a) λg=>iF ((c.length:Int)<=a) (Ac 1)<|Ab (idx c a) λh=>Ab (tC d (g,h)) λe=>iF (e≠0) (Ac e)<|f (a+1))<|iF ((b.length:Int)<c.length) (Ac ((-1:Int)))<|some 0) (0)
theorem d215(fu x0 x1):tB (fu+1) (x0,x1)=yF fu x0 x1:=by kernel_rfl
def yE(c:Nat)(a:BC)(b:BC):Option (Int×BC×BC):=Ab (tB c (a.1,b.1)) λd=>Ac (d,a,b)
theorem d216(fu x0 x1):tA (fu+1) (x0,x1)=yE fu x0 x1:=by kernel_rfl
def yD(c:Nat)(a:A5×AF)(b:A5×AF):Option (Int×(A5×AF)×A5×AF):=Ab (YG c (a.2,b.2)) λd=>Ac (d,a,b)
theorem d217(fu x0 x1):tz (fu+1) (x0,x1)=yD fu x0 x1:=by kernel_rfl
def yC(c:Nat)(d:A5×AF)(e:A5×AF):Option (Int×(A5×AF)×A5×AF):=iF ((0:Int)< ↑2) (Ag ((0:Int)<=0/\(0:Int)< ↑2)<|Ab (ko c (d,e)) λa=>iF (a.1≠0) (Ac ((a.1,a.2.1,a.2.2)))<|Aa .i64 ((0:Int)+1)<|iF ((0:Int)+1< ↑2) (Ag ((0:Int)<=0+1/\(0:Int)+1< ↑2)<|Ab (tz c (a.2.1,a.2.2)) λb=>iF (b.1≠0) (Ac ((b.1,b.2.1,b.2.2)))<|Aa .i64 ((0:Int)+1+1)<|iF ((0:Int)+1+1< ↑2) (Ag ((0:Int)<=0+1+1/\(0:Int)+1+1< ↑2)<|none)<|some ((0,b.2.1,b.2.2)))<|some ((0,a.2.1,a.2.2)))<|some (0,d,e)
theorem d218(fu x0 x1):tx (fu+1) (x0,x1)=yC fu x0 x1:=by kernel_rfl
def D219(a:Nat)(b:A5×AF)(c:A5×AF):Option Int:=Ab (tx a (b,c)) λd=>Ac d.1
theorem d219(fu x0 x1):tv (fu+1) (x0,x1)=D219 fu x0 x1:=by kernel_rfl
def yB(d:Nat)(b:List (A5×AF))(c:List (A5×AF)):Option Int:=Ad d (λ(a:Nat) f=>iF ((a:Int)<b.length) (Ab (idx b a) λg=>iF ((c.length:Int)<=a) (Ac 1)<|Ab (idx c a) λh=>Ab (tv d (g,h)) λe=>iF (e≠0) (Ac e)<|f (a+1))<|iF ((b.length:Int)<c.length) (Ac ((-1:Int)))<|some 0) (0)
theorem d220(fu x0 x1):tu (fu+1) (x0,x1)=yB fu x0 x1:=by kernel_rfl
def yA(c:Nat)(a:BC)(b:BC):Option (Int×BC×BC):=Ab (tu c (a.2,b.2)) λd=>Ac (d,a,b)
theorem d221(fu x0 x1):tt (fu+1) (x0,x1)=yA fu x0 x1:=by kernel_rfl
def yz(c:Nat)(d:BC)(e:BC):Option (Int×BC×BC):=iF ((0:Int)< ↑2) (Ag ((0:Int)<=0/\(0:Int)< ↑2)<|Ab (tA c (d,e)) λa=>iF (a.1≠0) (Ac ((a.1,a.2.1,a.2.2)))<|Aa .i64 ((0:Int)+1)<|iF ((0:Int)+1< ↑2) (Ag ((0:Int)<=0+1/\(0:Int)+1< ↑2)<|Ab (tt c (a.2.1,a.2.2)) λb=>iF (b.1≠0) (Ac ((b.1,b.2.1,b.2.2)))<|Aa .i64 ((0:Int)+1+1)<|iF ((0:Int)+1+1< ↑2) (Ag ((0:Int)<=0+1+1/\(0:Int)+1+1< ↑2)<|none)<|some ((0,b.2.1,b.2.2)))<|some ((0,a.2.1,a.2.2)))<|some (0,d,e)
theorem d222(fu x0 x1):tq (fu+1) (x0,x1)=yz fu x0 x1:=by kernel_rfl
def D223(a:Nat)(b:BC)(c:BC):Option Int:=Ab (tq a (b,c)) λd=>Ac d.1
theorem d223(fu x0 x1):tj (fu+1) (x0,x1)=D223 fu x0 x1:=by kernel_rfl
def yy(d:Nat)(b:List BC)(c:List BC):Option Int:=Ad d (λ(a:Nat) f=>iF ((a:Int)<b.length) (Ab (idx b a) λg=>iF ((c.length:Int)<=a) (Ac 1)<|Ab (idx c a) λh=>Ab (tj d (g,h)) λe=>iF (e≠0) (Ac e)<|f (a+1))<|iF ((b.length:Int)<c.length) (Ac ((-1:Int)))<|some 0) (0)
theorem d224(fu x0 x1):ti (fu+1) (x0,x1)=yy fu x0 x1:=by kernel_rfl
def yx(c:Nat)(a:Vl)(b:Vl):Option (Int×AF):=Ab (ti c (Vl.structs a,Vl.structs b)) λd=>Ac (d,a,b)
theorem d225(fu x0 x1):tg (fu+1) (x0,x1)=yx fu x0 x1:=by kernel_rfl
def D226(e:Nat)(f:Vl)(g:Vl):Option (Int×AF):=iF ((0:Int)< ↑4) (Ag ((0:Int)<=0/\(0:Int)< ↑4)<|Ab (tU e (f,g)) λa=>iF (a.1≠0) (Ac ((a.1,a.2.1,a.2.2)))<|Aa .i64 ((0:Int)+1)<|iF ((0:Int)+1< ↑4) (Ag ((0:Int)<=0+1/\(0:Int)+1< ↑4)<|Ab (tT e (a.2.1,a.2.2)) λb=>iF (b.1≠0) (Ac ((b.1,b.2.1,b.2.2)))<|Aa .i64 ((0:Int)+1+1)<|iF ((0:Int)+1+1< ↑4) (Ag ((0:Int)<=0+1+1/\(0:Int)+1+1< ↑4)<|Ab (tF e (b.2.1,b.2.2)) λc=>iF (c.1≠0) (Ac ((c.1,c.2.1,c.2.2)))<|Aa .i64 ((0:Int)+1+1+1)<|iF ((0:Int)+1+1+1< ↑4) (Ag ((0:Int)<=0+1+1+1/\(0:Int)+1+1+1< ↑4)<|Ab (tg e (c.2.1,c.2.2)) λd=>iF (d.1≠0) (Ac ((d.1,d.2.1,d.2.2)))<|Aa .i64 ((0:Int)+1+1+1+1)<|iF ((0:Int)+1+1+1+1< ↑4) (Ag ((0:Int)<=0+1+1+1+1/\(0:Int)+1+1+1+1< ↑4)<|none)<|some ((0,d.2.1,d.2.2)))<|some ((0,c.2.1,c.2.2)))<|some ((0,b.2.1,b.2.2)))<|some ((0,a.2.1,a.2.2)))<|some (0,f,g)
theorem d226(fu x0 x1):tf (fu+1) (x0,x1)=D226 fu x0 x1:=by kernel_rfl
def D227(a:Nat)(b:Vl)(c:Vl):Option Int:=Ab (tf a (b,c)) λd=>Ac d.1
theorem d227(fu x0 x1):eI (fu+1) (x0,x1)=D227 fu x0 x1:=by kernel_rfl
def kj(a:Nat):Vl×Vl->Option Int|(b,c)=>Ab (sK a b) λd=>iB (!d) (Ac 0)<|Ab (sK a c) λe=>iB (!e) (Ac 0)<|Ab (eI a (b,c)) Ac
def zk:=bQ [B88,B224] Tryz.func212 [BD,BD] [Ak] kj
def eH(a:Nat):BO×BO->Option Int|(b,c)=>Ab (tW a b) λd=>Ab (tW a c) λe=>Ab (kj a (d,e)) Ac
def B226:=bP [B188,zk] Tryz.func211 ⟨[.Ae Cc, .Ae Cc],[(0, .v 0 Cc),(1, .v 1 Cc),(2, .loc 0 0)],[(0, .Ai 128 [(1, .AK 152 [] [])])],1⟩ ⟨[.Ae Ak],[(0, .v 0 Ak)],[(0, .Ai 128 [(1, .AK 152 [] [])])],1⟩ 1 [] eH
def D230(fu:Nat)(x0 x1:Int)(x2:List BO):=Si (λx y=>eH fu (x,y)) fu x0 x1 x2
abbrev xV fu:=u3 (D230 fu)
def B227:=bP [B226] Tryz.func314 ⟨[.Ae Ak, .Ae Ak, .Ae Ek],[(0, .AH 0),(1, .v 0 Ak),(2, .v 1 Ak),(3, .AK 211 [] [1])],[(0, .row 77 2),(1, .Ai 128 [(1, .AK 152 [] [])])],2⟩ ⟨[.Ae Ek],[],[(0, .row 77 0),(1, .Ai 128 [(1, .AK 152 [] [])])],2⟩ 0 [] xV (la:=lk [(1,⟨[.Ae Ek, .Ae Ak],(kp [0,1,2,3] [(8, .v 1 Ak)]),[(1, .Ai 128 [(1, .AK 152 [] [])]),(0, .row 77 0)],2⟩),(4,⟨[.Ae Ek, .Ae Ak],(kp [0,1,2,3,8] [(9, .v 1 Ak)]),[(1, .Ai 128 [(1, .AK 152 [] [])]),(0, .row 77 0)],2⟩)])
def td(c:Nat):Int×Int×Int×List BO->Option (List BO)|(a,b,d,e)=>Ad c (λ(g:PUnit) h=>Aa .i64 (b-a)<|iF (b-a<=12) (Ab (xV c (a,b,e)) Ac)<|iF (d=0) C7<|none) (())
def B228:=bP [B227] Tryz.func266 ⟨[.Ae Ak, .Ae Ak, .Ae Ak, .Ae Ek],[(0, .AH 0),(1, .v 0 Ak),(2, .v 1 Ak),(3, .v 2 Ak),(4, .AK 211 [] [1])],[(0, .row 77 3),(1, .Ai 128 [(1, .AK 152 [] [])])],2⟩ ⟨[.Ae Ek],[],[(0, .row 77 0),(1, .Ai 128 [(1, .AK 152 [] [])])],2⟩ 0 [] td (la:=lk [(2,⟨[],(kp [0,1,2,3,4,10,11] []),[(1, .c 0),(0, .c 0)],2⟩)])
def eG(b:Nat)(a:List BO):Option (List BO):=Ab (sN b (Int.ofNat (FD a %wL (18446744073709551616:Int)))) λc=>Ab (td b (0,(a.length:Int),c,a)) Ac
def B229:=bP [B62,B228] Tryz.func210 ⟨[.Ae Ek],[(0, .AH 0),(1, .AK 211 [] [1])],[(0, .row 77 0),(1, .Ai 128 [(1, .AK 152 [] [])])],2⟩ ⟨[.Ae Ek],[],[(0, .row 77 0),(1, .Ai 128 [(1, .AK 152 [] [])])],2⟩ 0 [] eG
def tc(c:Nat)(d:List BO):Option (List BO):=Ad c (λ(a:List BO×Nat) e=>iF ((a.2:Int)<d.length) (Ab (idx d a.2) λf=>Ad c (λ(b:Nat) g=>iF ((b:Int)<d.length) (Ab (idx d b) λh=>iF ((a.2:Int)≠b) (Ab (Vc c (f,h)) λi=>iB i (iF ((b:Int)<a.2) (e (a.1,a.2+1))<|Ab (Vc c (h,f)) λj=>iB (!j) (e (a.1,a.2+1))<|g (b+1))<|g (b+1))<|g (b+1))<|Ag (FD a.1+1<=Ah)<|e (((a.1++[f]),a.2+1))) (0))<|Ab (eG c a.1) Ac) (([],0))
def B230:=bP [B187,B229] Tryz.func150 ⟨[.Ae Ek],[(0, .v 0 Ek),(1, .AK 151 [] []),(2, .AK 152 [] [])],[],0⟩ ⟨[.Ae Ek],[(0, .v 0 Ek)],[],0⟩ 1 [] tc (la:=lk [(3,⟨[.Ae Ek, .nat],(kp [0,1,5] [(7, .AH 1),(12, .Am),(13, .Am),(14, .AD 1 301)]),[(0, .c 0),(1, .row 77 0)],2⟩),(6,⟨[.nat],(kp [0,1,5,7,8,9,12,13,14,19,20] [(21, .AD 0 600)]),[(2, .c 0),(1, .c 0),(0, .c 0)],3⟩)]) (pt:=lg [(2,[.own 7 77 Cc]),(13,[.fz 6])])
def ta(b:Nat)(a:BC):Option Vl:=Ac (Vl.mk Aj (Aj,Aj,Aj,([],[]),[]) [] [a])
def B231:=bQ [] Tryz.func155 [BQ] [BD] ta (pt:=lg [(1,[.M3 2 8])])
def eF(a:Nat):BC×BC->Option Int|(b,c)=>Ab (ta a b) λd=>Ab (ta a c) λe=>Ab (kj a (d,e)) Ac
def B232:=bP [B231,zk] Tryz.func216 ⟨[.Ae BQ, .Ae BQ],[(0, .v 0 BQ),(1, .v 1 BQ),(2, .loc 0 0)],[(0, .Ai 131 [(1, .AK 155 [] [])])],1⟩ ⟨[.Ae Ak],[(0, .v 0 Ak)],[(0, .Ai 131 [(1, .AK 155 [] [])])],1⟩ 1 [] eF
def D236(fu:Nat)(x0 x1:Int)(x2:List BC):=Si (λx y=>eF fu (x,y)) fu x0 x1 x2
abbrev xU fu:=u3 (D236 fu)
def B233:=bP [B232] Tryz.func332 ⟨[.Ae Ak, .Ae Ak, .Ae Ej],[(0, .AH 0),(1, .v 0 Ak),(2, .v 1 Ak),(3, .AK 216 [] [1])],[(0, .row 65 2),(1, .Ai 131 [(1, .AK 155 [] [])])],2⟩ ⟨[.Ae Ej],[],[(0, .row 65 0),(1, .Ai 131 [(1, .AK 155 [] [])])],2⟩ 0 [] xU (la:=lk [(1,⟨[.Ae Ej, .Ae Ak],(kp [0,1,2,3] [(8, .v 1 Ak)]),[(1, .Ai 131 [(1, .AK 155 [] [])]),(0, .row 65 0)],2⟩),(4,⟨[.Ae Ej, .Ae Ak],(kp [0,1,2,3,8] [(9, .v 1 Ak)]),[(1, .Ai 131 [(1, .AK 155 [] [])]),(0, .row 65 0)],2⟩)])
def s_(c:Nat):Int×Int×Int×List BC->Option (List BC)|(a,b,d,e)=>Ad c (λ(g:PUnit) h=>Aa .i64 (b-a)<|iF (b-a<=12) (Ab (xU c (a,b,e)) Ac)<|iF (d=0) C7<|none) (())
def B234:=bP [B233] Tryz.func268 ⟨[.Ae Ak, .Ae Ak, .Ae Ak, .Ae Ej],[(0, .AH 0),(1, .v 0 Ak),(2, .v 1 Ak),(3, .v 2 Ak),(4, .AK 216 [] [1])],[(0, .row 65 3),(1, .Ai 131 [(1, .AK 155 [] [])])],2⟩ ⟨[.Ae Ej],[],[(0, .row 65 0),(1, .Ai 131 [(1, .AK 155 [] [])])],2⟩ 0 [] s_ (la:=lk [(2,⟨[],(kp [0,1,2,3,4,10,11] []),[(1, .c 0),(0, .c 0)],2⟩)])
def eE(b:Nat)(a:List BC):Option (List BC):=Ab (sN b (Int.ofNat (FD a %wL (18446744073709551616:Int)))) λc=>Ab (s_ b (0,(a.length:Int),c,a)) Ac
def B235:=bP [B62,B234] Tryz.func215 ⟨[.Ae Ej],[(0, .AH 0),(1, .AK 216 [] [1])],[(0, .row 65 0),(1, .Ai 131 [(1, .AK 155 [] [])])],2⟩ ⟨[.Ae Ej],[],[(0, .row 65 0),(1, .Ai 131 [(1, .AK 155 [] [])])],2⟩ 0 [] eE
def s9(c:Nat)(d:List BC):Option (List BC):=Ad c (λ(a:List BC×Nat) e=>iF ((a.2:Int)<d.length) (Ab (idx d a.2) λf=>Ad c (λ(b:Nat) g=>iF ((b:Int)<d.length) (Ab (idx d b) λh=>iF ((a.2:Int)≠b) (Ab (Vd c (f,h)) λi=>iB i (iF ((b:Int)<a.2) (e (a.1,a.2+1))<|Ab (Vd c (h,f)) λj=>iB (!j) (e (a.1,a.2+1))<|g (b+1))<|g (b+1))<|g (b+1))<|Ag (FD a.1+1<=Ah)<|e (((a.1++[f]),a.2+1))) (0))<|Ab (eE c a.1) Ac) (([],0))
def B236:=bP [B180,B235] Tryz.func153 ⟨[.Ae Ej],[(0, .v 0 Ej),(1, .AK 154 [] []),(2, .AK 155 [] [])],[],0⟩ ⟨[.Ae Ej],[(0, .v 0 Ej)],[],0⟩ 1 [] s9 (la:=lk [(3,⟨[.Ae Ej, .nat],(kp [0,1,5] [(7, .AH 1),(12, .Am),(13, .Am),(14, .AD 1 301)]),[(0, .c 0),(1, .row 65 0)],2⟩),(6,⟨[.nat],(kp [0,1,5,7,8,9,12,13,14,19,20] [(21, .AD 0 600)]),[(2, .c 0),(1, .c 0),(0, .c 0)],3⟩)]) (pt:=lg [(2,[.own 7 65 BQ]),(13,[.fz 6])])
def xT(a:Nat)(_:Unit):Option A5:=Ac ([(Bp,[(0,255,0)])])
def B237:=bQ [] Tryz.func272 [] [y3] xT (pt:=lg [(1,[.M3 0 0])])
def kg(a:Nat)(_:Unit):Option Fz:=Ab (Vf a ()) λb=>Ab (xT a ()) λc=>Ac (Bp,Bp,Bp,b,c)
def B238:=bQ [zr,B237] Tryz.func219 [] [y8] kg
def eD(b:Nat)(a:AF):Option Bool:=iB (Vl.any a.1) (Ac (Vl.any a.2))<|some Aj
def zj:=bQ [] Tryz.func273 [BA] [.bool] eD
def s7(b:Nat)(a:BO):Option Bool:=iF ((a.1.length:Int)=0) (iF ((a.2.length:Int)=1) (Ab (idx a.2 0) λc=>Ab (eD b c) Ac)<|some Aj)<|some Aj
def B240:=bQ [zj] Tryz.func220 [Cc] [.bool] s7
def s6(b:Nat)(a:BC):Option Bool:=iF ((a.1.length:Int)=0) (iF ((a.2.length:Int)=1) (Ab (idx a.2 0) λc=>Ab (eD b c.2) Ac)<|some Aj)<|some Aj
def B241:=bQ [zj] Tryz.func221 [BQ] [.bool] s6
def kf(b:Nat)(a:Vl):Option Bool:=iF (((Vl.lists a).length:Int)=1) (iF (((Vl.structs a).length:Int)=1) (Ab (kg b ()) λc=>Ab (TF b (Vl.sc a,c)) λd=>iF (d=0) (Ab (idx (Vl.lists a) (0:Int)) λe=>Ab (s7 b e) λf=>iB f (Ab (idx (Vl.structs a) (0:Int)) λg=>Ab (s6 b g) Ac)<|some Aj)<|some Aj)<|some Aj)<|some Aj
def B242:=bQ [zl,B238,B240,B241] Tryz.func156 [BD] [.bool] kf
abbrev nQ:Type:=Gn 148 [Cc] [Cc, .bool, .bool]×Gn 149 [BQ] [BQ, .bool, .bool]×Gn 109 [BD] [BD, .bool]×Gn 77 [BA] [BA, .bool]
def dM(n:Nat):nQ:=Nat.rec (motive:=λ_=>nQ) (tQ Tryz.func148,tQ Tryz.func149,tQ Tryz.func109,tQ Tryz.func77) (λfu ⟨g0,g1,g2,g3⟩=>(sQ (Dd g3::bs [eS] fu) fu Tryz.func148 [Cc] [Cc, .bool, .bool] (la:=lk [(4,⟨[.Ae Dn, .Ae .bool, .nat],(kp [1,2,5] [(6, .v 1 .bool),(16, .Am),(17, .Am),(18, .AD 2 402)]),[(2, .Ai 77 [(1, .AH 3),(1, .Am)]),(1, .c 0),(0, .c 0),(3, .row 35 0)],4⟩),(13,⟨[.Ae Dn, .nat],(kp [2,5,6,45,46] [(47, .AD 1 1301)]),[(2, .Ai 77 [(1, .Am),(1, .AH 4)]),(3, .c 0),(1, .c 0),(4, .row 35 0)],5⟩)]) (pt:=lg [(3,[.Ex 5 0 35 BA]),(12,[.Ex 5 1 35 BA]),(21,[.M3 2 0, .M3 2 1])]),sQ (Dd g3::bs [eS,B136,zB,B149] fu) fu Tryz.func149 [BQ] [BQ, .bool, .bool] (la:=lk [(4,⟨[.Ae Mb, .Ae .bool, .nat],(kp [1,2,5] [(6, .v 1 .bool),(17, .Am),(18, .Am),(19, .AD 2 402)]),[(2, .Ai 65 [(1, .AH 3),(1, .Am)]),(1, .c 0),(0, .c 0),(3, .row 69 0)],4⟩),(14,⟨[.Ae Gr, .nat],(kp [2,5,6,49,50] [(51, .AD 1 1401)]),[(2, .Ai 65 [(1, .Am),(1, .AH 4)]),(3, .c 0),(1, .c 0),(4, .row 92 0)],5⟩)]) (pt:=lg [(3,[.Ex 5 0 69 ER]),(13,[.Ex 5 1 92 FT]),(25,[.M3 2 0, .M3 2 1])]),sQ (Dd g0::Dd g1::bs [B108,B230,B236,B242] fu) fu Tryz.func109 [BD] [BD, .bool] (la:=lk [(6,⟨[.Ae Ek, .nat],(kp [1,2,4] [(5, .AH 3),(25, .Am),(26, .Am),(27, .AD 1 601)]),[(2, .c 0),(1, .c 0),(0, .c 0),(3, .row 77 0)],4⟩),(16,⟨[.Ae Ej, .nat],(kp [2,4,5] [(11, .AH 4),(47, .Am),(48, .Am),(49, .AD 1 1601)]),[(3, .c 0),(2, .c 0),(1, .c 0),(4, .row 65 0)],5⟩)]) (pr:=lg [(24,[.fz 5, .fz 11])]) (pt:=lg [(5,[.own 5 77 Cc]),(15,[.own 11 65 BQ])]),sQ (Dd g2::bs [B185] fu) fu Tryz.func77 [BA] [BA, .bool])) n
abbrev kd(fu:Nat)(x:BO):Option (BO×Bool×Bool):=(dM fu).1.1 x
abbrev kc(fu:Nat)(x:BC):Option (BC×Bool×Bool):=(dM fu).2.1.1 x
abbrev YF(fu:Nat)(x:(Vl)):Option (Vl×Bool):=(dM fu).2.2.1.1 x
def B246(fu:Nat):=Dd (dM fu).2.2.2
abbrev LA(fu:Nat)(x:AF):Option (AF×Bool):=(dM fu).2.2.2.1 x
def D246(c:Nat)(d:BO):Option (BO×Bool×Bool):=Ad c (λ(a:List AF×Bool×Nat) g=>iF ((a.2.2:Int)<d.1.length) (Ab (idx d.1 a.2.2) λi=>Ab (LA c i) λe=>iB (!e.2) (Ac ((([],[]),Aj,Aj)))<|iB a.2.1 (Ab (TH c e.1.1) λj=>Ag (FD a.1+1<=4294967296)<|g ((a.1++[e.1]),(!j),a.2.2+1))<|Ag (FD a.1+1<=4294967296)<|g ((a.1++[e.1]),Aj,a.2.2+1))<|Ad c (λ(b:List AF×Nat) h=>iF ((b.2:Int)<d.2.length) (Ab (idx d.2 b.2) λk=>Ab (LA c k) λf=>iB (!f.2) (Ac ((([],[]),Aj,Aj)))<|Ab (TH c f.1.1) λl=>iB (!l) (Ag (FD b.1+1<=4294967296)<|h ((b.1++[f.1]),b.2+1))<|h (b.1,b.2+1))<|some (((a.1,b.1),a.2.1,Bp))) (([],0))) (([],Bp,0))
theorem d246(fu x0):kd (fu+1) x0=D246 fu x0:=by kernel_rfl
def D247(c:Nat)(f:BC):Option (BC×Bool×Bool):=Ad c (λ(a:List (Aq×Int×AF)×Bool×Nat) i=>iF ((a.2.2:Int)<f.1.length) (Ab (idx f.1 a.2.2) λe=>Ab (LA c e.2.2) λg=>iB (!g.2) (Ac ((([],[]),Aj,Aj)))<|iB a.2.1 (Ab (TH c g.1.1) λl=>Ag (FD a.1+1<=4294967296)<|i ((a.1++[(e.1,e.2.1,g.1)]),(!l),a.2.2+1))<|Ag (FD a.1+1<=4294967296)<|i ((a.1++[(e.1,e.2.1,g.1)]),Aj,a.2.2+1))<|Ad c (λ(d:List (A5×AF)×Nat) j=>iF ((d.2:Int)<f.2.length) (Ab (idx f.2 d.2) λh=>Ab (LA c h.2) λk=>iB (!k.2) (Ac ((([],[]),Aj,Aj)))<|Ab (uw c (d.1,k.1)) λb=>iF (b.1<0) (Ab (Vk c (h.1,[])) λm=>Ag (FD b.2.1+1<=4294967296)<|j ((b.2.1++[(m,b.2.2)]),d.2+1))<|Ab (idx b.2.1 b.1) λn=>Ab (Vk c (n.1,h.1)) λo=>Ab (idx b.2.1 b.1) λp=>j ((b.2.1.set (Int.toNat b.1) (o,p.2)),d.2+1))<|Ab (kL c d.1) λq=>Ac (((a.1,q),a.2.1,Bp))) (([],0))) (([],Bp,0))
theorem d247(fu x0):kc (fu+1) x0=D247 fu x0:=by kernel_rfl
def D248(a:Nat)(d:Vl):Option (Vl×Bool):=iB (Vl.any d) (Ac ((d,Bp)))<|Ab (uF a (Vl.sc d)) λg=>Ad a (λ(b:List BO×Nat) h=>iF ((b.2:Int)<(Vl.lists d).length) (Ab (idx (Vl.lists d) (b.2:Int)) λl=>Ab (kd a l) λe=>iB (!e.2.2) (Ac ((Vl.mk Aj (Aj,Aj,Aj,([],[]),[]) [] [],Aj)))<|iB e.2.1 (Ag (FD b.1+1<=Ah)<|h ((b.1++[e.1]),b.2+1))<|h (b.1,b.2+1))<|Ad a (λ(c:List BC×Nat) i=>iF ((c.2:Int)<(Vl.structs d).length) (Ab (idx (Vl.structs d) (c.2:Int)) λm=>Ab (kc a m) λf=>iB (!f.2.2) (Ac ((Vl.mk Aj (Aj,Aj,Aj,([],[]),[]) [] [],Aj)))<|iB f.2.1 (Ag (FD c.1+1<=Ah)<|i ((c.1++[f.1]),c.2+1))<|i (c.1,c.2+1))<|Ab (tc a b.1) λj=>Ab (s9 a c.1) λk=>Ab (kf a (Vl.mk Aj g j k)) λn=>iB n (Ac ((Vl.mk Bp (Aj,Aj,Aj,([],[]),[]) [] [],Bp)))<|some ((Vl.mk Aj g j k,Bp))) (([],0))) (([],0))
theorem d248(fu x0):YF (fu+1) x0=D248 fu x0:=by kernel_rfl
def D249(c:Nat)(d:AF):Option (AF×Bool):=Ab (YF c d.1) λa=>Ab (YF c d.2) λb=>iB a.2 (iB b.2 (Ab (TG c (b.1,a.1)) λe=>Ac (((a.1,b.1),e)))<|some (((a.1,b.1),Aj)))<|some ((a.1,b.1),Aj)
theorem d249(fu x0):LA (fu+1) x0=D249 fu x0:=by kernel_rfl
def eC(a:Nat)(b:AF):Option (AF×Int):=Ab (F92 a b) λd=>iB (!d) (Ac (((Vl.mk Aj (Aj,Aj,Aj,([],[]),[]) [] [],Vl.mk Aj (Aj,Aj,Aj,([],[]),[]) [] []),11)))<|Ab (LA a b) λc=>iB (!c.2) (Ac (((Vl.mk Aj (Aj,Aj,Aj,([],[]),[]) [] [],Vl.mk Aj (Aj,Aj,Aj,([],[]),[]) [] []),11)))<|some (c.1,0)
def zi:=bQ [B89,B246] Tryz.func55 [BA] [BA,Ak] eC
def QX(a:Nat)(b:AF):Option Bool:=Ab (eC a b) λc=>iF (c.2=0) (Ab (eL a (c.1,b)) Ac)<|some Aj
def kU:=bQ [zi,uS] Tryz.func50 [BA] [.bool] QX
def s5(b:Nat)(c:AF):Option Vl:=Ab (eC b c) λa=>iF (a.2≠0) (Ac (Vl.mk Aj (Aj,Aj,Aj,([],[]),[]) [] []))<|Ab (QX b c) λd=>iB (!d) (Ac (Vl.mk Aj (Aj,Aj,Aj,([],[]),[]) [] []))<|Ab (TH b a.1.2) λe=>iB e (Ac a.1.1)<|some a.1.2
def B249:=bQ [eS,kU,zi] Tryz.func82 [BA] [BD] s5
def j_(a:Nat)(b:AF):Option ((Vl×Bool)×Int):=Ab (QX a b) λd=>iB (!d) (Ac (((Vl.mk Aj (Aj,Aj,Aj,([],[]),[]) [] [],Aj),11)))<|Ab (TH a b.1) λe=>iB e (Ac (((Vl.mk Aj (Aj,Aj,Aj,([],[]),[]) [] [],Aj),12)))<|Ab (s5 a b) λc=>Ab (YP a (Vl.sc c)) λf=>Ac ((c,(!f)),0)
def zh:=bQ [eS,uT,kU,B249] Tryz.func61 [BA] [(.st y26),Ak] j_
def s4(b:Nat)(a:Vl×Bool):Option Int:=Aa .i64 (((Vl.lists a.1).length:Int)+((Vl.structs a.1).length:Int))<|iB a.2 (Aa .i64 (((Vl.lists a.1).length:Int)+((Vl.structs a.1).length:Int)+1)<|some (((((Vl.lists a.1).length:Int)+((Vl.structs a.1).length:Int))+1)))<|some (((Vl.lists a.1).length:Int)+((Vl.structs a.1).length:Int))
def B251:=bQ [] Tryz.func83 [(.st y26)] [Ak] s4
def j9(c:Nat):(Vl×Bool)×Int->Option Int|(b,a)=>iB (Vl.any b.1) (Ac 14)<|iF ((0:Int)<a) (Ab (s4 c b) λd=>iF ((1:Int)<d) (Ac 14)<|iF (a=0) (Ac 11)<|some 0)<|iF (a=0) (Ac 11)<|some 0
def zg:=bQ [B251] Tryz.func62 [(.st y26),Ak] [Ak] j9
def j8(b:Nat)(d:AF):Option (BC×Int):=Ab (j_ b d) λa=>iF (a.2=0) (Ab (j9 b (a.1,((Vl.structs a.1.1).length:Int))) λc=>iF (c≠0) (Ac ((([],[]),c)))<|Ab (idx (Vl.structs a.1.1) (0:Int)) λe=>Ac ((e,0)))<|iF (a.2≠0) (Ac ((([],[]),a.2)))<|Ab (idx (Vl.structs a.1.1) (0:Int)) λf=>Ac (f,0)
def zf:=bQ [zh,zg] Tryz.func37 [BA] [BQ,Ak] j8
def eB(c:Nat):AF×Aq->Option (AF×Int)|(e,f)=>Ab (j8 c e) λa=>iF (a.2≠0) (Ac (((Vl.mk Aj (Aj,Aj,Aj,([],[]),[]) [] [],Vl.mk Aj (Aj,Aj,Aj,([],[]),[]) [] []),a.2)))<|Ad c (λ(b:Nat) g=>iF ((b:Int)<a.1.1.length) (Ab (idx a.1.1 b) λd=>iF (d.1=f) (Ac ((d.2.2,0)))<|g (b+1))<|some (((Vl.mk Aj (Aj,Aj,Aj,([],[]),[]) [] [],Vl.mk Aj (Aj,Aj,Aj,([],[]),[]) [] []),13))) (0)
def B254:=bQ [zf] Tryz.func11 [BA, .str] [BA,Ak] eB (la:=lk [(5,⟨[.nat],(kp [1,4,20,21] [(22, .AD 0 500)]),[(1, .c 0)],3⟩)])
def xS(b:Nat)(d:AF):Option (BO×Int):=Ab (j_ b d) λa=>iF (a.2=0) (Ab (j9 b (a.1,((Vl.lists a.1.1).length:Int))) λc=>iF (c≠0) (Ac ((([],[]),c)))<|Ab (idx (Vl.lists a.1.1) (0:Int)) λe=>Ac ((e,0)))<|iF (a.2≠0) (Ac ((([],[]),a.2)))<|Ab (idx (Vl.lists a.1.1) (0:Int)) λf=>Ac (f,0)
def B255:=bQ [zh,zg] Tryz.func45 [BA] [Cc,Ak] xS
def xR(c:Nat):AF×Int->Option (AF×Int)|(d,b)=>Ab (xS c d) λa=>iF (a.2≠0) (Ac (((Vl.mk Aj (Aj,Aj,Aj,([],[]),[]) [] [],Vl.mk Aj (Aj,Aj,Aj,([],[]),[]) [] []),a.2)))<|iF (b<0) (Ac (((Vl.mk Aj (Aj,Aj,Aj,([],[]),[]) [] [],Vl.mk Aj (Aj,Aj,Aj,([],[]),[]) [] []),1)))<|iF (b<(a.1.1.length:Int)) (Ab (idx a.1.1 b) λe=>Ac ((e,0)))<|iF ((0:Int)<a.1.2.length) (Ac (((Vl.mk Aj (Aj,Aj,Aj,([],[]),[]) [] [],Vl.mk Aj (Aj,Aj,Aj,([],[]),[]) [] []),14)))<|some ((Vl.mk Aj (Aj,Aj,Aj,([],[]),[]) [] [],Vl.mk Aj (Aj,Aj,Aj,([],[]),[]) [] []),13)
def B256:=bQ [B255] Tryz.func18 [BA,Ak] [BA,Ak] xR
def xQ(a:Nat):AF×AF->Option Bool|(b,c)=>Ab (NC a (b,c)) λd=>iB d (Ab (F92 a b) Ac)<|some Aj
def B257:=bQ [zw,B89] Tryz.func35 [BA,BA] [.bool] xQ
def xP(a:Nat)(b:Vl):Option Bool:=Ab (QX a (b,Vl.mk Aj (Aj,Aj,Aj,([],[]),[]) [] [])) Ac
def B258:=bQ [kU] Tryz.func42 [BD] [.bool] xP
def xO(c:Nat):Vl×Aq->Option Bool|(a,b)=>iF (b=([110,117,108,108]:Aq)) (Ac ((Vl.sc a).1))<|iF (b=([98,111,111,108]:Aq)) (iB ((Vl.sc a).2.1) (Ac Bp)<|some ((Vl.sc a).2.2.1))<|iF (b=([105,110,116]:Aq)) (Ac (Dl ((0:Int)<(((Vl.sc a).2.2.2.1.1).length:Int))))<|iF (b=([110,117,109,98,101,114]:Aq)) (Ac (Dl ((0:Int)<(((Vl.sc a).2.2.2.1.2).length:Int))))<|iF (b=([115,116,114,105,110,103]:Aq)) (Ac (Dl ((0:Int)<(((Vl.sc a).2.2.2.2).length:Int))))<|iF (b=([108,105,115,116]:Aq)) (Ac (Dl ((0:Int)<(Vl.lists a).length)))<|some (Dl ((0:Int)<(Vl.structs a).length))
def B259:=bQ [] Tryz.func43 [(.st BD), .str] [.bool] xO
def sZ(b:Nat)(c:Vl):Option (List Aq):=Ab (xP b c) λf=>iB (!f) (Ac [])<|Ad b (λ(a:List Aq×Nat) d=>iF ((a.2:Int)< ↑(7)) (Ab (idx [([110,117,108,108]:Aq),([98,111,111,108]:Aq),([105,110,116]:Aq),([110,117,109,98,101,114]:Aq),([115,116,114,105,110,103]:Aq),([108,105,115,116]:Aq),([115,116,114,117,99,116]:Aq)] (a.2:Int)) λe=>iB (Vl.any c) (Ag (FD a.1+1<=Ah)<|d ((a.1++[e]),a.2+1))<|Ab (xO b (c,e)) λg=>iB g (Ag (FD a.1+1<=Ah)<|d ((a.1++[e]),a.2+1))<|d (a.1,a.2+1))<|some a.1) (([],0))
def B260:=bQ [B258,B259] Tryz.func16 [BD] [Ik] sZ (la:=lk [(6,⟨[.Ae Ik, .nat],(kp [1,3] [(4, .AH 2),(13, .Am),(14, .Am),(15, .AD 1 601)]),[(1, .c 0),(0, .c 0),(2, .row 9 0)],3⟩)]) (pt:=lg [(5,[.own 4 9 .str]),(11,[.fz 2])])
def eA(d:Nat):List Aq×List Aq->Option Bool|(b,c)=>iF ((b.length:Int)≠c.length) (Ac Aj)<|Ad d (λ(a:Nat) e=>iF ((a:Int)<b.length) (Ab (idx b a) λf=>Ab (idx c a) λg=>iB (!decide (f=g)) (Ac Aj)<|e (a+1))<|some Bp) (0)
def ze:=bQ [] Tryz.func15 [Ik,Ik] [.bool] eA (la:=lk [(4,⟨[.nat],(kp [0,1] [(5, .AD 0 400)]),[],0⟩)])
def D266(fu:Nat):Option Bool:=Ab (F5 fu (1,1)) λr1=>Ab (F6 fu r1) λr2=>Ab (F33 fu (([97]:Aq),r2)) λr3=>Ab (F6 fu r3) λr4=>Ab (eB fu (r4,([97]:Aq))) λr5=>Ab (eB fu (r4,([98]:Aq))) λr6=>Ab (xR fu (r4,0)) λr7=>Ab (F33 fu (([97]:Aq),r2)) λr8=>Ab (F5 fu (1,1)) λr9=>Ab (F6 fu (Vl.mk (Vl.any r8) (Vl.sc r9) (Vl.lists r8) (Vl.structs r8))) λr10=>Ab (eB fu (r10,([97]:Aq))) λr11=>Ab (F5 fu (1,2)) λr12=>Ab (F6 fu r12) λr13=>Ab (eB fu (r13,([97]:Aq))) λr14=>bif Dl (r5.2=0)then bif Dl (r6.2=13)then bif Dl (r7.2=11)then bif Dl (r11.2=14)then bif Dl (r14.2=11)then Ab (xQ fu (r5.1,r2)) λr15=>bif r15 then Ab (F32 fu ()) λr16=>Ab (sZ fu r16.1) λr17=>bif Dl ((r17.length:Int)=7)then Ab (F5 fu ((-3:Int),3)) λr18=>Ab (sZ fu r18) λr19=>Ab (eA fu (r19,[([105,110,116]:Aq)])) λr20=>Ac r20 else Ac Aj else Ac Aj else Ac Aj else Ac Aj else Ac Aj else Ac Aj else Ac Aj
abbrev ew(fu:Nat)(_:Unit):=D266 fu
def B262:=bQ [B254,ze,B260,B256,B6,B5,B33,B257,B32] Tryz.func10 [] [.bool] ew
end
end Go.GV
